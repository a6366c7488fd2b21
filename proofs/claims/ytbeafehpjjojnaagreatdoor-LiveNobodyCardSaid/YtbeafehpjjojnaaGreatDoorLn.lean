/-
  Contracts of a disk without files, of what is live there, and of no disk.
-/
import Derived.Test.YtbeafehpjjojnaaGreatDoorRows
import Derived.Test.YtbeafehpjjojnaaGreatDoorVq
import Derived.Test.YtbeafehpjjojnaaGreatDoorGu
import Derived.Test.YtbeafehpjjojnaaGreatDoorEo
namespace Go.Proofs.YtbeafehpjjojnaaGreatDoor
open Go.RowKit Gw Pl
set_option linter.unusedVariables false
set_option linter.unusedSimpArgs false
theorem cb118 : callB Tryz.prog 118 = true := by kernel_rfl
theorem cb135 : callB Tryz.prog 135 = true := by kernel_rfl
theorem cb59 : callB Tryz.prog 59 = true := by kernel_rfl
theorem cb60 : callB Tryz.prog 60 = true := by kernel_rfl
theorem cb62 : callB Tryz.prog 62 = true := by kernel_rfl
theorem cb64 : callB Tryz.prog 64 = true := by kernel_rfl
theorem cb65 : callB Tryz.prog 65 = true := by kernel_rfl
theorem cb66 : callB Tryz.prog 66 = true := by kernel_rfl
theorem cb67 : callB Tryz.prog 67 = true := by kernel_rfl
theorem cb68 : callB Tryz.prog 68 = true := by kernel_rfl
theorem fld99_0 : fldB Tryz.prog 99 0 0 = true := by kernel_rfl
theorem fld99_1 : fldB Tryz.prog 99 1 1 = true := by kernel_rfl
theorem fld99_3 : fldB Tryz.prog 99 3 3 = true := by kernel_rfl
theorem fld99_4 : fldB Tryz.prog 99 4 4 = true := by kernel_rfl
theorem fld99_5 : fldB Tryz.prog 99 5 5 = true := by kernel_rfl
theorem mix : Tryz.prog.follows .mixedOrders = true := by kernel_rfl
theorem scl26 : sclB Tryz.prog 26 = true := by kernel_rfl
theorem scl3 : sclB Tryz.prog 3 = true := by kernel_rfl
theorem scl4 : sclB Tryz.prog 4 = true := by kernel_rfl
theorem scl9 : sclB Tryz.prog 9 = true := by kernel_rfl
theorem scl97 : sclB Tryz.prog 97 = true := by kernel_rfl
theorem slc75 : slcB Tryz.prog 75 3 1 8 = true := by kernel_rfl
theorem slc84 : slcB Tryz.prog 84 9 1 16 = true := by kernel_rfl
theorem sz3 : szB Tryz.prog 3 1 = true := by kernel_rfl
theorem sz4 : szB Tryz.prog 4 1 = true := by kernel_rfl
theorem zer101 : (Tryz.prog.info? 101).bind (·.zero) = some (.pointer none) := by kernel_rfl
theorem Ev.closedU {P : Program} {mu : Nat → Bool} {fuel d f : Nat} {xs : List Value} {w : World} (hm : P.follows .mixedOrders = true)
    (h : (match Ev.evF P (Ev.drwA P []) [] mu Ev.noov fuel d f (xs.map Ev.vK) Ev.st0 with | some (.t [], _) => true | _ => false) = true) : Runs P f xs.toArray w (fun u w' => w.grownBy w' none ∧ u = .tuple #[]) := by
  split at h
  · rename_i st1 he
    have hA : Ev.A2 (Ev.R2 (fun _ => none)) (xs.map Ev.vK) xs := by
      clear he h
      induction xs with
      | nil => trivial
      | cons x r ih => exact ⟨rfl, ih⟩
    refine (Ev.evF_ok Ev.noov_ok (Ev.drwA_ok hm) d (Ev.Wd.old w) f _ Ev.st0 _ st1 he (fun _ => none) w xs (fun _ _ e => by cases e) (Ev.MR.start w) hA).mono fun u' w' hr => ?_
    obtain ⟨ρ', _, hM, hx⟩ := hr
    refine ⟨Ev.Wd.old_gb hM.gb, ?_⟩
    obtain ⟨ys, hy, rfl⟩ := hx
    cases ys with
    | nil => rfl
    | cons a r => exact hy.elim
  · cases h

theorem may_nn {w : World} {g gm : Nat} {m : Int} (hb : Blk w g 99 [.map (some gm), .int .i64 m, .int .i64 0, .bool false, .bool false, .int .i64 0]) (hm : MapF w gm .string strK ptrV ([] : List (ByteArray × Nat))) :
    Runs Tryz.prog 65 #[.pointer (some ⟨g, 0, none⟩)] w (fun v w' => w.grownBy w' none ∧ v = .int .i64 0) := by
  have hB := gb_refl w none
  refine enter Tryz.func65 Tryz.ntmps65 rfl rfl ?_
  refine C_seq (C_reg rfl ?_)
  refine L_run (R_assign rfl) rfl ?_
  refine L_nil (N_then (C_seq (C_block (C_seq (C_reg rfl ?_)))))
  refine L_run (R_move rfl) rfl ?_
  refine L_run (R_eqlpPN rfl rfl Tryz.underlying26) rfl ?_
  refine L_run (R_move rfl) rfl ?_
  refine L_yes rfl rfl rfl rfl ?_
  refine L_run (R_move rfl) rfl ?_
  refine L_yes rfl rfl rfl rfl ?_
  refine L_run (R_nilck rfl) rfl ?_
  refine L_yes rfl rfl rfl rfl ?_
  refine L_run (R_field (r := 0) rfl fld99_0 rfl) rfl ?_
  refine L_yes rfl rfl rfl rfl ?_
  refine L_run (R_load1 rfl scl97 (hb.cell (i := 0) rfl)) rfl ?_
  refine L_yes rfl rfl rfl rfl ?_
  refine L_run (R_eqlmP rfl rfl Tryz.underlying97) rfl ?_
  refine L_run (R_pickF rfl rfl rfl) rfl ?_
  refine L_run (R_assign rfl) rfl ?_
  refine L_nil (N_then (C_condF rfl rfl (C_seq (C_reg rfl ?_))))
  refine L_run (R_move rfl) rfl ?_
  refine L_run (R_nilck rfl) rfl ?_
  refine L_run (R_field (r := 3) rfl fld99_3 rfl) rfl ?_
  refine L_run (R_load1 rfl scl4 (hb.cell (i := 3) rfl)) rfl ?_
  refine L_run (R_assign rfl) rfl ?_
  refine L_nil (N_then (C_condF rfl rfl (C_skip (N_in (N_then (C_seq (C_reg rfl ?_)))))))
  refine L_run (R_assign rfl) rfl ?_
  refine L_nil (N_then (C_ret ?_))
  refine ret1 Tryz.results65 rfl ?_
  first
    | (exfalso; omega)
    | (exact ⟨hB, rfl⟩)

theorem down_nn {w : World} {g gm : Nat} {m : Int} (hb : Blk w g 99 [.map (some gm), .int .i64 m, .int .i64 0, .bool false, .bool false, .int .i64 0]) (hm : MapF w gm .string strK ptrV ([] : List (ByteArray × Nat))) :
    Runs Tryz.prog 59 #[.pointer (some ⟨g, 0, none⟩)] w (fun v w' => w.grownBy w' none ∧ v = .bool false) := by
  have hB := gb_refl w none
  refine enter Tryz.func59 Tryz.ntmps59 rfl rfl ?_
  refine C_seq (C_reg rfl ?_)
  refine L_run (R_assign rfl) rfl ?_
  refine L_nil (N_then (C_seq (C_reg rfl ?_)))
  refine L_run (R_move rfl) rfl ?_
  refine L_run (R_neqpPN rfl rfl Tryz.underlying26) rfl ?_
  refine L_run (R_move rfl) rfl ?_
  refine L_yes rfl rfl rfl rfl ?_
  refine L_run (R_move rfl) rfl ?_
  refine L_yes rfl rfl rfl rfl ?_
  refine L_run (R_nilck rfl) rfl ?_
  refine L_yes rfl rfl rfl rfl ?_
  refine L_run (R_field (r := 3) rfl fld99_3 rfl) rfl ?_
  refine L_yes rfl rfl rfl rfl ?_
  refine L_run (R_load1 rfl scl4 (hb.cell (i := 3) rfl)) rfl ?_
  refine L_run (R_pickT rfl rfl rfl) rfl ?_
  refine L_run (R_assign rfl) rfl ?_
  refine L_nil (N_then (C_ret ?_))
  refine ret1 Tryz.results59 rfl ?_
  first
    | (exfalso; omega)
    | (exact ⟨hB, rfl⟩)

theorem may_ny {w : World} {g gm : Nat} {m : Int} (hb : Blk w g 99 [.map (some gm), .int .i64 m, .int .i64 0, .bool false, .bool true, .int .i64 0]) (hm : MapF w gm .string strK ptrV ([] : List (ByteArray × Nat))) :
    Runs Tryz.prog 65 #[.pointer (some ⟨g, 0, none⟩)] w (fun v w' => w.grownBy w' none ∧ v = .int .i64 0) := by
  have hB := gb_refl w none
  refine enter Tryz.func65 Tryz.ntmps65 rfl rfl ?_
  refine C_seq (C_reg rfl ?_)
  refine L_run (R_assign rfl) rfl ?_
  refine L_nil (N_then (C_seq (C_block (C_seq (C_reg rfl ?_)))))
  refine L_run (R_move rfl) rfl ?_
  refine L_run (R_eqlpPN rfl rfl Tryz.underlying26) rfl ?_
  refine L_run (R_move rfl) rfl ?_
  refine L_yes rfl rfl rfl rfl ?_
  refine L_run (R_move rfl) rfl ?_
  refine L_yes rfl rfl rfl rfl ?_
  refine L_run (R_nilck rfl) rfl ?_
  refine L_yes rfl rfl rfl rfl ?_
  refine L_run (R_field (r := 0) rfl fld99_0 rfl) rfl ?_
  refine L_yes rfl rfl rfl rfl ?_
  refine L_run (R_load1 rfl scl97 (hb.cell (i := 0) rfl)) rfl ?_
  refine L_yes rfl rfl rfl rfl ?_
  refine L_run (R_eqlmP rfl rfl Tryz.underlying97) rfl ?_
  refine L_run (R_pickF rfl rfl rfl) rfl ?_
  refine L_run (R_assign rfl) rfl ?_
  refine L_nil (N_then (C_condF rfl rfl (C_seq (C_reg rfl ?_))))
  refine L_run (R_move rfl) rfl ?_
  refine L_run (R_nilck rfl) rfl ?_
  refine L_run (R_field (r := 3) rfl fld99_3 rfl) rfl ?_
  refine L_run (R_load1 rfl scl4 (hb.cell (i := 3) rfl)) rfl ?_
  refine L_run (R_assign rfl) rfl ?_
  refine L_nil (N_then (C_condF rfl rfl (C_skip (N_in (N_then (C_seq (C_reg rfl ?_)))))))
  refine L_run (R_assign rfl) rfl ?_
  refine L_nil (N_then (C_ret ?_))
  refine ret1 Tryz.results65 rfl ?_
  first
    | (exfalso; omega)
    | (exact ⟨hB, rfl⟩)

theorem down_ny {w : World} {g gm : Nat} {m : Int} (hb : Blk w g 99 [.map (some gm), .int .i64 m, .int .i64 0, .bool false, .bool true, .int .i64 0]) (hm : MapF w gm .string strK ptrV ([] : List (ByteArray × Nat))) :
    Runs Tryz.prog 59 #[.pointer (some ⟨g, 0, none⟩)] w (fun v w' => w.grownBy w' none ∧ v = .bool false) := by
  have hB := gb_refl w none
  refine enter Tryz.func59 Tryz.ntmps59 rfl rfl ?_
  refine C_seq (C_reg rfl ?_)
  refine L_run (R_assign rfl) rfl ?_
  refine L_nil (N_then (C_seq (C_reg rfl ?_)))
  refine L_run (R_move rfl) rfl ?_
  refine L_run (R_neqpPN rfl rfl Tryz.underlying26) rfl ?_
  refine L_run (R_move rfl) rfl ?_
  refine L_yes rfl rfl rfl rfl ?_
  refine L_run (R_move rfl) rfl ?_
  refine L_yes rfl rfl rfl rfl ?_
  refine L_run (R_nilck rfl) rfl ?_
  refine L_yes rfl rfl rfl rfl ?_
  refine L_run (R_field (r := 3) rfl fld99_3 rfl) rfl ?_
  refine L_yes rfl rfl rfl rfl ?_
  refine L_run (R_load1 rfl scl4 (hb.cell (i := 3) rfl)) rfl ?_
  refine L_run (R_pickT rfl rfl rfl) rfl ?_
  refine L_run (R_assign rfl) rfl ?_
  refine L_nil (N_then (C_ret ?_))
  refine ret1 Tryz.results59 rfl ?_
  first
    | (exfalso; omega)
    | (exact ⟨hB, rfl⟩)

theorem may_yn {w : World} {g gm : Nat} {m : Int} (hb : Blk w g 99 [.map (some gm), .int .i64 m, .int .i64 0, .bool true, .bool false, .int .i64 0]) (hm : MapF w gm .string strK ptrV ([] : List (ByteArray × Nat))) :
    Runs Tryz.prog 65 #[.pointer (some ⟨g, 0, none⟩)] w (fun v w' => w.grownBy w' none ∧ v = .int .i64 9) := by
  have hB := gb_refl w none
  refine enter Tryz.func65 Tryz.ntmps65 rfl rfl ?_
  refine C_seq (C_reg rfl ?_)
  refine L_run (R_assign rfl) rfl ?_
  refine L_nil (N_then (C_seq (C_block (C_seq (C_reg rfl ?_)))))
  refine L_run (R_move rfl) rfl ?_
  refine L_run (R_eqlpPN rfl rfl Tryz.underlying26) rfl ?_
  refine L_run (R_move rfl) rfl ?_
  refine L_yes rfl rfl rfl rfl ?_
  refine L_run (R_move rfl) rfl ?_
  refine L_yes rfl rfl rfl rfl ?_
  refine L_run (R_nilck rfl) rfl ?_
  refine L_yes rfl rfl rfl rfl ?_
  refine L_run (R_field (r := 0) rfl fld99_0 rfl) rfl ?_
  refine L_yes rfl rfl rfl rfl ?_
  refine L_run (R_load1 rfl scl97 (hb.cell (i := 0) rfl)) rfl ?_
  refine L_yes rfl rfl rfl rfl ?_
  refine L_run (R_eqlmP rfl rfl Tryz.underlying97) rfl ?_
  refine L_run (R_pickF rfl rfl rfl) rfl ?_
  refine L_run (R_assign rfl) rfl ?_
  refine L_nil (N_then (C_condF rfl rfl (C_seq (C_reg rfl ?_))))
  refine L_run (R_move rfl) rfl ?_
  refine L_run (R_nilck rfl) rfl ?_
  refine L_run (R_field (r := 3) rfl fld99_3 rfl) rfl ?_
  refine L_run (R_load1 rfl scl4 (hb.cell (i := 3) rfl)) rfl ?_
  refine L_run (R_assign rfl) rfl ?_
  refine L_nil (N_then (C_condT rfl rfl (C_seq (C_reg rfl ?_))))
  refine L_run (R_assign rfl) rfl ?_
  refine L_nil (N_then (C_ret (R_in (R_then ?_))))
  refine ret1 Tryz.results65 rfl ?_
  first
    | (exfalso; omega)
    | (exact ⟨hB, rfl⟩)

theorem down_yn {w : World} {g gm : Nat} {m : Int} (hb : Blk w g 99 [.map (some gm), .int .i64 m, .int .i64 0, .bool true, .bool false, .int .i64 0]) (hm : MapF w gm .string strK ptrV ([] : List (ByteArray × Nat))) :
    Runs Tryz.prog 59 #[.pointer (some ⟨g, 0, none⟩)] w (fun v w' => w.grownBy w' none ∧ v = .bool true) := by
  have hB := gb_refl w none
  refine enter Tryz.func59 Tryz.ntmps59 rfl rfl ?_
  refine C_seq (C_reg rfl ?_)
  refine L_run (R_assign rfl) rfl ?_
  refine L_nil (N_then (C_seq (C_reg rfl ?_)))
  refine L_run (R_move rfl) rfl ?_
  refine L_run (R_neqpPN rfl rfl Tryz.underlying26) rfl ?_
  refine L_run (R_move rfl) rfl ?_
  refine L_yes rfl rfl rfl rfl ?_
  refine L_run (R_move rfl) rfl ?_
  refine L_yes rfl rfl rfl rfl ?_
  refine L_run (R_nilck rfl) rfl ?_
  refine L_yes rfl rfl rfl rfl ?_
  refine L_run (R_field (r := 3) rfl fld99_3 rfl) rfl ?_
  refine L_yes rfl rfl rfl rfl ?_
  refine L_run (R_load1 rfl scl4 (hb.cell (i := 3) rfl)) rfl ?_
  refine L_run (R_pickT rfl rfl rfl) rfl ?_
  refine L_run (R_assign rfl) rfl ?_
  refine L_nil (N_then (C_ret ?_))
  refine ret1 Tryz.results59 rfl ?_
  first
    | (exfalso; omega)
    | (exact ⟨hB, rfl⟩)

set_option maxRecDepth 100000 in
theorem sort_nil62 {w : World} : Runs Tryz.prog 62 #[.slice none 0 0] w (fun v w' => w.grownBy w' none ∧ v = .tuple #[]) :=
  Ev.closedU (mu := Ev.nomu) (fuel := 100000) (d := 60) (xs := [.slice none 0 0]) (by kernel_rfl) (by kernel_rfl)

set_option maxRecDepth 100000 in
theorem sort_nil118 {w : World} : Runs Tryz.prog 118 #[.slice none 0 0] w (fun v w' => w.grownBy w' none ∧ v = .tuple #[]) :=
  Ev.closedU (mu := Ev.nomu) (fuel := 100000) (d := 60) (xs := [.slice none 0 0]) (by kernel_rfl) (by kernel_rfl)

set_option maxRecDepth 100000 in
theorem check_nil {w : World} : Runs Tryz.prog 64 #[.slice none 0 0] w (fun v w' => w.grownBy w' none ∧ v = .int .i64 0) :=
  Ev.closedD (mu := Ev.nomu) (fuel := 100000) (d := 60) (xs := [.slice none 0 0]) (by kernel_rfl) (by kernel_rfl)

set_option maxRecDepth 100000 in
theorem right_a {w : World} : Runs Tryz.prog 66 #[.string ⟨#[97]⟩] w (fun v w' => w.grownBy w' none ∧ v = .bool true) :=
  Ev.closedD (mu := Ev.nomu) (fuel := 100000) (d := 60) (xs := [.string ⟨#[97]⟩]) (by kernel_rfl) (by kernel_rfl)

theorem list_ny {w : World} {g gm : Nat} {m : Int} (hb : Blk w g 99 [.map (some gm), .int .i64 m, .int .i64 0, .bool false, .bool true, .int .i64 0]) (hm : MapF w gm .string strK ptrV ([] : List (ByteArray × Nat))) :
    Runs Tryz.prog 60 #[.pointer (some ⟨g, 0, none⟩)] w (fun v w' => w.grownBy w' none ∧ v = .slice none 0 0) := by
  have hB := gb_refl w none
  refine enter Tryz.func60 Tryz.ntmps60 rfl rfl ?_
  refine C_seq (C_reg rfl ?_)
  refine L_run (R_assign rfl) rfl ?_
  refine L_nil (N_then (C_seq (C_seq (C_reg rfl ?_))))
  refine L_run (R_move rfl) rfl ?_
  refine L_run (R_eqlpPN rfl rfl Tryz.underlying26) rfl ?_
  refine L_nil (N_then (C_condF rfl rfl (C_skip (N_then (C_seq (C_reg rfl ?_))))))
  refine L_run (R_assign rfl) rfl ?_
  refine L_nil (N_then (C_seq (C_seq (C_reg rfl ?_))))
  refine L_run (R_move rfl) rfl ?_
  refine L_run (R_nilck rfl) rfl ?_
  refine L_run (R_field (r := 0) rfl fld99_0 rfl) rfl ?_
  refine L_run (R_load1 rfl scl97 (hb.cell (i := 0) rfl)) rfl ?_
  refine L_range rfl Tryz.underlying97 hm rfl ?_
  intro g1 w1 eg1 hi1 hs1 hz1
  have ge1 : w.heap.size ≤ g1 := eg_ge hB eg1
  replace hB := gb_tr hB hs1
  replace hb := hb.gb hs1
  refine L_nil (N_then (C_block ?_))
  refine C_loop (fun m_ a_ w_ => ∃ (σ_ : Nat → Value) (u_ : Nat), a_ = Ac 23 σ_ [] [(0, .pointer (some ⟨g, 0, none⟩)), (3, .slice none 0 0), (11, .pointer (some ⟨g1, 0, none⟩))] ∧ w.grownBy w_ none ∧ Blk w_ g 99 [.map (some gm), .int .i64 m, .int .i64 0, .bool false, .bool true, .int .i64 0] ∧ IterF w_ g1 gm .string strK ptrV ([] : List (ByteArray × Nat)) ([] : List (ByteArray × Nat)) ∧ u_ = m_) (0) ?_ ?_
  · exact ⟨_, 0, Ac_frg ⟨rfl, rfl, rfl, trivial⟩, hB, hb, hi1, rfl⟩
  · clear hB
    clear hb hi1
    rintro m_ a_ w2 ⟨σ_, u_, rfl, hB, hb, hit, rfl⟩
    refine C_seq (C_reg rfl ?_)
    refine L_next rfl hit rfl ?_ ?_
    · intro hpm1
      refine L_run (R_extract rfl rfl) rfl ?_
      refine L_nil (N_then (C_seq (C_condF rfl rfl (C_exit (X_then (X_then (X_hit (N_then (C_seq (C_reg rfl ?_))))))))))
      refine L_run (R_move rfl) rfl ?_
      refine L_call rfl cb118 (sort_nil118) rfl ?_
      rintro _ w4 ⟨hs3, rfl⟩
      replace hB := gb_tr hB hs3
      replace hb := hb.gb hs3
      replace hit := hit.gb hs3
      refine L_nil (N_then (C_seq (C_reg rfl ?_)))
      refine L_run (R_move rfl) rfl ?_
      refine L_run (R_assign rfl) rfl ?_
      refine L_nil (N_then (C_ret ?_))
      refine ret1 Tryz.results60 rfl ?_
      first
        | (exfalso; omega)
        | (exact ⟨hB, rfl⟩)
    · intro pe1 w3 hpe1 hplt1 hi2 hs2 hz2
      exact absurd hpe1 (by simp)

theorem used_ny {w : World} {g gm : Nat} {m : Int} (hb : Blk w g 99 [.map (some gm), .int .i64 m, .int .i64 0, .bool false, .bool true, .int .i64 0]) (hm : MapF w gm .string strK ptrV ([] : List (ByteArray × Nat))) :
    Runs Tryz.prog 67 #[.pointer (some ⟨g, 0, none⟩)] w (fun v w' => w.grownBy w' none ∧ v = .int .i64 0) := by
  have hB := gb_refl w none
  refine enter Tryz.func67 Tryz.ntmps67 rfl rfl ?_
  refine C_seq (C_reg rfl ?_)
  refine L_run (R_assign rfl) rfl ?_
  refine L_nil (N_then (C_seq (C_reg rfl ?_)))
  refine L_run (R_assign rfl) rfl ?_
  refine L_nil (N_then (C_seq (C_seq (C_reg rfl ?_))))
  refine L_run (R_move rfl) rfl ?_
  refine L_call rfl cb60 (list_ny hb hm) rfl ?_
  rintro _ w1 ⟨hs1, rfl⟩
  replace hB := gb_tr hB hs1
  replace hb := hb.gb hs1
  replace hm := hm.gb hs1
  refine L_run (R_eqv (R_lenSl rfl slc84) (v' := .int .i64 0) rfl) rfl ?_
  refine L_run (R_move rfl) rfl ?_
  refine L_nil (N_then (C_block ?_))
  refine C_loop (fun m_ a_ w_ => ∃ (σ_ : Nat → Value) (u_ : Nat), a_ = Ac 20 σ_ [] [(0, .pointer (some ⟨g, 0, none⟩)), (3, .int .i64 0), (7, .slice none 0 0), (8, .int .i64 0), (9, .int .i64 0)] ∧ w.grownBy w_ none ∧ Blk w_ g 99 [.map (some gm), .int .i64 m, .int .i64 0, .bool false, .bool true, .int .i64 0] ∧ MapF w_ gm .string strK ptrV ([] : List (ByteArray × Nat)) ∧ u_ = m_) (0) ?_ ?_
  · exact ⟨_, 0, Ac_frg ⟨rfl, rfl, rfl, rfl, rfl, trivial⟩, hB, hb, hm, rfl⟩
  · clear hB
    clear hb hm
    rintro m_ a_ w2 ⟨σ_, u_, rfl, hB, hb, hm, rfl⟩
    refine C_seq (C_reg rfl ?_)
    refine L_run (R_eqv (R_lss rfl rfl) (v' := .bool false) rfl) rfl ?_
    refine L_nil (N_then (C_seq (C_condF rfl rfl (C_exit (X_then (X_then (X_hit (N_then (C_seq (C_reg rfl ?_))))))))))
    refine L_run (R_move rfl) rfl ?_
    refine L_run (R_assign rfl) rfl ?_
    refine L_nil (N_then (C_ret ?_))
    refine ret1 Tryz.results67 rfl ?_
    first
      | (exfalso; omega)
      | (exact ⟨hB, rfl⟩)

theorem fail_ok {w : World} {g gm : Nat} {m : Int} (hb : Blk w g 99 [.map (some gm), .int .i64 m, .int .i64 0, .bool false, .bool false, .int .i64 0]) (hm : MapF w gm .string strK ptrV ([] : List (ByteArray × Nat))) :
    Runs Tryz.prog 11 #[.pointer (some ⟨g, 0, none⟩), .int .i64 0] w (fun v w' => w.grownBy w' (some g) ∧ v = .int .i64 0 ∧ Blk w' g 99 [.map (some gm), .int .i64 m, .int .i64 0, .bool false, .bool true, .int .i64 0]) := by
  have hB := gb_refl w (some g)
  refine enter Tryz.func11 Tryz.ntmps11 rfl rfl ?_
  refine C_seq (C_reg rfl ?_)
  refine L_run (R_assign rfl) rfl ?_
  refine L_nil (N_then (C_seq (C_seq (C_reg rfl ?_))))
  refine L_run (R_move rfl) rfl ?_
  refine L_call rfl cb65 (may_nn hb hm) rfl ?_
  rintro _ w1 ⟨hs1, rfl⟩
  replace hB := gb_tr hB hs1
  replace hb := hb.gb hs1
  replace hm := hm.gb hs1
  refine L_run (R_assign rfl) rfl ?_
  refine L_nil (N_then (C_seq (C_reg rfl ?_)))
  refine L_run (R_move rfl) rfl ?_
  refine L_run (R_eqv (R_neq rfl rfl) (v' := .bool false) rfl) rfl ?_
  refine L_nil (N_then (C_condF rfl rfl (C_skip (N_then (C_seq (C_seq (C_reg rfl ?_)))))))
  refine L_run (R_move rfl) rfl ?_
  refine L_run (R_eqv (R_lss rfl rfl) (v' := .bool false) rfl) rfl ?_
  refine L_nil (N_then (C_condF rfl rfl (C_skip (N_then (C_seq (C_reg rfl ?_))))))
  refine L_run (R_move rfl) rfl ?_
  refine L_run (R_move rfl) rfl ?_
  refine L_run (R_move rfl) rfl ?_
  refine L_run (R_nilck rfl) rfl ?_
  refine L_run (R_field (r := 4) rfl fld99_4 rfl) rfl ?_
  refine L_st1 rfl rfl rfl sz4 hb rfl ?_
  intro w2 hb1 hs2 hz1
  replace hB := gb_trans hB hs2
  replace hm := hm.blk hb hs2
  refine L_run (R_nilck rfl) rfl ?_
  refine L_run (R_field (r := 5) rfl fld99_5 rfl) rfl ?_
  refine L_st1 rfl rfl rfl sz3 hb1 rfl ?_
  intro w3 hb2 hs3 hz2
  replace hB := gb_trans hB hs3
  replace hm := hm.blk hb1 hs3
  refine L_nil (N_then (C_seq (C_reg rfl ?_)))
  refine L_run (R_assign rfl) rfl ?_
  refine L_nil (N_then (C_ret ?_))
  refine ret1 Tryz.results11 rfl ?_
  first
    | (exfalso; omega)
    | (exact ⟨hB, rfl, hb2⟩)

theorem op_down {w : World} {g gm : Nat} {m : Int} (hb : Blk w g 99 [.map (some gm), .int .i64 m, .int .i64 0, .bool false, .bool true, .int .i64 0]) (hm : MapF w gm .string strK ptrV ([] : List (ByteArray × Nat))) :
    Runs Tryz.prog 135 #[.pointer (some ⟨g, 0, none⟩)] w (fun v w' => w.grownBy w' (some g) ∧ v = .int .i64 9 ∧ Blk w' g 99 [.map (some gm), .int .i64 m, .int .i64 0, .bool true, .bool false, .int .i64 0]) := by
  have hB := gb_refl w (some g)
  refine enter Tryz.func135 Tryz.ntmps135 rfl rfl ?_
  refine C_seq (C_reg rfl ?_)
  refine L_run (R_assign rfl) rfl ?_
  refine L_nil (N_then (C_seq (C_seq (C_reg rfl ?_))))
  refine L_run (R_move rfl) rfl ?_
  refine L_run (R_nilck rfl) rfl ?_
  refine L_run (R_field (r := 4) rfl fld99_4 rfl) rfl ?_
  refine L_run (R_load1 rfl scl4 (hb.cell (i := 4) rfl)) rfl ?_
  refine L_run (R_move rfl) rfl ?_
  refine L_yes rfl rfl rfl rfl ?_
  refine L_run (R_move rfl) rfl ?_
  refine L_yes rfl rfl rfl rfl ?_
  refine L_run (R_nilck rfl) rfl ?_
  refine L_yes rfl rfl rfl rfl ?_
  refine L_run (R_field (r := 5) rfl fld99_5 rfl) rfl ?_
  refine L_yes rfl rfl rfl rfl ?_
  refine L_run (R_load1 rfl scl3 (hb.cell (i := 5) rfl)) rfl ?_
  refine L_yes rfl rfl rfl rfl ?_
  refine L_run (R_eqv (R_eql rfl rfl) (v' := .bool true) rfl) rfl ?_
  refine L_run (R_pickT rfl rfl rfl) rfl ?_
  refine L_nil (N_then (C_condT rfl rfl (C_seq (C_reg rfl ?_))))
  refine L_run (R_move rfl) rfl ?_
  refine L_run (R_move rfl) rfl ?_
  refine L_run (R_nilck rfl) rfl ?_
  refine L_run (R_field (r := 4) rfl fld99_4 rfl) rfl ?_
  refine L_st1 rfl rfl rfl sz4 hb rfl ?_
  intro w1 hb1 hs1 hz1
  replace hB := gb_trans hB hs1
  replace hm := hm.blk hb hs1
  refine L_run (R_nilck rfl) rfl ?_
  refine L_run (R_field (r := 3) rfl fld99_3 rfl) rfl ?_
  refine L_st1 rfl rfl rfl sz4 hb1 rfl ?_
  intro w2 hb2 hs2 hz2
  replace hB := gb_trans hB hs2
  replace hm := hm.blk hb1 hs2
  refine L_nil (N_then (C_seq (C_reg rfl ?_)))
  refine L_run (R_assign rfl) rfl ?_
  refine L_nil (N_then (C_ret (R_then ?_)))
  refine ret1 Tryz.results135 rfl ?_
  first
    | (exfalso; omega)
    | (exact ⟨hB, rfl, hb2⟩)

theorem then_down {w : World} {g gm : Nat} {f_ q1 q2 q3 : Nat} {m : Int} (hb : Blk w g 99 [.map (some gm), .int .i64 m, .int .i64 0, .bool false, .bool true, .int .i64 0]) (hm : MapF w gm .string strK ptrV ([] : List (ByteArray × Nat))) :
    Runs Tryz.prog 68 #[.pointer (some ⟨g, 0, none⟩), .func (.func f_) #[] #[.pointer (some ⟨q1, 0, none⟩), .pointer (some ⟨q2, 0, none⟩), .pointer (some ⟨q3, 0, none⟩)]] w (fun v w' => w.grownBy w' (some g) ∧ v = .int .i64 9 ∧ Blk w' g 99 [.map (some gm), .int .i64 m, .int .i64 0, .bool true, .bool false, .int .i64 0]) := by
  have hB := gb_refl w (some g)
  refine enter Tryz.func68 Tryz.ntmps68 rfl rfl ?_
  refine C_seq (C_reg rfl ?_)
  refine L_run (R_assign rfl) rfl ?_
  refine L_nil (N_then (C_seq (C_reg rfl ?_)))
  refine L_run (R_move rfl) rfl ?_
  refine L_run (R_makeFunc rfl rfl) rfl ?_
  refine L_run (R_assign rfl) rfl ?_
  refine L_nil (N_then (C_seq (C_seq (C_reg rfl ?_))))
  refine L_run (R_move rfl) rfl ?_
  refine L_callV (first := [.pointer (some ⟨g, 0, none⟩)]) (cap := []) rfl rfl cb135 (op_down hb hm) rfl ?_
  rintro _ w1 ⟨hs1, rfl, hb1⟩
  replace hB := gb_trans hB hs1
  replace hm := hm.blk hb hs1
  refine L_run (R_assign rfl) rfl ?_
  refine L_nil (N_then (C_seq (C_reg rfl ?_)))
  refine L_run (R_move rfl) rfl ?_
  refine L_run (R_eqv (R_neq rfl rfl) (v' := .bool true) rfl) rfl ?_
  refine L_nil (N_then (C_condT rfl rfl (C_seq (C_reg rfl ?_))))
  refine L_run (R_move rfl) rfl ?_
  refine L_run (R_assign rfl) rfl ?_
  refine L_nil (N_then (C_ret (R_then ?_)))
  refine ret1 Tryz.results68 rfl ?_
  first
    | (exfalso; omega)
    | (exact ⟨hB, rfl, hb1⟩)

theorem new_ok {w : World} {c : Int} :
    Runs Tryz.prog 10 #[.int .i64 c] w (fun v w' => w.grownBy w' none ∧ ∃ g gm, w.heap.size ≤ g ∧ w.heap.size ≤ gm ∧ v = .pointer (some ⟨g, 0, none⟩) ∧ Blk w' g 99 [.map (some gm), .int .i64 (max 0 (min c 1048576)), .int .i64 0, .bool false, .bool false, .int .i64 0] ∧ MapF w' gm .string strK ptrV ([] : List (ByteArray × Nat))) := by
  have hB := gb_refl w none
  refine enter Tryz.func10 Tryz.ntmps10 rfl rfl ?_
  refine C_seq (C_reg rfl ?_)
  refine L_run (R_assign rfl) rfl ?_
  refine L_nil (N_then (C_seq (C_reg rfl ?_)))
  refine L_makeMap .string strK ptrV rfl ?_
  intro g1 w1 eg1 hm1 hs1 hz1
  have ge1 : w.heap.size ≤ g1 := eg_ge hB eg1
  replace hB := gb_tr hB hs1
  refine L_run (R_move rfl) rfl ?_
  refine L_run (R_min2 rfl rfl) rfl ?_
  refine L_run (R_max2 rfl rfl) rfl ?_
  refine L_run (R_build (pv := [(0, .map (some g1)), (1, .int .i64 (max 0 (min c 1048576)))]) (cs := [.map (some g1), .int .i64 (max 0 (min c 1048576)), .int .i64 0, .bool false, .bool false, .int .i64 0]) rfl (by kernel_rfl)) rfl ?_
  refine L_box (cs := [.map (some g1), .int .i64 (max 0 (min c 1048576)), .int .i64 0, .bool false, .bool false, .int .i64 0]) rfl rfl rfl ?_
  intro g2 w2 eg2 hb1 hs2 hz2
  have ge2 : w.heap.size ≤ g2 := eg_ge hB eg2
  replace hB := gb_tr hB hs2
  replace hm1 := hm1.gb hs2
  refine L_run (R_assign rfl) rfl ?_
  refine L_nil (N_then (C_ret ?_))
  refine ret1 Tryz.results10 rfl ?_
  exact ⟨hB, g2, g1, ge2, ge1, rfl, hb1, hm1⟩

theorem mk_room {m : Int} (h : 0 ≤ m) (h2 : m ≤ 1048576) : IntKind.i64.wrap (m - 0) = m := by rw [IntKind.wrap_i64]; omega
theorem make_down {w : World} {g gm : Nat} {m : Int} (hb : Blk w g 99 [.map (some gm), .int .i64 m, .int .i64 0, .bool false, .bool true, .int .i64 0]) (hm : MapF w gm .string strK ptrV ([] : List (ByteArray × Nat))) (hm0 : 0 ≤ m) (hm1 : m ≤ 1048576) (hq : ¬ (m < 1)) :
    Runs Tryz.prog 12 #[.pointer (some ⟨g, 0, none⟩), .string (⟨#[97]⟩), .int .i64 1] w (fun v w' => w.grownBy w' (some g) ∧ v = .int .i64 9 ∧ Blk w' g 99 [.map (some gm), .int .i64 m, .int .i64 0, .bool true, .bool false, .int .i64 0]) := by
  have hB := gb_refl w (some g)
  refine enter Tryz.func12 Tryz.ntmps12 rfl rfl ?_
  refine C_seq (C_reg rfl ?_)
  refine L_box (cs := [.pointer (some ⟨g, 0, none⟩)]) rfl rfl rfl ?_
  intro g1 w1 eg1 hb1 hs1 hz1
  have ge1 : w.heap.size ≤ g1 := eg_ge hB eg1
  have lt1 : g < g1 := lt_of_eg hb.lt eg1
  replace hB := gb_tr hB hs1
  replace hb := hb.gb hs1
  replace hm := hm.gb hs1
  refine L_box (cs := [.string (⟨#[97]⟩)]) rfl rfl rfl ?_
  intro g2 w2 eg2 hb2 hs2 hz2
  have ge2 : w.heap.size ≤ g2 := eg_ge hB eg2
  have lt2 : g < g2 := lt_of_eg hb.lt eg2
  have lt3 : g1 < g2 := lt_of_eg hb1.lt eg2
  replace hB := gb_tr hB hs2
  replace hb := hb.gb hs2
  replace hm := hm.gb hs2
  replace hb1 := hb1.gb hs2
  refine L_box (cs := [.int .i64 1]) rfl rfl rfl ?_
  intro g3 w3 eg3 hb3 hs3 hz3
  have ge3 : w.heap.size ≤ g3 := eg_ge hB eg3
  have lt4 : g < g3 := lt_of_eg hb.lt eg3
  have lt5 : g1 < g3 := lt_of_eg hb1.lt eg3
  have lt6 : g2 < g3 := lt_of_eg hb2.lt eg3
  replace hB := gb_tr hB hs3
  replace hb := hb.gb hs3
  replace hm := hm.gb hs3
  replace hb1 := hb1.gb hs3
  replace hb2 := hb2.gb hs3
  refine L_run (R_assign rfl) rfl ?_
  refine L_nil (N_then (C_seq (C_seq (C_reg rfl ?_))))
  refine L_run (R_load1 rfl scl26 (hb1.cell (i := 0) rfl)) rfl ?_
  refine L_call rfl cb65 (may_ny hb hm) rfl ?_
  rintro _ w4 ⟨hs4, rfl⟩
  replace hB := gb_tr hB hs4
  replace hb := hb.gb hs4
  replace hm := hm.gb hs4
  replace hb1 := hb1.gb hs4
  replace hb2 := hb2.gb hs4
  replace hb3 := hb3.gb hs4
  refine L_run (R_assign rfl) rfl ?_
  refine L_nil (N_then (C_seq (C_reg rfl ?_)))
  refine L_run (R_move rfl) rfl ?_
  refine L_run (R_eqv (R_neq rfl rfl) (v' := .bool false) rfl) rfl ?_
  refine L_nil (N_then (C_condF rfl rfl (C_skip (N_then (C_seq (C_block (C_seq (C_reg rfl ?_))))))))
  refine L_run (R_load1 rfl scl9 (hb2.cell (i := 0) rfl)) rfl ?_
  refine L_call rfl cb66 (right_a) rfl ?_
  rintro _ w5 ⟨hs5, rfl⟩
  replace hB := gb_tr hB hs5
  replace hb := hb.gb hs5
  replace hm := hm.gb hs5
  replace hb1 := hb1.gb hs5
  replace hb2 := hb2.gb hs5
  replace hb3 := hb3.gb hs5
  refine L_run (R_not rfl) rfl ?_
  refine L_run (R_assign rfl) rfl ?_
  refine L_nil (N_then (C_condF rfl rfl (C_seq ?_)))
  refine C_draw2 rfl mix ?_
  intro w6 hs6 hz4
  replace hB := gb_tr hB hs6
  replace hb := hb.gb hs6
  replace hm := hm.gb hs6
  replace hb1 := hb1.gb hs6
  replace hb2 := hb2.gb hs6
  replace hb3 := hb3.gb hs6
  refine ⟨fun W_ => Blk W_ g 99 [.map (some gm), .int .i64 m, .int .i64 0, .bool false, .bool true, .int .i64 0] ∧ Blk W_ g1 26 [.pointer (some ⟨g, 0, none⟩)] ∧ Blk W_ g2 9 [.string (⟨#[97]⟩)] ∧ True, [0, 1, 2, 3, 4, 6, 7], ?_⟩
  refine T_takeA (i := 0) rfl rfl (by kernel_rfl) (by kernel_rfl) (by kernel_rfl) (Y_of (fun _ ⟨hb, hb1, hb2, _⟩ => R_load1 rfl scl26 (hb1.cell (i := 0) rfl))) ⟨hb, hb1, hb2, trivial⟩ rfl ?_
  refine T_takeA (i := 1) rfl rfl (by kernel_rfl) (by kernel_rfl) (by kernel_rfl) (Y_of (fun _ ⟨hb, hb1, hb2, _⟩ => R_nilck rfl)) ⟨hb, hb1, hb2, trivial⟩ rfl ?_
  refine T_takeA (i := 2) rfl rfl (by kernel_rfl) (by kernel_rfl) (by kernel_rfl) (Y_of (fun _ ⟨hb, hb1, hb2, _⟩ => R_field (r := 0) rfl fld99_0 rfl)) ⟨hb, hb1, hb2, trivial⟩ rfl ?_
  refine T_takeA (i := 3) rfl rfl (by kernel_rfl) (by kernel_rfl) (by kernel_rfl) (Y_of (fun _ ⟨hb, hb1, hb2, _⟩ => R_load1 rfl scl97 (hb.cell (i := 0) rfl))) ⟨hb, hb1, hb2, trivial⟩ rfl ?_
  refine T_takeA (i := 4) rfl rfl (by kernel_rfl) (by kernel_rfl) (by kernel_rfl) (Y_of (fun _ ⟨hb, hb1, hb2, _⟩ => R_load1 rfl scl9 (hb2.cell (i := 0) rfl))) ⟨hb, hb1, hb2, trivial⟩ rfl ?_
  refine T_all (rs := [5]) (by kernel_rfl) rfl (all1 (O_one rfl ?_))
  refine L_run (R_eqv (R_lookup (eV := ptrV) (m := ([] : List (ByteArray × Nat))) (k := ⟨#[97]⟩) (z := .pointer none) rfl rfl Tryz.underlying97 Tryz.underlying9 (zero_val zer101) strK_inj trivial hm) (v' := .pointer none) rfl) rfl ?_
  refine L_nil (N_then ⟨fun hN_ => ⟨hb, hb1, hb2, trivial⟩, ?_⟩)
  refine T_takeA (i := 6) rfl rfl (by kernel_rfl) (by kernel_rfl) (by kernel_rfl) (Y_of (fun _ ⟨hb, hb1, hb2, _⟩ => R_neqpNN rfl rfl Tryz.underlying101)) ⟨hb, hb1, hb2, trivial⟩ rfl ?_
  refine T_takeA (i := 7) rfl rfl (by kernel_rfl) (by kernel_rfl) (by kernel_rfl) (Y_of (fun _ ⟨hb, hb1, hb2, _⟩ => R_assign rfl)) ⟨hb, hb1, hb2, trivial⟩ rfl ?_
  refine T_done (by kernel_rfl) (CalmE.normal ?_)
  refine N_then (C_condF rfl rfl (C_seq (C_reg rfl ?_)))
  refine L_run (R_load1 rfl scl3 (hb3.cell (i := 0) rfl)) rfl ?_
  refine L_run (R_eqv (R_lss rfl rfl) (v' := .bool false) rfl) rfl ?_
  refine L_run (R_move rfl) rfl ?_
  refine L_yes rfl rfl rfl rfl ?_
  refine L_run (R_load1 rfl scl3 (hb3.cell (i := 0) rfl)) rfl ?_
  refine L_yes rfl rfl rfl rfl ?_
  refine L_run (R_eqv (R_gtr rfl rfl) (v' := .bool false) rfl) rfl ?_
  refine L_run (R_pickF rfl rfl rfl) rfl ?_
  refine L_run (R_assign rfl) rfl ?_
  refine L_nil (N_then (C_condF rfl rfl (C_seq ?_)))
  refine C_draw2 rfl mix ?_
  intro w7 hs7 hz5
  replace hB := gb_tr hB hs7
  replace hb := hb.gb hs7
  replace hm := hm.gb hs7
  replace hb1 := hb1.gb hs7
  replace hb2 := hb2.gb hs7
  replace hb3 := hb3.gb hs7
  refine ⟨fun W_ => Blk W_ g 99 [.map (some gm), .int .i64 m, .int .i64 0, .bool false, .bool true, .int .i64 0] ∧ MapF W_ gm .string strK ptrV ([] : List (ByteArray × Nat)) ∧ Blk W_ g1 26 [.pointer (some ⟨g, 0, none⟩)] ∧ Blk W_ g3 3 [.int .i64 1] ∧ True, [0, 1, 2, 3, 4, 5, 7, 8, 9, 10, 11, 12, 13, 14, 15, 16, 17], ?_⟩
  refine T_takeA (i := 0) rfl rfl (by kernel_rfl) (by kernel_rfl) (by kernel_rfl) (Y_of (fun _ ⟨hb, hm, hb1, hb3, _⟩ => R_load1 rfl scl3 (hb3.cell (i := 0) rfl))) ⟨hb, hm, hb1, hb3, trivial⟩ rfl ?_
  refine T_takeA (i := 1) rfl rfl (by kernel_rfl) (by kernel_rfl) (by kernel_rfl) (Y_of (fun _ ⟨hb, hm, hb1, hb3, _⟩ => R_load1 rfl scl26 (hb1.cell (i := 0) rfl))) ⟨hb, hm, hb1, hb3, trivial⟩ rfl ?_
  refine T_takeA (i := 2) rfl rfl (by kernel_rfl) (by kernel_rfl) (by kernel_rfl) (Y_of (fun _ ⟨hb, hm, hb1, hb3, _⟩ => R_nilck rfl)) ⟨hb, hm, hb1, hb3, trivial⟩ rfl ?_
  refine T_takeA (i := 3) rfl rfl (by kernel_rfl) (by kernel_rfl) (by kernel_rfl) (Y_of (fun _ ⟨hb, hm, hb1, hb3, _⟩ => R_field (r := 1) rfl fld99_1 rfl)) ⟨hb, hm, hb1, hb3, trivial⟩ rfl ?_
  refine T_takeA (i := 4) rfl rfl (by kernel_rfl) (by kernel_rfl) (by kernel_rfl) (Y_of (fun _ ⟨hb, hm, hb1, hb3, _⟩ => R_load1 rfl scl3 (hb.cell (i := 1) rfl))) ⟨hb, hm, hb1, hb3, trivial⟩ rfl ?_
  refine T_takeA (i := 5) rfl rfl (by kernel_rfl) (by kernel_rfl) (by kernel_rfl) (Y_of (fun _ ⟨hb, hm, hb1, hb3, _⟩ => R_load1 rfl scl26 (hb1.cell (i := 0) rfl))) ⟨hb, hm, hb1, hb3, trivial⟩ rfl ?_
  refine T_all (rs := [6]) (by kernel_rfl) rfl (all1 (O_one rfl ?_))
  refine L_call rfl cb67 (used_ny hb hm) rfl ?_
  rintro _ w8 ⟨hs8, rfl⟩
  replace hB := gb_tr hB hs8
  replace hb := hb.gb hs8
  replace hm := hm.gb hs8
  replace hb1 := hb1.gb hs8
  replace hb2 := hb2.gb hs8
  replace hb3 := hb3.gb hs8
  refine L_nil (N_then ⟨fun hN_ => ⟨hb, hm, hb1, hb3, trivial⟩, ?_⟩)
  refine T_takeA (i := 7) rfl rfl (by kernel_rfl) (by kernel_rfl) (by kernel_rfl) (Y_of (fun _ ⟨hb, hm, hb1, hb3, _⟩ => R_sub64 rfl rfl (by omega))) ⟨hb, hm, hb1, hb3, trivial⟩ rfl ?_
  refine T_takeA (i := 8) rfl rfl (by kernel_rfl) (by kernel_rfl) (by kernel_rfl) (Y_of (fun _ ⟨hb, hm, hb1, hb3, _⟩ => R_gtr rfl rfl)) ⟨hb, hm, hb1, hb3, trivial⟩ rfl ?_
  refine T_takeA (i := 9) rfl rfl (by kernel_rfl) (by kernel_rfl) (by kernel_rfl) (Y_of (fun _ ⟨hb, hm, hb1, hb3, _⟩ => R_move rfl)) ⟨hb, hm, hb1, hb3, trivial⟩ rfl ?_
  refine T_takeA (i := 10) rfl rfl (by kernel_rfl) (by kernel_rfl) (by kernel_rfl) (Y_yes rfl rfl rfl (decide_eq_false (by omega)) (fun _ ⟨hb, hm, hb1, hb3, _⟩ => R_load1 rfl scl26 (hb1.cell (i := 0) rfl))) ⟨hb, hm, hb1, hb3, trivial⟩ rfl ?_
  refine T_takeA (i := 11) rfl rfl (by kernel_rfl) (by kernel_rfl) (by kernel_rfl) (Y_yes rfl rfl rfl (decide_eq_false (by omega)) (fun _ ⟨hb, hm, hb1, hb3, _⟩ => R_nilck rfl)) ⟨hb, hm, hb1, hb3, trivial⟩ rfl ?_
  refine T_takeA (i := 12) rfl rfl (by kernel_rfl) (by kernel_rfl) (by kernel_rfl) (Y_yes rfl rfl rfl (decide_eq_false (by omega)) (fun _ ⟨hb, hm, hb1, hb3, _⟩ => R_field (r := 0) rfl fld99_0 rfl)) ⟨hb, hm, hb1, hb3, trivial⟩ rfl ?_
  refine T_takeA (i := 13) rfl rfl (by kernel_rfl) (by kernel_rfl) (by kernel_rfl) (Y_yes rfl rfl rfl (decide_eq_false (by omega)) (fun _ ⟨hb, hm, hb1, hb3, _⟩ => R_load1 rfl scl97 (hb.cell (i := 0) rfl))) ⟨hb, hm, hb1, hb3, trivial⟩ rfl ?_
  refine T_takeA (i := 14) rfl rfl (by kernel_rfl) (by kernel_rfl) (by kernel_rfl) (Y_yes rfl rfl rfl (decide_eq_false (by omega)) (fun _ ⟨hb, hm, hb1, hb3, _⟩ => R_lenMap rfl Tryz.underlying97 hm)) ⟨hb, hm, hb1, hb3, trivial⟩ rfl ?_
  refine T_takeA (i := 15) rfl rfl (by kernel_rfl) (by kernel_rfl) (by kernel_rfl) (Y_yes rfl rfl rfl (decide_eq_false (by omega)) (fun _ ⟨hb, hm, hb1, hb3, _⟩ => R_geq rfl rfl)) ⟨hb, hm, hb1, hb3, trivial⟩ rfl ?_
  refine T_takeA (i := 16) rfl rfl (by kernel_rfl) (by kernel_rfl) (by kernel_rfl) (Y_of (fun _ ⟨hb, hm, hb1, hb3, _⟩ => R_pickF rfl (decide_eq_false (by omega)) rfl)) ⟨hb, hm, hb1, hb3, trivial⟩ rfl ?_
  refine T_takeA (i := 17) rfl rfl (by kernel_rfl) (by kernel_rfl) (by kernel_rfl) (Y_of (fun _ ⟨hb, hm, hb1, hb3, _⟩ => R_assign rfl)) ⟨hb, hm, hb1, hb3, trivial⟩ rfl ?_
  refine T_done (by kernel_rfl) (CalmE.normal ?_)
  refine N_then (C_condF rfl (decide_eq_false (by simp)) (C_skip (N_in (N_then (C_seq (C_reg rfl ?_))))))
  refine L_run (R_load1 rfl scl26 (hb1.cell (i := 0) rfl)) rfl ?_
  refine L_run (R_makeFunc rfl rfl) rfl ?_
  refine L_call rfl cb68 (then_down hb hm) rfl ?_
  rintro _ w9 ⟨hs9, rfl, hb4⟩
  replace hB := gb_trans hB hs9
  replace hm := hm.blk hb hs9
  replace hb1 := hb1.grown hs9 (ne_gt lt1)
  replace hb2 := hb2.grown hs9 (ne_gt lt2)
  replace hb3 := hb3.grown hs9 (ne_gt lt4)
  refine L_run (R_assign rfl) rfl ?_
  refine L_nil (N_then (C_ret ?_))
  refine ret1 Tryz.results12 rfl ?_
  first
    | (exfalso; omega)
    | (exact ⟨hB, rfl, hb4⟩)

theorem make_full {w : World} {g gm : Nat} {m : Int} (hb : Blk w g 99 [.map (some gm), .int .i64 m, .int .i64 0, .bool false, .bool true, .int .i64 0]) (hm : MapF w gm .string strK ptrV ([] : List (ByteArray × Nat))) (hm0 : 0 ≤ m) (hm1 : m ≤ 1048576) (hq : m < 1) :
    Runs Tryz.prog 12 #[.pointer (some ⟨g, 0, none⟩), .string (⟨#[97]⟩), .int .i64 1] w (fun v w' => w.grownBy w' none ∧ v = .int .i64 6) := by
  have hB := gb_refl w none
  refine enter Tryz.func12 Tryz.ntmps12 rfl rfl ?_
  refine C_seq (C_reg rfl ?_)
  refine L_box (cs := [.pointer (some ⟨g, 0, none⟩)]) rfl rfl rfl ?_
  intro g1 w1 eg1 hb1 hs1 hz1
  have ge1 : w.heap.size ≤ g1 := eg_ge hB eg1
  have lt1 : g < g1 := lt_of_eg hb.lt eg1
  replace hB := gb_tr hB hs1
  replace hb := hb.gb hs1
  replace hm := hm.gb hs1
  refine L_box (cs := [.string (⟨#[97]⟩)]) rfl rfl rfl ?_
  intro g2 w2 eg2 hb2 hs2 hz2
  have ge2 : w.heap.size ≤ g2 := eg_ge hB eg2
  have lt2 : g < g2 := lt_of_eg hb.lt eg2
  have lt3 : g1 < g2 := lt_of_eg hb1.lt eg2
  replace hB := gb_tr hB hs2
  replace hb := hb.gb hs2
  replace hm := hm.gb hs2
  replace hb1 := hb1.gb hs2
  refine L_box (cs := [.int .i64 1]) rfl rfl rfl ?_
  intro g3 w3 eg3 hb3 hs3 hz3
  have ge3 : w.heap.size ≤ g3 := eg_ge hB eg3
  have lt4 : g < g3 := lt_of_eg hb.lt eg3
  have lt5 : g1 < g3 := lt_of_eg hb1.lt eg3
  have lt6 : g2 < g3 := lt_of_eg hb2.lt eg3
  replace hB := gb_tr hB hs3
  replace hb := hb.gb hs3
  replace hm := hm.gb hs3
  replace hb1 := hb1.gb hs3
  replace hb2 := hb2.gb hs3
  refine L_run (R_assign rfl) rfl ?_
  refine L_nil (N_then (C_seq (C_seq (C_reg rfl ?_))))
  refine L_run (R_load1 rfl scl26 (hb1.cell (i := 0) rfl)) rfl ?_
  refine L_call rfl cb65 (may_ny hb hm) rfl ?_
  rintro _ w4 ⟨hs4, rfl⟩
  replace hB := gb_tr hB hs4
  replace hb := hb.gb hs4
  replace hm := hm.gb hs4
  replace hb1 := hb1.gb hs4
  replace hb2 := hb2.gb hs4
  replace hb3 := hb3.gb hs4
  refine L_run (R_assign rfl) rfl ?_
  refine L_nil (N_then (C_seq (C_reg rfl ?_)))
  refine L_run (R_move rfl) rfl ?_
  refine L_run (R_eqv (R_neq rfl rfl) (v' := .bool false) rfl) rfl ?_
  refine L_nil (N_then (C_condF rfl rfl (C_skip (N_then (C_seq (C_block (C_seq (C_reg rfl ?_))))))))
  refine L_run (R_load1 rfl scl9 (hb2.cell (i := 0) rfl)) rfl ?_
  refine L_call rfl cb66 (right_a) rfl ?_
  rintro _ w5 ⟨hs5, rfl⟩
  replace hB := gb_tr hB hs5
  replace hb := hb.gb hs5
  replace hm := hm.gb hs5
  replace hb1 := hb1.gb hs5
  replace hb2 := hb2.gb hs5
  replace hb3 := hb3.gb hs5
  refine L_run (R_not rfl) rfl ?_
  refine L_run (R_assign rfl) rfl ?_
  refine L_nil (N_then (C_condF rfl rfl (C_seq ?_)))
  refine C_draw2 rfl mix ?_
  intro w6 hs6 hz4
  replace hB := gb_tr hB hs6
  replace hb := hb.gb hs6
  replace hm := hm.gb hs6
  replace hb1 := hb1.gb hs6
  replace hb2 := hb2.gb hs6
  replace hb3 := hb3.gb hs6
  refine ⟨fun W_ => Blk W_ g 99 [.map (some gm), .int .i64 m, .int .i64 0, .bool false, .bool true, .int .i64 0] ∧ Blk W_ g1 26 [.pointer (some ⟨g, 0, none⟩)] ∧ Blk W_ g2 9 [.string (⟨#[97]⟩)] ∧ True, [0, 1, 2, 3, 4, 6, 7], ?_⟩
  refine T_takeA (i := 0) rfl rfl (by kernel_rfl) (by kernel_rfl) (by kernel_rfl) (Y_of (fun _ ⟨hb, hb1, hb2, _⟩ => R_load1 rfl scl26 (hb1.cell (i := 0) rfl))) ⟨hb, hb1, hb2, trivial⟩ rfl ?_
  refine T_takeA (i := 1) rfl rfl (by kernel_rfl) (by kernel_rfl) (by kernel_rfl) (Y_of (fun _ ⟨hb, hb1, hb2, _⟩ => R_nilck rfl)) ⟨hb, hb1, hb2, trivial⟩ rfl ?_
  refine T_takeA (i := 2) rfl rfl (by kernel_rfl) (by kernel_rfl) (by kernel_rfl) (Y_of (fun _ ⟨hb, hb1, hb2, _⟩ => R_field (r := 0) rfl fld99_0 rfl)) ⟨hb, hb1, hb2, trivial⟩ rfl ?_
  refine T_takeA (i := 3) rfl rfl (by kernel_rfl) (by kernel_rfl) (by kernel_rfl) (Y_of (fun _ ⟨hb, hb1, hb2, _⟩ => R_load1 rfl scl97 (hb.cell (i := 0) rfl))) ⟨hb, hb1, hb2, trivial⟩ rfl ?_
  refine T_takeA (i := 4) rfl rfl (by kernel_rfl) (by kernel_rfl) (by kernel_rfl) (Y_of (fun _ ⟨hb, hb1, hb2, _⟩ => R_load1 rfl scl9 (hb2.cell (i := 0) rfl))) ⟨hb, hb1, hb2, trivial⟩ rfl ?_
  refine T_all (rs := [5]) (by kernel_rfl) rfl (all1 (O_one rfl ?_))
  refine L_run (R_eqv (R_lookup (eV := ptrV) (m := ([] : List (ByteArray × Nat))) (k := ⟨#[97]⟩) (z := .pointer none) rfl rfl Tryz.underlying97 Tryz.underlying9 (zero_val zer101) strK_inj trivial hm) (v' := .pointer none) rfl) rfl ?_
  refine L_nil (N_then ⟨fun hN_ => ⟨hb, hb1, hb2, trivial⟩, ?_⟩)
  refine T_takeA (i := 6) rfl rfl (by kernel_rfl) (by kernel_rfl) (by kernel_rfl) (Y_of (fun _ ⟨hb, hb1, hb2, _⟩ => R_neqpNN rfl rfl Tryz.underlying101)) ⟨hb, hb1, hb2, trivial⟩ rfl ?_
  refine T_takeA (i := 7) rfl rfl (by kernel_rfl) (by kernel_rfl) (by kernel_rfl) (Y_of (fun _ ⟨hb, hb1, hb2, _⟩ => R_assign rfl)) ⟨hb, hb1, hb2, trivial⟩ rfl ?_
  refine T_done (by kernel_rfl) (CalmE.normal ?_)
  refine N_then (C_condF rfl rfl (C_seq (C_reg rfl ?_)))
  refine L_run (R_load1 rfl scl3 (hb3.cell (i := 0) rfl)) rfl ?_
  refine L_run (R_eqv (R_lss rfl rfl) (v' := .bool false) rfl) rfl ?_
  refine L_run (R_move rfl) rfl ?_
  refine L_yes rfl rfl rfl rfl ?_
  refine L_run (R_load1 rfl scl3 (hb3.cell (i := 0) rfl)) rfl ?_
  refine L_yes rfl rfl rfl rfl ?_
  refine L_run (R_eqv (R_gtr rfl rfl) (v' := .bool false) rfl) rfl ?_
  refine L_run (R_pickF rfl rfl rfl) rfl ?_
  refine L_run (R_assign rfl) rfl ?_
  refine L_nil (N_then (C_condF rfl rfl (C_seq ?_)))
  refine C_draw2 rfl mix ?_
  intro w7 hs7 hz5
  replace hB := gb_tr hB hs7
  replace hb := hb.gb hs7
  replace hm := hm.gb hs7
  replace hb1 := hb1.gb hs7
  replace hb2 := hb2.gb hs7
  replace hb3 := hb3.gb hs7
  refine ⟨fun W_ => Blk W_ g 99 [.map (some gm), .int .i64 m, .int .i64 0, .bool false, .bool true, .int .i64 0] ∧ Blk W_ g1 26 [.pointer (some ⟨g, 0, none⟩)] ∧ Blk W_ g3 3 [.int .i64 1] ∧ True, [0, 1, 2, 3, 4, 5, 7, 8, 9, 10, 11, 12, 13, 14, 15, 16, 17], ?_⟩
  refine T_takeA (i := 0) rfl rfl (by kernel_rfl) (by kernel_rfl) (by kernel_rfl) (Y_of (fun _ ⟨hb, hb1, hb3, _⟩ => R_load1 rfl scl3 (hb3.cell (i := 0) rfl))) ⟨hb, hb1, hb3, trivial⟩ rfl ?_
  refine T_takeA (i := 1) rfl rfl (by kernel_rfl) (by kernel_rfl) (by kernel_rfl) (Y_of (fun _ ⟨hb, hb1, hb3, _⟩ => R_load1 rfl scl26 (hb1.cell (i := 0) rfl))) ⟨hb, hb1, hb3, trivial⟩ rfl ?_
  refine T_takeA (i := 2) rfl rfl (by kernel_rfl) (by kernel_rfl) (by kernel_rfl) (Y_of (fun _ ⟨hb, hb1, hb3, _⟩ => R_nilck rfl)) ⟨hb, hb1, hb3, trivial⟩ rfl ?_
  refine T_takeA (i := 3) rfl rfl (by kernel_rfl) (by kernel_rfl) (by kernel_rfl) (Y_of (fun _ ⟨hb, hb1, hb3, _⟩ => R_field (r := 1) rfl fld99_1 rfl)) ⟨hb, hb1, hb3, trivial⟩ rfl ?_
  refine T_takeA (i := 4) rfl rfl (by kernel_rfl) (by kernel_rfl) (by kernel_rfl) (Y_of (fun _ ⟨hb, hb1, hb3, _⟩ => R_load1 rfl scl3 (hb.cell (i := 1) rfl))) ⟨hb, hb1, hb3, trivial⟩ rfl ?_
  refine T_takeA (i := 5) rfl rfl (by kernel_rfl) (by kernel_rfl) (by kernel_rfl) (Y_of (fun _ ⟨hb, hb1, hb3, _⟩ => R_load1 rfl scl26 (hb1.cell (i := 0) rfl))) ⟨hb, hb1, hb3, trivial⟩ rfl ?_
  refine T_all (rs := [6]) (by kernel_rfl) rfl (all1 (O_one rfl ?_))
  refine L_call rfl cb67 (used_ny hb hm) rfl ?_
  rintro _ w8 ⟨hs8, rfl⟩
  replace hB := gb_tr hB hs8
  replace hb := hb.gb hs8
  replace hm := hm.gb hs8
  replace hb1 := hb1.gb hs8
  replace hb2 := hb2.gb hs8
  replace hb3 := hb3.gb hs8
  refine L_nil (N_then ⟨fun hN_ => ⟨hb, hb1, hb3, trivial⟩, ?_⟩)
  refine T_takeA (i := 7) rfl rfl (by kernel_rfl) (by kernel_rfl) (by kernel_rfl) (Y_of (fun _ ⟨hb, hb1, hb3, _⟩ => R_sub64 rfl rfl (by omega))) ⟨hb, hb1, hb3, trivial⟩ rfl ?_
  refine T_takeA (i := 8) rfl rfl (by kernel_rfl) (by kernel_rfl) (by kernel_rfl) (Y_of (fun _ ⟨hb, hb1, hb3, _⟩ => R_gtr rfl rfl)) ⟨hb, hb1, hb3, trivial⟩ rfl ?_
  refine T_takeA (i := 9) rfl rfl (by kernel_rfl) (by kernel_rfl) (by kernel_rfl) (Y_of (fun _ ⟨hb, hb1, hb3, _⟩ => R_move rfl)) ⟨hb, hb1, hb3, trivial⟩ rfl ?_
  refine T_takeA (i := 10) rfl rfl (by kernel_rfl) (by kernel_rfl) (by kernel_rfl) (Y_no rfl rfl rfl (decide_eq_true (by omega))) ⟨hb, hb1, hb3, trivial⟩ rfl ?_
  refine T_takeA (i := 11) rfl rfl (by kernel_rfl) (by kernel_rfl) (by kernel_rfl) (Y_no rfl rfl rfl (decide_eq_true (by omega))) ⟨hb, hb1, hb3, trivial⟩ rfl ?_
  refine T_takeA (i := 12) rfl rfl (by kernel_rfl) (by kernel_rfl) (by kernel_rfl) (Y_no rfl rfl rfl (decide_eq_true (by omega))) ⟨hb, hb1, hb3, trivial⟩ rfl ?_
  refine T_takeA (i := 13) rfl rfl (by kernel_rfl) (by kernel_rfl) (by kernel_rfl) (Y_no rfl rfl rfl (decide_eq_true (by omega))) ⟨hb, hb1, hb3, trivial⟩ rfl ?_
  refine T_takeA (i := 14) rfl rfl (by kernel_rfl) (by kernel_rfl) (by kernel_rfl) (Y_no rfl rfl rfl (decide_eq_true (by omega))) ⟨hb, hb1, hb3, trivial⟩ rfl ?_
  refine T_takeA (i := 15) rfl rfl (by kernel_rfl) (by kernel_rfl) (by kernel_rfl) (Y_no rfl rfl rfl (decide_eq_true (by omega))) ⟨hb, hb1, hb3, trivial⟩ rfl ?_
  refine T_takeA (i := 16) rfl rfl (by kernel_rfl) (by kernel_rfl) (by kernel_rfl) (Y_of (fun _ ⟨hb, hb1, hb3, _⟩ => R_pickT rfl (decide_eq_true (by omega)) rfl)) ⟨hb, hb1, hb3, trivial⟩ rfl ?_
  refine T_takeA (i := 17) rfl rfl (by kernel_rfl) (by kernel_rfl) (by kernel_rfl) (Y_of (fun _ ⟨hb, hb1, hb3, _⟩ => R_assign rfl)) ⟨hb, hb1, hb3, trivial⟩ rfl ?_
  refine T_done (by kernel_rfl) (CalmE.normal ?_)
  refine N_then (C_condT rfl rfl (C_seq (C_reg rfl ?_)))
  refine L_run (R_assign rfl) rfl ?_
  refine L_nil (N_then (C_ret (R_in (R_then ?_))))
  refine ret1 Tryz.results12 rfl ?_
  first
    | (exfalso; omega)
    | (exact ⟨hB, rfl⟩)

theorem load_nil {w : World} :
    Runs Tryz.prog 9 #[.pointer none] w (fun v w' => w.grownBy w' none ∧ v = .tuple #[.slice none 0 0, .int .i64 11]) := by
  have hB := gb_refl w none
  refine enter Tryz.func9 Tryz.ntmps9 rfl rfl ?_
  refine C_seq (C_reg rfl ?_)
  refine L_run (R_assign rfl) rfl ?_
  refine L_run (R_assign rfl) rfl ?_
  refine L_nil (N_then (C_seq (C_block (C_seq (C_reg rfl ?_)))))
  refine L_run (R_move rfl) rfl ?_
  refine L_run (R_eqlpNN rfl rfl Tryz.underlying26) rfl ?_
  refine L_run (R_assign rfl) rfl ?_
  refine L_nil (N_then (C_condT rfl rfl (C_seq (C_reg rfl ?_))))
  refine L_run (R_assign rfl) rfl ?_
  refine L_run (R_assign rfl) rfl ?_
  refine L_nil (N_then (C_ret (R_in (R_then ?_))))
  refine ret2 Tryz.results9 rfl rfl ?_
  first
    | (exfalso; omega)
    | (exact ⟨hB, rfl⟩)

theorem load_down {w : World} {g gm : Nat} {m : Int} (hb : Blk w g 99 [.map (some gm), .int .i64 m, .int .i64 0, .bool true, .bool false, .int .i64 0]) (hm : MapF w gm .string strK ptrV ([] : List (ByteArray × Nat))) :
    Runs Tryz.prog 9 #[.pointer (some ⟨g, 0, none⟩)] w (fun v w' => w.grownBy w' none ∧ v = .tuple #[.slice none 0 0, .int .i64 9]) := by
  have hB := gb_refl w none
  refine enter Tryz.func9 Tryz.ntmps9 rfl rfl ?_
  refine C_seq (C_reg rfl ?_)
  refine L_run (R_assign rfl) rfl ?_
  refine L_run (R_assign rfl) rfl ?_
  refine L_nil (N_then (C_seq (C_block (C_seq (C_reg rfl ?_)))))
  refine L_run (R_move rfl) rfl ?_
  refine L_run (R_eqlpPN rfl rfl Tryz.underlying26) rfl ?_
  refine L_run (R_assign rfl) rfl ?_
  refine L_nil (N_then (C_condF rfl rfl (C_seq (C_reg rfl ?_))))
  refine L_run (R_move rfl) rfl ?_
  refine L_call rfl cb59 (down_yn hb hm) rfl ?_
  rintro _ w1 ⟨hs1, rfl⟩
  replace hB := gb_tr hB hs1
  replace hb := hb.gb hs1
  replace hm := hm.gb hs1
  refine L_run (R_assign rfl) rfl ?_
  refine L_nil (N_then (C_condT rfl rfl (C_seq (C_reg rfl ?_))))
  refine L_run (R_assign rfl) rfl ?_
  refine L_run (R_assign rfl) rfl ?_
  refine L_nil (N_then (C_ret (R_in (R_then ?_))))
  refine ret2 Tryz.results9 rfl rfl ?_
  first
    | (exfalso; omega)
    | (exact ⟨hB, rfl⟩)

theorem load_none {w : World} {g gm : Nat} {m : Int} (hb : Blk w g 99 [.map (some gm), .int .i64 m, .int .i64 0, .bool false, .bool true, .int .i64 0]) (hm : MapF w gm .string strK ptrV ([] : List (ByteArray × Nat))) :
    Runs Tryz.prog 9 #[.pointer (some ⟨g, 0, none⟩)] w (fun v w' => w.grownBy w' none ∧ v = .tuple #[.slice none 0 0, .int .i64 0]) := by
  have hB := gb_refl w none
  refine enter Tryz.func9 Tryz.ntmps9 rfl rfl ?_
  refine C_seq (C_reg rfl ?_)
  refine L_run (R_assign rfl) rfl ?_
  refine L_run (R_assign rfl) rfl ?_
  refine L_nil (N_then (C_seq (C_block (C_seq (C_reg rfl ?_)))))
  refine L_run (R_move rfl) rfl ?_
  refine L_run (R_eqlpPN rfl rfl Tryz.underlying26) rfl ?_
  refine L_run (R_assign rfl) rfl ?_
  refine L_nil (N_then (C_condF rfl rfl (C_seq (C_reg rfl ?_))))
  refine L_run (R_move rfl) rfl ?_
  refine L_call rfl cb59 (down_ny hb hm) rfl ?_
  rintro _ w1 ⟨hs1, rfl⟩
  replace hB := gb_tr hB hs1
  replace hb := hb.gb hs1
  replace hm := hm.gb hs1
  refine L_run (R_assign rfl) rfl ?_
  refine L_nil (N_then (C_condF rfl rfl (C_skip (N_in (N_then (C_seq (C_reg rfl ?_)))))))
  refine L_run (R_assign rfl) rfl ?_
  refine L_nil (N_then (C_seq (C_seq (C_reg rfl ?_))))
  refine L_run (R_move rfl) rfl ?_
  refine L_call rfl cb60 (list_ny hb hm) rfl ?_
  rintro _ w2 ⟨hs2, rfl⟩
  replace hB := gb_tr hB hs2
  replace hb := hb.gb hs2
  replace hm := hm.gb hs2
  refine L_run (R_eqv (R_lenSl rfl slc84) (v' := .int .i64 0) rfl) rfl ?_
  refine L_run (R_move rfl) rfl ?_
  refine L_nil (N_then (C_block ?_))
  refine C_loop (fun m_ a_ w_ => ∃ (σ_ : Nat → Value) (u_ : Nat), a_ = Ac 64 σ_ [] [(0, .pointer (some ⟨g, 0, none⟩)), (4, .slice none 0 0), (21, .slice none 0 0), (22, .int .i64 0), (23, .int .i64 0)] ∧ w.grownBy w_ none ∧ Blk w_ g 99 [.map (some gm), .int .i64 m, .int .i64 0, .bool false, .bool true, .int .i64 0] ∧ MapF w_ gm .string strK ptrV ([] : List (ByteArray × Nat)) ∧ u_ = m_) (0) ?_ ?_
  · exact ⟨_, 0, Ac_frg ⟨rfl, rfl, rfl, rfl, rfl, trivial⟩, hB, hb, hm, rfl⟩
  · clear hB
    clear hb hm
    rintro m_ a_ w3 ⟨σ_, u_, rfl, hB, hb, hm, rfl⟩
    refine C_seq (C_reg rfl ?_)
    refine L_run (R_eqv (R_lss rfl rfl) (v' := .bool false) rfl) rfl ?_
    refine L_nil (N_then (C_seq (C_condF rfl rfl (C_exit (X_then (X_then (X_hit (N_then (C_seq (C_reg rfl ?_))))))))))
    refine L_run (R_move rfl) rfl ?_
    refine L_call rfl cb62 (sort_nil62) rfl ?_
    rintro _ w4 ⟨hs3, rfl⟩
    replace hB := gb_tr hB hs3
    replace hb := hb.gb hs3
    replace hm := hm.gb hs3
    refine L_nil (N_then (C_seq (C_reg rfl ?_)))
    refine L_run (R_assign rfl) rfl ?_
    refine L_nil (N_then (C_seq (C_seq (C_reg rfl ?_))))
    refine L_run (R_move rfl) rfl ?_
    refine L_run (R_eqv (R_lenSl rfl slc75) (v' := .int .i64 0) rfl) rfl ?_
    refine L_run (R_move rfl) rfl ?_
    refine L_nil (N_then (C_block ?_))
    refine C_loop (fun m_ a_ w_ => ∃ (σ_ : Nat → Value) (u_ : Nat), a_ = Ac 64 σ_ [] [(0, .pointer (some ⟨g, 0, none⟩)), (4, .slice none 0 0), (9, .slice none 0 0), (41, .slice none 0 0), (42, .int .i64 0), (43, .int .i64 0)] ∧ w.grownBy w_ none ∧ Blk w_ g 99 [.map (some gm), .int .i64 m, .int .i64 0, .bool false, .bool true, .int .i64 0] ∧ MapF w_ gm .string strK ptrV ([] : List (ByteArray × Nat)) ∧ u_ = m_) (0) ?_ ?_
    · exact ⟨_, 0, Ac_frg ⟨rfl, rfl, rfl, rfl, rfl, rfl, trivial⟩, hB, hb, hm, rfl⟩
    · clear hB
      clear hb hm
      rintro m_ a_ w5 ⟨σ_, u_, rfl, hB, hb, hm, rfl⟩
      refine C_seq (C_reg rfl ?_)
      refine L_run (R_eqv (R_lss rfl rfl) (v' := .bool false) rfl) rfl ?_
      refine L_nil (N_then (C_seq (C_condF rfl rfl (C_exit (X_then (X_then (X_hit (N_then (C_seq (C_seq (C_reg rfl ?_)))))))))))
      refine L_run (R_move rfl) rfl ?_
      refine L_call rfl cb64 (check_nil) rfl ?_
      rintro _ w6 ⟨hs4, rfl⟩
      replace hB := gb_tr hB hs4
      replace hb := hb.gb hs4
      replace hm := hm.gb hs4
      refine L_run (R_eqv (R_neq rfl rfl) (v' := .bool false) rfl) rfl ?_
      refine L_nil (N_then (C_condF rfl rfl (C_skip (N_then (C_seq (C_reg rfl ?_))))))
      refine L_run (R_move rfl) rfl ?_
      refine L_run (R_assign rfl) rfl ?_
      refine L_run (R_assign rfl) rfl ?_
      refine L_nil (N_then (C_ret ?_))
      refine ret2 Tryz.results9 rfl rfl ?_
      first
        | (exfalso; omega)
        | (exact ⟨hB, rfl⟩)

set_option maxRecDepth 100000 in
theorem awake25 {w : World} : Runs Tryz.prog 13 #[] w (fun v w' => w.grownBy w' none ∧ v = .bool true) :=
  Ev.closedD (mu := Ev.nomu) (fuel := 100000) (d := 60) (xs := []) (by kernel_rfl) (by kernel_rfl)

end Go.Proofs.YtbeafehpjjojnaaGreatDoor
