/-
  Contracts of the package iter, where there is no log.
-/
import Derived.Test.YtbeafehpjjojnaaGreatDoorRows
import Derived.Test.YtbeafehpjjojnaaGreatDoorVq
import Derived.Test.YtbeafehpjjojnaaGreatDoorGq
import Derived.Test.YtbeafehpjjojnaaGreatDoorEo
namespace Go.Proofs.YtbeafehpjjojnaaGreatDoor
open Go.RowKit Gw Pl
set_option linter.unusedVariables false
set_option linter.unusedSimpArgs false
theorem agg37 : aggB Tryz.prog 37 5 = true := by kernel_rfl
theorem cb28 : callB Tryz.prog 28 = true := by kernel_rfl
theorem fld138_0 : fldB Tryz.prog 138 0 0 = true := by kernel_rfl
theorem fld138_1 : fldB Tryz.prog 138 1 1 = true := by kernel_rfl
theorem fld138_2 : fldB Tryz.prog 138 2 2 = true := by kernel_rfl
theorem fld138_3 : fldB Tryz.prog 138 3 3 = true := by kernel_rfl
theorem scl23 : sclB Tryz.prog 23 = true := by kernel_rfl
theorem scl3 : sclB Tryz.prog 3 = true := by kernel_rfl
theorem scl33 : sclB Tryz.prog 33 = true := by kernel_rfl
theorem slc40 : slcB Tryz.prog 40 37 5 56 = true := by kernel_rfl
theorem sz37 : szB Tryz.prog 37 5 = true := by kernel_rfl
theorem zer37 : (Tryz.prog.info? 37).bind (·.zero) = some (.agg #[.int .i64 0, .int .i64 0, .int .i64 0, .int .i64 0, .slice none 0 0]) := by kernel_rfl
theorem next_nil {w : World} :
    Runs Tryz.prog 28 #[.pointer none] w (fun v w' => w.grownBy w' none ∧ v = .tuple #[.agg #[.int .i64 0, .int .i64 0, .int .i64 0, .int .i64 0, .slice none 0 0], .bool false]) := by
  have hB := gb_refl w none
  refine enter Tryz.func28 Tryz.ntmps28 rfl rfl ?_
  refine C_seq (C_reg rfl ?_)
  refine L_alloc (cs := [.int .i64 0, .int .i64 0, .int .i64 0, .int .i64 0, .slice none 0 0]) zer37 rfl rfl ?_
  intro g1 w1 eg1 hb1 hs1 hz1
  have ge1 : w.heap.size ≤ g1 := eg_ge hB eg1
  replace hB := gb_tr hB hs1
  refine L_run (R_assign rfl) rfl ?_
  refine L_nil (N_then (C_seq (C_seq (C_reg rfl ?_))))
  refine L_run (R_move rfl) rfl ?_
  refine L_run (R_eqlpNN rfl rfl Tryz.underlying51) rfl ?_
  refine L_run (R_move rfl) rfl ?_
  refine L_no rfl rfl rfl rfl rfl ?_
  refine L_no rfl rfl rfl rfl rfl ?_
  refine L_no rfl rfl rfl rfl rfl ?_
  refine L_no rfl rfl rfl rfl rfl ?_
  refine L_no rfl rfl rfl rfl rfl ?_
  refine L_run (R_pickT rfl rfl rfl) rfl ?_
  refine L_run (R_move rfl) rfl ?_
  refine L_no rfl rfl rfl rfl rfl ?_
  refine L_no rfl rfl rfl rfl rfl ?_
  refine L_no rfl rfl rfl rfl rfl ?_
  refine L_no rfl rfl rfl rfl rfl ?_
  refine L_no rfl rfl rfl rfl rfl ?_
  refine L_run (R_pickT rfl rfl rfl) rfl ?_
  refine L_run (R_move rfl) rfl ?_
  refine L_no rfl rfl rfl rfl rfl ?_
  refine L_no rfl rfl rfl rfl rfl ?_
  refine L_no rfl rfl rfl rfl rfl ?_
  refine L_no rfl rfl rfl rfl rfl ?_
  refine L_no rfl rfl rfl rfl rfl ?_
  refine L_run (R_pickT rfl rfl rfl) rfl ?_
  refine L_nil (N_then (C_condT rfl rfl (C_seq (C_reg rfl ?_))))
  refine L_run (R_build (pv := []) (cs := [.int .i64 0, .int .i64 0, .int .i64 0, .int .i64 0, .slice none 0 0]) rfl (by kernel_rfl)) rfl ?_
  refine L_stA (vs := [.int .i64 0, .int .i64 0, .int .i64 0, .int .i64 0, .slice none 0 0]) rfl rfl rfl sz37 rfl hb1 rfl ?_
  intro w2 hb2 hs2 hz2
  replace hB := gb_trg hB hs2 ge1
  refine L_run (R_assign rfl) rfl ?_
  refine L_nil (N_then (C_ret (R_then ?_)))
  refine retC1 (vs := [.int .i64 0, .int .i64 0, .int .i64 0, .int .i64 0, .slice none 0 0]) Tryz.results28 rfl agg37 (At.pre (hb2.at_ 0) rfl) rfl rfl ?_
  first
    | (exfalso; omega)
    | (exact ⟨hB, rfl⟩)

theorem next_blk {w : World} {g q : Nat} {a : Int} (hb : Blk w g 138 [.pointer none, .int .i64 a, .int .i64 0, .int .i64 0, .func (.func q) #[] #[]]) :
    Runs Tryz.prog 28 #[.pointer (some ⟨g, 0, none⟩)] w (fun v w' => w.grownBy w' none ∧ v = .tuple #[.agg #[.int .i64 0, .int .i64 0, .int .i64 0, .int .i64 0, .slice none 0 0], .bool false]) := by
  have hB := gb_refl w none
  refine enter Tryz.func28 Tryz.ntmps28 rfl rfl ?_
  refine C_seq (C_reg rfl ?_)
  refine L_alloc (cs := [.int .i64 0, .int .i64 0, .int .i64 0, .int .i64 0, .slice none 0 0]) zer37 rfl rfl ?_
  intro g1 w1 eg1 hb1 hs1 hz1
  have ge1 : w.heap.size ≤ g1 := eg_ge hB eg1
  have lt1 : g < g1 := lt_of_eg hb.lt eg1
  replace hB := gb_tr hB hs1
  replace hb := hb.gb hs1
  refine L_run (R_assign rfl) rfl ?_
  refine L_nil (N_then (C_seq (C_seq (C_reg rfl ?_))))
  refine L_run (R_move rfl) rfl ?_
  refine L_run (R_eqlpPN rfl rfl Tryz.underlying51) rfl ?_
  refine L_run (R_move rfl) rfl ?_
  refine L_yes rfl rfl rfl rfl ?_
  refine L_run (R_move rfl) rfl ?_
  refine L_yes rfl rfl rfl rfl ?_
  refine L_run (R_nilck rfl) rfl ?_
  refine L_yes rfl rfl rfl rfl ?_
  refine L_run (R_field (r := 0) rfl fld138_0 rfl) rfl ?_
  refine L_yes rfl rfl rfl rfl ?_
  refine L_run (R_load1 rfl scl33 (hb.cell (i := 0) rfl)) rfl ?_
  refine L_yes rfl rfl rfl rfl ?_
  refine L_run (R_eqlpNN rfl rfl Tryz.underlying33) rfl ?_
  refine L_run (R_pickF rfl rfl rfl) rfl ?_
  refine L_run (R_move rfl) rfl ?_
  refine L_no rfl rfl rfl rfl rfl ?_
  refine L_no rfl rfl rfl rfl rfl ?_
  refine L_no rfl rfl rfl rfl rfl ?_
  refine L_no rfl rfl rfl rfl rfl ?_
  refine L_no rfl rfl rfl rfl rfl ?_
  refine L_run (R_pickT rfl rfl rfl) rfl ?_
  refine L_run (R_move rfl) rfl ?_
  refine L_no rfl rfl rfl rfl rfl ?_
  refine L_no rfl rfl rfl rfl rfl ?_
  refine L_no rfl rfl rfl rfl rfl ?_
  refine L_no rfl rfl rfl rfl rfl ?_
  refine L_no rfl rfl rfl rfl rfl ?_
  refine L_run (R_pickT rfl rfl rfl) rfl ?_
  refine L_nil (N_then (C_condT rfl rfl (C_seq (C_reg rfl ?_))))
  refine L_run (R_build (pv := []) (cs := [.int .i64 0, .int .i64 0, .int .i64 0, .int .i64 0, .slice none 0 0]) rfl (by kernel_rfl)) rfl ?_
  refine L_stA (vs := [.int .i64 0, .int .i64 0, .int .i64 0, .int .i64 0, .slice none 0 0]) rfl rfl rfl sz37 rfl hb1 rfl ?_
  intro w2 hb2 hs2 hz2
  replace hB := gb_trg hB hs2 ge1
  replace hb := hb.grown hs2 (ne_lt lt1)
  refine L_run (R_assign rfl) rfl ?_
  refine L_nil (N_then (C_ret (R_then ?_)))
  refine retC1 (vs := [.int .i64 0, .int .i64 0, .int .i64 0, .int .i64 0, .slice none 0 0]) Tryz.results28 rfl agg37 (At.pre (hb2.at_ 0) rfl) rfl rfl ?_
  first
    | (exfalso; omega)
    | (exact ⟨hB, rfl⟩)

theorem at_nil {w : World} :
    Runs Tryz.prog 30 #[.pointer none] w (fun v w' => w.grownBy w' none ∧ v = .int .i64 0) := by
  have hB := gb_refl w none
  refine enter Tryz.func30 Tryz.ntmps30 rfl rfl ?_
  refine C_seq (C_reg rfl ?_)
  refine L_run (R_assign rfl) rfl ?_
  refine L_nil (N_then (C_seq (C_seq (C_reg rfl ?_))))
  refine L_run (R_move rfl) rfl ?_
  refine L_run (R_eqlpNN rfl rfl Tryz.underlying51) rfl ?_
  refine L_nil (N_then (C_condT rfl rfl (C_seq (C_reg rfl ?_))))
  refine L_run (R_assign rfl) rfl ?_
  refine L_nil (N_then (C_ret (R_then ?_)))
  refine ret1 Tryz.results30 rfl ?_
  first
    | (exfalso; omega)
    | (exact ⟨hB, rfl⟩)

theorem at_blk {w : World} {g q : Nat} {a : Int} (hb : Blk w g 138 [.pointer none, .int .i64 a, .int .i64 0, .int .i64 0, .func (.func q) #[] #[]]) :
    Runs Tryz.prog 30 #[.pointer (some ⟨g, 0, none⟩)] w (fun v w' => w.grownBy w' none ∧ v = .int .i64 a) := by
  have hB := gb_refl w none
  refine enter Tryz.func30 Tryz.ntmps30 rfl rfl ?_
  refine C_seq (C_reg rfl ?_)
  refine L_run (R_assign rfl) rfl ?_
  refine L_nil (N_then (C_seq (C_seq (C_reg rfl ?_))))
  refine L_run (R_move rfl) rfl ?_
  refine L_run (R_eqlpPN rfl rfl Tryz.underlying51) rfl ?_
  refine L_nil (N_then (C_condF rfl rfl (C_skip (N_then (C_seq (C_reg rfl ?_))))))
  refine L_run (R_move rfl) rfl ?_
  refine L_run (R_nilck rfl) rfl ?_
  refine L_run (R_field (r := 1) rfl fld138_1 rfl) rfl ?_
  refine L_run (R_load1 rfl scl3 (hb.cell (i := 1) rfl)) rfl ?_
  refine L_run (R_assign rfl) rfl ?_
  refine L_nil (N_then (C_ret ?_))
  refine ret1 Tryz.results30 rfl ?_
  first
    | (exfalso; omega)
    | (exact ⟨hB, rfl⟩)

theorem steps_nil {w : World} :
    Runs Tryz.prog 31 #[.pointer none] w (fun v w' => w.grownBy w' none ∧ v = .int .i64 0) := by
  have hB := gb_refl w none
  refine enter Tryz.func31 Tryz.ntmps31 rfl rfl ?_
  refine C_seq (C_reg rfl ?_)
  refine L_run (R_assign rfl) rfl ?_
  refine L_nil (N_then (C_seq (C_seq (C_reg rfl ?_))))
  refine L_run (R_move rfl) rfl ?_
  refine L_run (R_eqlpNN rfl rfl Tryz.underlying51) rfl ?_
  refine L_nil (N_then (C_condT rfl rfl (C_seq (C_reg rfl ?_))))
  refine L_run (R_assign rfl) rfl ?_
  refine L_nil (N_then (C_ret (R_then ?_)))
  refine ret1 Tryz.results31 rfl ?_
  first
    | (exfalso; omega)
    | (exact ⟨hB, rfl⟩)

theorem steps_blk {w : World} {g q : Nat} {a : Int} (hb : Blk w g 138 [.pointer none, .int .i64 a, .int .i64 0, .int .i64 0, .func (.func q) #[] #[]]) :
    Runs Tryz.prog 31 #[.pointer (some ⟨g, 0, none⟩)] w (fun v w' => w.grownBy w' none ∧ v = .int .i64 0) := by
  have hB := gb_refl w none
  refine enter Tryz.func31 Tryz.ntmps31 rfl rfl ?_
  refine C_seq (C_reg rfl ?_)
  refine L_run (R_assign rfl) rfl ?_
  refine L_nil (N_then (C_seq (C_seq (C_reg rfl ?_))))
  refine L_run (R_move rfl) rfl ?_
  refine L_run (R_eqlpPN rfl rfl Tryz.underlying51) rfl ?_
  refine L_nil (N_then (C_condF rfl rfl (C_skip (N_then (C_seq (C_reg rfl ?_))))))
  refine L_run (R_move rfl) rfl ?_
  refine L_run (R_nilck rfl) rfl ?_
  refine L_run (R_field (r := 2) rfl fld138_2 rfl) rfl ?_
  refine L_run (R_load1 rfl scl3 (hb.cell (i := 2) rfl)) rfl ?_
  refine L_run (R_assign rfl) rfl ?_
  refine L_nil (N_then (C_ret ?_))
  refine ret1 Tryz.results31 rfl ?_
  first
    | (exfalso; omega)
    | (exact ⟨hB, rfl⟩)

theorem err_nil {w : World} :
    Runs Tryz.prog 32 #[.pointer none] w (fun v w' => w.grownBy w' none ∧ v = .int .i64 11) := by
  have hB := gb_refl w none
  refine enter Tryz.func32 Tryz.ntmps32 rfl rfl ?_
  refine C_seq (C_reg rfl ?_)
  refine L_run (R_assign rfl) rfl ?_
  refine L_nil (N_then (C_seq (C_seq (C_reg rfl ?_))))
  refine L_run (R_move rfl) rfl ?_
  refine L_run (R_eqlpNN rfl rfl Tryz.underlying51) rfl ?_
  refine L_nil (N_then (C_condT rfl rfl (C_seq (C_reg rfl ?_))))
  refine L_run (R_assign rfl) rfl ?_
  refine L_nil (N_then (C_ret (R_then ?_)))
  refine ret1 Tryz.results32 rfl ?_
  first
    | (exfalso; omega)
    | (exact ⟨hB, rfl⟩)

theorem err_blk {w : World} {g q : Nat} {a : Int} (hb : Blk w g 138 [.pointer none, .int .i64 a, .int .i64 0, .int .i64 0, .func (.func q) #[] #[]]) :
    Runs Tryz.prog 32 #[.pointer (some ⟨g, 0, none⟩)] w (fun v w' => w.grownBy w' none ∧ v = .int .i64 0) := by
  have hB := gb_refl w none
  refine enter Tryz.func32 Tryz.ntmps32 rfl rfl ?_
  refine C_seq (C_reg rfl ?_)
  refine L_run (R_assign rfl) rfl ?_
  refine L_nil (N_then (C_seq (C_seq (C_reg rfl ?_))))
  refine L_run (R_move rfl) rfl ?_
  refine L_run (R_eqlpPN rfl rfl Tryz.underlying51) rfl ?_
  refine L_nil (N_then (C_condF rfl rfl (C_skip (N_then (C_seq (C_reg rfl ?_))))))
  refine L_run (R_move rfl) rfl ?_
  refine L_run (R_nilck rfl) rfl ?_
  refine L_run (R_field (r := 3) rfl fld138_3 rfl) rfl ?_
  refine L_run (R_load1 rfl scl23 (hb.cell (i := 3) rfl)) rfl ?_
  refine L_run (R_assign rfl) rfl ?_
  refine L_nil (N_then (C_ret ?_))
  refine ret1 Tryz.results32 rfl ?_
  first
    | (exfalso; omega)
    | (exact ⟨hB, rfl⟩)

theorem collect_nil {w : World} {k : Int} :
    Runs Tryz.prog 33 #[.pointer none, .int .i64 k] w (fun v w' => w.grownBy w' none ∧ v = .slice none 0 0) := by
  have hB := gb_refl w none
  refine enter Tryz.func33 Tryz.ntmps33 rfl rfl ?_
  refine C_seq (C_reg rfl ?_)
  refine L_run (R_assign rfl) rfl ?_
  refine L_nil (N_then (C_seq (C_reg rfl ?_)))
  refine L_run (R_assign rfl) rfl ?_
  refine L_nil (N_then (C_seq (C_block ?_)))
  refine C_loop (fun m_ a_ w_ => ∃ (σ_ : Nat → Value) (u_ : Nat), a_ = Ac 24 σ_ [] [(0, .pointer none), (1, .int .i64 k), (5, .slice none 0 0)] ∧ w.grownBy w_ none ∧ u_ = m_) (0) ?_ ?_
  · exact ⟨_, 0, Ac_frg ⟨rfl, rfl, rfl, trivial⟩, hB, rfl⟩
  · clear hB
    rintro m_ a_ w1 ⟨σ_, u_, rfl, hB, rfl⟩
    refine C_seq (C_seq (C_reg rfl ?_))
    refine L_run (R_move rfl) rfl ?_
    refine L_run (R_eqv (R_lenSl rfl slc40) (v' := .int .i64 0) rfl) rfl ?_
    refine L_run (R_move rfl) rfl ?_
    refine L_run (R_lss rfl rfl) rfl ?_
    refine L_nil (N_then ?_)
    refine C_if rfl (fun h1 => ?_) (fun h1 => ?_)
    · refine C_skip (N_then (C_block (C_seq (C_reg rfl ?_))))
      refine L_run (R_move rfl) rfl ?_
      refine L_call rfl cb28 (next_nil) rfl ?_
      rintro _ w2 ⟨hs1, rfl⟩
      replace hB := gb_tr hB hs1
      refine L_run (R_move rfl) rfl ?_
      refine L_run (R_extract rfl rfl) rfl ?_
      refine L_run (R_extract rfl rfl) rfl ?_
      refine L_alloc (cs := [.int .i64 0, .int .i64 0, .int .i64 0, .int .i64 0, .slice none 0 0]) zer37 rfl rfl ?_
      intro g1 w3 eg1 hb1 hs2 hz1
      have ge1 : w.heap.size ≤ g1 := eg_ge hB eg1
      replace hB := gb_tr hB hs2
      refine L_stA (vs := [.int .i64 0, .int .i64 0, .int .i64 0, .int .i64 0, .slice none 0 0]) rfl rfl rfl sz37 rfl hb1 rfl ?_
      intro w4 hb2 hs3 hz2
      replace hB := gb_trg hB hs3 ge1
      refine L_run (R_assign rfl) rfl ?_
      refine L_nil (N_then (C_seq (C_seq (C_reg rfl ?_))))
      refine L_run (R_move rfl) rfl ?_
      refine L_run (R_not rfl) rfl ?_
      refine L_nil (N_then (C_condT rfl rfl (C_exit (X_then (X_miss rfl (X_then (X_hit (N_then (C_seq (C_reg rfl ?_))))))))))
      refine L_run (R_move rfl) rfl ?_
      refine L_run (R_assign rfl) rfl ?_
      refine L_nil (N_then (C_ret ?_))
      refine ret1 Tryz.results33 rfl ?_
      first
        | (exfalso; omega)
        | (exact ⟨hB, rfl⟩)
    · refine C_exit (X_then (X_then (X_hit (N_then (C_seq (C_reg rfl ?_))))))
      refine L_run (R_move rfl) rfl ?_
      refine L_run (R_assign rfl) rfl ?_
      refine L_nil (N_then (C_ret ?_))
      refine ret1 Tryz.results33 rfl ?_
      first
        | (exfalso; omega)
        | (exact ⟨hB, rfl⟩)

theorem collect_blk {w : World} {g q : Nat} {a k : Int} (hb : Blk w g 138 [.pointer none, .int .i64 a, .int .i64 0, .int .i64 0, .func (.func q) #[] #[]]) :
    Runs Tryz.prog 33 #[.pointer (some ⟨g, 0, none⟩), .int .i64 k] w (fun v w' => w.grownBy w' none ∧ v = .slice none 0 0) := by
  have hB := gb_refl w none
  refine enter Tryz.func33 Tryz.ntmps33 rfl rfl ?_
  refine C_seq (C_reg rfl ?_)
  refine L_run (R_assign rfl) rfl ?_
  refine L_nil (N_then (C_seq (C_reg rfl ?_)))
  refine L_run (R_assign rfl) rfl ?_
  refine L_nil (N_then (C_seq (C_block ?_)))
  refine C_loop (fun m_ a_ w_ => ∃ (σ_ : Nat → Value) (u_ : Nat), a_ = Ac 24 σ_ [] [(0, .pointer (some ⟨g, 0, none⟩)), (1, .int .i64 k), (5, .slice none 0 0)] ∧ w.grownBy w_ none ∧ Blk w_ g 138 [.pointer none, .int .i64 a, .int .i64 0, .int .i64 0, .func (.func q) #[] #[]] ∧ u_ = m_) (0) ?_ ?_
  · exact ⟨_, 0, Ac_frg ⟨rfl, rfl, rfl, trivial⟩, hB, hb, rfl⟩
  · clear hB
    clear hb
    rintro m_ a_ w1 ⟨σ_, u_, rfl, hB, hb, rfl⟩
    refine C_seq (C_seq (C_reg rfl ?_))
    refine L_run (R_move rfl) rfl ?_
    refine L_run (R_eqv (R_lenSl rfl slc40) (v' := .int .i64 0) rfl) rfl ?_
    refine L_run (R_move rfl) rfl ?_
    refine L_run (R_lss rfl rfl) rfl ?_
    refine L_nil (N_then ?_)
    refine C_if rfl (fun h1 => ?_) (fun h1 => ?_)
    · refine C_skip (N_then (C_block (C_seq (C_reg rfl ?_))))
      refine L_run (R_move rfl) rfl ?_
      refine L_call rfl cb28 (next_blk hb) rfl ?_
      rintro _ w2 ⟨hs1, rfl⟩
      replace hB := gb_tr hB hs1
      replace hb := hb.gb hs1
      refine L_run (R_move rfl) rfl ?_
      refine L_run (R_extract rfl rfl) rfl ?_
      refine L_run (R_extract rfl rfl) rfl ?_
      refine L_alloc (cs := [.int .i64 0, .int .i64 0, .int .i64 0, .int .i64 0, .slice none 0 0]) zer37 rfl rfl ?_
      intro g1 w3 eg1 hb1 hs2 hz1
      have ge1 : w.heap.size ≤ g1 := eg_ge hB eg1
      have lt1 : g < g1 := lt_of_eg hb.lt eg1
      replace hB := gb_tr hB hs2
      replace hb := hb.gb hs2
      refine L_stA (vs := [.int .i64 0, .int .i64 0, .int .i64 0, .int .i64 0, .slice none 0 0]) rfl rfl rfl sz37 rfl hb1 rfl ?_
      intro w4 hb2 hs3 hz2
      replace hB := gb_trg hB hs3 ge1
      replace hb := hb.grown hs3 (ne_lt lt1)
      refine L_run (R_assign rfl) rfl ?_
      refine L_nil (N_then (C_seq (C_seq (C_reg rfl ?_))))
      refine L_run (R_move rfl) rfl ?_
      refine L_run (R_not rfl) rfl ?_
      refine L_nil (N_then (C_condT rfl rfl (C_exit (X_then (X_miss rfl (X_then (X_hit (N_then (C_seq (C_reg rfl ?_))))))))))
      refine L_run (R_move rfl) rfl ?_
      refine L_run (R_assign rfl) rfl ?_
      refine L_nil (N_then (C_ret ?_))
      refine ret1 Tryz.results33 rfl ?_
      first
        | (exfalso; omega)
        | (exact ⟨hB, rfl⟩)
    · refine C_exit (X_then (X_then (X_hit (N_then (C_seq (C_reg rfl ?_))))))
      refine L_run (R_move rfl) rfl ?_
      refine L_run (R_assign rfl) rfl ?_
      refine L_nil (N_then (C_ret ?_))
      refine ret1 Tryz.results33 rfl ?_
      first
        | (exfalso; omega)
        | (exact ⟨hB, rfl⟩)

theorem forward_nil {w : World} {a : Int} :
    Runs Tryz.prog 29 #[.pointer none, .int .i64 a] w (fun v w' => w.grownBy w' none ∧ ∃ g, w.heap.size ≤ g ∧ v = .pointer (some ⟨g, 0, none⟩) ∧ Blk w' g 138 [.pointer none, .int .i64 a, .int .i64 0, .int .i64 0, .func (.func 93) #[] #[]]) := by
  have hB := gb_refl w none
  refine enter Tryz.func29 Tryz.ntmps29 rfl rfl ?_
  refine C_seq (C_reg rfl ?_)
  refine L_run (R_assign rfl) rfl ?_
  refine L_nil (N_then (C_seq (C_reg rfl ?_)))
  refine L_run (R_move rfl) rfl ?_
  refine L_run (R_move rfl) rfl ?_
  refine L_run (R_build (pv := [(0, .pointer none), (1, .int .i64 a), (4, .func (.func 93) #[] #[])]) (cs := [.pointer none, .int .i64 a, .int .i64 0, .int .i64 0, .func (.func 93) #[] #[]]) rfl (by kernel_rfl)) rfl ?_
  refine L_box (cs := [.pointer none, .int .i64 a, .int .i64 0, .int .i64 0, .func (.func 93) #[] #[]]) rfl rfl rfl ?_
  intro g1 w1 eg1 hb1 hs1 hz1
  have ge1 : w.heap.size ≤ g1 := eg_ge hB eg1
  replace hB := gb_tr hB hs1
  refine L_run (R_assign rfl) rfl ?_
  refine L_nil (N_then (C_ret ?_))
  refine ret1 Tryz.results29 rfl ?_
  exact ⟨hB, g1, ge1, rfl, hb1⟩

theorem backward_nil {w : World} {a : Int} :
    Runs Tryz.prog 34 #[.pointer none, .int .i64 a] w (fun v w' => w.grownBy w' none ∧ ∃ g, w.heap.size ≤ g ∧ v = .pointer (some ⟨g, 0, none⟩) ∧ Blk w' g 138 [.pointer none, .int .i64 a, .int .i64 0, .int .i64 0, .func (.func 94) #[] #[]]) := by
  have hB := gb_refl w none
  refine enter Tryz.func34 Tryz.ntmps34 rfl rfl ?_
  refine C_seq (C_reg rfl ?_)
  refine L_run (R_assign rfl) rfl ?_
  refine L_nil (N_then (C_seq (C_reg rfl ?_)))
  refine L_run (R_move rfl) rfl ?_
  refine L_run (R_move rfl) rfl ?_
  refine L_run (R_build (pv := [(0, .pointer none), (1, .int .i64 a), (4, .func (.func 94) #[] #[])]) (cs := [.pointer none, .int .i64 a, .int .i64 0, .int .i64 0, .func (.func 94) #[] #[]]) rfl (by kernel_rfl)) rfl ?_
  refine L_box (cs := [.pointer none, .int .i64 a, .int .i64 0, .int .i64 0, .func (.func 94) #[] #[]]) rfl rfl rfl ?_
  intro g1 w1 eg1 hb1 hs1 hz1
  have ge1 : w.heap.size ≤ g1 := eg_ge hB eg1
  replace hB := gb_tr hB hs1
  refine L_run (R_assign rfl) rfl ?_
  refine L_nil (N_then (C_ret ?_))
  refine ret1 Tryz.results34 rfl ?_
  exact ⟨hB, g1, ge1, rfl, hb1⟩

end Go.Proofs.YtbeafehpjjojnaaGreatDoor
