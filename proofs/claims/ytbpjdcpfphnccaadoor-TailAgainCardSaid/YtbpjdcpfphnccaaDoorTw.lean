/-
  A plain call of the law TailAgain.
-/
import Derived.Test.YtbpjdcpfphnccaaDoorTv
namespace Go.Proofs.YtbpjdcpfphnccaaDoor
open Go.RowKit Gw Pl
set_option linter.unusedVariables false
set_option linter.unusedSimpArgs false
theorem cb6 : callB Tryd.prog 6 = true := by kernel_rfl
theorem fld33_3 : fldB Tryd.prog 33 3 9 = true := by kernel_rfl
theorem again_y {w : World} {t1 lo hi t2 lo2 hi2 e pn rc pc : Nat} {ra pa : Option Addr} {ep0 seq first en0 kind0 : Int} {hs : Nat → Int} {rs : List RecX} (hT : Tbw w) (hS : Sli t1 lo hi w ra (fl encRX rs)) (hQ : DeepX t2 lo2 hi2 w rs) (hl : rs.length ≤ 1000000) (hxl : ∀ r ∈ rs, r.xs.length ≤ 1000000) (he : e < 18446744073709551616) (hk : AgnOk e seq first hs rs) : Runs Tryd.prog 6 #[.agg #[.int .u64 ep0, .int .i64 seq, .int .i64 first, .int .i64 (hs 0), .int .i64 (hs 1), .int .i64 (hs 2), .int .i64 (hs 3), .slice ra rs.length rc, .slice pa pn pc, .int .i64 en0, .int .i64 kind0], .int .u64 (e : Int)] w (fun v w' => w.grownBy w' none ∧ ∃ (rs2 : List RecX) (A1 A2 A3 : Option Addr) (c1 c2 c3 : Nat) (ss : List Sx), v = .tuple #[.agg #[.int .u64 (e : Int), .int .i64 seq, .int .i64 first, .int .i64 (hs 0), .int .i64 (hs 1), .int .i64 (hs 2), .int .i64 (hs 3), .slice A1 rs2.length c1, .slice A2 ((lP (layT e (rs.map recYX))).length) c2, .int .i64 ((lE (layT e (rs.map recYX)) : Nat) : Int), .int .i64 1], .slice A3 ss.length c3, .int .i64 0] ∧ RsEq rs2 rs ∧ World.ownsRow w' w.heap.size 48 5 (.slice A1 rs2.length c1) rs2.length (fl encRX rs2) ∧ DeepX 5 w.heap.size w'.heap.size w' rs2 ∧ World.ownsRow w' w.heap.size 3 1 (.slice A2 (lP (layT e (rs.map recYX))).length c2) (lP (layT e (rs.map recYX))).length (fl encZ (lP (layT e (rs.map recYX)))) ∧ World.ownsRow w' w.heap.size 62 64 (.slice A3 ss.length c3) ss.length (fl encX ss) ∧ bsOf ss = secsN e (rs.map recYX)) :=
  (again_ok hT hS hQ hl hxl he).mono fun v w' h => by
    obtain ⟨hB, ⟨_, h2⟩ | ⟨h1, _⟩⟩ := h
    · exact ⟨hB, h2⟩
    · exact absurd hk h1
theorem again_n {w : World} {t1 lo hi t2 lo2 hi2 e pn rc pc : Nat} {ra pa : Option Addr} {ep0 seq first en0 kind0 : Int} {hs : Nat → Int} {rs : List RecX} (hT : Tbw w) (hS : Sli t1 lo hi w ra (fl encRX rs)) (hQ : DeepX t2 lo2 hi2 w rs) (hl : rs.length ≤ 1000000) (hxl : ∀ r ∈ rs, r.xs.length ≤ 1000000) (he : e < 18446744073709551616) (hk : ¬ AgnOk e seq first hs rs) : Runs Tryd.prog 6 #[.agg #[.int .u64 ep0, .int .i64 seq, .int .i64 first, .int .i64 (hs 0), .int .i64 (hs 1), .int .i64 (hs 2), .int .i64 (hs 3), .slice ra rs.length rc, .slice pa pn pc, .int .i64 en0, .int .i64 kind0], .int .u64 (e : Int)] w (fun v w' => w.grownBy w' none ∧ v = .tuple #[.agg #[.int .u64 0, .int .i64 0, .int .i64 0, .int .i64 0, .int .i64 0, .int .i64 0, .int .i64 0, .slice none 0 0, .slice none 0 0, .int .i64 0, .int .i64 0], .slice none 0 0, .int .i64 13]) :=
  (again_ok hT hS hQ hl hxl he).mono fun v w' h => by
    obtain ⟨hB, ⟨h1, _⟩ | ⟨_, h2⟩⟩ := h
    · exact absurd h1 hk
    · exact ⟨hB, h2⟩
theorem ragain_y {w : World} {t1 lo hi t2 lo2 hi2 e pn rc pc : Nat} {ra pa : Option Addr} {ep0 seq first en0 kind0 : Int} {hs : Nat → Int} {rs : List RecX} (hS : Sli t1 lo hi w ra (fl encRX rs)) (hQ : DeepX t2 lo2 hi2 w rs) (hl : rs.length ≤ 1000000) (hxl : ∀ r ∈ rs, r.xs.length ≤ 1000000) (he : e < 18446744073709551616) (hk : AgnOk e seq first hs rs) : Runs Tryd.prog 7 #[.agg #[.int .u64 ep0, .int .i64 seq, .int .i64 first, .int .i64 (hs 0), .int .i64 (hs 1), .int .i64 (hs 2), .int .i64 (hs 3), .slice ra rs.length rc, .slice pa pn pc, .int .i64 en0, .int .i64 kind0], .int .u64 (e : Int)] w (fun v w' => w.grownBy w' none ∧ ∃ (A2 A3 : Option Addr) (c2 c3 : Nat) (ss : List Sx), v = .tuple #[.agg #[.int .u64 (e : Int), .int .i64 seq, .int .i64 first, .int .i64 (hs 0), .int .i64 (hs 1), .int .i64 (hs 2), .int .i64 (hs 3), .slice ra rs.length rc, .slice A2 ((lP (layT e (rs.map recYX))).length) c2, .int .i64 ((lE (layT e (rs.map recYX)) : Nat) : Int), .int .i64 1], .slice A3 ss.length c3, .int .i64 0] ∧ World.ownsRow w' w.heap.size 3 1 (.slice A2 (lP (layT e (rs.map recYX))).length c2) (lP (layT e (rs.map recYX))).length (fl encZ (lP (layT e (rs.map recYX)))) ∧ World.ownsRow w' w.heap.size 62 64 (.slice A3 ss.length c3) ss.length (fl encX ss) ∧ bsOf ss = secsN e (rs.map recYX)) :=
  (ragain_ok hS hQ hl hxl he).mono fun v w' h => by
    obtain ⟨hB, ⟨_, h2⟩ | ⟨h1, _⟩⟩ := h
    · exact ⟨hB, h2⟩
    · exact absurd hk h1
theorem ragain_n {w : World} {t1 lo hi t2 lo2 hi2 e pn rc pc : Nat} {ra pa : Option Addr} {ep0 seq first en0 kind0 : Int} {hs : Nat → Int} {rs : List RecX} (hS : Sli t1 lo hi w ra (fl encRX rs)) (hQ : DeepX t2 lo2 hi2 w rs) (hl : rs.length ≤ 1000000) (hxl : ∀ r ∈ rs, r.xs.length ≤ 1000000) (he : e < 18446744073709551616) (hk : ¬ AgnOk e seq first hs rs) : Runs Tryd.prog 7 #[.agg #[.int .u64 ep0, .int .i64 seq, .int .i64 first, .int .i64 (hs 0), .int .i64 (hs 1), .int .i64 (hs 2), .int .i64 (hs 3), .slice ra rs.length rc, .slice pa pn pc, .int .i64 en0, .int .i64 kind0], .int .u64 (e : Int)] w (fun v w' => w.grownBy w' none ∧ v = .tuple #[.agg #[.int .u64 0, .int .i64 0, .int .i64 0, .int .i64 0, .int .i64 0, .int .i64 0, .int .i64 0, .slice none 0 0, .slice none 0 0, .int .i64 0, .int .i64 0], .slice none 0 0, .int .i64 13]) :=
  (ragain_ok hS hQ hl hxl he).mono fun v w' h => by
    obtain ⟨hB, ⟨h1, _⟩ | ⟨_, h2⟩⟩ := h
    · exact absurd h1 hk
    · exact ⟨hB, h2⟩
theorem vput1 : vput 1 = [1] := by rw [vput_lt (by decide)]; rfl
theorem aw_rec : [(⟨1, 0, 1, 0, none, 0, []⟩ : RecX)].map recYX = [[1, 0, 1, 1]] := by
  have h1 : recB 1 0 1 0 [] = [1, 0, 1, 1] := by
    unfold recB
    rw [show (1 : Int).toNat = 1 from rfl, show ((1 : Int) - 0).toNat = 1 from rfl, vput1]
    rfl
  have h2 : RecFit 1 0 1 0 [] := ⟨by decide, by rw [h1]; decide⟩
  show [recY 1 0 1 0 []] = _
  rw [recY_yes h2, h1]
theorem aw_fit : ∀ r ∈ [(⟨1, 0, 1, 0, none, 0, []⟩ : RecX)], FitX r := by
  intro r hr
  rw [List.mem_singleton] at hr
  subst hr
  have h1 : recB 1 0 1 0 [] = [1, 0, 1, 1] := by
    unfold recB
    rw [show (1 : Int).toNat = 1 from rfl, show ((1 : Int) - 0).toNat = 1 from rfl, vput1]
    rfl
  exact ⟨by decide, by rw [h1]; decide⟩
theorem aw_ok : AgnOk 7 1 1 (arr4 0 0 0 0) [(⟨1, 0, 1, 0, none, 0, []⟩ : RecX)] := by
  refine ⟨by decide, aw_fit, ?_⟩
  rw [aw_rec]
  decide +kernel
theorem aw_end : ((lE (layT 7 ([(⟨1, 0, 1, 0, none, 0, []⟩ : RecX)].map recYX)) : Nat) : Int) = 15 := by
  rw [aw_rec]
  decide +kernel
theorem secs_16 {e : Nat} {l : List (List UInt8)} (h : (layT e l).isSome = true) : (secsN e l).length = 16 := by
  rw [(layT_len h).2]
  unfold wholeN
  rw [List.length_map, List.length_range]
theorem aw_ss {ss : List Sx} (h : bsOf ss = secsN 7 ([(⟨1, 0, 1, 0, none, 0, []⟩ : RecX)].map recYX)) : (ss.length : Int) = 16 := by
  have h1 := congrArg List.length h
  rw [secs_16 aw_ok.2.2] at h1
  unfold bsOf at h1
  rw [List.length_map] at h1
  omega
theorem ss_le {e : Nat} {l : List (List UInt8)} {ss : List Sx} (h : bsOf ss = secsN e l) : ss.length ≤ 1000000 := by
  have h1 := congrArg List.length h
  unfold bsOf at h1
  rw [List.length_map] at h1
  cases hx : (layT e l).isSome with
  | true => rw [secs_16 hx] at h1; omega
  | false => rw [layT_none hx, List.length_nil] at h1; omega
theorem awakeT {w : World} (hT : Tbw w) :
    Runs Tryd.prog 5 #[] w (fun v w' => w.grownBy w' none ∧ v = .bool true) := by
  have hB := gb_refl w none
  refine enter Tryd.func5 Tryd.ntmps5 rfl rfl ?_
  refine C_seq (C_reg rfl ?_)
  refine L_run (R_assign rfl) rfl ?_
  refine L_nil (N_then (C_seq (C_reg rfl ?_)))
  refine L_run (R_build (pv := [(0, .int .u64 1), (1, .int .i64 1), (2, .int .i64 1)]) (cs := [.int .u64 1, .int .i64 1, .int .i64 1, .int .i64 0, .int .i64 0, .int .i64 0, .int .i64 0]) rfl (by kernel_rfl)) rfl ?_
  refine L_run (R_build (pv := [(0, .int .i64 1), (2, .int .i64 1)]) (cs := [.int .i64 1, .int .i64 0, .int .i64 1, .int .i64 0, .slice none 0 0]) rfl (by kernel_rfl)) rfl ?_
  refine L_buildSlice (pv := [(0, .agg #[.int .i64 1, .int .i64 0, .int .i64 1, .int .i64 0, .slice none 0 0])]) (cs := [.int .i64 1, .int .i64 0, .int .i64 1, .int .i64 0, .slice none 0 0]) slc26 zer48 rfl rfl (by kernel_rfl) rfl ?_
  intro g1 w1 eg1 hb1 hs1 hz1
  have ge1 : w.heap.size ≤ g1 := eg_ge hB eg1
  replace hB := gb_tr hB hs1
  refine L_run (R_build (pv := [(0, .agg #[.int .u64 1, .int .i64 1, .int .i64 1, .int .i64 0, .int .i64 0, .int .i64 0, .int .i64 0]), (1, .slice (some ⟨g1, 0, none⟩) 1 1), (4, .int .i64 2)]) (cs := [.int .u64 1, .int .i64 1, .int .i64 1, .int .i64 0, .int .i64 0, .int .i64 0, .int .i64 0, .slice (some ⟨g1, 0, none⟩) 1 1, .slice none 0 0, .int .i64 0, .int .i64 2]) rfl (by kernel_rfl)) rfl ?_
  have ge2 : w.heap.size ≤ w1.heap.size := hB.size
  refine L_call rfl cb6 (again_y (e := 7) (seq := 1) (first := 1) (hs := (arr4 0 0 0 0)) (rs := [(⟨1, 0, 1, 0, none, 0, []⟩ : RecX)]) (hT.gb hB) (Blk.sli (m := 0) hb1) (DeepX.nil.snoc (t := 0) (lo := 0) (hi := 0) (lo' := 0) (hi' := 0) (y := (⟨1, 0, 1, 0, none, 0, []⟩ : RecX)) Sli.nil (Nat.le_refl _)) (by decide) (by intro r hr; rw [List.mem_singleton] at hr; subst hr; decide) (by decide) aw_ok) rfl ?_
  rintro _ w2 ⟨hs2, rs1, A_1, A_2, A_3, c_1, c_2, c_3, ss1, rfl, hRs1, ho1, hDX1, ho2, ho3, hw1⟩
  replace hB := gb_tr hB hs2
  replace hb1 := hb1.gb hs2
  have hlo1 : w1.heap.size ≤ w2.heap.size := hs2.size
  refine L_run (R_move rfl) rfl ?_
  refine L_run (R_extract rfl rfl) rfl ?_
  refine L_run (R_extract rfl rfl) rfl ?_
  refine L_run (R_extract rfl rfl) rfl ?_
  refine L_alloc (cs := [.int .u64 0, .int .i64 0, .int .i64 0, .int .i64 0, .int .i64 0, .int .i64 0, .int .i64 0, .slice none 0 0, .slice none 0 0, .int .i64 0, .int .i64 0]) zer33 rfl rfl ?_
  intro g2 w3 eg2 hb2 hs3 hz2
  have ge3 : w.heap.size ≤ g2 := eg_ge hB eg2
  have lt1 : g1 < g2 := lt_of_eg hb1.lt eg2
  replace hB := gb_tr hB hs3
  replace hb1 := hb1.gb hs3
  replace ho1 := own_gb ho1 hs3
  replace hDX1 := hDX1.gb hs3
  replace ho2 := own_gb ho2 hs3
  replace ho3 := own_gb ho3 hs3
  replace hlo1 := Nat.le_trans hlo1 hs3.size
  refine L_stA (vs := [.int .u64 7, .int .i64 1, .int .i64 1, .int .i64 0, .int .i64 0, .int .i64 0, .int .i64 0, .slice A_1 rs1.length c_1, .slice A_2 ((lP (layT 7 (([(⟨1, 0, 1, 0, none, 0, []⟩ : RecX)]).map recYX))).length) c_2, .int .i64 ((lE (layT 7 (([(⟨1, 0, 1, 0, none, 0, []⟩ : RecX)]).map recYX)) : Nat) : Int), .int .i64 1]) rfl rfl rfl sz33 rfl hb2 rfl ?_
  intro w4 hb3 hs4 hz3
  replace hB := gb_trg hB hs4 ge3
  replace hb1 := hb1.grown hs4 (ne_lt lt1)
  replace ho1 := own_other ho1 hb2 rfl hs4
  replace hDX1 := hDX1.other hb2 rfl rfl hs4
  replace ho2 := own_other ho2 hb2 rfl hs4
  replace ho3 := own_other ho3 hb2 rfl hs4
  replace hlo1 := Nat.le_trans hlo1 hs4.size
  refine L_run (R_assign rfl) rfl ?_
  refine L_run (R_assign rfl) rfl ?_
  refine L_nil (N_then (C_seq (C_reg rfl ?_)))
  refine L_run (R_move rfl) rfl ?_
  refine L_run (R_eqv (R_eql rfl rfl) (v' := .bool true) rfl) rfl ?_
  refine L_run (R_move rfl) rfl ?_
  refine L_yes rfl rfl rfl rfl ?_
  refine L_run (R_field (r := 0) rfl fld33_0 rfl) rfl ?_
  refine L_yes rfl rfl rfl rfl ?_
  refine L_run (R_field (r := 0) rfl fld25_0 rfl) rfl ?_
  refine L_yes rfl rfl rfl rfl ?_
  refine L_run (R_load1 rfl scl22 (hb3.cell (i := 0) rfl)) rfl ?_
  refine L_yes rfl rfl rfl rfl ?_
  refine L_run (R_eqv (R_eql rfl rfl) (v' := .bool true) rfl) rfl ?_
  refine L_run (R_pickT rfl rfl rfl) rfl ?_
  refine L_run (R_move rfl) rfl ?_
  refine L_yes rfl rfl rfl rfl ?_
  refine L_run (R_field (r := 9) rfl fld33_3 rfl) rfl ?_
  refine L_yes rfl rfl rfl rfl ?_
  refine L_run (R_load1 rfl scl3 (hb3.cell (i := 9) rfl)) rfl ?_
  refine L_yes rfl rfl rfl rfl ?_
  refine L_run (R_eqv (R_eql rfl rfl) (v' := .bool true) (bT' aw_end)) rfl ?_
  refine L_run (R_pickT rfl rfl rfl) rfl ?_
  refine L_run (R_move rfl) rfl ?_
  refine L_yes rfl rfl rfl rfl ?_
  refine L_run (R_field (r := 10) rfl fld33_4 rfl) rfl ?_
  refine L_yes rfl rfl rfl rfl ?_
  refine L_run (R_load1 rfl scl3 (hb3.cell (i := 10) rfl)) rfl ?_
  refine L_yes rfl rfl rfl rfl ?_
  refine L_run (R_eqv (R_eql rfl rfl) (v' := .bool true) rfl) rfl ?_
  refine L_run (R_pickT rfl rfl rfl) rfl ?_
  refine L_run (R_move rfl) rfl ?_
  refine L_yes rfl rfl rfl rfl ?_
  refine L_run (R_move rfl) rfl ?_
  refine L_yes rfl rfl rfl rfl ?_
  refine L_run (R_lenSl rfl slc34) rfl ?_
  refine L_yes rfl rfl rfl rfl ?_
  refine L_run (R_eqv (R_eql rfl rfl) (v' := .bool true) (bT' (aw_ss hw1))) rfl ?_
  refine L_run (R_pickT rfl rfl rfl) rfl ?_
  refine L_run (R_assign rfl) rfl ?_
  refine L_nil (N_then (C_ret ?_))
  refine ret1 Tryd.results5 rfl ?_
  exact ⟨hB, rfl⟩

end Go.Proofs.YtbpjdcpfphnccaaDoor
