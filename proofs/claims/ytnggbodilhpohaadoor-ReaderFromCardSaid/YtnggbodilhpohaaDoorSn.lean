/-
  Contracts of the reference of scans: what is told at a place.
-/
import Derived.Test.YtnggbodilhpohaaDoorSm
namespace Go.Proofs.YtnggbodilhpohaaDoor
open Go.RowKit Gw Pl
set_option linter.unusedVariables false
set_option linter.unusedSimpArgs false
theorem cb26 : callB Tryd.prog 26 = true := by kernel_rfl
theorem cb27 : callB Tryd.prog 27 = true := by kernel_rfl
theorem cb28 : callB Tryd.prog 28 = true := by kernel_rfl
section
variable {e a : Nat} {body : List UInt8} {ok : List Bool}
theorem acc_far (h : 832 < a + 11) : (accN e body ok a) = ((0, []), 0) := by unfold accN; rw [if_pos (.inl h)]
theorem acc_unc (h : covN ok (min a 832) (min (a + 11) 832) = false) : (accN e body ok a) = ((0, []), 0) := by
  rcases Nat.lt_or_ge 832 (a + 11) with h2 | h2
  · exact acc_far h2
  · rw [Nat.min_eq_left (by omega), Nat.min_eq_left (by omega)] at h
    unfold accN; rw [if_pos (.inr h)]
theorem acc_err (h : ¬ (fdec ((body.drop a).take (a + leftN a - a)) (e % 4294967296)).2.2 = 0) : (accN e body ok a) = ((0, []), 0) := by
  rw [Nat.add_sub_cancel_left] at h
  unfold accN
  split
  · rfl
  · rw [if_pos (.inl h)]
theorem acc_bnd (hb : body.length = 832) (ha : a ≤ 832) (h : (fdec ((body.drop a).take (a + leftN a - a)) (e % 4294967296)).2.2 = 0) : a + (fdec ((body.drop a).take (a + leftN a - a)) (e % 4294967296)).2.1 ≤ 832 ∧ 11 ≤ (fdec ((body.drop a).take (a + leftN a - a)) (e % 4294967296)).2.1 ∧ (fdec ((body.drop a).take (a + leftN a - a)) (e % 4294967296)).1.2.length + 11 = (fdec ((body.drop a).take (a + leftN a - a)) (e % 4294967296)).2.1 ∧ 1 ≤ (fdec ((body.drop a).take (a + leftN a - a)) (e % 4294967296)).1.1 ∧ (fdec ((body.drop a).take (a + leftN a - a)) (e % 4294967296)).1.1 ≤ 4 := by
  obtain ⟨a1, a2, a3, a4, a5, a6⟩ := fdec_ok h
  have hl := leftN_le ha
  rw [List.length_take, List.length_drop, hb] at a2
  exact ⟨by omega, a1, a4, a5, a6⟩
theorem acc_unc2 (hb : body.length = 832) (ha : a ≤ 832) (h : (fdec ((body.drop a).take (a + leftN a - a)) (e % 4294967296)).2.2 = 0) (h2 : covN ok (min a 832) (min (a + (fdec ((body.drop a).take (a + leftN a - a)) (e % 4294967296)).2.1) 832) = false) : (accN e body ok a) = ((0, []), 0) := by
  have h3 := acc_bnd hb ha h
  rw [Nat.min_eq_left ha, Nat.min_eq_left h3.1, Nat.add_sub_cancel_left] at h2
  unfold accN
  split
  · rfl
  · rw [if_pos (.inr h2)]
theorem acc_yes (hb : body.length = 832) (ha : a ≤ 832) (h1 : covN ok (min a 832) (min (a + 11) 832) = true) (h : (fdec ((body.drop a).take (a + leftN a - a)) (e % 4294967296)).2.2 = 0) (h2 : covN ok (min a 832) (min (a + (fdec ((body.drop a).take (a + leftN a - a)) (e % 4294967296)).2.1) 832) = true) : (accN e body ok a) = ((fdec ((body.drop a).take (a + leftN a - a)) (e % 4294967296)).1, (fdec ((body.drop a).take (a + leftN a - a)) (e % 4294967296)).2.1) := by
  have h3 := acc_bnd hb ha h
  have hl := leftN_le ha
  rw [Nat.min_eq_left ha, Nat.min_eq_left h3.1] at h2
  rw [Nat.min_eq_left ha, Nat.min_eq_left (by omega)] at h1
  rw [Nat.add_sub_cancel_left] at h h2 h3 ⊢
  unfold accN
  rw [if_neg (by rw [h1]; simp; omega), if_neg (by rw [h, h2]; simp)]
end
theorem flatB_n {ss : List Sx} {e : Nat} : (flatB (bsOf ss) e 16).length = 832 := by rw [flatB_len bsOf_len]
theorem flatO_n {ss : List Sx} {e : Nat} : (flatO (bsOf ss) e 16).length = 16 := flatO_len _ _ _
theorem from_none {e a fu : Nat} {body : List UInt8} {ok : List Bool} {o : Bool} {bs : List UInt8} (h : accN e body ok a = ((0, []), 0)) : fromN e body ok fu a o bs = none := by
  cases fu with
  | zero => rfl
  | succ f => unfold fromN; rw [if_pos (by rw [h])]
theorem from_bad {e a fu : Nat} {body : List UInt8} {ok : List Bool} {o : Bool} {bs : List UInt8} (h : (feedN o bs (accN e body ok a).1.1 (accN e body ok a).1.2).2.2.2 ≠ 0) : fromN e body ok fu a o bs = none := by
  cases fu with
  | zero => rfl
  | succ f =>
    rw [fromN]
    by_cases h0 : (accN e body ok a).2 = 0
    · rw [if_pos h0]
    · rw [if_neg h0, if_pos h]
theorem from_step {e a fu : Nat} {body : List UInt8} {ok : List Bool} {o : Bool} {bs : List UInt8} (hf : 0 < fu) (h0 : (accN e body ok a).2 ≠ 0) (h : (feedN o bs (accN e body ok a).1.1 (accN e body ok a).1.2).2.2.2 = 0) :
    fromN e body ok fu a o bs = if (feedN o bs (accN e body ok a).1.1 (accN e body ok a).1.2).2.2.1 = true then some ((feedN o bs (accN e body ok a).1.1 (accN e body ok a).1.2).2.1, a + (accN e body ok a).2)
      else fromN e body ok (fu - 1) (beginN (a + (accN e body ok a).2)) true (feedN o bs (accN e body ok a).1.1 (accN e body ok a).1.2).1.2 := by
  obtain ⟨f, rfl⟩ : ∃ f, fu = f + 1 := ⟨fu - 1, by omega⟩
  rw [fromN, if_neg h0, if_neg (by rw [h]; simp)]
  rfl
theorem begin_go {a n : Nat} (hn : 11 ≤ n) (h : a + n ≤ 832) : a < beginN (a + n) ∧ beginN (a + n) ≤ 832 := by
  have := beginN_le h
  omega
/-- What stands at a place of any sectors. -/
def fromR (ss : List Sx) (e : Nat) (z : Int) : Option (List UInt8 × Nat) := if z < 0 ∨ 832 ≤ z then none else fromN e (flatB (bsOf ss) e 16) (flatO (bsOf ss) e 16) 833 z.toNat false []
def xb : Option (List UInt8 × Nat) → List UInt8
  | some p => p.1
  | none => []
def xe : Option (List UInt8 × Nat) → Nat
  | some p => p.2
  | none => 0
theorem acc_ok {w : World} {t1 lo hi t2 lo2 hi2 : Nat} {A A2 : Option Addr} {c c2 e a : Nat} {body : List UInt8} {oks : List Bool} (hS : Sli t1 lo hi w A (fl encB body)) (hO : Sli t2 lo2 hi2 w A2 (fl encO oks)) (hbl : body.length = 832) (hc : body.length ≤ c) (ha : a ≤ 832) :
    Runs Tryd.prog 13 #[.int .u64 (e : Int), .slice A body.length c, .slice A2 oks.length c2, .int .i64 (a : Int)] w (fun v w' => w.grownBy w' none ∧ ∃ E A' c', v = .tuple #[.agg #[.int .i64 (((accN e body oks a).1.1 : Nat) : Int), .int .u32 E, .slice A' (accN e body oks a).1.2.length c'], .int .i64 (((accN e body oks a).2 : Nat) : Int)] ∧ World.ownsRow w' w.heap.size 5 1 (.slice A' ((accN e body oks a).1.2).length c') ((accN e body oks a).1.2).length (fl encB ((accN e body oks a).1.2))) := by
  have hB := gb_refl w none
  have hll := leftN_le ha
  replace hS := hS.top
  replace hO := hO.top
  refine enter Tryd.func13 Tryd.ntmps13 rfl rfl ?_
  refine C_seq (C_reg rfl ?_)
  refine L_alloc (cs := [.int .i64 0, .int .u32 0, .slice none 0 0]) zer43 rfl rfl ?_
  intro g1 w1 eg1 hb1 hs1 hz1
  have ge1 : w.heap.size ≤ g1 := eg_ge hB eg1
  replace hB := gb_tr hB hs1
  replace hS := hS.gb hs1
  replace hO := hO.gb hs1
  refine L_run (R_assign rfl) rfl ?_
  refine L_nil (N_then (C_seq (C_seq (C_reg rfl ?_))))
  refine L_run (R_move rfl) rfl ?_
  refine L_run (R_add64 rfl rfl (by first | omega | (have h_ := acc_bnd hbl ha (by assumption); omega))) rfl ?_
  refine L_run (R_gtr rfl rfl) rfl ?_
  refine L_run (R_move rfl) rfl ?_
  refine L_splitD (p := 832 < ((a : Int) + 11)) (fun h1 => ?_) (fun h1 => ?_)
  · refine L_no rfl rfl rfl (decide_eq_true h1) rfl ?_
    refine L_no rfl rfl rfl (decide_eq_true h1) rfl ?_
    refine L_no rfl rfl rfl (decide_eq_true h1) rfl ?_
    refine L_no rfl rfl rfl (decide_eq_true h1) rfl ?_
    refine L_no rfl rfl rfl (decide_eq_true h1) rfl ?_
    refine L_no rfl rfl rfl (decide_eq_true h1) rfl ?_
    refine L_run (R_pickT rfl (decide_eq_true h1) rfl) rfl ?_
    refine L_nil (N_then (C_condT rfl rfl (C_seq (C_reg rfl ?_))))
    refine L_run (R_build (pv := []) (cs := [.int .i64 0, .int .u32 0, .slice none 0 0]) rfl (by kernel_rfl)) rfl ?_
    refine L_stA (vs := [.int .i64 0, .int .u32 0, .slice none 0 0]) rfl rfl rfl sz43 rfl hb1 rfl ?_
    intro w2 hb2 hs2 hz2
    replace hB := gb_trg hB hs2 ge1
    replace hS := hS.old hs2 ge1
    replace hO := hO.old hs2 ge1
    refine L_run (R_assign rfl) rfl ?_
    refine L_nil (N_then (C_ret (R_then ?_)))
    refine retC1 (vs := [.int .i64 0, .int .u32 0, .slice none 0 0]) Tryd.results13 rfl agg43 (At.pre (hb2.at_ 0) rfl) rfl rfl ?_
    have hf : accN e body oks a = _ := acc_far (by omega)
    exact ⟨hB, 0, none, 0, by first | (rw [hf]; done) | (rw [hf]; rfl), by rw [hf]; exact own_nil _ _ _ _⟩
  · refine L_yes rfl rfl rfl (decide_eq_false h1) ?_
    refine L_run (R_move rfl) rfl ?_
    refine L_yes rfl rfl rfl (decide_eq_false h1) ?_
    refine L_run (R_move rfl) rfl ?_
    refine L_yes rfl rfl rfl (decide_eq_false h1) ?_
    refine L_run (R_move rfl) rfl ?_
    refine L_yes rfl rfl rfl (decide_eq_false h1) ?_
    refine L_run (R_add64 rfl rfl (by first | omega | (have h_ := acc_bnd hbl ha (by assumption); omega))) rfl ?_
    refine L_yes rfl rfl rfl (decide_eq_false h1) ?_
    refine L_call rfl cb26 (cov16 (ok := oks) (a := a) (b := (a + 11)) hO) rfl ?_
    rintro _ w3 ⟨hs3, rfl⟩
    replace hB := gb_tr hB hs3
    replace hS := hS.gb hs3
    replace hO := hO.gb hs3
    replace hb1 := hb1.gb hs3
    refine L_yes rfl rfl rfl (decide_eq_false h1) ?_
    refine L_run (R_not rfl) rfl ?_
    refine L_run (R_pickF rfl (decide_eq_false h1) rfl) rfl ?_
    refine L_nil (N_then ?_)
    refine C_cond rfl (fun h2 => ?_) (fun h2 => ?_)
    · refine C_seq (C_reg rfl ?_)
      refine L_run (R_build (pv := []) (cs := [.int .i64 0, .int .u32 0, .slice none 0 0]) rfl (by kernel_rfl)) rfl ?_
      refine L_stA (vs := [.int .i64 0, .int .u32 0, .slice none 0 0]) rfl rfl rfl sz43 rfl hb1 rfl ?_
      intro w4 hb3 hs4 hz3
      replace hB := gb_trg hB hs4 ge1
      replace hS := hS.old hs4 ge1
      replace hO := hO.old hs4 ge1
      refine L_run (R_assign rfl) rfl ?_
      refine L_nil (N_then (C_ret (R_then ?_)))
      refine retC1 (vs := [.int .i64 0, .int .u32 0, .slice none 0 0]) Tryd.results13 rfl agg43 (At.pre (hb3.at_ 0) rfl) rfl rfl ?_
      have hf : accN e body oks a = _ := acc_unc (by simpa using h2)
      exact ⟨hB, 0, none, 0, by first | (rw [hf]; done) | (rw [hf]; rfl), by rw [hf]; exact own_nil _ _ _ _⟩
    · refine C_skip (N_then (C_seq (C_reg rfl ?_)))
      refine L_run (R_move rfl) rfl ?_
      refine L_run (R_move rfl) rfl ?_
      refine L_run (R_move rfl) rfl ?_
      refine L_run (R_move rfl) rfl ?_
      refine L_call rfl cb28 (left7 (n := a) (by first | omega | (simp; done) | (simp; omega))) rfl ?_
      rintro _ w5 ⟨hs5, rfl⟩
      replace hB := gb_tr hB hs5
      replace hS := hS.gb hs5
      replace hO := hO.gb hs5
      replace hb1 := hb1.gb hs5
      refine L_run (R_add64 rfl rfl (by first | omega | (have h_ := acc_bnd hbl ha (by assumption); omega))) rfl ?_
      refine T_slLH (xs := body) (i := a) (j := (a + (leftN a))) EncB rfl rfl rfl (by first | rfl | omega) (by first | rfl | omega) slc25 (by first | omega | (simp; done) | (simp; omega)) (by first | omega | (simp; done) | (simp; omega)) (by first | omega | (simp; done) | (simp; omega)) hS rfl ?_
      intro A_1 hS_1
      refine L_run (R_move rfl) rfl ?_
      refine L_run (R_eqv (R_rem rfl rfl (by first | decide | omega)) (v' := .int .u64 ((e % 4294967296 : Nat) : Int)) (remU (k := 4294967296))) rfl ?_
      refine L_run (R_eqv (R_conv rfl any22 int41) (v' := .int .u32 ((e % 4294967296 : Nat) : Int)) (congrArg _ (by rw [IntKind.wrap_u32]; omega))) rfl ?_
      have ge2 : w.heap.size ≤ w5.heap.size := hB.size
      by_cases h3 : (fdec ((body.drop a).take ((a + (leftN a)) - a)) (e % 4294967296)).2.2 = 0
      · refine L_call rfl cb27 (dec13_y (bs := (body.drop a).take ((a + (leftN a)) - a)) (ep := (e % 4294967296)) hS_1 (by simp only [List.length_take, List.length_drop]; omega) (by simp only [List.length_take, List.length_drop]; omega) (by omega)  h3) rfl ?_
        rintro _ w6 ⟨hs6, A_2, c_1, rfl, ho1⟩
        replace hB := gb_tr hB hs6
        replace hS := hS.gb hs6
        replace hO := hO.gb hs6
        replace hb1 := hb1.gb hs6
        replace hS_1 := hS_1.gb hs6
        have hlo1 : w5.heap.size ≤ w6.heap.size := hs6.size
        refine L_run (R_move rfl) rfl ?_
        refine L_run (R_extract rfl rfl) rfl ?_
        refine L_run (R_extract rfl rfl) rfl ?_
        refine L_run (R_extract rfl rfl) rfl ?_
        refine L_alloc (cs := [.int .i64 0, .int .u32 0, .slice none 0 0]) zer43 rfl rfl ?_
        intro g2 w7 eg2 hb4 hs7 hz4
        have ge3 : w.heap.size ≤ g2 := eg_ge hB eg2
        have lt1 : g1 < g2 := lt_of_eg hb1.lt eg2
        replace hB := gb_tr hB hs7
        replace hS := hS.gb hs7
        replace hO := hO.gb hs7
        replace hb1 := hb1.gb hs7
        replace hS_1 := hS_1.gb hs7
        replace ho1 := own_gb ho1 hs7
        replace hlo1 := Nat.le_trans hlo1 hs7.size
        refine L_stA (vs := [.int .i64 (((fdec ((body.drop a).take ((a + (leftN a)) - a)) (e % 4294967296)).1.1 : Nat) : Int), .int .u32 ((e % 4294967296 : Nat) : Int), .slice A_2 (((fdec ((body.drop a).take ((a + (leftN a)) - a)) (e % 4294967296)).1.2).length) c_1]) rfl rfl rfl sz43 rfl hb4 rfl ?_
        intro w8 hb5 hs8 hz5
        replace hB := gb_trg hB hs8 ge3
        replace hS := hS.old hs8 ge3
        replace hO := hO.old hs8 ge3
        replace hb1 := hb1.grown hs8 (ne_lt lt1)
        replace hS_1 := hS_1.old hs8 ge3
        replace ho1 := own_other ho1 hb4 rfl hs8
        replace hlo1 := Nat.le_trans hlo1 hs8.size
        refine L_run (R_assign rfl) rfl ?_
        refine L_run (R_assign rfl) rfl ?_
        refine L_nil (N_then (C_seq (C_seq (C_reg rfl ?_))))
        refine L_run (R_move rfl) rfl ?_
        refine L_run (R_eqv (R_neq rfl rfl) (v' := .bool false) rfl) rfl ?_
        refine L_run (R_move rfl) rfl ?_
        refine L_yes rfl rfl rfl rfl ?_
        refine L_run (R_move rfl) rfl ?_
        refine L_yes rfl rfl rfl rfl ?_
        refine L_run (R_move rfl) rfl ?_
        refine L_yes rfl rfl rfl rfl ?_
        refine L_run (R_move rfl) rfl ?_
        refine L_yes rfl rfl rfl rfl ?_
        refine L_run (R_move rfl) rfl ?_
        refine L_yes rfl rfl rfl rfl ?_
        refine L_run (R_add64 rfl rfl (by first | omega | (have h_ := acc_bnd hbl ha (by assumption); omega))) rfl ?_
        refine L_yes rfl rfl rfl rfl ?_
        refine L_call rfl cb26 (cov16 (ok := oks) (a := a) (b := (a + ((fdec ((body.drop a).take ((a + (leftN a)) - a)) (e % 4294967296)).2.1))) hO) rfl ?_
        rintro _ w9 ⟨hs9, rfl⟩
        replace hB := gb_tr hB hs9
        replace hS := hS.gb hs9
        replace hO := hO.gb hs9
        replace hb1 := hb1.gb hs9
        replace hS_1 := hS_1.gb hs9
        replace ho1 := own_gb ho1 hs9
        replace hlo1 := Nat.le_trans hlo1 hs9.size
        replace hb5 := hb5.gb hs9
        refine L_yes rfl rfl rfl rfl ?_
        refine L_run (R_not rfl) rfl ?_
        refine L_run (R_pickF rfl rfl rfl) rfl ?_
        refine L_nil (N_then ?_)
        refine C_cond rfl (fun h4 => ?_) (fun h4 => ?_)
        · refine C_seq (C_reg rfl ?_)
          refine L_run (R_build (pv := []) (cs := [.int .i64 0, .int .u32 0, .slice none 0 0]) rfl (by kernel_rfl)) rfl ?_
          refine L_stA (vs := [.int .i64 0, .int .u32 0, .slice none 0 0]) rfl rfl rfl sz43 rfl hb1 rfl ?_
          intro w10 hb6 hs10 hz6
          replace hB := gb_trg hB hs10 ge1
          replace hS := hS.old hs10 ge1
          replace hO := hO.old hs10 ge1
          replace hS_1 := hS_1.old hs10 ge1
          replace ho1 := own_other ho1 hb1 rfl hs10
          replace hlo1 := Nat.le_trans hlo1 hs10.size
          replace hb5 := hb5.grown hs10 (ne_gt lt1)
          refine L_run (R_assign rfl) rfl ?_
          refine L_nil (N_then (C_ret (R_then ?_)))
          refine retC1 (vs := [.int .i64 0, .int .u32 0, .slice none 0 0]) Tryd.results13 rfl agg43 (At.pre (hb6.at_ 0) rfl) rfl rfl ?_
          have hf : accN e body oks a = _ := acc_unc2 hbl (by omega) h3 (by simpa using h4)
          exact ⟨hB, 0, none, 0, by first | (rw [hf]; done) | (rw [hf]; rfl), by rw [hf]; exact own_nil _ _ _ _⟩
        · refine C_skip (N_then (C_seq (C_reg rfl ?_)))
          refine L_run (R_loadA (vs := [.int .i64 (((fdec ((body.drop a).take ((a + (leftN a)) - a)) (e % 4294967296)).1.1 : Nat) : Int), .int .u32 ((e % 4294967296 : Nat) : Int), .slice A_2 (((fdec ((body.drop a).take ((a + (leftN a)) - a)) (e % 4294967296)).1.2).length) c_1]) rfl agg43 (At.pre (hb5.at_ 0) rfl) rfl) rfl ?_
          refine L_run (R_move rfl) rfl ?_
          refine L_stA (vs := [.int .i64 (((fdec ((body.drop a).take ((a + (leftN a)) - a)) (e % 4294967296)).1.1 : Nat) : Int), .int .u32 ((e % 4294967296 : Nat) : Int), .slice A_2 (((fdec ((body.drop a).take ((a + (leftN a)) - a)) (e % 4294967296)).1.2).length) c_1]) rfl rfl rfl sz43 rfl hb1 rfl ?_
          intro w11 hb7 hs11 hz7
          replace hB := gb_trg hB hs11 ge1
          replace hS := hS.old hs11 ge1
          replace hO := hO.old hs11 ge1
          replace hS_1 := hS_1.old hs11 ge1
          replace ho1 := own_other ho1 hb1 rfl hs11
          replace hlo1 := Nat.le_trans hlo1 hs11.size
          replace hb5 := hb5.grown hs11 (ne_gt lt1)
          refine L_run (R_assign rfl) rfl ?_
          refine L_nil (N_then (C_ret ?_))
          refine retC1 (vs := [.int .i64 (((fdec ((body.drop a).take ((a + (leftN a)) - a)) (e % 4294967296)).1.1 : Nat) : Int), .int .u32 ((e % 4294967296 : Nat) : Int), .slice A_2 (((fdec ((body.drop a).take ((a + (leftN a)) - a)) (e % 4294967296)).1.2).length) c_1]) Tryd.results13 rfl agg43 (At.pre (hb7.at_ 0) rfl) rfl rfl ?_
          have hf : accN e body oks a = _ := acc_yes hbl (by omega) (by simpa using h2) h3 (by simpa using h4)
          exact ⟨hB, ((e % 4294967296 : Nat) : Int), A_2, c_1, by first | (rw [hf]; done) | (rw [hf]; rfl), by rw [hf]; exact (own_lo ho1 ge2)⟩
      · refine L_call rfl cb27 (dec13_n (bs := (body.drop a).take ((a + (leftN a)) - a)) (ep := (e % 4294967296)) hS_1 (by simp only [List.length_take, List.length_drop]; omega) (by simp only [List.length_take, List.length_drop]; omega) (by omega)  h3) rfl ?_
        rintro _ w12 ⟨hs12, rfl⟩
        replace hB := gb_tr hB hs12
        replace hS := hS.gb hs12
        replace hO := hO.gb hs12
        replace hb1 := hb1.gb hs12
        replace hS_1 := hS_1.gb hs12
        refine L_run (R_move rfl) rfl ?_
        refine L_run (R_extract rfl rfl) rfl ?_
        refine L_run (R_extract rfl rfl) rfl ?_
        refine L_run (R_extract rfl rfl) rfl ?_
        refine L_alloc (cs := [.int .i64 0, .int .u32 0, .slice none 0 0]) zer43 rfl rfl ?_
        intro g3 w13 eg3 hb8 hs13 hz8
        have ge4 : w.heap.size ≤ g3 := eg_ge hB eg3
        have lt2 : g1 < g3 := lt_of_eg hb1.lt eg3
        replace hB := gb_tr hB hs13
        replace hS := hS.gb hs13
        replace hO := hO.gb hs13
        replace hb1 := hb1.gb hs13
        replace hS_1 := hS_1.gb hs13
        refine L_stA (vs := [.int .i64 0, .int .u32 0, .slice none 0 0]) rfl rfl rfl sz43 rfl hb8 rfl ?_
        intro w14 hb9 hs14 hz9
        replace hB := gb_trg hB hs14 ge4
        replace hS := hS.old hs14 ge4
        replace hO := hO.old hs14 ge4
        replace hb1 := hb1.grown hs14 (ne_lt lt2)
        replace hS_1 := hS_1.old hs14 ge4
        refine L_run (R_assign rfl) rfl ?_
        refine L_run (R_assign rfl) rfl ?_
        refine L_nil (N_then (C_seq (C_seq (C_reg rfl ?_))))
        refine L_run (R_move rfl) rfl ?_
        refine L_run (R_neq rfl rfl) rfl ?_
        refine L_run (R_move rfl) rfl ?_
        refine L_no rfl rfl rfl (decide_eq_true h3) rfl ?_
        refine L_no rfl rfl rfl (decide_eq_true h3) rfl ?_
        refine L_no rfl rfl rfl (decide_eq_true h3) rfl ?_
        refine L_no rfl rfl rfl (decide_eq_true h3) rfl ?_
        refine L_no rfl rfl rfl (decide_eq_true h3) rfl ?_
        refine L_no rfl rfl rfl (decide_eq_true h3) rfl ?_
        refine L_no rfl rfl rfl (decide_eq_true h3) rfl ?_
        refine L_run (R_pickT rfl (decide_eq_true h3) rfl) rfl ?_
        refine L_nil (N_then (C_condT rfl rfl (C_seq (C_reg rfl ?_))))
        refine L_run (R_build (pv := []) (cs := [.int .i64 0, .int .u32 0, .slice none 0 0]) rfl (by kernel_rfl)) rfl ?_
        refine L_stA (vs := [.int .i64 0, .int .u32 0, .slice none 0 0]) rfl rfl rfl sz43 rfl hb1 rfl ?_
        intro w15 hb10 hs15 hz10
        replace hB := gb_trg hB hs15 ge1
        replace hS := hS.old hs15 ge1
        replace hO := hO.old hs15 ge1
        replace hS_1 := hS_1.old hs15 ge1
        replace hb9 := hb9.grown hs15 (ne_gt lt2)
        refine L_run (R_assign rfl) rfl ?_
        refine L_nil (N_then (C_ret (R_then ?_)))
        refine retC1 (vs := [.int .i64 0, .int .u32 0, .slice none 0 0]) Tryd.results13 rfl agg43 (At.pre (hb10.at_ 0) rfl) rfl rfl ?_
        have hf : accN e body oks a = _ := acc_err h3
        exact ⟨hB, 0, none, 0, by first | (rw [hf]; done) | (rw [hf]; rfl), by rw [hf]; exact own_nil _ _ _ _⟩

end Go.Proofs.YtnggbodilhpohaaDoor
