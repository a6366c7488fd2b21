/-
  Contracts of the reference of places, and of what is covered.
-/
import Derived.Test.YtnggbodilhpohaaDoorSa
namespace Go.Proofs.YtnggbodilhpohaaDoor
open Go.RowKit Gw Pl
set_option linter.unusedVariables false
set_option linter.unusedSimpArgs false
theorem cb29 : callB Tryd.prog 29 = true := by kernel_rfl
theorem cb30 : callB Tryd.prog 30 = true := by kernel_rfl
theorem cb32 : callB Tryd.prog 32 = true := by kernel_rfl
theorem cb35 : callB Tryd.prog 35 = true := by kernel_rfl
theorem scl4 : sclB Tryd.prog 4 = true := by kernel_rfl
theorem slc47 : slcB Tryd.prog 47 4 1 1 = true := by kernel_rfl
theorem touch_le {a b : Nat} : (touchN (min a 832) (min b 832)).2 ≤ 16 ∧ (touchN (min a 832) (min b 832)).1 ≤ 16 := by
  unfold touchN
  split
  · exact ⟨by show (min b 832 - 1) / 52 + 1 ≤ 16; omega, by show min a 832 / 52 ≤ 16; omega⟩
  · exact ⟨by decide, by decide⟩
def encO (b : Bool) : List Value := [.bool b]
theorem EncO : Enc encO 1 := ⟨fun _ => rfl, fun _ => rfl⟩
theorem covN_false {ok : List Bool} {a b i : Nat} (h1 : (touchN a b).1 ≤ i) (h2 : i < (touchN a b).2) (h : ok.getD i false = false) : covN ok a b = false := by
  unfold covN
  rw [List.all_eq_false]
  exact ⟨i, by rw [List.mem_range']; exact ⟨i - (touchN a b).1, by omega, by omega⟩, by rw [h]; decide⟩
theorem covN_true {ok : List Bool} {a b i : Nat} (h2 : ¬ i < (touchN a b).2) (h : ∀ j, (touchN a b).1 ≤ j → j < i → ok.getD j false = true) : covN ok a b = true := by
  unfold covN
  rw [List.all_eq_true]
  intro x hx
  rw [List.mem_range'] at hx
  obtain ⟨y, hy, rfl⟩ := hx
  exact h _ (by omega) (by omega)
theorem getD_out {ok : List Bool} {i : Nat} (h : ok.length ≤ i) : ok.getD i false = false := by
  rw [List.getD_eq_getElem?_getD, List.getElem?_eq_none h]; rfl
theorem getD_in {ok : List Bool} {i : Nat} (h : i < ok.length) : ok.getD i false = ok[i] := by
  rw [List.getD_eq_getElem?_getD, List.getElem?_eq_getElem h]; rfl
theorem cov_step {ok : List Bool} {lo i : Nat} (h : ∀ j, lo ≤ j → j < i → ok.getD j false = true) (hi : i < ok.length) (hv : ok[i] = true) : ∀ j, lo ≤ j → j < i + 1 → ok.getD j false = true := by
  intro j h1 h2
  rcases Nat.lt_or_ge j i with h3 | h3
  · exact h j h1 h3
  · obtain rfl : j = i := by omega
    rw [getD_in hi]; exact hv
theorem near7 {w : World} {n : Nat} :
    Runs Tryd.prog 29 #[.int .i64 (n : Int)] w (fun v w' => w.grownBy w' none ∧ v = .int .i64 ((min n 832 : Nat) : Int)) := by
  have hB := gb_refl w none
  refine enter Tryd.func29 Tryd.ntmps29 rfl rfl ?_
  refine C_seq (C_reg rfl ?_)
  refine L_run (R_assign rfl) rfl ?_
  refine L_nil (N_then (C_seq (C_seq (C_reg rfl ?_))))
  refine L_run (R_move rfl) rfl ?_
  refine L_run (R_lss rfl rfl) rfl ?_
  refine L_nil (N_then ?_)
  refine C_if rfl (fun h1 => ?_) (fun h1 => ?_)
  · refine C_seq (C_reg rfl ?_)
    refine L_run (R_assign rfl) rfl ?_
    refine L_nil (N_then (C_ret (R_then ?_)))
    refine ret1 Tryd.results29 rfl ?_
    first
      | (exfalso; omega)
      | (refine ⟨hB, congrArg (Value.int .i64) ?_⟩
         omega)
  · refine C_skip (N_then (C_seq (C_seq (C_reg rfl ?_))))
    refine L_run (R_move rfl) rfl ?_
    refine L_run (R_gtr rfl rfl) rfl ?_
    refine L_nil (N_then ?_)
    refine C_if rfl (fun h2 => ?_) (fun h2 => ?_)
    · refine C_seq (C_reg rfl ?_)
      refine L_run (R_assign rfl) rfl ?_
      refine L_nil (N_then (C_ret (R_then ?_)))
      refine ret1 Tryd.results29 rfl ?_
      first
        | (exfalso; omega)
        | (refine ⟨hB, congrArg (Value.int .i64) ?_⟩
           omega)
    · refine C_skip (N_then (C_seq (C_reg rfl ?_)))
      refine L_run (R_move rfl) rfl ?_
      refine L_run (R_assign rfl) rfl ?_
      refine L_nil (N_then (C_ret ?_))
      refine ret1 Tryd.results29 rfl ?_
      first
        | (exfalso; omega)
        | (refine ⟨hB, congrArg (Value.int .i64) ?_⟩
           omega)

theorem where7 {w : World} {n : Nat} (hn : n ≤ 832) :
    Runs Tryd.prog 30 #[.int .i64 (n : Int)] w (fun v w' => w.grownBy w' none ∧ v = .tuple #[.int .i64 ((n / 52 : Nat) : Int), .int .i64 ((n % 52 : Nat) : Int)]) := by
  have hB := gb_refl w none
  refine enter Tryd.func30 Tryd.ntmps30 rfl rfl ?_
  refine C_seq (C_reg rfl ?_)
  refine L_run (R_assign rfl) rfl ?_
  refine L_run (R_assign rfl) rfl ?_
  refine L_nil (N_then (C_seq (C_reg rfl ?_)))
  refine L_run (R_assign rfl) rfl ?_
  refine L_nil (N_then (C_seq (C_reg rfl ?_)))
  refine L_run (R_assign rfl) rfl ?_
  refine L_nil (N_then (C_seq (C_seq (C_reg rfl ?_))))
  refine L_run (R_assign rfl) rfl ?_
  refine L_nil (N_then (C_block ?_))
  refine C_loop (fun m_ a_ w_ => ∃ (σ_ : Nat → Value) (a : Nat) (b : Nat) (i : Nat), a_ = Ac 21 σ_ [] [(0, .int .i64 (n : Int)), (4, .int .i64 (a : Int)), (5, .int .i64 (b : Int)), (6, .int .i64 (i : Int))] ∧ w.grownBy w_ none ∧ (52 * a + b = i) ∧ (b < 52) ∧ (i ≤ n) ∧ n - i = m_) (n - 0) ?_ ?_
  · exact ⟨_, 0, 0, 0, Ac_frg ⟨rfl, (agr rfl (by first | rfl | (congr 1; omega) | (congr 1; simp; done) | (congr 1; simp only [IntKind.wrap_u64, IntKind.wrap_i64, IntKind.wrap_u8]; omega) | (congr 1 <;> omega))), (agr rfl (by first | rfl | (congr 1; omega) | (congr 1; simp; done) | (congr 1; simp only [IntKind.wrap_u64, IntKind.wrap_i64, IntKind.wrap_u8]; omega) | (congr 1 <;> omega))), (agr rfl (by first | rfl | (congr 1; omega) | (congr 1; simp; done) | (congr 1; simp only [IntKind.wrap_u64, IntKind.wrap_i64, IntKind.wrap_u8]; omega) | (congr 1 <;> omega))), trivial⟩, hB, (by omega), (by omega), (by omega), rfl⟩
  · clear hB
    rintro m_ a_ w1 ⟨σ_, a, b, i, rfl, hB, hab, hb, hi, rfl⟩
    refine C_seq (C_seq (C_reg rfl ?_))
    refine L_run (R_move rfl) rfl ?_
    refine L_run (R_move rfl) rfl ?_
    refine L_call rfl cb29 (near7 (n := n)) rfl ?_
    rintro _ w2 ⟨hs1, rfl⟩
    replace hB := gb_tr hB hs1
    refine L_run (R_lss rfl rfl) rfl ?_
    refine L_nil (N_then ?_)
    refine C_if rfl (fun h1 => ?_) (fun h1 => ?_)
    · refine C_skip (N_then (C_seq (C_block (C_seq (C_reg rfl ?_)))))
      refine L_run (R_move rfl) rfl ?_
      refine L_run (R_add64 rfl rfl (by omega)) rfl ?_
      refine L_run (R_assign rfl) rfl ?_
      refine L_nil (N_then (C_seq (C_reg rfl ?_)))
      refine L_run (R_move rfl) rfl ?_
      refine L_run (R_eql rfl rfl) rfl ?_
      refine L_nil (N_then ?_)
      refine C_if rfl (fun h2 => ?_) (fun h2 => ?_)
      · refine C_seq (C_reg rfl ?_)
        refine L_run (R_move rfl) rfl ?_
        refine L_run (R_add64 rfl rfl (by omega)) rfl ?_
        refine L_run (R_assign rfl) rfl ?_
        refine L_nil (N_then (C_reg rfl ?_))
        refine L_run (R_assign rfl) rfl ?_
        refine L_nil (N_in (N_then (C_reg rfl ?_)))
        refine L_run (R_move rfl) rfl ?_
        refine L_run (R_add64 rfl rfl (by omega)) rfl ?_
        refine L_run (R_assign rfl) rfl ?_
        refine L_nil (N_then ?_)
        exact ⟨n - (i + 1), by omega, _, (a + 1), 0, (i + 1), Ac_frg ⟨rfl, (agr rfl (by first | rfl | (congr 1; omega) | (congr 1; simp; done) | (congr 1; simp only [IntKind.wrap_u64, IntKind.wrap_i64, IntKind.wrap_u8]; omega) | (congr 1 <;> omega))), (agr rfl (by first | rfl | (congr 1; omega) | (congr 1; simp; done) | (congr 1; simp only [IntKind.wrap_u64, IntKind.wrap_i64, IntKind.wrap_u8]; omega) | (congr 1 <;> omega))), (agr rfl (by first | rfl | (congr 1; omega) | (congr 1; simp; done) | (congr 1; simp only [IntKind.wrap_u64, IntKind.wrap_i64, IntKind.wrap_u8]; omega) | (congr 1 <;> omega))), trivial⟩, hB, (by omega), (by omega), (by omega), rfl⟩
      · refine C_skip (N_in (N_then (C_reg rfl ?_)))
        refine L_run (R_move rfl) rfl ?_
        refine L_run (R_add64 rfl rfl (by omega)) rfl ?_
        refine L_run (R_assign rfl) rfl ?_
        refine L_nil (N_then ?_)
        exact ⟨n - (i + 1), by omega, _, a, (b + 1), (i + 1), Ac_frg ⟨rfl, rfl, (agr rfl (by first | rfl | (congr 1; omega) | (congr 1; simp; done) | (congr 1; simp only [IntKind.wrap_u64, IntKind.wrap_i64, IntKind.wrap_u8]; omega) | (congr 1 <;> omega))), (agr rfl (by first | rfl | (congr 1; omega) | (congr 1; simp; done) | (congr 1; simp only [IntKind.wrap_u64, IntKind.wrap_i64, IntKind.wrap_u8]; omega) | (congr 1 <;> omega))), trivial⟩, hB, (by omega), (by omega), (by omega), rfl⟩
    · refine C_exit (X_then (X_then (X_hit (N_then (C_seq (C_reg rfl ?_))))))
      refine L_run (R_move rfl) rfl ?_
      refine L_run (R_move rfl) rfl ?_
      refine L_run (R_assign rfl) rfl ?_
      refine L_run (R_assign rfl) rfl ?_
      refine L_nil (N_then (C_ret ?_))
      refine ret2 Tryd.results30 rfl rfl ?_
      first
        | (exfalso; omega)
        | (obtain rfl : n = i := by omega
           exact ⟨hB, by rw [show n / 52 = a by omega, show n % 52 = b by omega]⟩)

theorem left7 {w : World} {n : Nat} (hn : n ≤ 832) :
    Runs Tryd.prog 28 #[.int .i64 (n : Int)] w (fun v w' => w.grownBy w' none ∧ v = .int .i64 ((leftN n : Nat) : Int)) := by
  have hB := gb_refl w none
  refine enter Tryd.func28 Tryd.ntmps28 rfl rfl ?_
  refine C_seq (C_reg rfl ?_)
  refine L_run (R_assign rfl) rfl ?_
  refine L_nil (N_then (C_seq (C_reg rfl ?_)))
  refine L_run (R_assign rfl) rfl ?_
  refine L_nil (N_then (C_seq (C_reg rfl ?_)))
  refine L_run (R_move rfl) rfl ?_
  refine L_call rfl cb29 (near7 (n := n)) rfl ?_
  rintro _ w1 ⟨hs1, rfl⟩
  replace hB := gb_tr hB hs1
  refine L_run (R_assign rfl) rfl ?_
  refine L_nil (N_then (C_seq (C_block ?_)))
  refine C_loop (fun m_ a_ w_ => ∃ (σ_ : Nat → Value) (k : Nat), a_ = Ac 22 σ_ [] [(0, .int .i64 ((n + k : Nat) : Int)), (3, .int .i64 (k : Int))] ∧ w.grownBy w_ none ∧ (k ≤ 208 - n % 208 ∧ n + k ≤ 832) ∧ 832 - (n + k) = m_) (832 - (n + 0)) ?_ ?_
  · exact ⟨_, 0, Ac_frg ⟨(agr rfl (by first | rfl | (congr 1; omega) | (congr 1; simp; done) | (congr 1; simp only [IntKind.wrap_u64, IntKind.wrap_i64, IntKind.wrap_u8]; omega) | (congr 1 <;> omega))), (agr rfl (by first | rfl | (congr 1; omega) | (congr 1; simp; done) | (congr 1; simp only [IntKind.wrap_u64, IntKind.wrap_i64, IntKind.wrap_u8]; omega) | (congr 1 <;> omega))), trivial⟩, hB, (by omega), rfl⟩
  · clear hB
    rintro m_ a_ w2 ⟨σ_, k, rfl, hB, hk, rfl⟩
    refine C_seq (C_seq (C_reg rfl ?_))
    refine L_run (R_move rfl) rfl ?_
    refine L_run (R_lss rfl rfl) rfl ?_
    refine L_run (R_move rfl) rfl ?_
    refine L_splitD (p := ((n + k : Nat) : Int) < 832) (fun h1 => ?_) (fun h1 => ?_)
    · refine L_yes rfl rfl rfl (decide_eq_true h1) ?_
      refine L_run (R_move rfl) rfl ?_
      refine L_yes rfl rfl rfl (decide_eq_true h1) ?_
      refine L_run (R_eql rfl rfl) rfl ?_
      refine L_yes rfl rfl rfl (decide_eq_true h1) ?_
      refine L_run (R_move rfl) rfl ?_
      refine L_splitD (p := (k : Int) = 0) (fun h2 => ?_) (fun h2 => ?_)
      · refine L_no rfl rfl rfl (decide_eq_true h2) rfl ?_
        refine L_no rfl rfl rfl (decide_eq_true h2) rfl ?_
        refine L_no rfl rfl rfl (decide_eq_true h2) rfl ?_
        refine L_yes rfl rfl rfl (decide_eq_true h1) ?_
        refine L_run (R_pickT rfl (decide_eq_true h2) rfl) rfl ?_
        refine L_run (R_pickT rfl (decide_eq_true h1) rfl) rfl ?_
        refine L_nil (N_then (C_condT rfl rfl (C_skip (N_then (C_block (C_seq (C_reg rfl ?_)))))))
        refine L_run (R_move rfl) rfl ?_
        refine L_run (R_add64 rfl rfl (by omega)) rfl ?_
        refine L_run (R_assign rfl) rfl ?_
        refine L_nil (N_then (C_reg rfl ?_))
        refine L_run (R_move rfl) rfl ?_
        refine L_run (R_add64 rfl rfl (by omega)) rfl ?_
        refine L_run (R_assign rfl) rfl ?_
        refine L_nil (N_in (N_then ?_))
        exact ⟨832 - (n + (k + 1)), by omega, _, (k + 1), Ac_frg ⟨(agr rfl (by first | rfl | (congr 1; omega) | (congr 1; simp; done) | (congr 1; simp only [IntKind.wrap_u64, IntKind.wrap_i64, IntKind.wrap_u8]; omega) | (congr 1 <;> omega))), (agr rfl (by first | rfl | (congr 1; omega) | (congr 1; simp; done) | (congr 1; simp only [IntKind.wrap_u64, IntKind.wrap_i64, IntKind.wrap_u8]; omega) | (congr 1 <;> omega))), trivial⟩, hB, (by omega), rfl⟩
      · refine L_yes rfl rfl rfl (decide_eq_false h2) ?_
        refine L_run (R_move rfl) rfl ?_
        refine L_yes rfl rfl rfl (decide_eq_false h2) ?_
        refine L_run (R_eqv (R_rem rfl rfl (by first | decide | omega)) (v' := .int .i64 (((n + k) % 208 : Nat) : Int)) (remN (k := 208))) rfl ?_
        refine L_yes rfl rfl rfl (decide_eq_false h2) ?_
        refine L_run (R_neq rfl rfl) rfl ?_
        refine L_yes rfl rfl rfl (decide_eq_true h1) ?_
        refine L_run (R_pickF rfl (decide_eq_false h2) rfl) rfl ?_
        refine L_run (R_pickT rfl (decide_eq_true h1) rfl) rfl ?_
        refine L_nil (N_then ?_)
        refine C_if rfl (fun h3 => ?_) (fun h3 => ?_)
        · refine C_skip (N_then (C_block (C_seq (C_reg rfl ?_))))
          refine L_run (R_move rfl) rfl ?_
          refine L_run (R_add64 rfl rfl (by omega)) rfl ?_
          refine L_run (R_assign rfl) rfl ?_
          refine L_nil (N_then (C_reg rfl ?_))
          refine L_run (R_move rfl) rfl ?_
          refine L_run (R_add64 rfl rfl (by omega)) rfl ?_
          refine L_run (R_assign rfl) rfl ?_
          refine L_nil (N_in (N_then ?_))
          exact ⟨832 - (n + (k + 1)), by omega, _, (k + 1), Ac_frg ⟨(agr rfl (by first | rfl | (congr 1; omega) | (congr 1; simp; done) | (congr 1; simp only [IntKind.wrap_u64, IntKind.wrap_i64, IntKind.wrap_u8]; omega) | (congr 1 <;> omega))), (agr rfl (by first | rfl | (congr 1; omega) | (congr 1; simp; done) | (congr 1; simp only [IntKind.wrap_u64, IntKind.wrap_i64, IntKind.wrap_u8]; omega) | (congr 1 <;> omega))), trivial⟩, hB, (by omega), rfl⟩
        · refine C_exit (X_then (X_then (X_hit (N_then (C_seq (C_reg rfl ?_))))))
          refine L_run (R_move rfl) rfl ?_
          refine L_run (R_assign rfl) rfl ?_
          refine L_nil (N_then (C_ret ?_))
          refine ret1 Tryd.results28 rfl ?_
          first
            | (exfalso; omega)
            | (refine ⟨hB, congrArg (Value.int .i64) ?_⟩
               unfold leftN
               split <;> omega)
    · refine L_no rfl rfl rfl (decide_eq_false h1) rfl ?_
      refine L_no rfl rfl rfl (decide_eq_false h1) rfl ?_
      refine L_no rfl rfl rfl (decide_eq_false h1) rfl ?_
      refine L_noU rfl rfl rfl rfl ?_
      refine L_noU rfl rfl rfl rfl ?_
      refine L_noU rfl rfl rfl rfl ?_
      refine L_no rfl rfl rfl (decide_eq_false h1) rfl ?_
      refine L_run (R_pickF rfl (decide_eq_false h1) rfl) rfl ?_
      refine L_nil (N_then (C_condF rfl rfl (C_exit (X_then (X_then (X_hit (N_then (C_seq (C_reg rfl ?_)))))))))
      refine L_run (R_move rfl) rfl ?_
      refine L_run (R_assign rfl) rfl ?_
      refine L_nil (N_then (C_ret ?_))
      refine ret1 Tryd.results28 rfl ?_
      first
        | (exfalso; omega)
        | (refine ⟨hB, congrArg (Value.int .i64) ?_⟩
           unfold leftN
           split <;> omega)

theorem begin7 {w : World} {n : Nat} (hn : n ≤ 832) :
    Runs Tryd.prog 15 #[.int .i64 (n : Int)] w (fun v w' => w.grownBy w' none ∧ v = .int .i64 ((beginN n : Nat) : Int)) := by
  have hB := gb_refl w none
  refine enter Tryd.func15 Tryd.ntmps15 rfl rfl ?_
  refine C_seq (C_reg rfl ?_)
  refine L_run (R_assign rfl) rfl ?_
  refine L_nil (N_then (C_seq (C_reg rfl ?_)))
  refine L_run (R_move rfl) rfl ?_
  refine L_call rfl cb29 (near7 (n := n)) rfl ?_
  rintro _ w1 ⟨hs1, rfl⟩
  replace hB := gb_tr hB hs1
  refine L_run (R_assign rfl) rfl ?_
  refine L_nil (N_then (C_seq (C_reg rfl ?_)))
  refine L_run (R_move rfl) rfl ?_
  refine L_call rfl cb30 (where7 (n := (min n 832)) (by first | omega | (simp; done) | (simp; omega))) rfl ?_
  rintro _ w2 ⟨hs2, rfl⟩
  replace hB := gb_tr hB hs2
  refine L_run (R_move rfl) rfl ?_
  refine L_run (R_extract rfl rfl) rfl ?_
  refine L_run (R_extract rfl rfl) rfl ?_
  refine L_run (R_assign rfl) rfl ?_
  refine L_run (R_assign rfl) rfl ?_
  refine L_nil (N_then (C_seq (C_block ?_)))
  refine C_loop (fun m_ a_ w_ => ∃ (σ_ : Nat → Value) (j : Nat), a_ = Ac 27 σ_ [] [(0, .int .i64 ((n + j : Nat) : Int)), (4, .int .i64 ((n % 52 + j : Nat) : Int))] ∧ w.grownBy w_ none ∧ (n % 52 + j ≤ 52 ∧ n + j ≤ 832 ∧ (j = 0 ∨ 41 < n % 52)) ∧ 832 - (n + j) = m_) (832 - (n + 0)) ?_ ?_
  · exact ⟨_, 0, Ac_frg ⟨(agr rfl (by first | rfl | (congr 1; omega) | (congr 1; simp; done) | (congr 1; simp only [IntKind.wrap_u64, IntKind.wrap_i64, IntKind.wrap_u8]; omega) | (congr 1 <;> omega))), (agr rfl (by rw [Nat.min_eq_left hn]; rfl)), trivial⟩, hB, (by omega), rfl⟩
  · clear hB
    rintro m_ a_ w3 ⟨σ_, j, rfl, hB, hj, rfl⟩
    refine C_seq (C_seq (C_reg rfl ?_))
    refine L_run (R_move rfl) rfl ?_
    refine L_run (R_lss rfl rfl) rfl ?_
    refine L_run (R_move rfl) rfl ?_
    refine L_splitD (p := ((n + j : Nat) : Int) < 832) (fun h1 => ?_) (fun h1 => ?_)
    · refine L_yes rfl rfl rfl (decide_eq_true h1) ?_
      refine L_run (R_move rfl) rfl ?_
      refine L_yes rfl rfl rfl (decide_eq_true h1) ?_
      refine L_run (R_gtr rfl rfl) rfl ?_
      refine L_run (R_pickT rfl (decide_eq_true h1) rfl) rfl ?_
      refine L_run (R_move rfl) rfl ?_
      refine L_splitD (p := 41 < ((n % 52 + j : Nat) : Int)) (fun h2 => ?_) (fun h2 => ?_)
      · refine L_yes rfl rfl rfl (decide_eq_true h2) ?_
        refine L_run (R_move rfl) rfl ?_
        refine L_yes rfl rfl rfl (decide_eq_true h2) ?_
        refine L_run (R_lss rfl rfl) rfl ?_
        refine L_run (R_pickT rfl (decide_eq_true h2) rfl) rfl ?_
        refine L_nil (N_then ?_)
        refine C_if rfl (fun h3 => ?_) (fun h3 => ?_)
        · refine C_skip (N_then (C_block (C_seq (C_reg rfl ?_))))
          refine L_run (R_move rfl) rfl ?_
          refine L_run (R_add64 rfl rfl (by omega)) rfl ?_
          refine L_run (R_assign rfl) rfl ?_
          refine L_nil (N_then (C_reg rfl ?_))
          refine L_run (R_move rfl) rfl ?_
          refine L_run (R_add64 rfl rfl (by omega)) rfl ?_
          refine L_run (R_assign rfl) rfl ?_
          refine L_nil (N_in (N_then ?_))
          exact ⟨832 - (n + (j + 1)), by omega, _, (j + 1), Ac_frg ⟨(agr rfl (by first | rfl | (congr 1; omega) | (congr 1; simp; done) | (congr 1; simp only [IntKind.wrap_u64, IntKind.wrap_i64, IntKind.wrap_u8]; omega) | (congr 1 <;> omega))), (agr rfl (by first | rfl | (congr 1; omega) | (congr 1; simp; done) | (congr 1; simp only [IntKind.wrap_u64, IntKind.wrap_i64, IntKind.wrap_u8]; omega) | (congr 1 <;> omega))), trivial⟩, hB, (by omega), rfl⟩
        · refine C_exit (X_then (X_then (X_hit (N_then (C_seq (C_reg rfl ?_))))))
          refine L_run (R_move rfl) rfl ?_
          refine L_run (R_assign rfl) rfl ?_
          refine L_nil (N_then (C_ret ?_))
          refine ret1 Tryd.results15 rfl ?_
          first
            | (exfalso; omega)
            | (refine ⟨hB, congrArg (Value.int .i64) ?_⟩
               unfold beginN
               split <;> omega)
      · refine L_no rfl rfl rfl (decide_eq_false h2) rfl ?_
        refine L_no rfl rfl rfl (decide_eq_false h2) rfl ?_
        refine L_run (R_pickF rfl (decide_eq_false h2) rfl) rfl ?_
        refine L_nil (N_then (C_condF rfl rfl (C_exit (X_then (X_then (X_hit (N_then (C_seq (C_reg rfl ?_)))))))))
        refine L_run (R_move rfl) rfl ?_
        refine L_run (R_assign rfl) rfl ?_
        refine L_nil (N_then (C_ret ?_))
        refine ret1 Tryd.results15 rfl ?_
        first
          | (exfalso; omega)
          | (refine ⟨hB, congrArg (Value.int .i64) ?_⟩
             unfold beginN
             split <;> omega)
    · refine L_no rfl rfl rfl (decide_eq_false h1) rfl ?_
      refine L_no rfl rfl rfl (decide_eq_false h1) rfl ?_
      refine L_run (R_pickF rfl (decide_eq_false h1) rfl) rfl ?_
      refine L_run (R_move rfl) rfl ?_
      refine L_no rfl rfl rfl rfl rfl ?_
      refine L_no rfl rfl rfl rfl rfl ?_
      refine L_run (R_pickF rfl rfl rfl) rfl ?_
      refine L_nil (N_then (C_condF rfl rfl (C_exit (X_then (X_then (X_hit (N_then (C_seq (C_reg rfl ?_)))))))))
      refine L_run (R_move rfl) rfl ?_
      refine L_run (R_assign rfl) rfl ?_
      refine L_nil (N_then (C_ret ?_))
      refine ret1 Tryd.results15 rfl ?_
      first
        | (exfalso; omega)
        | (refine ⟨hB, congrArg (Value.int .i64) ?_⟩
           unfold beginN
           split <;> omega)

theorem touch7 {w : World} {a b : Nat} :
    Runs Tryd.prog 32 #[.int .i64 (a : Int), .int .i64 (b : Int)] w (fun v w' => w.grownBy w' none ∧ v = .tuple #[.int .i64 (((touchN (min a 832) (min b 832)).1 : Nat) : Int), .int .i64 (((touchN (min a 832) (min b 832)).2 : Nat) : Int)]) := by
  have hB := gb_refl w none
  refine enter Tryd.func32 Tryd.ntmps32 rfl rfl ?_
  refine C_seq (C_reg rfl ?_)
  refine L_run (R_assign rfl) rfl ?_
  refine L_run (R_assign rfl) rfl ?_
  refine L_nil (N_then (C_seq (C_reg rfl ?_)))
  refine L_run (R_assign rfl) rfl ?_
  refine L_nil (N_then (C_seq (C_reg rfl ?_)))
  refine L_run (R_assign rfl) rfl ?_
  refine L_nil (N_then (C_seq (C_seq (C_reg rfl ?_))))
  refine L_run (R_move rfl) rfl ?_
  refine L_call rfl cb29 (near7 (n := a)) rfl ?_
  rintro _ w1 ⟨hs1, rfl⟩
  replace hB := gb_tr hB hs1
  refine L_run (R_assign rfl) rfl ?_
  refine L_nil (N_then (C_block ?_))
  refine C_loop (fun m_ a_ w_ => ∃ (σ_ : Nat → Value) (p : Int) (q : Int) (i : Nat), a_ = Ac 28 σ_ [] [(1, .int .i64 (b : Int)), (6, .int .i64 p), (7, .int .i64 q), (8, .int .i64 (i : Int))] ∧ w.grownBy w_ none ∧ (i ≤ 832) ∧ ((i = min a 832 ∧ p = -1) ∨ (min a 832 < i ∧ i ≤ min b 832 ∧ p = ((min a 832 / 52 : Nat) : Int) ∧ q = (((i - 1) / 52 : Nat) : Int))) ∧ 832 - i = m_) (832 - (min a 832)) ?_ ?_
  · exact ⟨_, (-1), (-1), (min a 832), Ac_frg ⟨rfl, rfl, rfl, (agr rfl (by first | rfl | (congr 1; omega) | (congr 1; simp; done) | (congr 1; simp only [IntKind.wrap_u64, IntKind.wrap_i64, IntKind.wrap_u8]; omega) | (congr 1 <;> omega))), trivial⟩, hB, (by omega), (by omega), rfl⟩
  · clear hB
    rintro m_ a_ w2 ⟨σ_, p, q, i, rfl, hB, hi, hp, rfl⟩
    refine C_seq (C_seq (C_reg rfl ?_))
    refine L_run (R_move rfl) rfl ?_
    refine L_run (R_move rfl) rfl ?_
    refine L_call rfl cb29 (near7 (n := b)) rfl ?_
    rintro _ w3 ⟨hs2, rfl⟩
    replace hB := gb_tr hB hs2
    refine L_run (R_lss rfl rfl) rfl ?_
    refine L_nil (N_then ?_)
    refine C_if rfl (fun h1 => ?_) (fun h1 => ?_)
    · refine C_skip (N_then (C_seq (C_block (C_seq (C_seq (C_reg rfl ?_))))))
      refine L_run (R_move rfl) rfl ?_
      refine L_run (R_lss rfl rfl) rfl ?_
      refine L_nil (N_then ?_)
      refine C_if rfl (fun h2 => ?_) (fun h2 => ?_)
      · refine C_reg rfl ?_
        refine L_run (R_move rfl) rfl ?_
        refine L_run (R_eqv (R_quo rfl rfl (by first | decide | omega)) (v' := .int .i64 ((i / 52 : Nat) : Int)) (quoN (k := 52) (by omega))) rfl ?_
        refine L_run (R_assign rfl) rfl ?_
        refine L_nil (N_then (C_reg rfl ?_))
        refine L_run (R_move rfl) rfl ?_
        refine L_run (R_eqv (R_quo rfl rfl (by first | decide | omega)) (v' := .int .i64 ((i / 52 : Nat) : Int)) (quoN (k := 52) (by omega))) rfl ?_
        refine L_run (R_assign rfl) rfl ?_
        refine L_nil (N_in (N_then (C_reg rfl ?_)))
        refine L_run (R_move rfl) rfl ?_
        refine L_run (R_add64 rfl rfl (by omega)) rfl ?_
        refine L_run (R_assign rfl) rfl ?_
        refine L_nil (N_then ?_)
        exact ⟨832 - (i + 1), by omega, _, ((i / 52 : Nat) : Int), ((i / 52 : Nat) : Int), (i + 1), Ac_frg ⟨rfl, rfl, rfl, (agr rfl (by first | rfl | (congr 1; omega) | (congr 1; simp; done) | (congr 1; simp only [IntKind.wrap_u64, IntKind.wrap_i64, IntKind.wrap_u8]; omega) | (congr 1 <;> omega))), trivial⟩, hB, (by omega), (by omega), rfl⟩
      · refine C_skip (N_then (C_reg rfl ?_))
        refine L_run (R_move rfl) rfl ?_
        refine L_run (R_eqv (R_quo rfl rfl (by first | decide | omega)) (v' := .int .i64 ((i / 52 : Nat) : Int)) (quoN (k := 52) (by omega))) rfl ?_
        refine L_run (R_assign rfl) rfl ?_
        refine L_nil (N_in (N_then (C_reg rfl ?_)))
        refine L_run (R_move rfl) rfl ?_
        refine L_run (R_add64 rfl rfl (by omega)) rfl ?_
        refine L_run (R_assign rfl) rfl ?_
        refine L_nil (N_then ?_)
        exact ⟨832 - (i + 1), by omega, _, p, ((i / 52 : Nat) : Int), (i + 1), Ac_frg ⟨rfl, rfl, rfl, (agr rfl (by first | rfl | (congr 1; omega) | (congr 1; simp; done) | (congr 1; simp only [IntKind.wrap_u64, IntKind.wrap_i64, IntKind.wrap_u8]; omega) | (congr 1 <;> omega))), trivial⟩, hB, (by omega), (by omega), rfl⟩
    · refine C_exit (X_then (X_then (X_hit (N_then (C_seq (C_seq (C_reg rfl ?_)))))))
      refine L_run (R_move rfl) rfl ?_
      refine L_run (R_lss rfl rfl) rfl ?_
      refine L_nil (N_then ?_)
      refine C_if rfl (fun h3 => ?_) (fun h3 => ?_)
      · refine C_seq (C_reg rfl ?_)
        refine L_run (R_assign rfl) rfl ?_
        refine L_run (R_assign rfl) rfl ?_
        refine L_nil (N_then (C_ret (R_then ?_)))
        refine ret2 Tryd.results32 rfl rfl ?_
        first
          | (exfalso; omega)
          | (refine ⟨hB, ?_⟩
             unfold touchN
             first | (rw [if_neg (by omega)]; rfl) | (rw [if_pos (by omega)]; have e_ : i = min b 832 := (by omega); have e1_ : p = ((min a 832 / 52 : Nat) : Int) := (by omega); have e2_ : q + 1 = (((min b 832 - 1) / 52 + 1 : Nat) : Int) := (by omega); rw [e1_, e2_]))
      · refine C_skip (N_then (C_seq (C_reg rfl ?_)))
        refine L_run (R_move rfl) rfl ?_
        refine L_run (R_move rfl) rfl ?_
        refine L_run (R_add64 rfl rfl (by omega)) rfl ?_
        refine L_run (R_assign rfl) rfl ?_
        refine L_run (R_assign rfl) rfl ?_
        refine L_nil (N_then (C_ret ?_))
        refine ret2 Tryd.results32 rfl rfl ?_
        first
          | (exfalso; omega)
          | (refine ⟨hB, ?_⟩
             unfold touchN
             first | (rw [if_neg (by omega)]; rfl) | (rw [if_pos (by omega)]; have e_ : i = min b 832 := (by omega); have e1_ : p = ((min a 832 / 52 : Nat) : Int) := (by omega); have e2_ : q + 1 = (((min b 832 - 1) / 52 + 1 : Nat) : Int) := (by omega); rw [e1_, e2_]))

theorem cov_ok {w : World} {t1 lo hi : Nat} {A : Option Addr} {c : Nat} {ok : List Bool} {a b : Nat} (hS : Sli t1 lo hi w A (fl encO ok)) :
    Runs Tryd.prog 21 #[.slice A ok.length c, .int .i64 (a : Int), .int .i64 (b : Int)] w (fun v w' => w.grownBy w' none ∧ v = .bool (covN ok (min a 832) (min b 832))) := by
  have hB := gb_refl w none
  replace hS := hS.top
  refine enter Tryd.func21 Tryd.ntmps21 rfl rfl ?_
  refine C_seq (C_reg rfl ?_)
  refine L_run (R_assign rfl) rfl ?_
  refine L_nil (N_then (C_seq (C_reg rfl ?_)))
  refine L_run (R_move rfl) rfl ?_
  refine L_run (R_move rfl) rfl ?_
  refine L_call rfl cb35 (touch_ok (a := a) (b := b)) rfl ?_
  rintro _ w1 ⟨hs1, rfl⟩
  replace hB := gb_tr hB hs1
  replace hS := hS.gb hs1
  refine L_run (R_move rfl) rfl ?_
  refine L_run (R_extract rfl rfl) rfl ?_
  refine L_run (R_extract rfl rfl) rfl ?_
  refine L_run (R_assign rfl) rfl ?_
  refine L_run (R_assign rfl) rfl ?_
  refine L_nil (N_then (C_seq (C_seq (C_reg rfl ?_))))
  refine L_run (R_move rfl) rfl ?_
  refine L_run (R_assign rfl) rfl ?_
  refine L_nil (N_then (C_block ?_))
  refine C_loop (fun m_ a_ w_ => ∃ (σ_ : Nat → Value) (i : Nat), a_ = Ac 33 σ_ [] [(0, .slice A ok.length c), (1, .int .i64 (a : Int)), (2, .int .i64 (b : Int)), (7, .int .i64 (((touchN (min a 832) (min b 832)).1 : Nat) : Int)), (8, .int .i64 (((touchN (min a 832) (min b 832)).2 : Nat) : Int)), (9, .int .i64 (i : Int))] ∧ w.grownBy w_ none ∧ Sli t1 lo w.heap.size w_ A (fl encO ok) ∧ ((touchN (min a 832) (min b 832)).1 ≤ i) ∧ (∀ j, (touchN (min a 832) (min b 832)).1 ≤ j → j < i → ok.getD j false = true) ∧ (touchN (min a 832) (min b 832)).2 - i = m_) ((touchN (min a 832) (min b 832)).2 - (touchN (min a 832) (min b 832)).1) ?_ ?_
  · exact ⟨_, (touchN (min a 832) (min b 832)).1, Ac_frg ⟨rfl, rfl, rfl, rfl, rfl, (agr rfl (by first | rfl | (congr 1; omega) | (congr 1; simp; done) | (congr 1; simp only [IntKind.wrap_u64, IntKind.wrap_i64, IntKind.wrap_u8]; omega) | (congr 1 <;> omega))), trivial⟩, hB, hS, (Nat.le_refl _), (fun j h1 h2 => by omega), rfl⟩
  · clear hB
    clear hS
    rintro m_ a_ w2 ⟨σ_, i, rfl, hB, hS, hlo, hall, rfl⟩
    refine C_seq (C_seq (C_reg rfl ?_))
    refine L_run (R_move rfl) rfl ?_
    refine L_run (R_move rfl) rfl ?_
    refine L_run (R_lss rfl rfl) rfl ?_
    refine L_nil (N_then ?_)
    refine C_if rfl (fun h1 => ?_) (fun h1 => ?_)
    · refine C_skip (N_then (C_seq (C_block (C_seq (C_reg rfl ?_)))))
      refine L_run (R_move rfl) rfl ?_
      refine L_run (R_move rfl) rfl ?_
      refine L_run (R_lenSl rfl slc47) rfl ?_
      refine L_run (R_geq rfl rfl) rfl ?_
      refine L_run (R_move rfl) rfl ?_
      refine L_splitD (p := (ok.length : Int) ≤ (i : Int)) (fun h2 => ?_) (fun h2 => ?_)
      · refine L_no rfl rfl rfl (decide_eq_true h2) rfl ?_
        refine L_no rfl rfl rfl (decide_eq_true h2) rfl ?_
        refine L_no rfl rfl rfl (decide_eq_true h2) rfl ?_
        refine L_no rfl rfl rfl (decide_eq_true h2) rfl ?_
        refine L_no rfl rfl rfl (decide_eq_true h2) rfl ?_
        refine L_run (R_pickT rfl (decide_eq_true h2) rfl) rfl ?_
        refine L_nil (N_then (C_condT rfl rfl (C_seq (C_reg rfl ?_))))
        refine L_run (R_assign rfl) rfl ?_
        refine L_nil (N_then (C_ret (R_in (R_then (R_then (R_in (R_then ?_)))))))
        refine ret1 Tryd.results21 rfl ?_
        first
          | (exfalso; omega)
          | (exact ⟨hB, by rw [covN_false hlo (by omega) (by first | exact getD_out (by omega) | (rw [getD_in (by omega)]; first | assumption | simp_all))]⟩)
      · refine L_yes rfl rfl rfl (decide_eq_false h2) ?_
        refine L_run (R_move rfl) rfl ?_
        refine L_yes rfl rfl rfl (decide_eq_false h2) ?_
        refine L_run (R_move rfl) rfl ?_
        refine L_yes rfl rfl rfl (decide_eq_false h2) ?_
        have hl1 : i < ok.length := by first | omega | (simp; omega)
        refine T_index (xs := ok) (i := i) EncO rfl rfl (by first | rfl | omega) slc47 hl1 hS rfl ?_
        intro g1 o1 ha1
        refine L_yes rfl rfl rfl (decide_eq_false h2) ?_
        refine L_run (R_load1 rfl scl4 (ha1 0 _ rfl)) rfl ?_
        refine L_yes rfl rfl rfl (decide_eq_false h2) ?_
        refine L_run (R_not rfl) rfl ?_
        refine L_run (R_pickF rfl (decide_eq_false h2) rfl) rfl ?_
        refine L_nil (N_then ?_)
        refine C_cond rfl (fun h3 => ?_) (fun h3 => ?_)
        · refine C_seq (C_reg rfl ?_)
          refine L_run (R_assign rfl) rfl ?_
          refine L_nil (N_then (C_ret (R_in (R_then (R_then (R_in (R_then ?_)))))))
          refine ret1 Tryd.results21 rfl ?_
          first
            | (exfalso; omega)
            | (exact ⟨hB, by rw [covN_false hlo (by omega) (by first | exact getD_out (by omega) | (rw [getD_in (by omega)]; first | assumption | simp_all))]⟩)
        · refine C_skip (N_in (N_then (C_reg rfl ?_)))
          refine L_run (R_move rfl) rfl ?_
          refine L_run (R_add64 rfl rfl (by have h_ := touch_le (a := a) (b := b); omega)) rfl ?_
          refine L_run (R_assign rfl) rfl ?_
          refine L_nil (N_then ?_)
          exact ⟨(touchN (min a 832) (min b 832)).2 - (i + 1), by omega, _, (i + 1), Ac_frg ⟨rfl, rfl, rfl, rfl, rfl, (agr rfl (by first | rfl | (congr 1; omega) | (congr 1; simp; done) | (congr 1; simp only [IntKind.wrap_u64, IntKind.wrap_i64, IntKind.wrap_u8]; omega) | (congr 1 <;> omega))), trivial⟩, hB, hS, (by omega), (cov_step hall (by omega) (by first | assumption | simp_all)), rfl⟩
    · refine C_exit (X_then (X_then (X_hit (N_then (C_seq (C_reg rfl ?_))))))
      refine L_run (R_assign rfl) rfl ?_
      refine L_nil (N_then (C_ret ?_))
      refine ret1 Tryd.results21 rfl ?_
      exact ⟨hB, by rw [covN_true (by omega) hall]⟩

theorem cov16 {w : World} {t1 lo hi : Nat} {A : Option Addr} {c : Nat} {ok : List Bool} {a b : Nat} (hS : Sli t1 lo hi w A (fl encO ok)) :
    Runs Tryd.prog 26 #[.slice A ok.length c, .int .i64 (a : Int), .int .i64 (b : Int)] w (fun v w' => w.grownBy w' none ∧ v = .bool (covN ok (min a 832) (min b 832))) := by
  have hB := gb_refl w none
  replace hS := hS.top
  refine enter Tryd.func26 Tryd.ntmps26 rfl rfl ?_
  refine C_seq (C_reg rfl ?_)
  refine L_run (R_assign rfl) rfl ?_
  refine L_nil (N_then (C_seq (C_reg rfl ?_)))
  refine L_run (R_move rfl) rfl ?_
  refine L_run (R_move rfl) rfl ?_
  refine L_call rfl cb32 (touch7 (a := a) (b := b)) rfl ?_
  rintro _ w1 ⟨hs1, rfl⟩
  replace hB := gb_tr hB hs1
  replace hS := hS.gb hs1
  refine L_run (R_move rfl) rfl ?_
  refine L_run (R_extract rfl rfl) rfl ?_
  refine L_run (R_extract rfl rfl) rfl ?_
  refine L_run (R_assign rfl) rfl ?_
  refine L_run (R_assign rfl) rfl ?_
  refine L_nil (N_then (C_seq (C_seq (C_reg rfl ?_))))
  refine L_run (R_move rfl) rfl ?_
  refine L_run (R_assign rfl) rfl ?_
  refine L_nil (N_then (C_block ?_))
  refine C_loop (fun m_ a_ w_ => ∃ (σ_ : Nat → Value) (i : Nat), a_ = Ac 33 σ_ [] [(0, .slice A ok.length c), (1, .int .i64 (a : Int)), (2, .int .i64 (b : Int)), (7, .int .i64 (((touchN (min a 832) (min b 832)).1 : Nat) : Int)), (8, .int .i64 (((touchN (min a 832) (min b 832)).2 : Nat) : Int)), (9, .int .i64 (i : Int))] ∧ w.grownBy w_ none ∧ Sli t1 lo w.heap.size w_ A (fl encO ok) ∧ ((touchN (min a 832) (min b 832)).1 ≤ i) ∧ (∀ j, (touchN (min a 832) (min b 832)).1 ≤ j → j < i → ok.getD j false = true) ∧ (touchN (min a 832) (min b 832)).2 - i = m_) ((touchN (min a 832) (min b 832)).2 - (touchN (min a 832) (min b 832)).1) ?_ ?_
  · exact ⟨_, (touchN (min a 832) (min b 832)).1, Ac_frg ⟨rfl, rfl, rfl, rfl, rfl, (agr rfl (by first | rfl | (congr 1; omega) | (congr 1; simp; done) | (congr 1; simp only [IntKind.wrap_u64, IntKind.wrap_i64, IntKind.wrap_u8]; omega) | (congr 1 <;> omega))), trivial⟩, hB, hS, (Nat.le_refl _), (fun j h1 h2 => by omega), rfl⟩
  · clear hB
    clear hS
    rintro m_ a_ w2 ⟨σ_, i, rfl, hB, hS, hlo, hall, rfl⟩
    refine C_seq (C_seq (C_reg rfl ?_))
    refine L_run (R_move rfl) rfl ?_
    refine L_run (R_move rfl) rfl ?_
    refine L_run (R_lss rfl rfl) rfl ?_
    refine L_nil (N_then ?_)
    refine C_if rfl (fun h1 => ?_) (fun h1 => ?_)
    · refine C_skip (N_then (C_seq (C_block (C_seq (C_reg rfl ?_)))))
      refine L_run (R_move rfl) rfl ?_
      refine L_run (R_move rfl) rfl ?_
      refine L_run (R_lenSl rfl slc47) rfl ?_
      refine L_run (R_geq rfl rfl) rfl ?_
      refine L_run (R_move rfl) rfl ?_
      refine L_splitD (p := (ok.length : Int) ≤ (i : Int)) (fun h2 => ?_) (fun h2 => ?_)
      · refine L_no rfl rfl rfl (decide_eq_true h2) rfl ?_
        refine L_no rfl rfl rfl (decide_eq_true h2) rfl ?_
        refine L_no rfl rfl rfl (decide_eq_true h2) rfl ?_
        refine L_no rfl rfl rfl (decide_eq_true h2) rfl ?_
        refine L_no rfl rfl rfl (decide_eq_true h2) rfl ?_
        refine L_run (R_pickT rfl (decide_eq_true h2) rfl) rfl ?_
        refine L_nil (N_then (C_condT rfl rfl (C_seq (C_reg rfl ?_))))
        refine L_run (R_assign rfl) rfl ?_
        refine L_nil (N_then (C_ret (R_in (R_then (R_then (R_in (R_then ?_)))))))
        refine ret1 Tryd.results26 rfl ?_
        first
          | (exfalso; omega)
          | (exact ⟨hB, by rw [covN_false hlo (by omega) (by first | exact getD_out (by omega) | (rw [getD_in (by omega)]; first | assumption | simp_all))]⟩)
      · refine L_yes rfl rfl rfl (decide_eq_false h2) ?_
        refine L_run (R_move rfl) rfl ?_
        refine L_yes rfl rfl rfl (decide_eq_false h2) ?_
        refine L_run (R_move rfl) rfl ?_
        refine L_yes rfl rfl rfl (decide_eq_false h2) ?_
        have hl1 : i < ok.length := by first | omega | (simp; omega)
        refine T_index (xs := ok) (i := i) EncO rfl rfl (by first | rfl | omega) slc47 hl1 hS rfl ?_
        intro g1 o1 ha1
        refine L_yes rfl rfl rfl (decide_eq_false h2) ?_
        refine L_run (R_load1 rfl scl4 (ha1 0 _ rfl)) rfl ?_
        refine L_yes rfl rfl rfl (decide_eq_false h2) ?_
        refine L_run (R_not rfl) rfl ?_
        refine L_run (R_pickF rfl (decide_eq_false h2) rfl) rfl ?_
        refine L_nil (N_then ?_)
        refine C_cond rfl (fun h3 => ?_) (fun h3 => ?_)
        · refine C_seq (C_reg rfl ?_)
          refine L_run (R_assign rfl) rfl ?_
          refine L_nil (N_then (C_ret (R_in (R_then (R_then (R_in (R_then ?_)))))))
          refine ret1 Tryd.results26 rfl ?_
          first
            | (exfalso; omega)
            | (exact ⟨hB, by rw [covN_false hlo (by omega) (by first | exact getD_out (by omega) | (rw [getD_in (by omega)]; first | assumption | simp_all))]⟩)
        · refine C_skip (N_in (N_then (C_reg rfl ?_)))
          refine L_run (R_move rfl) rfl ?_
          refine L_run (R_add64 rfl rfl (by have h_ := touch_le (a := a) (b := b); omega)) rfl ?_
          refine L_run (R_assign rfl) rfl ?_
          refine L_nil (N_then ?_)
          exact ⟨(touchN (min a 832) (min b 832)).2 - (i + 1), by omega, _, (i + 1), Ac_frg ⟨rfl, rfl, rfl, rfl, rfl, (agr rfl (by first | rfl | (congr 1; omega) | (congr 1; simp; done) | (congr 1; simp only [IntKind.wrap_u64, IntKind.wrap_i64, IntKind.wrap_u8]; omega) | (congr 1 <;> omega))), trivial⟩, hB, hS, (by omega), (cov_step hall (by omega) (by first | assumption | simp_all)), rfl⟩
    · refine C_exit (X_then (X_then (X_hit (N_then (C_seq (C_reg rfl ?_))))))
      refine L_run (R_assign rfl) rfl ?_
      refine L_nil (N_then (C_ret ?_))
      refine ret1 Tryd.results26 rfl ?_
      exact ⟨hB, by rw [covN_true (by omega) hall]⟩

end Go.Proofs.YtnggbodilhpohaaDoor
