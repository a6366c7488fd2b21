/-
  Contracts of lines counted.
-/
import Derived.Test.YtkjgjejkfjhcjaaDoorLd
namespace Go.Proofs.YtkjgjejkfjhcjaaDoor
open Go.RowKit Gw Pl
set_option linter.unusedVariables false
set_option linter.unusedSimpArgs false
theorem cb30 : callB Tryd.prog 30 = true := by kernel_rfl
theorem cb31 : callB Tryd.prog 31 = true := by kernel_rfl
theorem scl9 : sclB Tryd.prog 9 = true := by kernel_rfl
theorem lineIs_y {w p : List UInt8} (h : p = w) : LineIs w p := .inl h
theorem lineIs_p {w p : List UInt8} (h : p.take (w ++ [32]).length = w ++ [32]) : LineIs w p := .inr h
theorem lineIs_n {w p : List UInt8} (h1 : ¬ p = w) (h2 : ¬ p.take (w ++ [32]).length = w ++ [32]) : ¬ LineIs w p := fun h => h.elim h1 h2
theorem cnt_ch {w l cs : List UInt8} {n i T : Nat} (h : i < cs.length) (h2 : n + cntP w (pcs (l ++ cs.drop i)) = T) : n + cntP w (pcs ((l ++ ((cs.drop i).take (i + 1 - i))) ++ cs.drop (i + 1))) = T := by
  rw [← h2, List.append_assoc, show i + 1 - i = 1 by omega]
  congr 4
  rw [List.drop_eq_getElem_cons h]
  rfl
theorem cnt_y {w l cs : List UInt8} {n i T : Nat} (hl : ∀ c ∈ l, c ≠ 10) (h : i < cs.length) (hc : cs[i] = 10) (h2 : n + cntP w (pcs (l ++ cs.drop i)) = T) (hy : LineIs w l) : n + 1 + cntP w (pcs ([] ++ cs.drop (i + 1))) = T := by
  rw [List.drop_eq_getElem_cons h, hc, pcs_hit hl, cntP_y hy] at h2
  rw [List.nil_append]; omega
theorem cnt_n {w l cs : List UInt8} {n i T : Nat} (hl : ∀ c ∈ l, c ≠ 10) (h : i < cs.length) (hc : cs[i] = 10) (h2 : n + cntP w (pcs (l ++ cs.drop i)) = T) (hy : ¬ LineIs w l) : n + cntP w (pcs ([] ++ cs.drop (i + 1))) = T := by
  rw [List.drop_eq_getElem_cons h, hc, pcs_hit hl, cntP_n hy] at h2
  rw [List.nil_append]; exact h2
theorem cnt_ly {w l cs : List UInt8} {n i T : Nat} (hl : ∀ c ∈ l, c ≠ 10) (h : ¬ i < cs.length) (h2 : n + cntP w (pcs (l ++ cs.drop i)) = T) (hy : LineIs w l) : n + 1 = T := by
  rw [List.drop_of_length_le (by omega), List.append_nil, pcs_no hl, cntP_y hy] at h2
  simpa [cntP] using h2
theorem cnt_ln {w l cs : List UInt8} {n i T : Nat} (hl : ∀ c ∈ l, c ≠ 10) (h : ¬ i < cs.length) (h2 : n + cntP w (pcs (l ++ cs.drop i)) = T) (hy : ¬ LineIs w l) : n = T := by
  rw [List.drop_of_length_le (by omega), List.append_nil, pcs_no hl, cntP_n hy] at h2
  simpa [cntP] using h2
theorem no10 {l cs : List UInt8} {i : Nat} (hl : ∀ c ∈ l, c ≠ 10) (h : i < cs.length) (hc : ¬ cs[i] = 10) : ∀ c ∈ l ++ ((cs.drop i).take (i + 1 - i)), c ≠ 10 := by
  intro c hm
  rcases List.mem_append.1 hm with hm | hm
  · exact hl c hm
  · rw [show i + 1 - i = 1 by omega, List.drop_eq_getElem_cons h, show (cs[i] :: cs.drop (i + 1)).take 1 = [cs[i]] from rfl, List.mem_singleton] at hm
    rw [hm]; exact hc
theorem cntL_le {w cs : List UInt8} : cntL cs w ≤ cs.length + 1 := Nat.le_trans cntP_le pcs_len
theorem str_hasPrefix {w : World} {cs ps : List UInt8} :
    Runs Tryd.prog 31 #[.string (⟨cs.toArray⟩), .string (⟨ps.toArray⟩)] w (fun v w' => w.grownBy w' none ∧ v = .bool (decide (cs.take ps.length = ps))) := by
  have hB := gb_refl w none
  refine enter Tryd.func31 Tryd.ntmps31 rfl rfl ?_
  refine C_seq (C_reg rfl ?_)
  refine L_run (R_assign rfl) rfl ?_
  refine L_nil (N_then (C_seq (C_reg rfl ?_)))
  refine L_run (R_move rfl) rfl ?_
  refine L_run (R_move rfl) rfl ?_
  refine L_call rfl cb56 (hasPrefix (cs := cs) (ps := ps)) rfl ?_
  rintro _ w1 ⟨hs1, rfl⟩
  replace hB := gb_tr hB hs1
  refine L_run (R_assign rfl) rfl ?_
  refine L_nil (N_then (C_ret ?_))
  refine ret1 Tryd.results31 rfl ?_
  exact ⟨hB, rfl⟩

theorem count_ok {w : World} {cs ws : List UInt8} (hcs : cs.length ≤ 1000000) (hws : ws.length ≤ 1000000) :
    Runs Tryd.prog 14 #[.string (⟨cs.toArray⟩), .string (⟨ws.toArray⟩)] w (fun v w' => w.grownBy w' none ∧ v = .int .i64 ((cntL cs ws : Nat) : Int)) := by
  have hB := gb_refl w none
  have hpl := pcs_len (l := cs)
  refine enter Tryd.func14 Tryd.ntmps14 rfl rfl ?_
  refine C_seq (C_reg rfl ?_)
  refine L_run (R_assign rfl) rfl ?_
  refine L_nil (N_then (C_seq (C_reg rfl ?_)))
  refine L_run (R_assign rfl) rfl ?_
  refine L_nil (N_then (C_seq (C_seq (C_reg rfl ?_))))
  refine L_run (R_move rfl) rfl ?_
  refine L_call rfl cb30 (split_ok (s := cs) (by omega)) rfl ?_
  rintro _ w1 ⟨hs1, A_1, rfl, hS_1⟩
  replace hB := gb_tr hB hs1
  refine L_run (R_lenSl rfl slc59) rfl ?_
  refine L_run (R_move rfl) rfl ?_
  refine L_nil (N_then (C_block ?_))
  refine C_loop (fun m_ a_ w_ => ∃ (σ_ : Nat → Value) (i : Nat), a_ = Ac 28 σ_ [] [(0, .string (⟨cs.toArray⟩)), (1, .string (⟨ws.toArray⟩)), (5, .int .i64 ((cntP ws ((pcs cs).take i) : Nat) : Int)), (9, .slice A_1 ((pcs cs).length) ((pcs cs).length)), (10, .int .i64 ((pcs cs).length : Int)), (11, .int .i64 (i : Int))] ∧ w.grownBy w_ none ∧ Sli 9 w.heap.size w1.heap.size w_ A_1 (fl encW (pcs cs)) ∧ (i ≤ (pcs cs).length) ∧ (pcs cs).length - i = m_) ((pcs cs).length - 0) ?_ ?_
  · exact ⟨_, 0, Ac_frg ⟨rfl, rfl, (agr rfl (by first | rfl | (congr 1; omega) | (congr 1; simp; done) | (congr 1; simp only [IntKind.wrap_u64, IntKind.wrap_i64, IntKind.wrap_u8]; omega) | (congr 1 <;> omega))), rfl, rfl, (agr rfl (by first | rfl | (congr 1; omega) | (congr 1; simp; done) | (congr 1; simp only [IntKind.wrap_u64, IntKind.wrap_i64, IntKind.wrap_u8]; omega) | (congr 1 <;> omega))), trivial⟩, hB, hS_1, (by omega), rfl⟩
  · clear hB
    clear hS_1
    rintro m_ a_ w2 ⟨σ_, i, rfl, hB, hS_1, hi, rfl⟩
    refine C_seq (C_reg rfl ?_)
    refine L_run (R_lss rfl rfl) rfl ?_
    refine L_nil (N_then (C_seq ?_))
    refine C_if rfl (fun h1 => ?_) (fun h1 => ?_)
    · refine C_skip (N_then (C_seq (C_block (C_seq (C_reg rfl ?_)))))
      have hlk : i < (pcs cs).length := by first | omega | (simp; omega)
      refine T_index (xs := (pcs cs)) (i := i) EncW rfl rfl (by first | rfl | omega) slc59 hlk hS_1 rfl ?_
      intro g1 o1 ha1
      refine L_run (R_load1 rfl scl9 (ha1 0 _ rfl)) rfl ?_
      refine L_run (R_assign rfl) rfl ?_
      refine L_nil (N_then (C_seq (C_reg rfl ?_)))
      refine L_run (R_move rfl) rfl ?_
      refine L_run (R_move rfl) rfl ?_
      refine L_run (R_eqv (R_eqlS rfl rfl) (v' := .bool (decide (((pcs cs)[i]) = ws))) (bD ba_inj)) rfl ?_
      refine L_run (R_move rfl) rfl ?_
      refine L_splitD (p := ((pcs cs)[i]) = ws) (fun h2 => ?_) (fun h2 => ?_)
      · refine L_no rfl rfl rfl (decide_eq_true h2) rfl ?_
        refine L_no rfl rfl rfl (decide_eq_true h2) rfl ?_
        refine L_no rfl rfl rfl (decide_eq_true h2) rfl ?_
        refine L_no rfl rfl rfl (decide_eq_true h2) rfl ?_
        refine L_run (R_pickT rfl (decide_eq_true h2) rfl) rfl ?_
        refine L_nil (N_then (C_condT rfl rfl (C_reg rfl ?_)))
        refine L_run (R_move rfl) rfl ?_
        refine L_run (R_eqv (R_add64 rfl rfl (by first | omega | (have h_ := cntP_le (w := ws) (ps := (pcs cs).take i); rw [List.length_take] at h_; omega))) (v' := .int .i64 ((cntP ws ((pcs cs).take i) + 1 : Nat) : Int)) (rfl)) rfl ?_
        refine L_run (R_assign rfl) rfl ?_
        refine L_nil (N_in (N_then (C_reg rfl ?_)))
        refine L_run (R_add64 rfl rfl (by first | omega | (have h_ := cntP_le (w := ws) (ps := (pcs cs).take i); rw [List.length_take] at h_; omega))) rfl ?_
        refine L_run (R_move rfl) rfl ?_
        refine L_nil (N_then ?_)
        exact ⟨(pcs cs).length - (i + 1), by omega, _, (i + 1), Ac_frg ⟨rfl, rfl, (agr rfl (by rw [cntP_sy hlk (lineIs_y h2)])), rfl, rfl, (agr rfl (by first | rfl | (congr 1; omega) | (congr 1; simp; done) | (congr 1; simp only [IntKind.wrap_u64, IntKind.wrap_i64, IntKind.wrap_u8]; omega) | (congr 1 <;> omega))), trivial⟩, hB, hS_1, (by omega), rfl⟩
      · refine L_yes rfl rfl rfl (decide_eq_false h2) ?_
        refine L_run (R_move rfl) rfl ?_
        refine L_yes rfl rfl rfl (decide_eq_false h2) ?_
        refine L_run (R_move rfl) rfl ?_
        refine L_yes rfl rfl rfl (decide_eq_false h2) ?_
        refine L_run (R_eqv (R_addS rfl rfl (by rw [ba_size, ba_size]; simp only [List.length_cons, List.length_nil]; omega)) (v' := .string ⟨(ws ++ [32]).toArray⟩) (congrArg _ (ba_app _ _).symm)) rfl ?_
        refine L_yes rfl rfl rfl (decide_eq_false h2) ?_
        refine L_call rfl cb31 (str_hasPrefix (cs := ((pcs cs)[i])) (ps := (ws ++ [32]))) rfl ?_
        rintro _ w3 ⟨hs2, rfl⟩
        replace hB := gb_tr hB hs2
        replace hS_1 := hS_1.gb hs2
        replace ha1 := At.gb ha1 hs2 (by simp)
        refine L_run (R_pickF rfl (decide_eq_false h2) rfl) rfl ?_
        refine L_nil (N_then ?_)
        refine C_if rfl (fun h3 => ?_) (fun h3 => ?_)
        · refine C_reg rfl ?_
          refine L_run (R_move rfl) rfl ?_
          refine L_run (R_eqv (R_add64 rfl rfl (by first | omega | (have h_ := cntP_le (w := ws) (ps := (pcs cs).take i); rw [List.length_take] at h_; omega))) (v' := .int .i64 ((cntP ws ((pcs cs).take i) + 1 : Nat) : Int)) (rfl)) rfl ?_
          refine L_run (R_assign rfl) rfl ?_
          refine L_nil (N_in (N_then (C_reg rfl ?_)))
          refine L_run (R_add64 rfl rfl (by first | omega | (have h_ := cntP_le (w := ws) (ps := (pcs cs).take i); rw [List.length_take] at h_; omega))) rfl ?_
          refine L_run (R_move rfl) rfl ?_
          refine L_nil (N_then ?_)
          exact ⟨(pcs cs).length - (i + 1), by omega, _, (i + 1), Ac_frg ⟨rfl, rfl, (agr rfl (by rw [cntP_sy hlk (lineIs_p h3)])), rfl, rfl, (agr rfl (by first | rfl | (congr 1; omega) | (congr 1; simp; done) | (congr 1; simp only [IntKind.wrap_u64, IntKind.wrap_i64, IntKind.wrap_u8]; omega) | (congr 1 <;> omega))), trivial⟩, hB, hS_1, (by omega), rfl⟩
        · refine C_skip (N_in (N_then (C_reg rfl ?_)))
          refine L_run (R_add64 rfl rfl (by first | omega | (have h_ := cntP_le (w := ws) (ps := (pcs cs).take i); rw [List.length_take] at h_; omega))) rfl ?_
          refine L_run (R_move rfl) rfl ?_
          refine L_nil (N_then ?_)
          exact ⟨(pcs cs).length - (i + 1), by omega, _, (i + 1), Ac_frg ⟨rfl, rfl, (agr rfl (by rw [cntP_sn hlk (lineIs_n h2 h3)])), rfl, rfl, (agr rfl (by first | rfl | (congr 1; omega) | (congr 1; simp; done) | (congr 1; simp only [IntKind.wrap_u64, IntKind.wrap_i64, IntKind.wrap_u8]; omega) | (congr 1 <;> omega))), trivial⟩, hB, hS_1, (by omega), rfl⟩
    · refine C_exit (X_then (X_then (X_hit (N_then (C_seq (C_reg rfl ?_))))))
      refine L_run (R_move rfl) rfl ?_
      refine L_run (R_assign rfl) rfl ?_
      refine L_nil (N_then (C_ret ?_))
      refine ret1 Tryd.results14 rfl ?_
      have e_ : cntP ws ((pcs cs).take i) = cntL cs ws := by rw [List.take_of_length_le (by omega)]; rfl
      rw [e_]; exact ⟨hB, rfl⟩

theorem lineIs_ref2 {w p : List UInt8} (h1 : ¬ p = w) (h2 : ¬ (w.length < p.length ∧ p.take w.length = w ∧ p[w.length]? = some 32)) : ¬ LineIs w p := fun h => (lineIs_ref.1 h).elim h1 h2
theorem count48 {w : World} {cs ws : List UInt8} (hcs : cs.length ≤ 1000000) (hws : ws.length ≤ 1000000) :
    Runs Tryd.prog 15 #[.string (⟨cs.toArray⟩), .string (⟨ws.toArray⟩)] w (fun v w' => w.grownBy w' none ∧ v = .int .i64 ((cntL cs ws : Nat) : Int)) := by
  have hB := gb_refl w none
  have hcl := cntL_le (w := ws) (cs := cs)
  refine enter Tryd.func15 Tryd.ntmps15 rfl rfl ?_
  refine C_seq (C_reg rfl ?_)
  refine L_run (R_assign rfl) rfl ?_
  refine L_nil (N_then (C_seq (C_reg rfl ?_)))
  refine L_run (R_assign rfl) rfl ?_
  refine L_nil (N_then (C_seq (C_reg rfl ?_)))
  refine L_run (R_assign rfl) rfl ?_
  refine L_nil (N_then (C_seq (C_seq (C_reg rfl ?_))))
  refine L_run (R_assign rfl) rfl ?_
  refine L_nil (N_then (C_block ?_))
  refine C_loop (fun m_ a_ w_ => ∃ (σ_ : Nat → Value) (l : List UInt8) (n : Nat) (i : Nat), a_ = Ac 59 σ_ [] [(0, .string (⟨cs.toArray⟩)), (1, .string (⟨ws.toArray⟩)), (5, .int .i64 (n : Int)), (6, .string (⟨l.toArray⟩)), (7, .int .i64 (i : Int))] ∧ w.grownBy w_ none ∧ (∀ c ∈ l, c ≠ 10) ∧ ((i ≤ cs.length → n + cntP ws (pcs (l ++ cs.drop i)) = cntL cs ws ∧ l.length ≤ i)) ∧ ((¬ i ≤ cs.length → n = cntL cs ws)) ∧ (i ≤ cs.length + 1) ∧ cs.length + 1 - i = m_) (cs.length + 1 - 0) ?_ ?_
  · exact ⟨_, [], 0, 0, Ac_frg ⟨rfl, rfl, (agr rfl (by first | rfl | (congr 1; omega) | (congr 1; simp; done) | (congr 1; simp only [IntKind.wrap_u64, IntKind.wrap_i64, IntKind.wrap_u8]; omega) | (congr 1 <;> omega))), (agr rfl (by first | rfl | (congr 1; omega) | (congr 1; simp; done) | (congr 1; simp only [IntKind.wrap_u64, IntKind.wrap_i64, IntKind.wrap_u8]; omega) | (congr 1 <;> omega))), (agr rfl (by first | rfl | (congr 1; omega) | (congr 1; simp; done) | (congr 1; simp only [IntKind.wrap_u64, IntKind.wrap_i64, IntKind.wrap_u8]; omega) | (congr 1 <;> omega))), trivial⟩, hB, (by simp), (fun _ => ⟨by simp [cntL], by simp⟩), (by intro h_; omega), (by omega), rfl⟩
  · clear hB
    rintro m_ a_ w1 ⟨σ_, l, n, i, rfl, hB, hl_, hinv, hend, hi, rfl⟩
    refine C_seq (C_seq (C_reg rfl ?_))
    refine L_run (R_move rfl) rfl ?_
    refine L_run (R_move rfl) rfl ?_
    refine L_run (R_eqv (R_lenS rfl str9) (v' := .int .i64 (cs.length : Int)) (by rw [ba_size])) rfl ?_
    refine L_run (R_leq rfl rfl) rfl ?_
    refine L_nil (N_then ?_)
    refine C_if rfl (fun h1 => ?_) (fun h1 => ?_)
    · refine C_skip (N_then (C_seq (C_block (C_seq (C_seq (C_reg rfl ?_))))))
      refine L_run (R_move rfl) rfl ?_
      refine L_run (R_move rfl) rfl ?_
      refine L_run (R_eqv (R_lenS rfl str9) (v' := .int .i64 (cs.length : Int)) (by rw [ba_size])) rfl ?_
      refine L_run (R_lss rfl rfl) rfl ?_
      refine L_run (R_move rfl) rfl ?_
      refine L_splitD (p := (i : Int) < (cs.length : Int)) (fun h2 => ?_) (fun h2 => ?_)
      · refine L_yes rfl rfl rfl (decide_eq_true h2) ?_
        refine L_run (R_move rfl) rfl ?_
        refine L_yes rfl rfl rfl (decide_eq_true h2) ?_
        refine L_run (R_move rfl) rfl ?_
        refine L_yes rfl rfl rfl (decide_eq_true h2) ?_
        have hlk : i < cs.length := by first | omega | (simp; omega)
        refine L_run (R_indexS (cs := cs) (a := (i : Int)) (i := i) rfl rfl (by first | rfl | omega) str9 hlk) rfl ?_
        refine L_yes rfl rfl rfl (decide_eq_true h2) ?_
        refine L_run (R_neq rfl rfl) rfl ?_
        refine L_run (R_pickT rfl (decide_eq_true h2) rfl) rfl ?_
        refine L_nil (N_then ?_)
        refine C_if rfl (fun h3 => ?_) (fun h3 => ?_)
        · refine C_seq (C_reg rfl ?_)
          refine L_run (R_move rfl) rfl ?_
          refine L_run (R_move rfl) rfl ?_
          refine L_run (R_move rfl) rfl ?_
          refine L_run (R_move rfl) rfl ?_
          refine L_run (R_eqv (R_add64 rfl rfl (by first | omega | (have h_ := (hinv (by omega)).1; omega))) (v' := .int .i64 ((i + 1 : Nat) : Int)) (rfl)) rfl ?_
          refine L_run (R_slSLH (cs := cs) (i := i) (j := (i + 1)) rfl rfl rfl (by first | rfl | omega) (by first | rfl | omega) str9 (by first | omega | (simp; done) | (simp; omega)) (by omega)) rfl ?_
          refine L_run (R_eqv (R_addS rfl rfl (by rw [ba_size, ba_size]; have h_ := (hinv (by omega)).2; simp only [List.length_take, List.length_drop]; omega)) (v' := .string ⟨(l ++ ((cs.drop i).take ((i + 1) - i))).toArray⟩) (congrArg _ (ba_app _ _).symm)) rfl ?_
          refine L_run (R_assign rfl) rfl ?_
          refine L_nil (N_then (C_exit (X_then (X_hit (N_then (C_reg rfl ?_))))))
          refine L_run (R_move rfl) rfl ?_
          refine L_run (R_eqv (R_add64 rfl rfl (by first | omega | (have h_ := (hinv (by omega)).1; omega))) (v' := .int .i64 ((i + 1 : Nat) : Int)) (rfl)) rfl ?_
          refine L_run (R_assign rfl) rfl ?_
          refine L_nil (N_then ?_)
          exact ⟨cs.length + 1 - (i + 1), by omega, _, (l ++ ((cs.drop i).take (i + 1 - i))), n, (i + 1), Ac_frg ⟨rfl, rfl, rfl, (agr rfl (by first | rfl | (congr 1; omega) | (congr 1; simp; done) | (congr 1; simp only [IntKind.wrap_u64, IntKind.wrap_i64, IntKind.wrap_u8]; omega) | (congr 1 <;> omega))), (agr rfl (by first | rfl | (congr 1; omega) | (congr 1; simp; done) | (congr 1; simp only [IntKind.wrap_u64, IntKind.wrap_i64, IntKind.wrap_u8]; omega) | (congr 1 <;> omega))), trivial⟩, hB, (no10 hl_ hlk (fun h_ => h3 (by rw [h_]; rfl))), (fun _ => ⟨cnt_ch hlk (hinv (by omega)).1, by simp; omega⟩), (by intro h_; omega), (by omega), rfl⟩
        · refine C_skip (N_then (C_seq (C_seq (C_reg rfl ?_))))
          refine L_run (R_move rfl) rfl ?_
          refine L_run (R_move rfl) rfl ?_
          refine L_run (R_eqv (R_eqlS rfl rfl) (v' := .bool (decide (l = ws))) (bD ba_inj)) rfl ?_
          refine L_run (R_move rfl) rfl ?_
          refine L_splitD (p := l = ws) (fun h4 => ?_) (fun h4 => ?_)
          · refine L_no rfl rfl rfl (decide_eq_true h4) rfl ?_
            refine L_no rfl rfl rfl (decide_eq_true h4) rfl ?_
            refine L_no rfl rfl rfl (decide_eq_true h4) rfl ?_
            refine L_no rfl rfl rfl (decide_eq_true h4) rfl ?_
            refine L_no rfl rfl rfl (decide_eq_true h4) rfl ?_
            refine L_no rfl rfl rfl (decide_eq_true h4) rfl ?_
            refine L_noU rfl rfl rfl rfl ?_
            refine L_noU rfl rfl rfl rfl ?_
            refine L_noU rfl rfl rfl rfl ?_
            refine L_noU rfl rfl rfl rfl ?_
            refine L_noU rfl rfl rfl rfl ?_
            refine L_noU rfl rfl rfl rfl ?_
            refine L_no rfl rfl rfl (decide_eq_true h4) rfl ?_
            refine L_no rfl rfl rfl (decide_eq_true h4) rfl ?_
            refine L_noU rfl rfl rfl rfl ?_
            refine L_noU rfl rfl rfl rfl ?_
            refine L_noU rfl rfl rfl rfl ?_
            refine L_noU rfl rfl rfl rfl ?_
            refine L_noU rfl rfl rfl rfl ?_
            refine L_no rfl rfl rfl (decide_eq_true h4) rfl ?_
            refine L_run (R_pickT rfl (decide_eq_true h4) rfl) rfl ?_
            refine L_nil (N_then (C_condT rfl rfl (C_reg rfl ?_)))
            refine L_run (R_move rfl) rfl ?_
            refine L_run (R_eqv (R_add64 rfl rfl (by first | omega | (have h_ := (hinv (by omega)).1; omega))) (v' := .int .i64 ((n + 1 : Nat) : Int)) (rfl)) rfl ?_
            refine L_run (R_assign rfl) rfl ?_
            refine L_nil (N_then (C_reg rfl ?_))
            refine L_run (R_assign rfl) rfl ?_
            refine L_nil (N_in (N_then (C_reg rfl ?_)))
            refine L_run (R_move rfl) rfl ?_
            refine L_run (R_eqv (R_add64 rfl rfl (by first | omega | (have h_ := (hinv (by omega)).1; omega))) (v' := .int .i64 ((i + 1 : Nat) : Int)) (rfl)) rfl ?_
            refine L_run (R_assign rfl) rfl ?_
            refine L_nil (N_then ?_)
            have hli_ := (lineIs_y h4)
            have hc10_ : cs[i] = 10 := by have h_ := (Decidable.not_not.1 h3); exact UInt8.toNat_inj.1 (by simp; omega)
            exact ⟨cs.length + 1 - (i + 1), by omega, _, [], (n + 1), (i + 1), Ac_frg ⟨rfl, rfl, (agr rfl (by first | rfl | (congr 1; omega) | (congr 1; simp; done) | (congr 1; simp only [IntKind.wrap_u64, IntKind.wrap_i64, IntKind.wrap_u8]; omega) | (congr 1 <;> omega))), (agr rfl (by first | rfl | (congr 1; omega) | (congr 1; simp; done) | (congr 1; simp only [IntKind.wrap_u64, IntKind.wrap_i64, IntKind.wrap_u8]; omega) | (congr 1 <;> omega))), (agr rfl (by first | rfl | (congr 1; omega) | (congr 1; simp; done) | (congr 1; simp only [IntKind.wrap_u64, IntKind.wrap_i64, IntKind.wrap_u8]; omega) | (congr 1 <;> omega))), trivial⟩, hB, (by simp), (fun _ => ⟨cnt_y hl_ hlk hc10_ (hinv (by omega)).1 hli_, by simp⟩), (by intro h_; omega), (by omega), rfl⟩
          · refine L_yes rfl rfl rfl (decide_eq_false h4) ?_
            refine L_run (R_move rfl) rfl ?_
            refine L_yes rfl rfl rfl (decide_eq_false h4) ?_
            refine L_run (R_eqv (R_lenS rfl str9) (v' := .int .i64 (l.length : Int)) (by rw [ba_size])) rfl ?_
            refine L_yes rfl rfl rfl (decide_eq_false h4) ?_
            refine L_run (R_move rfl) rfl ?_
            refine L_yes rfl rfl rfl (decide_eq_false h4) ?_
            refine L_run (R_eqv (R_lenS rfl str9) (v' := .int .i64 (ws.length : Int)) (by rw [ba_size])) rfl ?_
            refine L_yes rfl rfl rfl (decide_eq_false h4) ?_
            refine L_run (R_gtr rfl rfl) rfl ?_
            refine L_yes rfl rfl rfl (decide_eq_false h4) ?_
            refine L_run (R_move rfl) rfl ?_
            refine L_splitD (p := (ws.length : Int) < (l.length : Int)) (fun h5 => ?_) (fun h5 => ?_)
            · refine L_yes rfl rfl rfl (decide_eq_true h5) ?_
              refine L_run (R_move rfl) rfl ?_
              refine L_yes rfl rfl rfl (decide_eq_true h5) ?_
              refine L_run (R_move rfl) rfl ?_
              refine L_yes rfl rfl rfl (decide_eq_true h5) ?_
              refine L_run (R_eqv (R_lenS rfl str9) (v' := .int .i64 (ws.length : Int)) (by rw [ba_size])) rfl ?_
              refine L_yes rfl rfl rfl (decide_eq_true h5) ?_
              refine L_run (R_slSH (cs := l) (i := ws.length) rfl rfl (by first | rfl | omega) str9 (by omega)) rfl ?_
              refine L_yes rfl rfl rfl (decide_eq_true h5) ?_
              refine L_run (R_move rfl) rfl ?_
              refine L_yes rfl rfl rfl (decide_eq_true h5) ?_
              refine L_run (R_eqv (R_eqlS rfl rfl) (v' := .bool (decide ((l.take ws.length) = ws))) (bD ba_inj)) rfl ?_
              refine L_yes rfl rfl rfl (decide_eq_false h4) ?_
              refine L_run (R_pickT rfl (decide_eq_true h5) rfl) rfl ?_
              refine L_yes rfl rfl rfl (decide_eq_false h4) ?_
              refine L_run (R_move rfl) rfl ?_
              refine L_splitD (p := (l.take ws.length) = ws) (fun h6 => ?_) (fun h6 => ?_)
              · refine L_yes rfl rfl rfl (decide_eq_true h6) ?_
                refine L_run (R_move rfl) rfl ?_
                refine L_yes rfl rfl rfl (decide_eq_true h6) ?_
                refine L_run (R_move rfl) rfl ?_
                refine L_yes rfl rfl rfl (decide_eq_true h6) ?_
                refine L_run (R_eqv (R_lenS rfl str9) (v' := .int .i64 (ws.length : Int)) (by rw [ba_size])) rfl ?_
                refine L_yes rfl rfl rfl (decide_eq_true h6) ?_
                have hl2 : ws.length < l.length := by first | omega | (simp; omega)
                refine L_run (R_indexS (cs := l) (a := (ws.length : Int)) (i := ws.length) rfl rfl (by first | rfl | omega) str9 hl2) rfl ?_
                refine L_yes rfl rfl rfl (decide_eq_true h6) ?_
                refine L_run (R_eql rfl rfl) rfl ?_
                refine L_yes rfl rfl rfl (decide_eq_false h4) ?_
                refine L_run (R_pickT rfl (decide_eq_true h6) rfl) rfl ?_
                refine L_run (R_pickF rfl (decide_eq_false h4) rfl) rfl ?_
                refine L_nil (N_then ?_)
                refine C_if rfl (fun h7 => ?_) (fun h7 => ?_)
                · refine C_reg rfl ?_
                  refine L_run (R_move rfl) rfl ?_
                  refine L_run (R_eqv (R_add64 rfl rfl (by first | omega | (have h_ := (hinv (by omega)).1; omega))) (v' := .int .i64 ((n + 1 : Nat) : Int)) (rfl)) rfl ?_
                  refine L_run (R_assign rfl) rfl ?_
                  refine L_nil (N_then (C_reg rfl ?_))
                  refine L_run (R_assign rfl) rfl ?_
                  refine L_nil (N_in (N_then (C_reg rfl ?_)))
                  refine L_run (R_move rfl) rfl ?_
                  refine L_run (R_eqv (R_add64 rfl rfl (by first | omega | (have h_ := (hinv (by omega)).1; omega))) (v' := .int .i64 ((i + 1 : Nat) : Int)) (rfl)) rfl ?_
                  refine L_run (R_assign rfl) rfl ?_
                  refine L_nil (N_then ?_)
                  have hli_ := (lineIs_ref.2 (.inr ⟨by omega, h6, by rw [List.getElem?_eq_getElem (by omega)]; congr 1; exact UInt8.toNat_inj.1 (by have h_ := h7; simp; omega)⟩))
                  have hc10_ : cs[i] = 10 := by have h_ := (Decidable.not_not.1 h3); exact UInt8.toNat_inj.1 (by simp; omega)
                  exact ⟨cs.length + 1 - (i + 1), by omega, _, [], (n + 1), (i + 1), Ac_frg ⟨rfl, rfl, (agr rfl (by first | rfl | (congr 1; omega) | (congr 1; simp; done) | (congr 1; simp only [IntKind.wrap_u64, IntKind.wrap_i64, IntKind.wrap_u8]; omega) | (congr 1 <;> omega))), (agr rfl (by first | rfl | (congr 1; omega) | (congr 1; simp; done) | (congr 1; simp only [IntKind.wrap_u64, IntKind.wrap_i64, IntKind.wrap_u8]; omega) | (congr 1 <;> omega))), (agr rfl (by first | rfl | (congr 1; omega) | (congr 1; simp; done) | (congr 1; simp only [IntKind.wrap_u64, IntKind.wrap_i64, IntKind.wrap_u8]; omega) | (congr 1 <;> omega))), trivial⟩, hB, (by simp), (fun _ => ⟨cnt_y hl_ hlk hc10_ (hinv (by omega)).1 hli_, by simp⟩), (by intro h_; omega), (by omega), rfl⟩
                · refine C_skip (N_then (C_reg rfl ?_))
                  refine L_run (R_assign rfl) rfl ?_
                  refine L_nil (N_in (N_then (C_reg rfl ?_)))
                  refine L_run (R_move rfl) rfl ?_
                  refine L_run (R_eqv (R_add64 rfl rfl (by first | omega | (have h_ := (hinv (by omega)).1; omega))) (v' := .int .i64 ((i + 1 : Nat) : Int)) (rfl)) rfl ?_
                  refine L_run (R_assign rfl) rfl ?_
                  refine L_nil (N_then ?_)
                  have hli_ := (lineIs_ref2 h4 (fun h_ => by have h9_ := h_.2.2; rw [List.getElem?_eq_getElem (by omega)] at h9_; have h8_ := congrArg UInt8.toNat (Option.some.inj h9_); have h7_ := h7; simp at h8_; omega))
                  have hc10_ : cs[i] = 10 := by have h_ := (Decidable.not_not.1 h3); exact UInt8.toNat_inj.1 (by simp; omega)
                  exact ⟨cs.length + 1 - (i + 1), by omega, _, [], n, (i + 1), Ac_frg ⟨rfl, rfl, rfl, (agr rfl (by first | rfl | (congr 1; omega) | (congr 1; simp; done) | (congr 1; simp only [IntKind.wrap_u64, IntKind.wrap_i64, IntKind.wrap_u8]; omega) | (congr 1 <;> omega))), (agr rfl (by first | rfl | (congr 1; omega) | (congr 1; simp; done) | (congr 1; simp only [IntKind.wrap_u64, IntKind.wrap_i64, IntKind.wrap_u8]; omega) | (congr 1 <;> omega))), trivial⟩, hB, (by simp), (fun _ => ⟨cnt_n hl_ hlk hc10_ (hinv (by omega)).1 hli_, by simp⟩), (by intro h_; omega), (by omega), rfl⟩
              · refine L_no rfl rfl rfl (decide_eq_false h6) rfl ?_
                refine L_no rfl rfl rfl (decide_eq_false h6) rfl ?_
                refine L_no rfl rfl rfl (decide_eq_false h6) rfl ?_
                refine L_no rfl rfl rfl (decide_eq_false h6) rfl ?_
                refine L_no rfl rfl rfl (decide_eq_false h6) rfl ?_
                refine L_yes rfl rfl rfl (decide_eq_false h4) ?_
                refine L_run (R_pickF rfl (decide_eq_false h6) rfl) rfl ?_
                refine L_run (R_pickF rfl (decide_eq_false h4) rfl) rfl ?_
                refine L_nil (N_then (C_condF rfl rfl (C_skip (N_then (C_reg rfl ?_)))))
                refine L_run (R_assign rfl) rfl ?_
                refine L_nil (N_in (N_then (C_reg rfl ?_)))
                refine L_run (R_move rfl) rfl ?_
                refine L_run (R_eqv (R_add64 rfl rfl (by first | omega | (have h_ := (hinv (by omega)).1; omega))) (v' := .int .i64 ((i + 1 : Nat) : Int)) (rfl)) rfl ?_
                refine L_run (R_assign rfl) rfl ?_
                refine L_nil (N_then ?_)
                have hli_ := (lineIs_ref2 h4 (fun h_ => h6 h_.2.1))
                have hc10_ : cs[i] = 10 := by have h_ := (Decidable.not_not.1 h3); exact UInt8.toNat_inj.1 (by simp; omega)
                exact ⟨cs.length + 1 - (i + 1), by omega, _, [], n, (i + 1), Ac_frg ⟨rfl, rfl, rfl, (agr rfl (by first | rfl | (congr 1; omega) | (congr 1; simp; done) | (congr 1; simp only [IntKind.wrap_u64, IntKind.wrap_i64, IntKind.wrap_u8]; omega) | (congr 1 <;> omega))), (agr rfl (by first | rfl | (congr 1; omega) | (congr 1; simp; done) | (congr 1; simp only [IntKind.wrap_u64, IntKind.wrap_i64, IntKind.wrap_u8]; omega) | (congr 1 <;> omega))), trivial⟩, hB, (by simp), (fun _ => ⟨cnt_n hl_ hlk hc10_ (hinv (by omega)).1 hli_, by simp⟩), (by intro h_; omega), (by omega), rfl⟩
            · refine L_no rfl rfl rfl (decide_eq_false h5) rfl ?_
              refine L_no rfl rfl rfl (decide_eq_false h5) rfl ?_
              refine L_no rfl rfl rfl (decide_eq_false h5) rfl ?_
              refine L_no rfl rfl rfl (decide_eq_false h5) rfl ?_
              refine L_no rfl rfl rfl (decide_eq_false h5) rfl ?_
              refine L_no rfl rfl rfl (decide_eq_false h5) rfl ?_
              refine L_yes rfl rfl rfl (decide_eq_false h4) ?_
              refine L_run (R_pickF rfl (decide_eq_false h5) rfl) rfl ?_
              refine L_yes rfl rfl rfl (decide_eq_false h4) ?_
              refine L_run (R_move rfl) rfl ?_
              refine L_no rfl rfl rfl rfl rfl ?_
              refine L_no rfl rfl rfl rfl rfl ?_
              refine L_no rfl rfl rfl rfl rfl ?_
              refine L_no rfl rfl rfl rfl rfl ?_
              refine L_no rfl rfl rfl rfl rfl ?_
              refine L_yes rfl rfl rfl (decide_eq_false h4) ?_
              refine L_run (R_pickF rfl rfl rfl) rfl ?_
              refine L_run (R_pickF rfl (decide_eq_false h4) rfl) rfl ?_
              refine L_nil (N_then (C_condF rfl rfl (C_skip (N_then (C_reg rfl ?_)))))
              refine L_run (R_assign rfl) rfl ?_
              refine L_nil (N_in (N_then (C_reg rfl ?_)))
              refine L_run (R_move rfl) rfl ?_
              refine L_run (R_eqv (R_add64 rfl rfl (by first | omega | (have h_ := (hinv (by omega)).1; omega))) (v' := .int .i64 ((i + 1 : Nat) : Int)) (rfl)) rfl ?_
              refine L_run (R_assign rfl) rfl ?_
              refine L_nil (N_then ?_)
              have hli_ := (lineIs_ref2 h4 (fun h_ => by have h9_ := h_.1; omega))
              have hc10_ : cs[i] = 10 := by have h_ := (Decidable.not_not.1 h3); exact UInt8.toNat_inj.1 (by simp; omega)
              exact ⟨cs.length + 1 - (i + 1), by omega, _, [], n, (i + 1), Ac_frg ⟨rfl, rfl, rfl, (agr rfl (by first | rfl | (congr 1; omega) | (congr 1; simp; done) | (congr 1; simp only [IntKind.wrap_u64, IntKind.wrap_i64, IntKind.wrap_u8]; omega) | (congr 1 <;> omega))), (agr rfl (by first | rfl | (congr 1; omega) | (congr 1; simp; done) | (congr 1; simp only [IntKind.wrap_u64, IntKind.wrap_i64, IntKind.wrap_u8]; omega) | (congr 1 <;> omega))), trivial⟩, hB, (by simp), (fun _ => ⟨cnt_n hl_ hlk hc10_ (hinv (by omega)).1 hli_, by simp⟩), (by intro h_; omega), (by omega), rfl⟩
      · refine L_no rfl rfl rfl (decide_eq_false h2) rfl ?_
        refine L_no rfl rfl rfl (decide_eq_false h2) rfl ?_
        refine L_no rfl rfl rfl (decide_eq_false h2) rfl ?_
        refine L_no rfl rfl rfl (decide_eq_false h2) rfl ?_
        refine L_run (R_pickF rfl (decide_eq_false h2) rfl) rfl ?_
        refine L_nil (N_then (C_condF rfl rfl (C_skip (N_then (C_seq (C_seq (C_reg rfl ?_)))))))
        refine L_run (R_move rfl) rfl ?_
        refine L_run (R_move rfl) rfl ?_
        refine L_run (R_eqv (R_eqlS rfl rfl) (v' := .bool (decide (l = ws))) (bD ba_inj)) rfl ?_
        refine L_run (R_move rfl) rfl ?_
        refine L_splitD (p := l = ws) (fun h8 => ?_) (fun h8 => ?_)
        · refine L_no rfl rfl rfl (decide_eq_true h8) rfl ?_
          refine L_no rfl rfl rfl (decide_eq_true h8) rfl ?_
          refine L_no rfl rfl rfl (decide_eq_true h8) rfl ?_
          refine L_no rfl rfl rfl (decide_eq_true h8) rfl ?_
          refine L_no rfl rfl rfl (decide_eq_true h8) rfl ?_
          refine L_no rfl rfl rfl (decide_eq_true h8) rfl ?_
          refine L_noU rfl rfl rfl rfl ?_
          refine L_noU rfl rfl rfl rfl ?_
          refine L_noU rfl rfl rfl rfl ?_
          refine L_noU rfl rfl rfl rfl ?_
          refine L_noU rfl rfl rfl rfl ?_
          refine L_noU rfl rfl rfl rfl ?_
          refine L_no rfl rfl rfl (decide_eq_true h8) rfl ?_
          refine L_no rfl rfl rfl (decide_eq_true h8) rfl ?_
          refine L_noU rfl rfl rfl rfl ?_
          refine L_noU rfl rfl rfl rfl ?_
          refine L_noU rfl rfl rfl rfl ?_
          refine L_noU rfl rfl rfl rfl ?_
          refine L_noU rfl rfl rfl rfl ?_
          refine L_no rfl rfl rfl (decide_eq_true h8) rfl ?_
          refine L_run (R_pickT rfl (decide_eq_true h8) rfl) rfl ?_
          refine L_nil (N_then (C_condT rfl rfl (C_reg rfl ?_)))
          refine L_run (R_move rfl) rfl ?_
          refine L_run (R_eqv (R_add64 rfl rfl (by first | omega | (have h_ := (hinv (by omega)).1; omega))) (v' := .int .i64 ((n + 1 : Nat) : Int)) (rfl)) rfl ?_
          refine L_run (R_assign rfl) rfl ?_
          refine L_nil (N_then (C_reg rfl ?_))
          refine L_run (R_assign rfl) rfl ?_
          refine L_nil (N_in (N_then (C_reg rfl ?_)))
          refine L_run (R_move rfl) rfl ?_
          refine L_run (R_eqv (R_add64 rfl rfl (by first | omega | (have h_ := (hinv (by omega)).1; omega))) (v' := .int .i64 ((i + 1 : Nat) : Int)) (rfl)) rfl ?_
          refine L_run (R_assign rfl) rfl ?_
          refine L_nil (N_then ?_)
          have hli_ := (lineIs_y h8)
          exact ⟨cs.length + 1 - (i + 1), by omega, _, [], (n + 1), (i + 1), Ac_frg ⟨rfl, rfl, (agr rfl (by first | rfl | (congr 1; omega) | (congr 1; simp; done) | (congr 1; simp only [IntKind.wrap_u64, IntKind.wrap_i64, IntKind.wrap_u8]; omega) | (congr 1 <;> omega))), (agr rfl (by first | rfl | (congr 1; omega) | (congr 1; simp; done) | (congr 1; simp only [IntKind.wrap_u64, IntKind.wrap_i64, IntKind.wrap_u8]; omega) | (congr 1 <;> omega))), (agr rfl (by first | rfl | (congr 1; omega) | (congr 1; simp; done) | (congr 1; simp only [IntKind.wrap_u64, IntKind.wrap_i64, IntKind.wrap_u8]; omega) | (congr 1 <;> omega))), trivial⟩, hB, (by simp), (by intro h_; omega), (fun _ => cnt_ly hl_ (by omega) (hinv (by omega)).1 hli_), (by omega), rfl⟩
        · refine L_yes rfl rfl rfl (decide_eq_false h8) ?_
          refine L_run (R_move rfl) rfl ?_
          refine L_yes rfl rfl rfl (decide_eq_false h8) ?_
          refine L_run (R_eqv (R_lenS rfl str9) (v' := .int .i64 (l.length : Int)) (by rw [ba_size])) rfl ?_
          refine L_yes rfl rfl rfl (decide_eq_false h8) ?_
          refine L_run (R_move rfl) rfl ?_
          refine L_yes rfl rfl rfl (decide_eq_false h8) ?_
          refine L_run (R_eqv (R_lenS rfl str9) (v' := .int .i64 (ws.length : Int)) (by rw [ba_size])) rfl ?_
          refine L_yes rfl rfl rfl (decide_eq_false h8) ?_
          refine L_run (R_gtr rfl rfl) rfl ?_
          refine L_yes rfl rfl rfl (decide_eq_false h8) ?_
          refine L_run (R_move rfl) rfl ?_
          refine L_splitD (p := (ws.length : Int) < (l.length : Int)) (fun h9 => ?_) (fun h9 => ?_)
          · refine L_yes rfl rfl rfl (decide_eq_true h9) ?_
            refine L_run (R_move rfl) rfl ?_
            refine L_yes rfl rfl rfl (decide_eq_true h9) ?_
            refine L_run (R_move rfl) rfl ?_
            refine L_yes rfl rfl rfl (decide_eq_true h9) ?_
            refine L_run (R_eqv (R_lenS rfl str9) (v' := .int .i64 (ws.length : Int)) (by rw [ba_size])) rfl ?_
            refine L_yes rfl rfl rfl (decide_eq_true h9) ?_
            refine L_run (R_slSH (cs := l) (i := ws.length) rfl rfl (by first | rfl | omega) str9 (by omega)) rfl ?_
            refine L_yes rfl rfl rfl (decide_eq_true h9) ?_
            refine L_run (R_move rfl) rfl ?_
            refine L_yes rfl rfl rfl (decide_eq_true h9) ?_
            refine L_run (R_eqv (R_eqlS rfl rfl) (v' := .bool (decide ((l.take ws.length) = ws))) (bD ba_inj)) rfl ?_
            refine L_yes rfl rfl rfl (decide_eq_false h8) ?_
            refine L_run (R_pickT rfl (decide_eq_true h9) rfl) rfl ?_
            refine L_yes rfl rfl rfl (decide_eq_false h8) ?_
            refine L_run (R_move rfl) rfl ?_
            refine L_splitD (p := (l.take ws.length) = ws) (fun h10 => ?_) (fun h10 => ?_)
            · refine L_yes rfl rfl rfl (decide_eq_true h10) ?_
              refine L_run (R_move rfl) rfl ?_
              refine L_yes rfl rfl rfl (decide_eq_true h10) ?_
              refine L_run (R_move rfl) rfl ?_
              refine L_yes rfl rfl rfl (decide_eq_true h10) ?_
              refine L_run (R_eqv (R_lenS rfl str9) (v' := .int .i64 (ws.length : Int)) (by rw [ba_size])) rfl ?_
              refine L_yes rfl rfl rfl (decide_eq_true h10) ?_
              have hl3 : ws.length < l.length := by first | omega | (simp; omega)
              refine L_run (R_indexS (cs := l) (a := (ws.length : Int)) (i := ws.length) rfl rfl (by first | rfl | omega) str9 hl3) rfl ?_
              refine L_yes rfl rfl rfl (decide_eq_true h10) ?_
              refine L_run (R_eql rfl rfl) rfl ?_
              refine L_yes rfl rfl rfl (decide_eq_false h8) ?_
              refine L_run (R_pickT rfl (decide_eq_true h10) rfl) rfl ?_
              refine L_run (R_pickF rfl (decide_eq_false h8) rfl) rfl ?_
              refine L_nil (N_then ?_)
              refine C_if rfl (fun h11 => ?_) (fun h11 => ?_)
              · refine C_reg rfl ?_
                refine L_run (R_move rfl) rfl ?_
                refine L_run (R_eqv (R_add64 rfl rfl (by first | omega | (have h_ := (hinv (by omega)).1; omega))) (v' := .int .i64 ((n + 1 : Nat) : Int)) (rfl)) rfl ?_
                refine L_run (R_assign rfl) rfl ?_
                refine L_nil (N_then (C_reg rfl ?_))
                refine L_run (R_assign rfl) rfl ?_
                refine L_nil (N_in (N_then (C_reg rfl ?_)))
                refine L_run (R_move rfl) rfl ?_
                refine L_run (R_eqv (R_add64 rfl rfl (by first | omega | (have h_ := (hinv (by omega)).1; omega))) (v' := .int .i64 ((i + 1 : Nat) : Int)) (rfl)) rfl ?_
                refine L_run (R_assign rfl) rfl ?_
                refine L_nil (N_then ?_)
                have hli_ := (lineIs_ref.2 (.inr ⟨by omega, h10, by rw [List.getElem?_eq_getElem (by omega)]; congr 1; exact UInt8.toNat_inj.1 (by have h_ := h11; simp; omega)⟩))
                exact ⟨cs.length + 1 - (i + 1), by omega, _, [], (n + 1), (i + 1), Ac_frg ⟨rfl, rfl, (agr rfl (by first | rfl | (congr 1; omega) | (congr 1; simp; done) | (congr 1; simp only [IntKind.wrap_u64, IntKind.wrap_i64, IntKind.wrap_u8]; omega) | (congr 1 <;> omega))), (agr rfl (by first | rfl | (congr 1; omega) | (congr 1; simp; done) | (congr 1; simp only [IntKind.wrap_u64, IntKind.wrap_i64, IntKind.wrap_u8]; omega) | (congr 1 <;> omega))), (agr rfl (by first | rfl | (congr 1; omega) | (congr 1; simp; done) | (congr 1; simp only [IntKind.wrap_u64, IntKind.wrap_i64, IntKind.wrap_u8]; omega) | (congr 1 <;> omega))), trivial⟩, hB, (by simp), (by intro h_; omega), (fun _ => cnt_ly hl_ (by omega) (hinv (by omega)).1 hli_), (by omega), rfl⟩
              · refine C_skip (N_then (C_reg rfl ?_))
                refine L_run (R_assign rfl) rfl ?_
                refine L_nil (N_in (N_then (C_reg rfl ?_)))
                refine L_run (R_move rfl) rfl ?_
                refine L_run (R_eqv (R_add64 rfl rfl (by first | omega | (have h_ := (hinv (by omega)).1; omega))) (v' := .int .i64 ((i + 1 : Nat) : Int)) (rfl)) rfl ?_
                refine L_run (R_assign rfl) rfl ?_
                refine L_nil (N_then ?_)
                have hli_ := (lineIs_ref2 h8 (fun h_ => by have h9_ := h_.2.2; rw [List.getElem?_eq_getElem (by omega)] at h9_; have h8_ := congrArg UInt8.toNat (Option.some.inj h9_); have h7_ := h11; simp at h8_; omega))
                exact ⟨cs.length + 1 - (i + 1), by omega, _, [], n, (i + 1), Ac_frg ⟨rfl, rfl, rfl, (agr rfl (by first | rfl | (congr 1; omega) | (congr 1; simp; done) | (congr 1; simp only [IntKind.wrap_u64, IntKind.wrap_i64, IntKind.wrap_u8]; omega) | (congr 1 <;> omega))), (agr rfl (by first | rfl | (congr 1; omega) | (congr 1; simp; done) | (congr 1; simp only [IntKind.wrap_u64, IntKind.wrap_i64, IntKind.wrap_u8]; omega) | (congr 1 <;> omega))), trivial⟩, hB, (by simp), (by intro h_; omega), (fun _ => cnt_ln hl_ (by omega) (hinv (by omega)).1 hli_), (by omega), rfl⟩
            · refine L_no rfl rfl rfl (decide_eq_false h10) rfl ?_
              refine L_no rfl rfl rfl (decide_eq_false h10) rfl ?_
              refine L_no rfl rfl rfl (decide_eq_false h10) rfl ?_
              refine L_no rfl rfl rfl (decide_eq_false h10) rfl ?_
              refine L_no rfl rfl rfl (decide_eq_false h10) rfl ?_
              refine L_yes rfl rfl rfl (decide_eq_false h8) ?_
              refine L_run (R_pickF rfl (decide_eq_false h10) rfl) rfl ?_
              refine L_run (R_pickF rfl (decide_eq_false h8) rfl) rfl ?_
              refine L_nil (N_then (C_condF rfl rfl (C_skip (N_then (C_reg rfl ?_)))))
              refine L_run (R_assign rfl) rfl ?_
              refine L_nil (N_in (N_then (C_reg rfl ?_)))
              refine L_run (R_move rfl) rfl ?_
              refine L_run (R_eqv (R_add64 rfl rfl (by first | omega | (have h_ := (hinv (by omega)).1; omega))) (v' := .int .i64 ((i + 1 : Nat) : Int)) (rfl)) rfl ?_
              refine L_run (R_assign rfl) rfl ?_
              refine L_nil (N_then ?_)
              have hli_ := (lineIs_ref2 h8 (fun h_ => h10 h_.2.1))
              exact ⟨cs.length + 1 - (i + 1), by omega, _, [], n, (i + 1), Ac_frg ⟨rfl, rfl, rfl, (agr rfl (by first | rfl | (congr 1; omega) | (congr 1; simp; done) | (congr 1; simp only [IntKind.wrap_u64, IntKind.wrap_i64, IntKind.wrap_u8]; omega) | (congr 1 <;> omega))), (agr rfl (by first | rfl | (congr 1; omega) | (congr 1; simp; done) | (congr 1; simp only [IntKind.wrap_u64, IntKind.wrap_i64, IntKind.wrap_u8]; omega) | (congr 1 <;> omega))), trivial⟩, hB, (by simp), (by intro h_; omega), (fun _ => cnt_ln hl_ (by omega) (hinv (by omega)).1 hli_), (by omega), rfl⟩
          · refine L_no rfl rfl rfl (decide_eq_false h9) rfl ?_
            refine L_no rfl rfl rfl (decide_eq_false h9) rfl ?_
            refine L_no rfl rfl rfl (decide_eq_false h9) rfl ?_
            refine L_no rfl rfl rfl (decide_eq_false h9) rfl ?_
            refine L_no rfl rfl rfl (decide_eq_false h9) rfl ?_
            refine L_no rfl rfl rfl (decide_eq_false h9) rfl ?_
            refine L_yes rfl rfl rfl (decide_eq_false h8) ?_
            refine L_run (R_pickF rfl (decide_eq_false h9) rfl) rfl ?_
            refine L_yes rfl rfl rfl (decide_eq_false h8) ?_
            refine L_run (R_move rfl) rfl ?_
            refine L_no rfl rfl rfl rfl rfl ?_
            refine L_no rfl rfl rfl rfl rfl ?_
            refine L_no rfl rfl rfl rfl rfl ?_
            refine L_no rfl rfl rfl rfl rfl ?_
            refine L_no rfl rfl rfl rfl rfl ?_
            refine L_yes rfl rfl rfl (decide_eq_false h8) ?_
            refine L_run (R_pickF rfl rfl rfl) rfl ?_
            refine L_run (R_pickF rfl (decide_eq_false h8) rfl) rfl ?_
            refine L_nil (N_then (C_condF rfl rfl (C_skip (N_then (C_reg rfl ?_)))))
            refine L_run (R_assign rfl) rfl ?_
            refine L_nil (N_in (N_then (C_reg rfl ?_)))
            refine L_run (R_move rfl) rfl ?_
            refine L_run (R_eqv (R_add64 rfl rfl (by first | omega | (have h_ := (hinv (by omega)).1; omega))) (v' := .int .i64 ((i + 1 : Nat) : Int)) (rfl)) rfl ?_
            refine L_run (R_assign rfl) rfl ?_
            refine L_nil (N_then ?_)
            have hli_ := (lineIs_ref2 h8 (fun h_ => by have h9_ := h_.1; omega))
            exact ⟨cs.length + 1 - (i + 1), by omega, _, [], n, (i + 1), Ac_frg ⟨rfl, rfl, rfl, (agr rfl (by first | rfl | (congr 1; omega) | (congr 1; simp; done) | (congr 1; simp only [IntKind.wrap_u64, IntKind.wrap_i64, IntKind.wrap_u8]; omega) | (congr 1 <;> omega))), (agr rfl (by first | rfl | (congr 1; omega) | (congr 1; simp; done) | (congr 1; simp only [IntKind.wrap_u64, IntKind.wrap_i64, IntKind.wrap_u8]; omega) | (congr 1 <;> omega))), trivial⟩, hB, (by simp), (by intro h_; omega), (fun _ => cnt_ln hl_ (by omega) (hinv (by omega)).1 hli_), (by omega), rfl⟩
    · refine C_exit (X_then (X_then (X_hit (N_then (C_seq (C_reg rfl ?_))))))
      refine L_run (R_move rfl) rfl ?_
      refine L_run (R_assign rfl) rfl ?_
      refine L_nil (N_then (C_ret ?_))
      refine ret1 Tryd.results15 rfl ?_
      rw [hend (by omega)]; exact ⟨hB, rfl⟩

end Go.Proofs.YtkjgjejkfjhcjaaDoor
