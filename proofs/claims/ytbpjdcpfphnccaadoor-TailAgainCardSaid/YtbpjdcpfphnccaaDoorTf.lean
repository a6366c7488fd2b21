/-
  Contracts of the reference of cuts: a record's pieces.
-/
import Derived.Test.YtbpjdcpfphnccaaDoorTe
namespace Go.Proofs.YtbpjdcpfphnccaaDoor
open Go.RowKit Gw Pl
set_option linter.unusedVariables false
set_option linter.unusedSimpArgs false
theorem cb29 : callB Tryd.prog 29 = true := by kernel_rfl
theorem cb52 : callB Tryd.prog 52 = true := by kernel_rfl
theorem fld89_1 : fldB Tryd.prog 89 1 1 = true := by kernel_rfl
theorem slc84 : slcB Tryd.prog 84 89 4 32 = true := by kernel_rfl
theorem sz3 : szB Tryd.prog 3 1 = true := by kernel_rfl
theorem zer89 : (Tryd.prog.info? 89).bind (·.zero) = some (.agg #[.int .i64 0, .int .i64 0, .int .i64 0, .int .i64 0]) := by kernel_rfl
/-! ### a record's pieces -/
/-- Where, the kind, from, to; what is behind them. -/
def rawN (n : Nat) : Nat → Nat → Nat → Option (List (Nat × Nat × Nat × Nat) × Nat)
  | 0, _, _ => none
  | fu + 1, q, f =>
    if 832 ≤ beginN q then none
    else if f + min (n - f) (leftN (beginN q) - 11) < n then (rawN n fu (beginN q + 11 + min (n - f) (leftN (beginN q) - 11)) (f + min (n - f) (leftN (beginN q) - 11))).map fun r => ((beginN q, 3, f, f + min (n - f) (leftN (beginN q) - 11)) :: r.1, r.2)
    else some ([(beginN q, 3, f, f + min (n - f) (leftN (beginN q) - 11))], beginN q + 11 + min (n - f) (leftN (beginN q) - 11))
def setK (ps : List (Nat × Nat × Nat × Nat)) (i k : Nat) : List (Nat × Nat × Nat × Nat) := match ps[i]? with
  | some p => ps.set i (p.1, k, p.2.2.1, p.2.2.2)
  | none => ps
def kindN (ps : List (Nat × Nat × Nat × Nat)) : List (Nat × Nat × Nat × Nat) := if ps.length = 1 then setK (setK (setK ps 0 2) (ps.length - 1) 4) 0 1 else setK (setK ps 0 2) (ps.length - 1) 4
def cutN (a n : Nat) : Option (List (Nat × Nat × Nat × Nat) × Nat) := (rawN n 833 a 0).map fun r => (kindN r.1, r.2)
def POk (n : Nat) (ps : List (Nat × Nat × Nat × Nat)) : Prop := ∀ p ∈ ps, p.2.1 ≤ 4 ∧ p.2.2.1 ≤ p.2.2.2 ∧ p.2.2.2 ≤ n ∧ p.2.2.2 ≤ p.2.2.1 + 197 ∧ p.1 + 11 + (p.2.2.2 - p.2.2.1) ≤ 832
theorem setK_eq {ps : List (Nat × Nat × Nat × Nat)} {i k : Nat} (h : i < ps.length) : ps.set i (ps[i].1, k, ps[i].2.2.1, ps[i].2.2.2) = setK ps i k := by
  unfold setK
  rw [List.getElem?_eq_getElem h]
theorem setK_len {ps : List (Nat × Nat × Nat × Nat)} {i k : Nat} : (setK ps i k).length = ps.length := by
  unfold setK
  split <;> simp
theorem setK_ok {n : Nat} {ps : List (Nat × Nat × Nat × Nat)} {i k : Nat} (h : POk n ps) (hk : k ≤ 4) : POk n (setK ps i k) := by
  unfold setK
  split
  · rename_i p hp
    intro q hq
    rcases List.mem_or_eq_of_mem_set hq with hq | hq
    · exact h q hq
    · subst hq
      have := h p (List.mem_of_getElem? hp)
      exact ⟨hk, this.2⟩
  · exact h
theorem begin_room (q : Nat) : 11 ≤ 52 - beginN q % 52 := by
  unfold beginN
  split <;> omega
theorem left11 {q : Nat} (h : ¬ 832 ≤ beginN q) : 11 ≤ leftN (beginN q) := by
  have h2 := begin_room q
  unfold leftN
  rw [if_neg (by omega)]
  generalize beginN q = x at *
  omega
theorem rawN_ok {n : Nat} : ∀ (fu q f : Nat) (r : List (Nat × Nat × Nat × Nat) × Nat), q ≤ 832 → f ≤ n → rawN n fu q f = some r → POk n r.1 ∧ r.2 ≤ 832
  | 0, _, _, _, _, _, h => by simp [rawN] at h
  | fu + 1, q, f, r, hq, hf, h => by
    have hb := beginN_le hq
    have hl := leftN_le hb.2
    simp only [rawN] at h
    split at h
    · cases h
    · rename_i h1
      have h11 := left11 h1
      have k1 : f + min (n - f) (leftN (beginN q) - 11) ≤ n := by omega
      have k2 : f + min (n - f) (leftN (beginN q) - 11) ≤ f + 197 := by omega
      have k3 : beginN q + 11 + (f + min (n - f) (leftN (beginN q) - 11) - f) ≤ 832 := by omega
      split at h
      · obtain ⟨r', hr', rfl⟩ := Option.map_eq_some_iff.1 h
        have ih := rawN_ok fu _ _ r' (by omega) (by omega) hr'
        refine ⟨?_, ih.2⟩
        intro p hp
        rcases List.mem_cons.1 hp with rfl | hp
        · exact ⟨by show 3 ≤ 4; decide, Nat.le_add_right _ _, k1, k2, k3⟩
        · exact ih.1 p hp
      · obtain rfl := Option.some.inj h
        refine ⟨?_, by show beginN q + 11 + min (n - f) (leftN (beginN q) - 11) ≤ 832; omega⟩
        intro p hp
        rw [List.mem_singleton] at hp
        subst hp
        exact ⟨by show 3 ≤ 4; decide, Nat.le_add_right _ _, k1, k2, k3⟩
theorem rawN_len {n : Nat} : ∀ (fu q f : Nat) (r : List (Nat × Nat × Nat × Nat) × Nat), rawN n fu q f = some r → r.1.length ≤ fu
  | 0, _, _, _, h => by simp [rawN] at h
  | fu + 1, q, f, r, h => by
    simp only [rawN] at h
    split at h
    · cases h
    · split at h
      · obtain ⟨r', hr', rfl⟩ := Option.map_eq_some_iff.1 h
        have := rawN_len fu _ _ r' hr'
        simpa using this
      · obtain rfl := Option.some.inj h
        simp
theorem cutN_len {a n : Nat} {r : List (Nat × Nat × Nat × Nat) × Nat} (h : cutN a n = some r) : r.1.length ≤ 833 := by
  obtain ⟨r', hr', rfl⟩ := Option.map_eq_some_iff.1 h
  have := rawN_len 833 a 0 r' hr'
  show (kindN r'.1).length ≤ 833
  unfold kindN
  split
  · rw [setK_len, setK_len, setK_len]; exact this
  · rw [setK_len, setK_len]; exact this
theorem cutN_ok {a n : Nat} {r : List (Nat × Nat × Nat × Nat) × Nat} (ha : a ≤ 832) (h : cutN a n = some r) : POk n r.1 ∧ r.2 ≤ 832 := by
  obtain ⟨r', hr', rfl⟩ := Option.map_eq_some_iff.1 h
  have := rawN_ok 833 a 0 r' ha (by omega) hr'
  refine ⟨?_, this.2⟩
  show POk n (kindN r'.1)
  unfold kindN
  split
  · exact setK_ok (setK_ok (setK_ok this.1 (by omega)) (by omega)) (by omega)
  · exact setK_ok (setK_ok this.1 (by omega)) (by omega)
theorem POk.get {n i : Nat} {ps : List (Nat × Nat × Nat × Nat)} (h : POk n ps) (hi : i < ps.length) : ps[i].2.1 ≤ 4 ∧ ps[i].2.2.1 ≤ ps[i].2.2.2 ∧ ps[i].2.2.2 ≤ n ∧ ps[i].2.2.2 ≤ ps[i].2.2.1 + 197 ∧ ps[i].1 + 11 + (ps[i].2.2.2 - ps[i].2.2.1) ≤ 832 := h _ (List.getElem_mem _)
def cps : Option (List (Nat × Nat × Nat × Nat) × Nat) → List (Nat × Nat × Nat × Nat)
  | some r => r.1
  | none => []
def cen {α : Type} : Option (α × Nat) → Nat
  | some r => r.2
  | none => 0
/-- How far the pieces have come. -/
def RawI (n a : Nat) (acc : List (Nat × Nat × Nat × Nat)) (q f fu : Nat) : Prop := (if acc = [] ∨ f < n then (rawN n fu q f).map (fun r => (acc ++ r.1, r.2)) else some (acc, q)) = rawN n 833 a 0
theorem RawI.start {n a : Nat} : RawI n a [] a 0 833 := by
  unfold RawI
  rw [if_pos (.inl rfl)]
  cases rawN n 833 a 0 <;> simp
theorem RawI.none {n a q f fu : Nat} {acc : List (Nat × Nat × Nat × Nat)} (h : RawI n a acc q f fu) (hc : acc.length = 0 ∨ f < n) (h1 : 832 ≤ beginN q) : rawN n 833 a 0 = none := by
  unfold RawI at h
  rw [if_pos (hc.elim (fun h => .inl (List.eq_nil_of_length_eq_zero h)) .inr)] at h
  rw [← h]
  cases fu with
  | zero => rfl
  | succ fu => rw [rawN, if_pos h1]; rfl
theorem RawI.step {n a q f fu k : Nat} {acc : List (Nat × Nat × Nat × Nat)} (h : RawI n a acc q f fu) (hc : acc.length = 0 ∨ f < n) (h1 : ¬ 832 ≤ beginN q) (hf : 0 < fu) (hk : k = min (n - f) (leftN (beginN q) - 11)) :
    RawI n a (acc ++ [(beginN q, 3, f, f + k)]) (beginN q + 11 + k) (f + k) (fu - 1) := by
  obtain ⟨fu, rfl⟩ : ∃ u, fu = u + 1 := ⟨fu - 1, by omega⟩
  unfold RawI at h ⊢
  rw [if_pos (hc.elim (fun h => .inl (List.eq_nil_of_length_eq_zero h)) .inr)] at h
  rw [← h, rawN, if_neg h1, ← hk]
  by_cases h2 : f + k < n
  · rw [if_pos h2, if_pos (.inr h2)]
    show Option.map _ (rawN n fu _ _) = _
    cases rawN n fu (beginN q + 11 + k) (f + k) <;> simp
  · rw [if_neg h2, if_neg (by simp [h2])]
    rfl
theorem RawI.done {n a q f fu : Nat} {acc : List (Nat × Nat × Nat × Nat)} (h : RawI n a acc q f fu) (h0 : ¬ acc.length = 0) (h1 : ¬ f < n) : rawN n 833 a 0 = some (acc, q) := by
  unfold RawI at h
  rw [if_neg (by simp [h1]; intro e; exact h0 (by rw [e]; rfl))] at h
  exact h.symm
def encP (p : Nat × Nat × Nat × Nat) : List Value := [.int .i64 (p.1 : Int), .int .i64 (p.2.1 : Int), .int .i64 (p.2.2.1 : Int), .int .i64 (p.2.2.2 : Int)]
theorem EncP : Enc encP 4 := ⟨fun _ => rfl, fun _ => rfl⟩
theorem cut14_ok {w : World} {a n : Nat} (ha : a ≤ 832) (hn : n ≤ 1000000) :
    Runs Tryd.prog 41 #[.int .i64 (a : Int), .int .i64 (n : Int)] w (fun v w' => w.grownBy w' none ∧ ∃ A' c', v = .tuple #[.slice A' (cps (cutN a n)).length c', .int .i64 ((cen (cutN a n) : Nat) : Int), .bool ((cutN a n)).isSome] ∧ World.ownsRow w' w.heap.size 89 4 (.slice A' (cps (cutN a n)).length c') (cps (cutN a n)).length (fl encP (cps (cutN a n)))) := by
  have hB := gb_refl w none
  refine enter Tryd.func41 Tryd.ntmps41 rfl rfl ?_
  refine C_seq (C_reg rfl ?_)
  refine L_run (R_assign rfl) rfl ?_
  refine L_run (R_assign rfl) rfl ?_
  refine L_run (R_assign rfl) rfl ?_
  refine L_nil (N_then (C_seq (C_seq (C_reg rfl ?_))))
  refine L_run (R_move rfl) rfl ?_
  refine L_run (R_lss rfl rfl) rfl ?_
  refine L_nil (N_then (C_condF rfl (decide_eq_false (by omega)) (C_skip (N_then (C_seq (C_reg rfl ?_))))))
  refine L_run (R_assign rfl) rfl ?_
  refine L_nil (N_then (C_seq (C_reg rfl ?_)))
  refine L_run (R_assign rfl) rfl ?_
  refine L_nil (N_then (C_seq (C_block ?_)))
  refine C_loop (fun m_ a_ w_ => ∃ (σ_ : Nat → Value) (acc : List (Nat × Nat × Nat × Nat)) (Aj : Option Addr) (cj : Nat) (q : Nat) (f : Nat) (fu : Nat), a_ = Ac 68 σ_ [] [(0, .int .i64 (q : Int)), (1, .int .i64 (n : Int)), (4, .slice none 0 0), (5, .int .i64 0), (6, .bool false), (7, .slice Aj acc.length cj), (8, .int .i64 (f : Int))] ∧ w.grownBy w_ none ∧ World.ownsRow w_ w.heap.size 89 4 (.slice Aj acc.length cj) acc.length (fl encP acc) ∧ (q ≤ 832) ∧ (f ≤ n) ∧ (832 < q + fu) ∧ (RawI n a acc q f fu) ∧ (acc.length ≤ q) ∧ 832 - q = m_) (832 - a) ?_ ?_
  · exact ⟨_, [], none, 0, a, 0, 833, Ac_frg ⟨rfl, rfl, rfl, rfl, rfl, (agr rfl (by first | rfl | (congr 1; omega) | (congr 1; simp; done) | (congr 1; simp only [IntKind.wrap_u64, IntKind.wrap_i64, IntKind.wrap_u8]; omega) | (congr 1 <;> omega))), (agr rfl (by first | rfl | (congr 1; omega) | (congr 1; simp; done) | (congr 1; simp only [IntKind.wrap_u64, IntKind.wrap_i64, IntKind.wrap_u8]; omega) | (congr 1 <;> omega))), trivial⟩, hB, (own_nil _ _ _ _), ha, (by omega), (by omega), RawI.start, (Nat.zero_le _), rfl⟩
  · clear hB
    rintro m_ a_ w1 ⟨σ_, acc, Aj, cj, q, f, fu, rfl, hB, ho, hq, hf, hfu, hR, hal, rfl⟩
    refine C_seq (C_seq (C_reg rfl ?_))
    refine L_run (R_move rfl) rfl ?_
    refine L_run (R_lenSl rfl slc84) rfl ?_
    refine L_run (R_eql rfl rfl) rfl ?_
    refine L_run (R_move rfl) rfl ?_
    refine L_splitD (p := (acc.length : Int) = 0) (fun h1 => ?_) (fun h1 => ?_)
    · refine L_no rfl rfl rfl (decide_eq_true h1) rfl ?_
      refine L_no rfl rfl rfl (decide_eq_true h1) rfl ?_
      refine L_no rfl rfl rfl (decide_eq_true h1) rfl ?_
      refine L_run (R_pickT rfl (decide_eq_true h1) rfl) rfl ?_
      refine L_nil (N_then (C_condT rfl rfl (C_skip (N_then (C_block (C_seq (C_reg rfl ?_)))))))
      refine L_run (R_move rfl) rfl ?_
      refine L_call rfl cb29 (begin7 (n := q) (by assumption)) rfl ?_
      rintro _ w2 ⟨hs1, rfl⟩
      replace hB := gb_tr hB hs1
      replace ho := own_gb ho hs1
      refine L_run (R_assign rfl) rfl ?_
      refine L_nil (N_then (C_seq (C_seq (C_reg rfl ?_))))
      refine L_run (R_move rfl) rfl ?_
      refine L_run (R_geq rfl rfl) rfl ?_
      refine L_nil (N_then ?_)
      refine C_if rfl (fun h2 => ?_) (fun h2 => ?_)
      · refine C_seq (C_reg rfl ?_)
        refine L_run (R_assign rfl) rfl ?_
        refine L_run (R_assign rfl) rfl ?_
        refine L_run (R_assign rfl) rfl ?_
        refine L_nil (N_then (C_ret (R_then (R_in (R_then (R_in (R_then ?_)))))))
        refine ret3 Tryd.results41 rfl rfl rfl ?_
        have hc_ : cutN a n = none := by unfold cutN; rw [hR.none (by omega) (by omega)]; rfl
        rw [hc_]; exact ⟨hB, none, 0, rfl, own_nil _ _ _ _⟩
      · refine C_skip (N_then (C_seq (C_reg rfl ?_)))
        refine L_run (R_move rfl) rfl ?_
        refine L_run (R_move rfl) rfl ?_
        refine L_run (R_eqv (R_sub64 rfl rfl (by first | omega | (have h_ := leftN_le (beginN_le hq).2; omega))) (v' := .int .i64 ((n - f : Nat) : Int)) (congrArg _ (by omega))) rfl ?_
        refine L_run (R_assign rfl) rfl ?_
        refine L_nil (N_then (C_seq (C_seq (C_reg rfl ?_))))
        refine L_run (R_move rfl) rfl ?_
        refine L_run (R_move rfl) rfl ?_
        refine L_call rfl cb52 (left7 (n := (beginN q)) (beginN_le (by assumption)).2) rfl ?_
        rintro _ w3 ⟨hs2, rfl⟩
        replace hB := gb_tr hB hs2
        replace ho := own_gb ho hs2
        refine L_run (R_eqv (R_sub64 rfl rfl (by first | omega | (have h_ := leftN_le (beginN_le hq).2; omega))) (v' := .int .i64 ((leftN (beginN q) - 11 : Nat) : Int)) (congrArg _ (by have h_ := left11 (q := q) (by omega); omega))) rfl ?_
        refine L_run (R_gtr rfl rfl) rfl ?_
        refine L_nil (N_then ?_)
        refine C_if rfl (fun h3 => ?_) (fun h3 => ?_)
        · refine C_reg rfl ?_
          refine L_run (R_move rfl) rfl ?_
          refine L_call rfl cb52 (left7 (n := (beginN q)) (beginN_le (by assumption)).2) rfl ?_
          rintro _ w4 ⟨hs3, rfl⟩
          replace hB := gb_tr hB hs3
          replace ho := own_gb ho hs3
          refine L_run (R_eqv (R_sub64 rfl rfl (by first | omega | (have h_ := leftN_le (beginN_le hq).2; omega))) (v' := .int .i64 ((leftN (beginN q) - 11 : Nat) : Int)) (congrArg _ (by have h_ := left11 (q := q) (by omega); omega))) rfl ?_
          refine L_run (R_assign rfl) rfl ?_
          refine L_nil (N_then (C_seq (C_reg rfl ?_)))
          refine L_run (R_move rfl) rfl ?_
          refine L_run (R_move rfl) rfl ?_
          refine L_run (R_move rfl) rfl ?_
          refine L_run (R_move rfl) rfl ?_
          refine L_run (R_move rfl) rfl ?_
          refine L_run (R_eqv (R_add64 rfl rfl (by first | omega | (have h_ := leftN_le (beginN_le hq).2; omega))) (v' := .int .i64 ((f + (leftN (beginN q) - 11) : Nat) : Int)) (congrArg _ (by omega))) rfl ?_
          refine L_run (R_build (pv := [(0, .int .i64 ((beginN q : Nat) : Int)), (1, .int .i64 3), (2, .int .i64 (f : Int)), (3, .int .i64 ((f + (leftN (beginN q) - 11) : Nat) : Int))]) (cs := [.int .i64 ((beginN q : Nat) : Int), .int .i64 3, .int .i64 (f : Int), .int .i64 ((f + (leftN (beginN q) - 11) : Nat) : Int)]) rfl (by kernel_rfl)) rfl ?_
          refine L_buildSlice (pv := [(0, .agg #[.int .i64 ((beginN q : Nat) : Int), .int .i64 3, .int .i64 (f : Int), .int .i64 ((f + (leftN (beginN q) - 11) : Nat) : Int)])]) (cs := [.int .i64 ((beginN q : Nat) : Int), .int .i64 3, .int .i64 (f : Int), .int .i64 ((f + (leftN (beginN q) - 11) : Nat) : Int)]) slc84 zer89 rfl rfl (by kernel_rfl) rfl ?_
          intro g1 w5 eg1 hb1 hs4 hz1
          have ge1 : w.heap.size ≤ g1 := eg_ge hB eg1
          have hap1 : ∀ k_, (Value.slice Aj acc.length cj).ownBlock = some k_ → k_ ≠ g1 := fun k_ hk => by have h_ := (World.ownsRow.lt ho k_ hk).2; omega
          replace hB := gb_tr hB hs4
          replace ho := own_gb ho hs4
          refine T_append (xs := acc) (ys := [((beginN q), 3, f, (f + (leftN (beginN q) - 11)))]) EncP slc84 rfl rfl ho (Blk.sli (m := 0) hb1) (by simp only [List.length_append, List.length_cons, List.length_nil] at *; omega) (by have := hB.size; omega) rfl ?_
          intro A_1 c_1 w6 ho1 hs5 hat1
          replace hB := gb_tro hB ho hs5 (Nat.le_refl _)
          refine L_run (R_assign rfl) rfl ?_
          refine L_nil (N_then (C_seq (C_reg rfl ?_)))
          refine L_run (R_move rfl) rfl ?_
          refine L_run (R_move rfl) rfl ?_
          refine L_run (R_eqv (R_add64 rfl rfl (by first | omega | (have h_ := leftN_le (beginN_le hq).2; omega))) (v' := .int .i64 ((f + (leftN (beginN q) - 11) : Nat) : Int)) (congrArg _ (by omega))) rfl ?_
          refine L_run (R_assign rfl) rfl ?_
          refine L_nil (N_then (C_reg rfl ?_))
          refine L_run (R_move rfl) rfl ?_
          refine L_run (R_add64 rfl rfl (by first | omega | (have h_ := leftN_le (beginN_le hq).2; omega))) rfl ?_
          refine L_run (R_move rfl) rfl ?_
          refine L_run (R_eqv (R_add64 rfl rfl (by first | omega | (have h_ := leftN_le (beginN_le hq).2; omega))) (v' := .int .i64 ((beginN q + 11 + (leftN (beginN q) - 11) : Nat) : Int)) (congrArg _ (by omega))) rfl ?_
          refine L_run (R_assign rfl) rfl ?_
          refine L_nil (N_in (N_then ?_))
          have hbq := beginN_le hq
          have hlq := leftN_le hbq.2
          have h11 := left11 (q := q) (by omega)
          have hk_ : (leftN (beginN q) - 11) = min (n - f) (leftN (beginN q) - 11) := by omega
          have hst := hR.step (by omega) (by omega) (by omega) hk_
          exact ⟨832 - (beginN q + 11 + (leftN (beginN q) - 11)), by omega, _, acc ++ ([((beginN q), 3, f, (f + (leftN (beginN q) - 11)))]), A_1, c_1, (beginN q + 11 + (leftN (beginN q) - 11)), (f + (leftN (beginN q) - 11)), (fu - 1), Ac_frg ⟨(agr rfl (by first | rfl | (congr 1; omega) | (congr 1; simp; done) | (congr 1; simp only [IntKind.wrap_u64, IntKind.wrap_i64, IntKind.wrap_u8]; omega) | (congr 1 <;> omega))), rfl, rfl, rfl, rfl, rfl, (agr rfl (by first | rfl | (congr 1; omega) | (congr 1; simp; done) | (congr 1; simp only [IntKind.wrap_u64, IntKind.wrap_i64, IntKind.wrap_u8]; omega) | (congr 1 <;> omega))), trivial⟩, hB, (own_lo ho1 (Nat.le_refl _)), (by omega), (by omega), (by omega), hst, (by simp only [List.length_append, List.length_cons, List.length_nil]; omega), rfl⟩
        · refine C_skip (N_then (C_seq (C_reg rfl ?_)))
          refine L_run (R_move rfl) rfl ?_
          refine L_run (R_move rfl) rfl ?_
          refine L_run (R_move rfl) rfl ?_
          refine L_run (R_move rfl) rfl ?_
          refine L_run (R_move rfl) rfl ?_
          refine L_run (R_eqv (R_add64 rfl rfl (by first | omega | (have h_ := leftN_le (beginN_le hq).2; omega))) (v' := .int .i64 ((f + (n - f) : Nat) : Int)) (congrArg _ (by omega))) rfl ?_
          refine L_run (R_build (pv := [(0, .int .i64 ((beginN q : Nat) : Int)), (1, .int .i64 3), (2, .int .i64 (f : Int)), (3, .int .i64 ((f + (n - f) : Nat) : Int))]) (cs := [.int .i64 ((beginN q : Nat) : Int), .int .i64 3, .int .i64 (f : Int), .int .i64 ((f + (n - f) : Nat) : Int)]) rfl (by kernel_rfl)) rfl ?_
          refine L_buildSlice (pv := [(0, .agg #[.int .i64 ((beginN q : Nat) : Int), .int .i64 3, .int .i64 (f : Int), .int .i64 ((f + (n - f) : Nat) : Int)])]) (cs := [.int .i64 ((beginN q : Nat) : Int), .int .i64 3, .int .i64 (f : Int), .int .i64 ((f + (n - f) : Nat) : Int)]) slc84 zer89 rfl rfl (by kernel_rfl) rfl ?_
          intro g2 w7 eg2 hb2 hs6 hz2
          have ge2 : w.heap.size ≤ g2 := eg_ge hB eg2
          have hap2 : ∀ k_, (Value.slice Aj acc.length cj).ownBlock = some k_ → k_ ≠ g2 := fun k_ hk => by have h_ := (World.ownsRow.lt ho k_ hk).2; omega
          replace hB := gb_tr hB hs6
          replace ho := own_gb ho hs6
          refine T_append (xs := acc) (ys := [((beginN q), 3, f, (f + (n - f)))]) EncP slc84 rfl rfl ho (Blk.sli (m := 0) hb2) (by simp only [List.length_append, List.length_cons, List.length_nil] at *; omega) (by have := hB.size; omega) rfl ?_
          intro A_2 c_2 w8 ho2 hs7 hat2
          replace hB := gb_tro hB ho hs7 (Nat.le_refl _)
          refine L_run (R_assign rfl) rfl ?_
          refine L_nil (N_then (C_seq (C_reg rfl ?_)))
          refine L_run (R_move rfl) rfl ?_
          refine L_run (R_move rfl) rfl ?_
          refine L_run (R_eqv (R_add64 rfl rfl (by first | omega | (have h_ := leftN_le (beginN_le hq).2; omega))) (v' := .int .i64 ((f + (n - f) : Nat) : Int)) (congrArg _ (by omega))) rfl ?_
          refine L_run (R_assign rfl) rfl ?_
          refine L_nil (N_then (C_reg rfl ?_))
          refine L_run (R_move rfl) rfl ?_
          refine L_run (R_add64 rfl rfl (by first | omega | (have h_ := leftN_le (beginN_le hq).2; omega))) rfl ?_
          refine L_run (R_move rfl) rfl ?_
          refine L_run (R_eqv (R_add64 rfl rfl (by first | omega | (have h_ := leftN_le (beginN_le hq).2; omega))) (v' := .int .i64 ((beginN q + 11 + (n - f) : Nat) : Int)) (congrArg _ (by omega))) rfl ?_
          refine L_run (R_assign rfl) rfl ?_
          refine L_nil (N_in (N_then ?_))
          have hbq := beginN_le hq
          have hlq := leftN_le hbq.2
          have h11 := left11 (q := q) (by omega)
          have hk_ : (n - f) = min (n - f) (leftN (beginN q) - 11) := by omega
          have hst := hR.step (by omega) (by omega) (by omega) hk_
          exact ⟨832 - (beginN q + 11 + (n - f)), by omega, _, acc ++ ([((beginN q), 3, f, (f + (n - f)))]), A_2, c_2, (beginN q + 11 + (n - f)), (f + (n - f)), (fu - 1), Ac_frg ⟨(agr rfl (by first | rfl | (congr 1; omega) | (congr 1; simp; done) | (congr 1; simp only [IntKind.wrap_u64, IntKind.wrap_i64, IntKind.wrap_u8]; omega) | (congr 1 <;> omega))), rfl, rfl, rfl, rfl, rfl, (agr rfl (by first | rfl | (congr 1; omega) | (congr 1; simp; done) | (congr 1; simp only [IntKind.wrap_u64, IntKind.wrap_i64, IntKind.wrap_u8]; omega) | (congr 1 <;> omega))), trivial⟩, hB, (own_lo ho2 (Nat.le_refl _)), (by omega), (by omega), (by omega), hst, (by simp only [List.length_append, List.length_cons, List.length_nil]; omega), rfl⟩
    · refine L_yes rfl rfl rfl (decide_eq_false h1) ?_
      refine L_run (R_move rfl) rfl ?_
      refine L_yes rfl rfl rfl (decide_eq_false h1) ?_
      refine L_run (R_move rfl) rfl ?_
      refine L_yes rfl rfl rfl (decide_eq_false h1) ?_
      refine L_run (R_lss rfl rfl) rfl ?_
      refine L_run (R_pickF rfl (decide_eq_false h1) rfl) rfl ?_
      refine L_nil (N_then ?_)
      refine C_if rfl (fun h4 => ?_) (fun h4 => ?_)
      · refine C_skip (N_then (C_block (C_seq (C_reg rfl ?_))))
        refine L_run (R_move rfl) rfl ?_
        refine L_call rfl cb29 (begin7 (n := q) (by assumption)) rfl ?_
        rintro _ w9 ⟨hs8, rfl⟩
        replace hB := gb_tr hB hs8
        replace ho := own_gb ho hs8
        refine L_run (R_assign rfl) rfl ?_
        refine L_nil (N_then (C_seq (C_seq (C_reg rfl ?_))))
        refine L_run (R_move rfl) rfl ?_
        refine L_run (R_geq rfl rfl) rfl ?_
        refine L_nil (N_then ?_)
        refine C_if rfl (fun h5 => ?_) (fun h5 => ?_)
        · refine C_seq (C_reg rfl ?_)
          refine L_run (R_assign rfl) rfl ?_
          refine L_run (R_assign rfl) rfl ?_
          refine L_run (R_assign rfl) rfl ?_
          refine L_nil (N_then (C_ret (R_then (R_in (R_then (R_in (R_then ?_)))))))
          refine ret3 Tryd.results41 rfl rfl rfl ?_
          have hc_ : cutN a n = none := by unfold cutN; rw [hR.none (by omega) (by omega)]; rfl
          rw [hc_]; exact ⟨hB, none, 0, rfl, own_nil _ _ _ _⟩
        · refine C_skip (N_then (C_seq (C_reg rfl ?_)))
          refine L_run (R_move rfl) rfl ?_
          refine L_run (R_move rfl) rfl ?_
          refine L_run (R_eqv (R_sub64 rfl rfl (by first | omega | (have h_ := leftN_le (beginN_le hq).2; omega))) (v' := .int .i64 ((n - f : Nat) : Int)) (congrArg _ (by omega))) rfl ?_
          refine L_run (R_assign rfl) rfl ?_
          refine L_nil (N_then (C_seq (C_seq (C_reg rfl ?_))))
          refine L_run (R_move rfl) rfl ?_
          refine L_run (R_move rfl) rfl ?_
          refine L_call rfl cb52 (left7 (n := (beginN q)) (beginN_le (by assumption)).2) rfl ?_
          rintro _ w10 ⟨hs9, rfl⟩
          replace hB := gb_tr hB hs9
          replace ho := own_gb ho hs9
          refine L_run (R_eqv (R_sub64 rfl rfl (by first | omega | (have h_ := leftN_le (beginN_le hq).2; omega))) (v' := .int .i64 ((leftN (beginN q) - 11 : Nat) : Int)) (congrArg _ (by have h_ := left11 (q := q) (by omega); omega))) rfl ?_
          refine L_run (R_gtr rfl rfl) rfl ?_
          refine L_nil (N_then ?_)
          refine C_if rfl (fun h6 => ?_) (fun h6 => ?_)
          · refine C_reg rfl ?_
            refine L_run (R_move rfl) rfl ?_
            refine L_call rfl cb52 (left7 (n := (beginN q)) (beginN_le (by assumption)).2) rfl ?_
            rintro _ w11 ⟨hs10, rfl⟩
            replace hB := gb_tr hB hs10
            replace ho := own_gb ho hs10
            refine L_run (R_eqv (R_sub64 rfl rfl (by first | omega | (have h_ := leftN_le (beginN_le hq).2; omega))) (v' := .int .i64 ((leftN (beginN q) - 11 : Nat) : Int)) (congrArg _ (by have h_ := left11 (q := q) (by omega); omega))) rfl ?_
            refine L_run (R_assign rfl) rfl ?_
            refine L_nil (N_then (C_seq (C_reg rfl ?_)))
            refine L_run (R_move rfl) rfl ?_
            refine L_run (R_move rfl) rfl ?_
            refine L_run (R_move rfl) rfl ?_
            refine L_run (R_move rfl) rfl ?_
            refine L_run (R_move rfl) rfl ?_
            refine L_run (R_eqv (R_add64 rfl rfl (by first | omega | (have h_ := leftN_le (beginN_le hq).2; omega))) (v' := .int .i64 ((f + (leftN (beginN q) - 11) : Nat) : Int)) (congrArg _ (by omega))) rfl ?_
            refine L_run (R_build (pv := [(0, .int .i64 ((beginN q : Nat) : Int)), (1, .int .i64 3), (2, .int .i64 (f : Int)), (3, .int .i64 ((f + (leftN (beginN q) - 11) : Nat) : Int))]) (cs := [.int .i64 ((beginN q : Nat) : Int), .int .i64 3, .int .i64 (f : Int), .int .i64 ((f + (leftN (beginN q) - 11) : Nat) : Int)]) rfl (by kernel_rfl)) rfl ?_
            refine L_buildSlice (pv := [(0, .agg #[.int .i64 ((beginN q : Nat) : Int), .int .i64 3, .int .i64 (f : Int), .int .i64 ((f + (leftN (beginN q) - 11) : Nat) : Int)])]) (cs := [.int .i64 ((beginN q : Nat) : Int), .int .i64 3, .int .i64 (f : Int), .int .i64 ((f + (leftN (beginN q) - 11) : Nat) : Int)]) slc84 zer89 rfl rfl (by kernel_rfl) rfl ?_
            intro g3 w12 eg3 hb3 hs11 hz3
            have ge3 : w.heap.size ≤ g3 := eg_ge hB eg3
            have hap3 : ∀ k_, (Value.slice Aj acc.length cj).ownBlock = some k_ → k_ ≠ g3 := fun k_ hk => by have h_ := (World.ownsRow.lt ho k_ hk).2; omega
            replace hB := gb_tr hB hs11
            replace ho := own_gb ho hs11
            refine T_append (xs := acc) (ys := [((beginN q), 3, f, (f + (leftN (beginN q) - 11)))]) EncP slc84 rfl rfl ho (Blk.sli (m := 0) hb3) (by simp only [List.length_append, List.length_cons, List.length_nil] at *; omega) (by have := hB.size; omega) rfl ?_
            intro A_3 c_3 w13 ho3 hs12 hat3
            replace hB := gb_tro hB ho hs12 (Nat.le_refl _)
            refine L_run (R_assign rfl) rfl ?_
            refine L_nil (N_then (C_seq (C_reg rfl ?_)))
            refine L_run (R_move rfl) rfl ?_
            refine L_run (R_move rfl) rfl ?_
            refine L_run (R_eqv (R_add64 rfl rfl (by first | omega | (have h_ := leftN_le (beginN_le hq).2; omega))) (v' := .int .i64 ((f + (leftN (beginN q) - 11) : Nat) : Int)) (congrArg _ (by omega))) rfl ?_
            refine L_run (R_assign rfl) rfl ?_
            refine L_nil (N_then (C_reg rfl ?_))
            refine L_run (R_move rfl) rfl ?_
            refine L_run (R_add64 rfl rfl (by first | omega | (have h_ := leftN_le (beginN_le hq).2; omega))) rfl ?_
            refine L_run (R_move rfl) rfl ?_
            refine L_run (R_eqv (R_add64 rfl rfl (by first | omega | (have h_ := leftN_le (beginN_le hq).2; omega))) (v' := .int .i64 ((beginN q + 11 + (leftN (beginN q) - 11) : Nat) : Int)) (congrArg _ (by omega))) rfl ?_
            refine L_run (R_assign rfl) rfl ?_
            refine L_nil (N_in (N_then ?_))
            have hbq := beginN_le hq
            have hlq := leftN_le hbq.2
            have h11 := left11 (q := q) (by omega)
            have hk_ : (leftN (beginN q) - 11) = min (n - f) (leftN (beginN q) - 11) := by omega
            have hst := hR.step (by omega) (by omega) (by omega) hk_
            exact ⟨832 - (beginN q + 11 + (leftN (beginN q) - 11)), by omega, _, acc ++ ([((beginN q), 3, f, (f + (leftN (beginN q) - 11)))]), A_3, c_3, (beginN q + 11 + (leftN (beginN q) - 11)), (f + (leftN (beginN q) - 11)), (fu - 1), Ac_frg ⟨(agr rfl (by first | rfl | (congr 1; omega) | (congr 1; simp; done) | (congr 1; simp only [IntKind.wrap_u64, IntKind.wrap_i64, IntKind.wrap_u8]; omega) | (congr 1 <;> omega))), rfl, rfl, rfl, rfl, rfl, (agr rfl (by first | rfl | (congr 1; omega) | (congr 1; simp; done) | (congr 1; simp only [IntKind.wrap_u64, IntKind.wrap_i64, IntKind.wrap_u8]; omega) | (congr 1 <;> omega))), trivial⟩, hB, (own_lo ho3 (Nat.le_refl _)), (by omega), (by omega), (by omega), hst, (by simp only [List.length_append, List.length_cons, List.length_nil]; omega), rfl⟩
          · refine C_skip (N_then (C_seq (C_reg rfl ?_)))
            refine L_run (R_move rfl) rfl ?_
            refine L_run (R_move rfl) rfl ?_
            refine L_run (R_move rfl) rfl ?_
            refine L_run (R_move rfl) rfl ?_
            refine L_run (R_move rfl) rfl ?_
            refine L_run (R_eqv (R_add64 rfl rfl (by first | omega | (have h_ := leftN_le (beginN_le hq).2; omega))) (v' := .int .i64 ((f + (n - f) : Nat) : Int)) (congrArg _ (by omega))) rfl ?_
            refine L_run (R_build (pv := [(0, .int .i64 ((beginN q : Nat) : Int)), (1, .int .i64 3), (2, .int .i64 (f : Int)), (3, .int .i64 ((f + (n - f) : Nat) : Int))]) (cs := [.int .i64 ((beginN q : Nat) : Int), .int .i64 3, .int .i64 (f : Int), .int .i64 ((f + (n - f) : Nat) : Int)]) rfl (by kernel_rfl)) rfl ?_
            refine L_buildSlice (pv := [(0, .agg #[.int .i64 ((beginN q : Nat) : Int), .int .i64 3, .int .i64 (f : Int), .int .i64 ((f + (n - f) : Nat) : Int)])]) (cs := [.int .i64 ((beginN q : Nat) : Int), .int .i64 3, .int .i64 (f : Int), .int .i64 ((f + (n - f) : Nat) : Int)]) slc84 zer89 rfl rfl (by kernel_rfl) rfl ?_
            intro g4 w14 eg4 hb4 hs13 hz4
            have ge4 : w.heap.size ≤ g4 := eg_ge hB eg4
            have hap4 : ∀ k_, (Value.slice Aj acc.length cj).ownBlock = some k_ → k_ ≠ g4 := fun k_ hk => by have h_ := (World.ownsRow.lt ho k_ hk).2; omega
            replace hB := gb_tr hB hs13
            replace ho := own_gb ho hs13
            refine T_append (xs := acc) (ys := [((beginN q), 3, f, (f + (n - f)))]) EncP slc84 rfl rfl ho (Blk.sli (m := 0) hb4) (by simp only [List.length_append, List.length_cons, List.length_nil] at *; omega) (by have := hB.size; omega) rfl ?_
            intro A_4 c_4 w15 ho4 hs14 hat4
            replace hB := gb_tro hB ho hs14 (Nat.le_refl _)
            refine L_run (R_assign rfl) rfl ?_
            refine L_nil (N_then (C_seq (C_reg rfl ?_)))
            refine L_run (R_move rfl) rfl ?_
            refine L_run (R_move rfl) rfl ?_
            refine L_run (R_eqv (R_add64 rfl rfl (by first | omega | (have h_ := leftN_le (beginN_le hq).2; omega))) (v' := .int .i64 ((f + (n - f) : Nat) : Int)) (congrArg _ (by omega))) rfl ?_
            refine L_run (R_assign rfl) rfl ?_
            refine L_nil (N_then (C_reg rfl ?_))
            refine L_run (R_move rfl) rfl ?_
            refine L_run (R_add64 rfl rfl (by first | omega | (have h_ := leftN_le (beginN_le hq).2; omega))) rfl ?_
            refine L_run (R_move rfl) rfl ?_
            refine L_run (R_eqv (R_add64 rfl rfl (by first | omega | (have h_ := leftN_le (beginN_le hq).2; omega))) (v' := .int .i64 ((beginN q + 11 + (n - f) : Nat) : Int)) (congrArg _ (by omega))) rfl ?_
            refine L_run (R_assign rfl) rfl ?_
            refine L_nil (N_in (N_then ?_))
            have hbq := beginN_le hq
            have hlq := leftN_le hbq.2
            have h11 := left11 (q := q) (by omega)
            have hk_ : (n - f) = min (n - f) (leftN (beginN q) - 11) := by omega
            have hst := hR.step (by omega) (by omega) (by omega) hk_
            exact ⟨832 - (beginN q + 11 + (n - f)), by omega, _, acc ++ ([((beginN q), 3, f, (f + (n - f)))]), A_4, c_4, (beginN q + 11 + (n - f)), (f + (n - f)), (fu - 1), Ac_frg ⟨(agr rfl (by first | rfl | (congr 1; omega) | (congr 1; simp; done) | (congr 1; simp only [IntKind.wrap_u64, IntKind.wrap_i64, IntKind.wrap_u8]; omega) | (congr 1 <;> omega))), rfl, rfl, rfl, rfl, rfl, (agr rfl (by first | rfl | (congr 1; omega) | (congr 1; simp; done) | (congr 1; simp only [IntKind.wrap_u64, IntKind.wrap_i64, IntKind.wrap_u8]; omega) | (congr 1 <;> omega))), trivial⟩, hB, (own_lo ho4 (Nat.le_refl _)), (by omega), (by omega), (by omega), hst, (by simp only [List.length_append, List.length_cons, List.length_nil]; omega), rfl⟩
      · refine C_exit (X_then (X_then (X_hit (N_then (C_seq (C_reg rfl ?_))))))
        refine L_run (R_move rfl) rfl ?_
        have hl1 : 0 < acc.length := by first | omega | (simp; omega)
        refine T_indexO (xs := acc) (i := 0) (r := 0) EncP rfl rfl (by first | rfl | omega) slc84 hl1 ho rfl rfl ?_
        intro g5 hg1 ha1
        refine L_run (R_field (r := 1) rfl fld89_1 rfl) rfl ?_
        refine L_stO (v := .int .i64 2) (vs' := fl encP (acc.set 0 (((acc[0]).1), 2, ((acc[0]).2.2.1), ((acc[0]).2.2.2)))) rfl rfl rfl sz3 ho hg1 (by rw [fl_len EncP]; omega) (fl_setE EncP acc 0 1 (((acc[0]).1), 2, ((acc[0]).2.2.1), ((acc[0]).2.2.2)) (.int .i64 2) hl1 (by decide) rfl) ?_
        intro w16 ho5 hs15 hz5
        replace hB := gb_tro hB ho hs15 (Nat.le_refl _)
        obtain ⟨ys1, hys1, lys1⟩ : ∃ y_, y_ = acc.set 0 (((acc[0]).1), 2, ((acc[0]).2.2.1), ((acc[0]).2.2.2)) ∧ y_.length = acc.length := ⟨_, rfl, by rw [List.length_set]⟩
        rw [← hys1, ← lys1] at ho5
        try rw [← lys1]
        refine L_nil (N_then (C_seq (C_reg rfl ?_)))
        refine L_run (R_move rfl) rfl ?_
        refine L_run (R_move rfl) rfl ?_
        refine L_run (R_lenSl rfl slc84) rfl ?_
        refine L_run (R_eqv (R_sub64 rfl rfl (by first | omega | (have h_ := leftN_le (beginN_le hq).2; omega))) (v' := .int .i64 ((ys1.length - 1 : Nat) : Int)) (congrArg _ (by omega))) rfl ?_
        have hl2 : (ys1.length - 1) < ys1.length := by first | omega | (simp; omega)
        refine T_indexO (xs := ys1) (i := (ys1.length - 1)) (r := ((ys1.length - 1) * 4)) EncP rfl rfl (by first | rfl | omega) slc84 hl2 ho5 rfl rfl ?_
        intro g6 hg2 ha2
        refine L_run (R_field rfl fld89_1 rfl) rfl ?_
        refine L_stO (v := .int .i64 4) (vs' := fl encP (ys1.set (ys1.length - 1) (((ys1[(ys1.length - 1)]).1), 4, ((ys1[(ys1.length - 1)]).2.2.1), ((ys1[(ys1.length - 1)]).2.2.2)))) rfl rfl rfl sz3 ho5 hg2 (by rw [fl_len EncP]; omega) (fl_setE EncP ys1 (ys1.length - 1) 1 (((ys1[(ys1.length - 1)]).1), 4, ((ys1[(ys1.length - 1)]).2.2.1), ((ys1[(ys1.length - 1)]).2.2.2)) (.int .i64 4) hl2 (by decide) rfl) ?_
        intro w17 ho6 hs16 hz6
        replace hB := gb_tro hB ho5 hs16 (Nat.le_refl _)
        obtain ⟨ys2, hys2, lys2⟩ : ∃ y_, y_ = ys1.set (ys1.length - 1) (((ys1[(ys1.length - 1)]).1), 4, ((ys1[(ys1.length - 1)]).2.2.1), ((ys1[(ys1.length - 1)]).2.2.2)) ∧ y_.length = ys1.length := ⟨_, rfl, by rw [List.length_set]⟩
        rw [← hys2, ← lys2] at ho6
        try rw [← lys2]
        refine L_nil (N_then (C_seq (C_seq (C_reg rfl ?_))))
        refine L_run (R_move rfl) rfl ?_
        refine L_run (R_lenSl rfl slc84) rfl ?_
        refine L_run (R_eql rfl rfl) rfl ?_
        refine L_nil (N_then ?_)
        refine C_if rfl (fun h7 => ?_) (fun h7 => ?_)
        · refine C_reg rfl ?_
          refine L_run (R_move rfl) rfl ?_
          have hl3 : 0 < ys2.length := by first | omega | (simp; omega)
          refine T_indexO (xs := ys2) (i := 0) (r := 0) EncP rfl rfl (by first | rfl | omega) slc84 hl3 ho6 rfl rfl ?_
          intro g7 hg3 ha3
          refine L_run (R_field (r := 1) rfl fld89_1 rfl) rfl ?_
          refine L_stO (v := .int .i64 1) (vs' := fl encP (ys2.set 0 (((ys2[0]).1), 1, ((ys2[0]).2.2.1), ((ys2[0]).2.2.2)))) rfl rfl rfl sz3 ho6 hg3 (by rw [fl_len EncP]; omega) (fl_setE EncP ys2 0 1 (((ys2[0]).1), 1, ((ys2[0]).2.2.1), ((ys2[0]).2.2.2)) (.int .i64 1) hl3 (by decide) rfl) ?_
          intro w18 ho7 hs17 hz7
          replace hB := gb_tro hB ho6 hs17 (Nat.le_refl _)
          obtain ⟨ys3, hys3, lys3⟩ : ∃ y_, y_ = ys2.set 0 (((ys2[0]).1), 1, ((ys2[0]).2.2.1), ((ys2[0]).2.2.2)) ∧ y_.length = ys2.length := ⟨_, rfl, by rw [List.length_set]⟩
          rw [← hys3, ← lys3] at ho7
          try rw [← lys3]
          refine L_nil (N_then (C_seq (C_reg rfl ?_)))
          refine L_run (R_move rfl) rfl ?_
          refine L_run (R_move rfl) rfl ?_
          refine L_run (R_assign rfl) rfl ?_
          refine L_run (R_assign rfl) rfl ?_
          refine L_run (R_assign rfl) rfl ?_
          refine L_nil (N_then (C_ret ?_))
          refine ret3 Tryd.results41 rfl rfl rfl ?_
          have hd_ := hR.done (by omega) (by omega)
          rw [setK_eq (by omega)] at hys1
          rw [setK_eq (by omega)] at hys2
          rw [setK_eq (by omega)] at hys3
          have hc_ : cutN a n = some (ys3, q) := by unfold cutN kindN; rw [hd_]; simp only [Option.map_some]; rw [if_pos (by omega)]; exact congrArg (fun z => some (z, q)) (by rw [hys3, hys2, hys1]; (try simp only [setK_len]))
          rw [hc_]; exact ⟨hB, _, _, rfl, (own_lo ho7 (Nat.le_refl _))⟩
        · refine C_skip (N_then (C_seq (C_reg rfl ?_)))
          refine L_run (R_move rfl) rfl ?_
          refine L_run (R_move rfl) rfl ?_
          refine L_run (R_assign rfl) rfl ?_
          refine L_run (R_assign rfl) rfl ?_
          refine L_run (R_assign rfl) rfl ?_
          refine L_nil (N_then (C_ret ?_))
          refine ret3 Tryd.results41 rfl rfl rfl ?_
          have hd_ := hR.done (by omega) (by omega)
          rw [setK_eq (by omega)] at hys1
          rw [setK_eq (by omega)] at hys2
          have hc_ : cutN a n = some (ys2, q) := by unfold cutN kindN; rw [hd_]; simp only [Option.map_some]; rw [if_neg (by omega)]; exact congrArg (fun z => some (z, q)) (by rw [hys2, hys1]; (try simp only [setK_len]))
          rw [hc_]; exact ⟨hB, _, _, rfl, (own_lo ho6 (Nat.le_refl _))⟩

end Go.Proofs.YtbpjdcpfphnccaaDoor
