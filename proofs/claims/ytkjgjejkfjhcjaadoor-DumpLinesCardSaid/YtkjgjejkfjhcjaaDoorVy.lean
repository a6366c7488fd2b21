/-
  Plain maths of texts cut at newlines, and of words joined by a blank.
-/
import Derived.Lib.SplitLaws
import Derived.Lib.Join
namespace Go.Proofs.YtkjgjejkfjhcjaaDoor.Pl
set_option linter.unusedVariables false
set_option linter.unusedSimpArgs false
/-- The pieces of a text between the newlines. -/
def pcs : List UInt8 → List (List UInt8)
  | [] => [[]]
  | c :: cs => if c = 10 then [] :: pcs cs else match pcs cs with
    | p :: ps => (c :: p) :: ps
    | [] => [[c]]
theorem pcs_no : ∀ {l : List UInt8}, (∀ c ∈ l, c ≠ 10) → pcs l = [l]
  | [], _ => rfl
  | c :: l, h => by
    rw [pcs, if_neg (h c (List.mem_cons_self ..)), pcs_no (fun d hd => h d (List.mem_cons_of_mem _ hd))]
theorem pcs_hit {b : List UInt8} : ∀ {a : List UInt8}, (∀ c ∈ a, c ≠ 10) → pcs (a ++ 10 :: b) = a :: pcs b
  | [], _ => by rw [List.nil_append, pcs, if_pos rfl]
  | c :: a, h => by
    rw [List.cons_append, pcs, if_neg (h c (List.mem_cons_self ..)), pcs_hit (fun d hd => h d (List.mem_cons_of_mem _ hd))]
theorem ix_cons {b : UInt8} {l : List UInt8} : Go.Lib.index (b :: l) [10] = if b = 10 then 0 else if Go.Lib.index l [10] == -1 then -1 else Go.Lib.index l [10] + 1 := by
  rw [Go.Lib.index]
  by_cases h : b = 10
  · subst h; rfl
  · rw [if_neg h, if_neg]
    simp [List.isPrefixOf]
    exact fun e => h e.symm
theorem ix_miss : ∀ {s : List UInt8}, Go.Lib.index s [10] = -1 → ∀ c ∈ s, c ≠ 10
  | [], _, c, hc => by cases hc
  | b :: l, h, c, hc => by
    rw [ix_cons] at h
    split at h
    · omega
    · rename_i h1
      split at h
      · rename_i h2
        rcases List.mem_cons.1 hc with rfl | hc
        · exact h1
        · exact ix_miss (beq_iff_eq.1 h2) c hc
      · have := Go.Lib.index_ge l [10]
        omega
theorem ix_hit : ∀ {s : List UInt8} {i : Nat}, Go.Lib.index s [10] = i → i < s.length ∧ (∀ c ∈ s.take i, c ≠ 10) ∧ s = s.take i ++ 10 :: s.drop (i + 1)
  | [], i, h => by simp [Go.Lib.index] at h
  | b :: l, i, h => by
    rw [ix_cons] at h
    split at h
    · rename_i h1
      obtain rfl : i = 0 := by omega
      subst h1
      exact ⟨by simp, by simp, by simp⟩
    · rename_i h1
      split at h
      · omega
      · obtain ⟨j, rfl⟩ : ∃ j, i = j + 1 := ⟨i - 1, by have := Go.Lib.index_ge l [10]; rename_i h2; have h3 : Go.Lib.index l [10] ≠ -1 := fun e => h2 (beq_iff_eq.2 e); omega⟩
        obtain ⟨h2, h3, h4⟩ := ix_hit (s := l) (i := j) (by omega)
        refine ⟨by simp; omega, ?_, ?_⟩
        · intro c hc
          rw [List.take_succ_cons] at hc
          rcases List.mem_cons.1 hc with rfl | hc
          · exact h1
          · exact h3 c hc
        · rw [List.take_succ_cons, List.drop_succ_cons, List.cons_append, ← h4]
theorem splitK_pcs : ∀ (k : Nat) (s : List UInt8), Go.Lib.count s [10] = k → Go.Lib.splitK [10] 0 k s = pcs s
  | k, s, hk => by
    have hge := Go.Lib.index_ge s [10]
    by_cases hm : Go.Lib.index s [10] = -1
    · rw [pcs_no (ix_miss hm)]
      cases k with
      | zero => rfl
      | succ k => rw [Go.Lib.splitK, if_pos (beq_iff_eq.2 hm)]
    · obtain ⟨i, hi⟩ : ∃ i : Nat, Go.Lib.index s [10] = i := ⟨(Go.Lib.index s [10]).toNat, by omega⟩
      obtain ⟨h2, h3, h4⟩ := ix_hit hi
      have hc := Go.Lib.count_hit (s := s) (sub := [10]) (by simp) hi
      simp only [List.length_cons, List.length_nil] at hc
      cases k with
      | zero => omega
      | succ k =>
        rw [Go.Lib.splitK, if_neg (fun e => hm (beq_iff_eq.1 e)), hi, Int.toNat_natCast, Nat.add_zero]
        simp only [List.length_cons, List.length_nil, Nat.zero_add]
        rw [splitK_pcs k (s.drop (i + 1)) (by simp only [Nat.zero_add] at hc; omega)]
        conv => rhs; rw [h4, pcs_hit h3]
/-- A line that begins with a word. -/
def LineIs (w p : List UInt8) : Prop := p = w ∨ p.take (w ++ [32]).length = w ++ [32]
instance {w p : List UInt8} : Decidable (LineIs w p) := inferInstanceAs (Decidable (_ ∨ _))
def cntP (w : List UInt8) (ps : List (List UInt8)) : Nat := ps.countP (fun p => decide (LineIs w p))
def cntL (s w : List UInt8) : Nat := cntP w (pcs s)
theorem cntP_y {w p : List UInt8} {ps : List (List UInt8)} (h : LineIs w p) : cntP w (p :: ps) = cntP w ps + 1 := by
  unfold cntP; rw [List.countP_cons, if_pos (by simpa using h)]
theorem cntP_n {w p : List UInt8} {ps : List (List UInt8)} (h : ¬ LineIs w p) : cntP w (p :: ps) = cntP w ps := by
  unfold cntP; rw [List.countP_cons, if_neg (by simpa using h)]; rfl
theorem cntP_le {w : List UInt8} {ps : List (List UInt8)} : cntP w ps ≤ ps.length := List.countP_le_length
theorem cntP_sy {w : List UInt8} {ps : List (List UInt8)} {i : Nat} (hi : i < ps.length) (h : LineIs w ps[i]) : cntP w (ps.take (i + 1)) = cntP w (ps.take i) + 1 := by
  unfold cntP; rw [List.take_succ_eq_append_getElem hi, List.countP_append]; simp [h]
theorem cntP_sn {w : List UInt8} {ps : List (List UInt8)} {i : Nat} (hi : i < ps.length) (h : ¬ LineIs w ps[i]) : cntP w (ps.take (i + 1)) = cntP w (ps.take i) := by
  unfold cntP; rw [List.take_succ_eq_append_getElem hi, List.countP_append]; simp [h]
theorem pcs_len : ∀ {l : List UInt8}, (pcs l).length ≤ l.length + 1
  | [] => by simp [pcs]
  | c :: l => by
    have := pcs_len (l := l)
    rw [pcs]
    split
    · simpa using this
    · split <;> rename_i h <;> rw [h] at this <;> simp at this ⊢ <;> omega
theorem pcs_mem {l p : List UInt8} (h : p ∈ pcs l) : p.length ≤ l.length := by
  induction l generalizing p with
  | nil => simp [pcs] at h; simp [h]
  | cons c l ih =>
    rw [pcs] at h
    split at h
    · rcases List.mem_cons.1 h with rfl | h
      · simp
      · have := ih h; simp; omega
    · split at h <;> rename_i he
      · rcases List.mem_cons.1 h with rfl | h
        · have := ih (p := _) (by rw [he]; exact List.mem_cons_self ..); simp; omega
        · have := ih (p := p) (by rw [he]; exact List.mem_cons_of_mem _ h); simp; omega
      · simp at h; simp [h]
/-- As the reference tells it: a line, then its length. -/
theorem lineIs_ref {w p : List UInt8} : LineIs w p ↔ p = w ∨ (w.length < p.length ∧ p.take w.length = w ∧ p[w.length]? = some 32) := by
  unfold LineIs
  constructor
  · rintro (h | h)
    · exact .inl h
    · right
      have hl := congrArg List.length h
      rw [List.length_take, List.length_append, List.length_singleton] at hl
      have hlt : w.length < p.length := by omega
      refine ⟨hlt, ?_, ?_⟩
      · have := congrArg (List.take w.length) h
        rw [List.take_take, List.take_left, List.length_append, List.length_singleton, Nat.min_eq_left (by omega)] at this
        exact this
      · have := congrArg (fun l => l[w.length]?) h
        simp only [List.length_append, List.length_singleton] at this
        rw [List.getElem?_take_of_lt (by omega)] at this
        rw [this]; simp
  · rintro (h | ⟨h1, h2, h3⟩)
    · exact .inl h
    · right
      rw [List.length_append, List.length_singleton, List.take_succ_eq_append_getElem h1, h2]
      rw [List.getElem?_eq_getElem h1] at h3
      rw [Option.some.inj h3]
/-- Words joined. -/
theorem jn1 {x sep : List UInt8} : Go.Lib.join [x] sep = x := Go.Lib.join_one x sep
theorem jn2 {x y sep : List UInt8} {r : List (List UInt8)} : Go.Lib.join (x :: y :: r) sep = x ++ (sep ++ Go.Lib.join (y :: r) sep) := by
  rw [Go.Lib.join_cons, Go.Lib.join_cons]
  simp [Go.Lib.joinTail]
theorem jn_app {sep z : List UInt8} : ∀ {xs : List (List UInt8)}, xs ≠ [] → Go.Lib.join (xs ++ [z]) sep = Go.Lib.join xs sep ++ (sep ++ z)
  | [], h => absurd rfl h
  | [x], _ => by rw [List.singleton_append, jn2, jn1, jn1]
  | x :: y :: r, _ => by
    rw [List.cons_append, List.cons_append, jn2, ← List.cons_append, jn_app (by simp), jn2]
    simp only [List.append_assoc]
end Go.Proofs.YtkjgjejkfjhcjaaDoor.Pl
