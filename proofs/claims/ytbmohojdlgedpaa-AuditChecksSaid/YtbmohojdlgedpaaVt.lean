/-
  Plain mathematics: balanced trees of texts, as far as the lists of their pairs go; sorted lists of pairs.
-/
import Derived.Test.YtbmohojdlgedpaaVk
namespace Go.Proofs.Ytbmohojdlgedpaa.Pl
set_option linter.unusedVariables false
set_option linter.unusedSimpArgs false
abbrev Kv := ByteArray × ByteArray
/-- rising by their keys -/
def SortK (l : List Kv) : Prop := l.Pairwise fun a b => slt a.1 b.1
def putK : List Kv → ByteArray → ByteArray → List Kv
  | [], k, v => [(k, v)]
  | p :: r, k, v => if slt p.1 k then p :: putK r k v else if p.1 = k then (k, v) :: r else (k, v) :: p :: r
def delK (l : List Kv) (k : ByteArray) : List Kv := l.filter fun p => decide (p.1 ≠ k)
def getK (l : List Kv) (k : ByteArray) : Option ByteArray := (l.find? fun p => decide (p.1 = k)).map (·.2)
def seekK (l : List Kv) (k : ByteArray) : Option Kv := l.find? fun p => decide (¬ slt p.1 k)
section
variable {k key v x : ByteArray} {L R : List Kv}
theorem sortK_app (h : SortK (L ++ (k, v) :: R)) : SortK L ∧ SortK R ∧ (∀ p ∈ L, slt p.1 k) ∧ (∀ p ∈ R, slt k p.1) ∧ ∀ p ∈ L, ∀ q ∈ R, slt p.1 q.1 := by
  unfold SortK at *
  rw [List.pairwise_append, List.pairwise_cons] at h
  obtain ⟨h1, ⟨h2, h3⟩, h4⟩ := h
  exact ⟨h1, h3, fun p hp => h4 p hp _ List.mem_cons_self, h2, fun p hp q hq => h4 p hp q (List.mem_cons_of_mem _ hq)⟩
theorem sortK_mk (h1 : SortK L) (h2 : SortK R) (h3 : ∀ p ∈ L, slt p.1 k) (h4 : ∀ p ∈ R, slt k p.1) : SortK (L ++ (k, v) :: R) := by
  unfold SortK at *
  rw [List.pairwise_append, List.pairwise_cons]
  refine ⟨h1, ⟨h4, h2⟩, fun p hp q hq => ?_⟩
  rcases List.mem_cons.1 hq with rfl | hq
  · exact h3 p hp
  · exact slt_trans (h3 p hp) (h4 q hq)
theorem putK_lt (h : ∀ p ∈ L, slt p.1 k) (hk : slt key k) : putK (L ++ (k, v) :: R) key x = putK L key x ++ (k, v) :: R := by
  induction L with
  | nil =>
    have h1 : ¬ slt k key := slt_asymm hk
    have h2 : k ≠ key := fun e => by subst e; exact slt_irrefl _ hk
    simp [putK, h1, h2]
  | cons p L ih =>
    have ih' := ih (fun q hq => h q (List.mem_cons_of_mem _ hq))
    simp only [List.cons_append, putK]
    split
    · rw [ih']; rfl
    · split <;> rfl
theorem putK_gt (h : ∀ p ∈ L, slt p.1 k) (hk : slt k key) : putK (L ++ (k, v) :: R) key x = L ++ (k, v) :: putK R key x := by
  induction L with
  | nil => simp [putK, hk]
  | cons p L ih =>
    have hp : slt p.1 key := slt_trans (h p List.mem_cons_self) hk
    simp only [List.cons_append, putK, if_pos hp]
    rw [ih (fun q hq => h q (List.mem_cons_of_mem _ hq))]
theorem putK_eq (h : ∀ p ∈ L, slt p.1 k) : putK (L ++ (k, v) :: R) k x = L ++ (k, x) :: R := by
  induction L with
  | nil => simp [putK, slt_irrefl]
  | cons p L ih =>
    have hp : slt p.1 k := h p List.mem_cons_self
    simp only [List.cons_append, putK, if_pos hp]
    rw [ih (fun q hq => h q (List.mem_cons_of_mem _ hq))]
theorem putK_mem {l : List Kv} {p : Kv} : p ∈ putK l key x → p = (key, x) ∨ p ∈ l := by
  induction l with
  | nil => simp [putK]
  | cons q r ih =>
    unfold putK
    split
    · intro h
      rcases List.mem_cons.1 h with rfl | h
      · exact .inr List.mem_cons_self
      · rcases ih h with h | h
        · exact .inl h
        · exact .inr (List.mem_cons_of_mem _ h)
    · split
      · intro h
        rcases List.mem_cons.1 h with h | h
        · exact .inl h
        · exact .inr (List.mem_cons_of_mem _ h)
      · intro h
        rcases List.mem_cons.1 h with h | h
        · exact .inl h
        · exact .inr h
theorem putK_sort {l : List Kv} (h : SortK l) : SortK (putK l key x) := by
  induction l with
  | nil => simp [putK, SortK]
  | cons p r ih =>
    have h0 := h
    unfold SortK at h
    rw [List.pairwise_cons] at h
    unfold putK
    split
    · rename_i h1
      unfold SortK
      rw [List.pairwise_cons]
      refine ⟨fun q hq => ?_, ih h.2⟩
      rcases putK_mem hq with rfl | hq
      · exact h1
      · exact h.1 q hq
    · rename_i h1
      split
      · rename_i h2
        unfold SortK
        rw [List.pairwise_cons]
        exact ⟨fun q hq => by show slt key q.1; rw [← h2]; exact h.1 q hq, h.2⟩
      · rename_i h2
        have h3 : slt key p.1 := Decidable.not_not.1 fun q => h2 (slt_tri h1 q)
        unfold SortK
        rw [List.pairwise_cons]
        refine ⟨fun q hq => ?_, h0⟩
        rcases List.mem_cons.1 hq with rfl | hq
        · exact h3
        · exact slt_trans h3 (h.1 q hq)
theorem delK_sort {l : List Kv} (h : SortK l) : SortK (delK l key) := List.Pairwise.filter _ h
theorem delK_none {l : List Kv} (h : ∀ p ∈ l, p.1 ≠ key) : delK l key = l := by
  unfold delK; rw [List.filter_eq_self]; intro p hp; simpa using h p hp
theorem delK_lt (h : SortK (L ++ (k, v) :: R)) (hk : slt key k) : delK (L ++ (k, v) :: R) key = delK L key ++ (k, v) :: R := by
  obtain ⟨_, _, _, h4, _⟩ := sortK_app h
  have h1 : k ≠ key := fun e => by subst e; exact slt_irrefl _ hk
  have h2 := delK_none (l := R) (key := key) (fun p hp e => by have := slt_trans hk (h4 p hp); rw [e] at this; exact slt_irrefl _ this)
  unfold delK at *
  rw [List.filter_append, List.filter_cons_of_pos (by simpa using h1), h2]
theorem delK_gt (h : SortK (L ++ (k, v) :: R)) (hk : slt k key) : delK (L ++ (k, v) :: R) key = L ++ (k, v) :: delK R key := by
  obtain ⟨_, _, h3, _, _⟩ := sortK_app h
  have h1 : k ≠ key := fun e => by subst e; exact slt_irrefl _ hk
  have h2 := delK_none (l := L) (key := key) (fun p hp e => by have := slt_trans (h3 p hp) hk; rw [e] at this; exact slt_irrefl _ this)
  unfold delK at *
  rw [List.filter_append, List.filter_cons_of_pos (by simpa using h1), h2]
theorem delK_eq (h : SortK (L ++ (k, v) :: R)) : delK (L ++ (k, v) :: R) k = L ++ R := by
  obtain ⟨_, _, h3, h4, _⟩ := sortK_app h
  have h1 := delK_none (l := L) (key := k) (fun p hp e => by have := h3 p hp; rw [e] at this; exact slt_irrefl _ this)
  have h2 := delK_none (l := R) (key := k) (fun p hp e => by have := h4 p hp; rw [e] at this; exact slt_irrefl _ this)
  unfold delK at *
  rw [List.filter_append, List.filter_cons_of_neg (by simp), h1, h2]
theorem seekK_gt (h : ∀ p ∈ L, slt p.1 k) (hk : slt k key) : seekK (L ++ (k, v) :: R) key = seekK R key := by
  unfold seekK
  rw [List.find?_append]
  have h1 : L.find? (fun p => decide (¬ slt p.1 key)) = none := by
    rw [List.find?_eq_none]
    intro p hp
    have := slt_trans (h p hp) hk
    simp [this]
  rw [h1, Option.none_or, List.find?_cons_of_neg (by simp [hk])]
theorem seekK_le (hk : ¬ slt k key) : seekK (L ++ (k, v) :: R) key = (seekK L key).or (some (k, v)) := by
  unfold seekK
  rw [List.find?_append, List.find?_cons_of_pos (by simp [hk])]
end
theorem getK_none {l : List Kv} {k : ByteArray} : getK l k = none ↔ ∀ p ∈ l, p.1 ≠ k := by
  unfold getK
  rw [Option.map_eq_none_iff, List.find?_eq_none]
  simp
theorem getK_seek {l : List Kv} (h : SortK l) {k : ByteArray} : getK l k = match seekK l k with | some p => if p.1 = k then some p.2 else none | none => none := by
  induction l with
  | nil => rfl
  | cons p r ih =>
    unfold SortK at h
    rw [List.pairwise_cons] at h
    have ih' := ih h.2
    unfold getK seekK at *
    by_cases h1 : slt p.1 k
    · have h2 : p.1 ≠ k := fun e => by rw [e] at h1; exact slt_irrefl _ h1
      rw [List.find?_cons_of_neg (by simp [h2]), List.find?_cons_of_neg (by simp [h1])]
      exact ih'
    · rw [List.find?_cons_of_pos (p := fun p : Kv => decide (¬ slt p.1 k)) (by simp [h1])]
      by_cases h2 : p.1 = k
      · rw [List.find?_cons_of_pos (by simp [h2])]; simp [h2]
      · have h3 : slt k p.1 := Decidable.not_not.1 fun q => h2 (slt_tri h1 q)
        rw [List.find?_cons_of_neg (by simp [h2])]
        simp only [if_neg h2]
        rw [Option.map_eq_none_iff, List.find?_eq_none]
        intro q hq
        simp only [decide_eq_true_eq]
        intro e
        have := slt_trans h3 (h.1 q hq)
        rw [e] at this
        exact slt_irrefl _ this
theorem putK_len {l : List Kv} (h : SortK l) {k v : ByteArray} : (putK l k v).length = l.length + if (getK l k).isSome then 0 else 1 := by
  induction l with
  | nil => rfl
  | cons p r ih =>
    have h0 := h
    unfold SortK at h
    rw [List.pairwise_cons] at h
    have ih' := ih h.2
    unfold putK
    by_cases h1 : slt p.1 k
    · have h2 : p.1 ≠ k := fun e => by rw [e] at h1; exact slt_irrefl _ h1
      have e : getK (p :: r) k = getK r k := by unfold getK; rw [List.find?_cons_of_neg (by simp [h2])]
      rw [if_pos h1, List.length_cons, ih', e, List.length_cons]; omega
    · rw [if_neg h1]
      by_cases h2 : p.1 = k
      · have e : (getK (p :: r) k).isSome = true := by unfold getK; rw [List.find?_cons_of_pos (by simp [h2])]; rfl
        rw [if_pos h2, e]; simp
      · have h3 : slt k p.1 := Decidable.not_not.1 fun q => h2 (slt_tri h1 q)
        have e : getK (p :: r) k = none := by
          rw [getK_none]
          intro q hq e
          rcases List.mem_cons.1 hq with rfl | hq
          · exact h2 e
          · have := slt_trans h3 (h.1 q hq); rw [e] at this; exact slt_irrefl _ this
        rw [if_neg h2, e]; simp
theorem delK_len {l : List Kv} (h : SortK l) {k : ByteArray} : (delK l k).length + (if (getK l k).isSome then 1 else 0) = l.length := by
  induction l with
  | nil => rfl
  | cons p r ih =>
    unfold SortK at h
    rw [List.pairwise_cons] at h
    have ih' := ih h.2
    by_cases h2 : p.1 = k
    · have e : (getK (p :: r) k).isSome = true := by unfold getK; rw [List.find?_cons_of_pos (by simp [h2])]; rfl
      have e2 : delK (p :: r) k = r := by
        unfold delK
        rw [List.filter_cons_of_neg (by simp [h2])]
        exact delK_none fun q hq e => by have := h.1 q hq; rw [h2, e] at this; exact slt_irrefl _ this
      rw [e, e2]; simp
    · have e : getK (p :: r) k = getK r k := by unfold getK; rw [List.find?_cons_of_neg (by simp [h2])]
      have e2 : delK (p :: r) k = p :: delK r k := by unfold delK; rw [List.filter_cons_of_pos (by simp [h2])]
      rw [e, e2, List.length_cons, List.length_cons]; omega
/-! ### what comes next behind a key -/
def zb (k : ByteArray) : ByteArray := ⟨(k.data.toList ++ [0]).toArray⟩
theorem lex_snoc : ∀ (x k : List UInt8), x < k ++ [0] ↔ ¬ k < x
  | [], [] => by simp
  | [], b :: k => by simp
  | a :: x, [] => by
    simp only [List.nil_append, List.cons_lt_cons_iff, List.not_lt_nil, and_false, or_false]
    constructor
    · intro h; exact absurd h (by simp)
    · intro h; exact absurd (List.nil_lt_cons a x) h
  | a :: x, b :: k => by
    have ih := lex_snoc x k
    simp only [List.cons_append, List.cons_lt_cons_iff, ih]
    constructor
    · rintro (h | ⟨rfl, h⟩)
      · rintro (q | ⟨rfl, q⟩)
        · exact absurd (UInt8.lt_trans h q) (UInt8.lt_irrefl _)
        · exact absurd h (UInt8.lt_irrefl _)
      · rintro (q | ⟨_, q⟩)
        · exact absurd q (UInt8.lt_irrefl _)
        · exact h q
    · intro h
      by_cases h1 : a < b
      · exact .inl h1
      · by_cases h2 : a = b
        · subst h2; exact .inr ⟨rfl, fun q => h (.inr ⟨rfl, q⟩)⟩
        · have : b < a := by
            rcases UInt8.lt_or_lt_of_ne h2 with q | q
            · exact absurd q h1
            · exact q
          exact absurd (.inl this) h
theorem slt_zb {x k : ByteArray} : slt x (zb k) ↔ ¬ slt k x := by
  unfold slt zb
  simpa using lex_snoc x.data.toList k.data.toList
theorem seekK_zb {l : List Kv} (h : SortK l) {i : Nat} (hi : i < l.length) : seekK l (zb l[i].1) = l[i + 1]? := by
  unfold seekK
  have e : l = l.take (i + 1) ++ l.drop (i + 1) := (List.take_append_drop _ _).symm
  have hp := List.pairwise_iff_getElem.1 h
  have h1 : (l.take (i + 1)).find? (fun p => decide (¬ slt p.1 (zb l[i].1))) = none := by
    rw [List.find?_eq_none]
    intro p hp'
    obtain ⟨j, hj, rfl⟩ := List.getElem_of_mem hp'
    rw [List.length_take] at hj
    rw [List.getElem_take]
    simp only [decide_eq_true_eq, Decidable.not_not]
    rw [slt_zb]
    rcases Nat.lt_or_ge j i with q | q
    · exact slt_asymm (hp j i (by omega) hi q)
    · have : j = i := by omega
      subst this; exact slt_irrefl _
  rw [show l.find? (fun p => decide (¬ slt p.1 (zb l[i].1))) = (l.take (i + 1) ++ l.drop (i + 1)).find? (fun p => decide (¬ slt p.1 (zb l[i].1))) by rw [List.take_append_drop]]
  rw [List.find?_append, h1, Option.none_or]
  rcases Nat.lt_or_ge (i + 1) l.length with q | q
  · rw [List.drop_eq_getElem_cons q, List.find?_cons_of_pos, List.getElem?_eq_getElem q]
    simp only [decide_eq_true_eq]
    rw [slt_zb]
    exact fun z => z (hp i (i + 1) hi q (Nat.lt_succ_self _))
  · rw [List.drop_of_length_le q, List.getElem?_eq_none q]; rfl
theorem seekK_first (l : List Kv) : seekK l ⟨#[]⟩ = l[0]? := by
  unfold seekK
  cases l with
  | nil => rfl
  | cons p r =>
    rw [List.find?_cons_of_pos]
    · rfl
    · simp [slt]
/-! ### trees -/
inductive Tr where
  | nil
  | node (g : Nat) (k v : ByteArray) (h : Int) (l r : Tr)
instance (t : Tr) : Decidable (t = .nil) := by cases t <;> first | exact isTrue rfl | exact isFalse (by intro h; cases h)
def Tr.hgt : Tr → Int | .nil => 0 | .node _ _ _ h _ _ => h
def Tr.kvs : Tr → List Kv | .nil => [] | .node _ k v _ l r => l.kvs ++ (k, v) :: r.kvs
def Tr.cnt : Tr → Nat | .nil => 0 | .node _ _ _ _ l r => l.cnt + r.cnt + 1
def Tr.hok : Tr → Prop | .nil => True | .node _ _ _ h l r => 1 ≤ h ∧ h ≤ l.cnt + r.cnt + 1 ∧ l.hok ∧ r.hok
theorem Tr.cnt_kvs : ∀ t : Tr, t.kvs.length = t.cnt
  | .nil => rfl
  | .node _ _ _ _ l r => by
    simp only [Tr.kvs, Tr.cnt, List.length_append, List.length_cons, Tr.cnt_kvs l, Tr.cnt_kvs r]; omega
theorem Tr.hgt_b {t : Tr} (h : t.hok) : 0 ≤ t.hgt ∧ t.hgt ≤ t.cnt := by
  cases t with
  | nil => simp [Tr.hgt, Tr.cnt]
  | node g k v h' l r => obtain ⟨h1, h2, _⟩ := h; simp only [Tr.hgt, Tr.cnt]; omega
theorem Tr.node_of {t : Tr} (h : t ≠ .nil) : ∃ g k v h l r, t = .node g k v h l r := by
  cases t with
  | nil => exact absurd rfl h
  | node g k v h' l r => exact ⟨g, k, v, h', l, r, rfl⟩
theorem Tr.ne_of_hgt {t : Tr} (h : 1 ≤ t.hgt) : t ≠ .nil := by rintro rfl; simp [Tr.hgt] at h
end Go.Proofs.Ytbmohojdlgedpaa.Pl
