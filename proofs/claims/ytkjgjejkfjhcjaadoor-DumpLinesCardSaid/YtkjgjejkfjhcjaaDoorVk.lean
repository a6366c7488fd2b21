/-
  Plain mathematics: the order of texts; of each key of a list of operations the last one.
-/
import Derived.Test.YtkjgjejkfjhcjaaDoorVb
import Derived.Sort.Walk0
namespace Go.Proofs.YtkjgjejkfjhcjaaDoor.Pl
set_option linter.unusedVariables false
set_option linter.unusedSimpArgs false
/-- one text ahead of another -/
def slt (a b : ByteArray) : Prop := a.data.toList < b.data.toList
instance (a b : ByteArray) : Decidable (slt a b) := by unfold slt; infer_instance
theorem slt_irrefl (a : ByteArray) : ¬ slt a a := List.lt_irrefl _
theorem slt_trans {a b c : ByteArray} (h1 : slt a b) (h2 : slt b c) : slt a c := List.lt_trans h1 h2
theorem slt_tri {a b : ByteArray} (h1 : ¬ slt a b) (h2 : ¬ slt b a) : a = b := by
  have e : a.data.toList = b.data.toList := List.le_antisymm (List.not_lt.1 h2) (List.not_lt.1 h1)
  cases a with | mk a => cases b with | mk b => congr 1; exact Array.toList_inj.1 e
theorem slt_asymm {a b : ByteArray} (h : slt a b) : ¬ slt b a := fun q => slt_irrefl a (slt_trans h q)
/-- rising by their keys -/
def Rise (l : List Opd) : Prop := l.Pairwise fun a b => slt a.key b.key
/-- an operation put into a rising list, in the place of the one at its key -/
def ins1 : List Opd → Opd → List Opd
  | [], o => [o]
  | x :: r, o => if slt x.key o.key then x :: ins1 r o else if x.key = o.key then o :: r else o :: x :: r
def lastOf (l : List Opd) : List Opd := l.foldl ins1 []
theorem ins1_mem {l : List Opd} {o x : Opd} (hr : Rise l) : x ∈ ins1 l o ↔ x = o ∨ (x ∈ l ∧ x.key ≠ o.key) := by
  induction l with
  | nil => simp [ins1]
  | cons y r ih =>
    unfold Rise at hr ih
    rw [List.pairwise_cons] at hr
    unfold ins1
    split
    · rename_i h1
      rw [List.mem_cons, ih hr.2, List.mem_cons]
      constructor
      · rintro (rfl | rfl | ⟨h2, h3⟩)
        · exact .inr ⟨.inl rfl, fun e => by rw [e] at h1; exact slt_irrefl _ h1⟩
        · exact .inl rfl
        · exact .inr ⟨.inr h2, h3⟩
      · rintro (rfl | ⟨rfl | h2, h3⟩)
        · exact .inr (.inl rfl)
        · exact .inl rfl
        · exact .inr (.inr ⟨h2, h3⟩)
    · rename_i h1
      split
      · rename_i h2
        rw [List.mem_cons, List.mem_cons]
        constructor
        · rintro (rfl | h3)
          · exact .inl rfl
          · exact .inr ⟨.inr h3, fun e => by have := hr.1 x h3; rw [e, h2] at this; exact slt_irrefl _ this⟩
        · rintro (rfl | ⟨rfl | h3, h4⟩)
          · exact .inl rfl
          · exact absurd h2 h4
          · exact .inr h3
      · rename_i h2
        rw [List.mem_cons, List.mem_cons]
        constructor
        · rintro (rfl | rfl | h3)
          · exact .inl rfl
          · exact .inr ⟨.inl rfl, h2⟩
          · refine .inr ⟨.inr h3, fun e => ?_⟩
            have := hr.1 x h3
            rw [e] at this
            exact h1 this
        · rintro (rfl | ⟨rfl | h3, h4⟩)
          · exact .inl rfl
          · exact .inr (.inl rfl)
          · exact .inr (.inr h3)
theorem ins1_rise {l : List Opd} {o : Opd} (hr : Rise l) : Rise (ins1 l o) := by
  induction l with
  | nil => simp [ins1, Rise]
  | cons y r ih =>
    have hr0 := hr
    unfold Rise at hr ih ⊢
    rw [List.pairwise_cons] at hr
    unfold ins1
    split
    · rename_i h1
      rw [List.pairwise_cons]
      refine ⟨fun x hx => ?_, ih hr.2⟩
      rcases (ins1_mem hr.2).1 hx with rfl | ⟨h2, _⟩
      · exact h1
      · exact hr.1 x h2
    · rename_i h1
      split
      · rename_i h2
        rw [List.pairwise_cons]
        exact ⟨fun x hx => by rw [← h2]; exact hr.1 x hx, hr.2⟩
      · rename_i h2
        have h3 : slt o.key y.key := Decidable.not_not.1 fun q => h2 (slt_tri h1 q)
        rw [List.pairwise_cons]
        refine ⟨fun x hx => ?_, hr0⟩
        rcases List.mem_cons.1 hx with rfl | hx
        · exact h3
        · exact slt_trans h3 (hr.1 x hx)
theorem lastOf_snoc (l : List Opd) (o : Opd) : lastOf (l ++ [o]) = ins1 (lastOf l) o := by unfold lastOf; rw [List.foldl_append]; rfl
theorem lastOf_take {l : List Opd} {k : Nat} (h : k < l.length) : lastOf (l.take (k + 1)) = ins1 (lastOf (l.take k)) l[k] := by
  rw [List.take_succ_eq_append_getElem h, lastOf_snoc]
theorem lastOf_rise : ∀ (n : Nat) (l : List Opd), l.length = n → Rise (lastOf l) := by
  intro n
  induction n with
  | zero => intro l h; rw [List.eq_nil_of_length_eq_zero h]; exact List.Pairwise.nil
  | succ n ih =>
    intro l h
    have hk : n < l.length := by omega
    have e : l = l.take (n + 1) := by rw [List.take_of_length_le (by omega)]
    rw [e, lastOf_take hk]
    exact ins1_rise (ih _ (by rw [List.length_take]; omega))
/-- an element that is the last one of its key -/
def IsLast (l : List Opd) (x : Opd) : Prop := ∃ i, ∃ h : i < l.length, l[i] = x ∧ ∀ j, ∀ hj : j < l.length, i < j → l[j].key ≠ x.key
theorem lastOf_mem : ∀ (n : Nat) (l : List Opd), l.length = n → ∀ x, x ∈ lastOf l ↔ IsLast l x := by
  intro n
  induction n with
  | zero =>
    intro l h x
    rw [List.eq_nil_of_length_eq_zero h]
    constructor
    · intro q; simp [lastOf] at q
    · rintro ⟨i, hi, _⟩; simp at hi
  | succ n ih =>
    intro l h x
    have hk : n < l.length := by omega
    have ht : (l.take n).length = n := by rw [List.length_take]; omega
    have e : lastOf l = ins1 (lastOf (l.take n)) l[n] := by
      have := lastOf_take hk
      rwa [List.take_of_length_le (by omega)] at this
    rw [e, ins1_mem (lastOf_rise n _ ht), ih _ ht]
    constructor
    · rintro (rfl | ⟨⟨i, hi, rfl, hl⟩, hne⟩)
      · exact ⟨n, hk, rfl, fun j hj hij => by omega⟩
      · rw [List.length_take] at hi
        rw [List.getElem_take] at hne
        refine ⟨i, by omega, by rw [List.getElem_take], fun j hj hij => ?_⟩
        rw [List.getElem_take]
        rcases Nat.lt_or_ge j n with h1 | h1
        · have := hl j (by omega) hij
          rw [List.getElem_take, List.getElem_take] at this
          exact this
        · have : j = n := by omega
          subst this
          exact fun q => hne q.symm
    · rintro ⟨i, hi, rfl, hl⟩
      rcases Nat.lt_or_ge i n with h1 | h1
      · refine .inr ⟨⟨i, by omega, by rw [List.getElem_take], fun j hj hij => ?_⟩, fun q => hl n hk h1 q.symm⟩
        rw [List.getElem_take]
        exact hl j (by omega) hij
      · have : i = n := by omega
        subst this
        exact .inl rfl
/-- two rising lists of the same elements are one -/
theorem rise_ext : ∀ (a b : List Opd), Rise a → Rise b → (∀ x, x ∈ a ↔ x ∈ b) → a = b
  | [], [], _, _, _ => rfl
  | [], y :: _, _, _, h => by have := (h y).2 List.mem_cons_self; simp at this
  | x :: _, [], _, _, h => by have := (h x).1 List.mem_cons_self; simp at this
  | x :: a, y :: b, ha, hb, h => by
    unfold Rise at ha hb
    rw [List.pairwise_cons] at ha hb
    have hxy : x = y := by
      have h1 := (h x).1 List.mem_cons_self
      have h2 := (h y).2 List.mem_cons_self
      rcases List.mem_cons.1 h1 with h1 | h1
      · exact h1
      · rcases List.mem_cons.1 h2 with h2 | h2
        · exact h2.symm
        · exact absurd (hb.1 x h1) (slt_asymm (ha.1 y h2))
    subst hxy
    rw [rise_ext a b ha.2 hb.2]
    intro z
    constructor
    · intro hz
      rcases List.mem_cons.1 ((h z).1 (List.mem_cons_of_mem _ hz)) with rfl | q
      · exact absurd (ha.1 z hz) (slt_irrefl _)
      · exact q
    · intro hz
      rcases List.mem_cons.1 ((h z).2 (List.mem_cons_of_mem _ hz)) with rfl | q
      · exact absurd (hb.1 z hz) (slt_irrefl _)
      · exact q
theorem lastOf_idem (l : List Opd) : lastOf (lastOf l) = lastOf l := by
  have hr := lastOf_rise _ l rfl
  refine rise_ext _ _ (lastOf_rise _ _ rfl) hr fun x => ?_
  rw [lastOf_mem _ _ rfl]
  constructor
  · rintro ⟨i, hi, rfl, _⟩; exact List.getElem_mem hi
  · intro hx
    obtain ⟨i, hi, rfl⟩ := List.getElem_of_mem hx
    refine ⟨i, hi, rfl, fun j hj hij q => ?_⟩
    have := List.pairwise_iff_getElem.1 hr i j hi hj hij
    rw [q] at this
    exact slt_irrefl _ this
theorem ins1_len (l : List Opd) (o : Opd) : (ins1 l o).length ≤ l.length + 1 := by
  induction l with
  | nil => simp [ins1]
  | cons x r ih => unfold ins1; split <;> (try split) <;> simp_all
theorem lastOf_len (l : List Opd) : (lastOf l).length ≤ l.length := by
  suffices h : ∀ n, n ≤ l.length → (lastOf (l.take n)).length ≤ n by
    have := h l.length (Nat.le_refl _)
    rwa [List.take_of_length_le (Nat.le_refl _)] at this
  intro n
  induction n with
  | zero => intro _; simp [lastOf]
  | succ n ih =>
    intro h
    rw [lastOf_take (by omega)]
    have := ins1_len (lastOf (l.take n)) l[n]
    have := ih (by omega)
    omega
/-- an operation put into a rising list, as the reference goes through it -/
def rlx (o : Opd) : Bool → List Opd → List Opd
  | put, [] => if put then [] else [o]
  | put, x :: r => (if put = false ∧ ¬ slt x.key o.key then [o] else []) ++ ((if x.key ≠ o.key then [x] else []) ++ rlx o (put || decide (¬ slt x.key o.key)) r)
theorem rlx_drop {o : Opd} {b : Bool} {l : List Opd} {q : Nat} (h : q < l.length) : rlx o b (l.drop q) = (if b = false ∧ ¬ slt l[q].key o.key then [o] else []) ++ ((if l[q].key ≠ o.key then [l[q]] else []) ++ rlx o (b || decide (¬ slt l[q].key o.key)) (l.drop (q + 1))) := by
  rw [List.drop_eq_getElem_cons h, rlx]
theorem rlx_true {o : Opd} {l : List Opd} (h : ∀ x ∈ l, x.key ≠ o.key) : rlx o true l = l := by
  induction l with
  | nil => rfl
  | cons y r ih =>
    have h1 := h y List.mem_cons_self
    rw [rlx, Bool.true_or, ih (fun z hz => h z (List.mem_cons_of_mem _ hz))]
    simp [h1]
theorem rlx_ins {o : Opd} : ∀ {l : List Opd}, Rise l → rlx o false l = ins1 l o
  | [], _ => rfl
  | x :: r, h => by
    unfold Rise at h
    rw [List.pairwise_cons] at h
    rw [rlx, ins1]
    by_cases h1 : slt x.key o.key
    · have h2 : x.key ≠ o.key := fun e => by rw [e] at h1; exact slt_irrefl _ h1
      have := rlx_ins (o := o) h.2
      simp [h1, h2, this]
    · have h3 : ∀ y ∈ r, y.key ≠ o.key := fun y hy e => h1 (by have := h.1 y hy; rwa [e] at this)
      have := rlx_true (o := o) h3
      by_cases h2 : x.key = o.key
      · simp [h2, slt_irrefl, this]
      · simp [h1, h2, this]
/-! ### a map of the last places -/
def lg (l : List Opd) (i : Nat) : Opd := (l[i]?).getD ⟨0, ⟨#[]⟩, ⟨#[]⟩⟩
theorem lg_get {l : List Opd} {i : Nat} (h : i < l.length) : lg l i = l[i] := by unfold lg; rw [List.getElem?_eq_getElem h]; rfl
def LMap (l : List Opd) (k : Nat) (m : List (ByteArray × Nat)) : Prop :=
  (m.map (·.1)).Nodup ∧ m.length ≤ k ∧ ∀ p, p ∈ m ↔ p.2 < k ∧ (lg l p.2).key = p.1 ∧ ∀ j, p.2 < j → j < k → (lg l j).key ≠ p.1
theorem lmap_0 {l : List Opd} : LMap l 0 [] := ⟨by simp, by simp, fun p => by simp⟩
theorem lmap_len {l : List Opd} {k : Nat} {m : List (ByteArray × Nat)} (h : LMap l k m) : m.length ≤ k := h.2.1
theorem lmap_lt {l : List Opd} {k : Nat} {m : List (ByteArray × Nat)} (h : LMap l k m) {p : ByteArray × Nat} (hp : p ∈ m) : p.2 < k := ((h.2.2 p).1 hp).1
theorem last_of_sort {l ys : List Opd} {m dn : List (ByteArray × Nat)} (h : LMap l l.length m) (hd : dn.Perm m) (hy : ys.Perm (dn.map fun p => lg l p.2)) (hs : ys.Pairwise fun a b => ¬ slt b.key a.key) : ys = lastOf l := by
  have hkeys : (ys.map (·.key)).Nodup := by
    have e1 : (ys.map (·.key)).Perm (m.map (·.1)) := by
      refine (hy.map (·.key)).trans ?_
      rw [List.map_map]
      refine List.Perm.trans (List.Perm.of_eq ?_) (hd.map (·.1))
      apply List.map_congr_left
      intro p hp
      exact ((h.2.2 p).1 (hd.mem_iff.1 hp)).2.1
    exact e1.nodup_iff.2 h.1
  refine rise_ext _ _ ?_ (lastOf_rise _ _ rfl) fun x => ?_
  · unfold Rise
    rw [List.Nodup, List.pairwise_map] at hkeys
    refine List.Pairwise.imp₂ ?_ hs hkeys
    intro a b h1 h2
    exact Decidable.not_not.1 fun q => h2 (slt_tri q h1)
  · rw [lastOf_mem _ _ rfl, hy.mem_iff, List.mem_map]
    constructor
    · rintro ⟨p, hp, rfl⟩
      obtain ⟨h1, h2, h3⟩ := (h.2.2 p).1 (hd.mem_iff.1 hp)
      refine ⟨p.2, h1, (lg_get h1).symm, fun j hj hij => ?_⟩
      rw [h2, ← lg_get hj]
      exact h3 j hij hj
    · rintro ⟨i, hi, rfl, hl⟩
      refine ⟨(l[i].key, i), hd.mem_iff.2 ((h.2.2 _).2 ⟨hi, by rw [lg_get hi], fun j hij hj => ?_⟩), lg_get hi⟩
      rw [lg_get hj]
      exact hl j hj hij
end Go.Proofs.YtkjgjejkfjhcjaaDoor.Pl
