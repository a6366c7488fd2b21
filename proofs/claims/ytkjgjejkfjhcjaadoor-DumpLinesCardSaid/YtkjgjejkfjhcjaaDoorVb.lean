/-
  Plain mathematics: batches of operations: what they are written as is read back, and what is read was written so.
-/
import Derived.Test.YtkjgjejkfjhcjaaDoorVr
namespace Go.Proofs.YtkjgjejkfjhcjaaDoor.Pl
/-- a right batch -/
def OkL (l : List Opd) : Prop := (∀ o ∈ l, OkOp o.kind o.key o.val) ∧ 1 ≤ l.length ∧ l.length ≤ 8
instance (l : List Opd) : Decidable (OkL l) := by unfold OkL; infer_instance
def encs (l : List Opd) : List UInt8 := l.flatMap fun o => opEnc o.kind o.key o.val
theorem encs_succ {l : List Opd} {k : Nat} (h : k < l.length) : encs (l.take (k + 1)) = encs (l.take k) ++ opEnc l[k].kind l[k].key l[k].val := by
  unfold encs; rw [List.take_succ_eq_append_getElem h, List.flatMap_append]; simp only [List.flatMap_cons, List.flatMap_nil, List.append_nil]
theorem encs_len : ∀ {l : List Opd}, (∀ o ∈ l, OkOp o.kind o.key o.val) → (encs l).length ≤ 200 * l.length
  | [], _ => by simp [encs]
  | o :: l, h => by
    have h1 := encs_len (l := l) (fun x hx => h x (List.mem_cons_of_mem _ hx))
    have h2 := opEnc_len (h o (List.mem_cons_self))
    unfold encs at h1 ⊢
    rw [List.flatMap_cons, List.length_append, List.length_cons]
    omega
theorem encs_take {l : List Opd} (h : ∀ o ∈ l, OkOp o.kind o.key o.val) (k : Nat) : (encs (l.take k)).length ≤ 200 * l.length := by
  have := encs_len (l := l.take k) (fun o ho => h o (List.mem_of_mem_take ho))
  rw [List.length_take] at this
  omega
def op1 (bs : List UInt8) : Opd := ⟨(oget bs).1.1, (oget bs).1.2.1, (oget bs).1.2.2⟩
def bgo : Nat → List Opd → List UInt8 → List Opd × Int
  | _, acc, [] => (acc, 0)
  | 0, _, _ :: _ => ([], 0)
  | f + 1, acc, c :: r => if (oget (c :: r)).2.2 ≠ 0 then ([], (oget (c :: r)).2.2) else bgo f (acc ++ [op1 (c :: r)]) ((c :: r).drop (oget (c :: r)).2.1)
theorem bgo_nil {f : Nat} {acc : List Opd} {bs : List UInt8} (h : bs.length = 0) : bgo f acc bs = (acc, 0) := by
  rw [List.eq_nil_of_length_eq_zero h]; cases f <;> rfl
theorem bgo_err {f : Nat} {acc : List Opd} {bs : List UInt8} (h : 0 < bs.length) (hf : bs.length ≤ f) (he : (oget bs).2.2 ≠ 0) : bgo f acc bs = ([], (oget bs).2.2) := by
  cases bs with
  | nil => simp at h
  | cons c r =>
    cases f with
    | zero => simp at hf
    | succ f => rw [bgo, if_pos he]
theorem bgo_step {f : Nat} {acc : List Opd} {bs : List UInt8} (h : 0 < bs.length) (hf : bs.length ≤ f) (he : (oget bs).2.2 = 0) : bgo f acc bs = bgo (f - 1) (acc ++ [op1 bs]) (bs.drop (oget bs).2.1) := by
  cases bs with
  | nil => simp at h
  | cons c r =>
    cases f with
    | zero => simp at hf
    | succ f => rw [bgo, if_neg (by omega)]; rfl
theorem oget_bound {bs : List UInt8} (h : (oget bs).2.2 = 0) : 1 ≤ (oget bs).2.1 ∧ (oget bs).2.1 ≤ bs.length := by
  obtain ⟨_, h2, h3⟩ := opEnc_oget h
  refine ⟨?_, h3⟩
  have := congrArg List.length h2
  unfold opEnc at this
  rw [List.length_cons, List.length_take] at this
  omega
/-- what bytes are as a batch: its operations, the error -/
def bget (bs : List UInt8) : List Opd × Int :=
  if (bgo bs.length [] bs).2 ≠ 0 then ([], (bgo bs.length [] bs).2) else if OkL (bgo bs.length [] bs).1 then ((bgo bs.length [] bs).1, 0) else ([], 2)
theorem bget_e {bs : List UInt8} {x : List Opd} {e : Int} (h : bgo bs.length [] bs = (x, e)) (he : e ≠ 0) : bget bs = ([], e) := by unfold bget; rw [h, if_pos he]
theorem bget_n {bs : List UInt8} {x : List Opd} (h : bgo bs.length [] bs = (x, 0)) (ho : ¬ OkL x) : bget bs = ([], 2) := by unfold bget; rw [h, if_neg (by simp), if_neg ho]
theorem bget_y {bs : List UInt8} {x : List Opd} (h : bgo bs.length [] bs = (x, 0)) (ho : OkL x) : bget bs = (x, 0) := by unfold bget; rw [h, if_neg (by simp), if_pos ho]
theorem op1_enc (o : Opd) (r : List UInt8) (h : OkOp o.kind o.key o.val) : op1 (opEnc o.kind o.key o.val ++ r) = o := by unfold op1; rw [oget_opEnc r h]
theorem bgo_encs : ∀ (l : List Opd) (f : Nat) (acc : List Opd), (∀ o ∈ l, OkOp o.kind o.key o.val) → (encs l).length ≤ f → bgo f acc (encs l) = (acc ++ l, 0)
  | [], f, acc, _, _ => by rw [bgo_nil (by simp [encs])]; simp
  | o :: l, f, acc, h, hf => by
    have ho := h o (List.mem_cons_self)
    have e : encs (o :: l) = opEnc o.kind o.key o.val ++ encs l := by unfold encs; rw [List.flatMap_cons]
    have hp : 0 < (opEnc o.kind o.key o.val).length := by unfold opEnc; simp
    have hg := oget_opEnc (encs l) ho
    rw [e] at hf ⊢
    rw [bgo_step (by rw [List.length_append]; omega) hf (by rw [hg]), op1_enc o _ ho, hg]
    simp only []
    rw [List.drop_left, bgo_encs l _ _ (fun x hx => h x (List.mem_cons_of_mem _ hx)) (by rw [List.length_append] at hf; omega)]
    simp
theorem bget_encs {l : List Opd} (h : OkL l) : bget (encs l) = (l, 0) := bget_y (bgo_encs l _ [] h.1 (Nat.le_refl _)) h
theorem encs_bgo : ∀ (f : Nat) (acc : List Opd) (bs : List UInt8) (L : List Opd), bs.length ≤ f → bgo f acc bs = (L, 0) → ∃ l, L = acc ++ l ∧ encs l = bs := by
  intro f
  induction f with
  | zero =>
    intro acc bs L hf h
    have : bs = [] := List.eq_nil_of_length_eq_zero (by omega)
    subst this
    rw [bgo_nil rfl] at h
    injection h with h _
    exact ⟨[], by simp [h], rfl⟩
  | succ f ih =>
    intro acc bs L hf h
    rcases Nat.eq_zero_or_pos bs.length with h0 | h0
    · have : bs = [] := List.eq_nil_of_length_eq_zero h0
      subst this
      rw [bgo_nil rfl] at h
      injection h with h _
      exact ⟨[], by simp [h], rfl⟩
    · by_cases he : (oget bs).2.2 = 0
      · rw [bgo_step h0 hf he] at h
        have hb := oget_bound he
        obtain ⟨l, h1, h2⟩ := ih _ _ _ (by rw [List.length_drop]; omega) h
        refine ⟨op1 bs :: l, by rw [h1]; simp, ?_⟩
        have h3 := (opEnc_oget he).2.1
        unfold encs at h2 ⊢
        rw [List.flatMap_cons, h2]
        show opEnc (oget bs).1.1 (oget bs).1.2.1 (oget bs).1.2.2 ++ _ = bs
        rw [h3, List.take_append_drop]
      · rw [bgo_err h0 hf he] at h
        injection h with _ h
        exact absurd h he
theorem encs_bget {bs : List UInt8} (h : (bget bs).2 = 0) : OkL (bget bs).1 ∧ encs (bget bs).1 = bs := by
  by_cases h1 : (bgo bs.length [] bs).2 = 0
  · have e : bgo bs.length [] bs = ((bgo bs.length [] bs).1, 0) := Prod.ext rfl h1
    by_cases h2 : OkL (bgo bs.length [] bs).1
    · rw [bget_y e h2]
      obtain ⟨l, h3, h4⟩ := encs_bgo _ _ _ _ (Nat.le_refl _) e
      refine ⟨h2, ?_⟩
      simp only [] at h3 ⊢
      rw [h3]
      simpa using h4
    · rw [bget_n e h2] at h; simp at h
  · rw [bget_e (x := (bgo bs.length [] bs).1) (e := (bgo bs.length [] bs).2) rfl h1] at h; exact absurd h h1
theorem bget_no {bs : List UInt8} (h : (bget bs).2 ≠ 0) : (bget bs).1 = [] := by
  by_cases h1 : (bgo bs.length [] bs).2 = 0
  · have e : bgo bs.length [] bs = ((bgo bs.length [] bs).1, 0) := Prod.ext rfl h1
    by_cases h2 : OkL (bgo bs.length [] bs).1
    · rw [bget_y e h2] at h; simp at h
    · rw [bget_n e h2]
  · rw [bget_e (x := (bgo bs.length [] bs).1) (e := (bgo bs.length [] bs).2) rfl h1]
theorem bget_len (bs : List UInt8) : (bget bs).1.length ≤ 8 := by
  by_cases h : (bget bs).2 = 0
  · exact (encs_bget h).1.2.2
  · rw [bget_no h]; simp
theorem OkL_take {l : List Opd} {k : Nat} (h : ∀ o ∈ l.take k, OkOp o.kind o.key o.val) (hk : k < l.length) (ho : OkOp l[k].kind l[k].key l[k].val) : ∀ o ∈ l.take (k + 1), OkOp o.kind o.key o.val := by
  intro o hm
  rw [List.take_succ_eq_append_getElem hk] at hm
  rcases List.mem_append.1 hm with hm | hm
  · exact h o hm
  · rw [List.mem_singleton.1 hm]; exact ho
theorem bget_ex : bget [2, 1, 97, 1, 1, 98, 0] = ([⟨2, ⟨#[97]⟩, ⟨#[]⟩⟩, ⟨1, ⟨#[98]⟩, ⟨#[]⟩⟩], 0) := by
  have e : encs [⟨2, ⟨#[97]⟩, ⟨#[]⟩⟩, ⟨1, ⟨#[98]⟩, ⟨#[]⟩⟩] = [2, 1, 97, 1, 1, 98, 0] := by
    simp only [encs, List.flatMap_cons, List.flatMap_nil, opEnc, fenc]
    rw [if_pos (by decide), vput_lt (by decide), if_neg (by decide), if_pos (by decide), vput_lt (by decide), if_pos (by decide), if_pos (by decide), vput_lt (by decide)]
    rfl
  rw [← e]
  exact bget_encs (by decide)
end Go.Proofs.YtkjgjejkfjhcjaaDoor.Pl
