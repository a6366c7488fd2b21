/-
  An evaluator for closed calls, first part: its values, its memory, and when they stand for the model's own. It holds of every program; nothing of this program stands here.
-/
import Derived.Test.YtbmohojdlgedpaaGx
import Derived.Test.YtbmohojdlgedpaaGz
namespace Go.Proofs.Ytbmohojdlgedpaa.Ev
open Go.RowKit Gw
set_option linter.unusedVariables false
set_option linter.unusedSimpArgs false

/-! ### finite maps from numbers -/
inductive Tr (α : Type) where
  | e
  | n (l : Tr α) (x : Option α) (r : Tr α)
namespace Tr
variable {α : Type}
def get : Tr α → Nat → Option α
  | e, _ => none
  | n l x r, k => bif Nat.beq k 0 then x else bif Nat.beq (k % 2) 1 then l.get (k / 2) else r.get (k / 2 - 1)
/-- 'd': how deep it may go. -/
def set : Nat → Tr α → Nat → Option α → Option (Tr α)
  | 0, _, _, _ => none
  | d + 1, e, k, v => bif Nat.beq k 0 then some (n e v e) else bif Nat.beq (k % 2) 1 then (match set d e (k / 2) v with | some l' => some (n l' none e) | none => none) else (match set d e (k / 2 - 1) v with | some r' => some (n e none r') | none => none)
  | d + 1, n l x r, k, v => bif Nat.beq k 0 then some (n l v r) else bif Nat.beq (k % 2) 1 then (match set d l (k / 2) v with | some l' => some (n l' x r) | none => none) else (match set d r (k / 2 - 1) v with | some r' => some (n l x r') | none => none)
theorem get_e (k : Nat) : (e : Tr α).get k = none := rfl
theorem get_set : ∀ (d : Nat) (t t' : Tr α) (k : Nat) (v : Option α), set d t k v = some t' → ∀ j, t'.get j = if j = k then v else t.get j := by
  intro d
  induction d with
  | zero => intro t t' k v h; simp [set] at h
  | succ d ih =>
    intro t t' k v h j
    have key : ∀ (l r : Tr α) (x : Option α), (bif Nat.beq k 0 then some (n l v r) else bif Nat.beq (k % 2) 1 then (match set d l (k / 2) v with | some l' => some (n l' x r) | none => none) else (match set d r (k / 2 - 1) v with | some r' => some (n l x r') | none => none)) = some t' →
        t'.get j = if j = k then v else (n l x r).get j := by
      intro l r x h
      by_cases h0 : k = 0
      · subst h0
        simp at h
        subst h
        by_cases hj : j = 0
        · subst hj; simp [get]
        · simp only [get, beq_no hj, cond_false, if_neg hj]
      · have e0 : Nat.beq k 0 = false := beq_no h0
        rw [e0, cond_false] at h
        by_cases h1 : k % 2 = 1
        · have e1 : Nat.beq (k % 2) 1 = true := by simp [h1]
          rw [e1, cond_true] at h
          cases hs : set d l (k / 2) v with
          | none => rw [hs] at h; cases h
          | some l' =>
            rw [hs] at h
            obtain rfl := Option.some.inj h
            have hl := ih l l' (k / 2) v hs
            by_cases hj0 : j = 0
            · subst hj0; simp [get]; omega
            · by_cases hj1 : j % 2 = 1
              · have e2 : Nat.beq (j % 2) 1 = true := by simp [hj1]
                simp only [get, e2, beq_no hj0, cond_true, cond_false, hl]
                by_cases hjk : j = k
                · subst hjk; simp
                · rw [if_neg hjk, if_neg (by omega)]
              · have hjk : j ≠ k := by rintro rfl; exact hj1 h1
                have e2 : Nat.beq (j % 2) 1 = false := beq_no hj1
                have e3 : Nat.beq j 0 = false := beq_no hj0
                simp only [get, e2, e3, cond_false, if_neg hjk]
        · have e1 : Nat.beq (k % 2) 1 = false := beq_no h1
          rw [e1, cond_false] at h
          cases hs : set d r (k / 2 - 1) v with
          | none => rw [hs] at h; cases h
          | some r' =>
            rw [hs] at h
            obtain rfl := Option.some.inj h
            have hr := ih r r' (k / 2 - 1) v hs
            by_cases hj0 : j = 0
            · subst hj0; simp [get]; omega
            · by_cases hj1 : j % 2 = 1
              · have hjk : j ≠ k := by rintro rfl; exact h1 hj1
                have e2 : Nat.beq (j % 2) 1 = true := by simp [hj1]
                simp only [get, e2, beq_no hj0, cond_true, cond_false, if_neg hjk]
              · have e2 : Nat.beq (j % 2) 1 = false := beq_no hj1
                have e3 : Nat.beq j 0 = false := beq_no hj0
                simp only [get, e2, e3, cond_false, hr]
                by_cases hjk : j = k
                · subst hjk; simp
                · rw [if_neg hjk, if_neg (by omega)]
    cases t with
    | e =>
      have := key e e none (by simpa [set] using h)
      rw [this]
      by_cases hj : j = k
      · simp [hj]
      · rw [if_neg hj, if_neg hj]
        simp only [get]
        cases Nat.beq j 0 <;> cases Nat.beq (j % 2) 1 <;> rfl
    | n l x r => exact key l r x (by simpa [set] using h)
end Tr

/-! ### values -/
/-- A capacity: known, or that of the block less some. -/
inductive Cap where
  | k (c : Nat)
  | u (d : Nat)
/-- A plain value: a constant, an address by a number of our own, a slice, a map, the function that a loop over a function hands on, the empty end of a slice of which it isn't known whether there is room behind. -/
inductive B where
  | k (v : Value)
  | p (b o : Nat)
  | s (b o n : Nat) (c : Cap)
  | m (b : Nat)
  | y (b : Nat)
  | z (b o o' e : Nat)
/-- What one cell holds. -/
inductive C where
  | b (x : B)
  | f (f : FuncId) (fs cs : List B)
inductive V1 where
  | c (x : C)
  | a (l : List C)
inductive V2 where
  | v (x : V1)
  | t (l : List V1)
/-- The model's own number of a block, and how many elements it bears. -/
abbrev Rho := Nat → Option (Nat × Nat)
def A2 {α β : Type} (R : α → β → Prop) : List α → List β → Prop
  | [], [] => True
  | a :: xs, b :: ys => R a b ∧ A2 R xs ys
  | _, _ => False
theorem A2.mono {α β : Type} {R S : α → β → Prop} (h : ∀ a b, R a b → S a b) : ∀ {xs : List α} {ys : List β}, A2 R xs ys → A2 S xs ys
  | [], [], _ => trivial
  | _ :: _, _ :: _, h' => ⟨h _ _ h'.1, A2.mono h h'.2⟩
  | [], _ :: _, h' => h'.elim
  | _ :: _, [], h' => h'.elim
theorem A2.len {α β : Type} {R : α → β → Prop} : ∀ {xs : List α} {ys : List β}, A2 R xs ys → xs.length = ys.length
  | [], [], _ => rfl
  | _ :: _, _ :: _, h' => by simp [A2.len h'.2]
  | [], _ :: _, h' => h'.elim
  | _ :: _, [], h' => h'.elim
theorem A2.get {α β : Type} {R : α → β → Prop} : ∀ {xs : List α} {ys : List β}, A2 R xs ys → ∀ (i : Nat) (a : α), xs[i]? = some a → ∃ b : β, ys[i]? = some b ∧ R a b
  | [], [], _, i, a, h => by simp at h
  | x :: _, y :: _, h', 0, a, h => by
    obtain rfl : x = a := by simpa using h
    exact ⟨y, rfl, h'.1⟩
  | _ :: xs, _ :: ys, h', i + 1, a, h => by
    obtain ⟨b, h1, h2⟩ := A2.get h'.2 i a (by simpa using h)
    exact ⟨b, by simpa using h1, h2⟩
  | [], _ :: _, h', _, _, _ => h'.elim
  | _ :: _, [], h', _, _, _ => h'.elim
theorem A2.app {α β : Type} {R : α → β → Prop} : ∀ {xs : List α} {ys : List β} {xs' : List α} {ys' : List β}, A2 R xs ys → A2 R xs' ys' → A2 R (xs ++ xs') (ys ++ ys')
  | [], [], _, _, _, h' => h'
  | _ :: _, _ :: _, _, _, h, h' => ⟨h.1, A2.app h.2 h'⟩
  | [], _ :: _, _, _, h, _ => h.elim
  | _ :: _, [], _, _, h, _ => h.elim
theorem A2.drop {α β : Type} {R : α → β → Prop} : ∀ {xs : List α} {ys : List β} (k : Nat), A2 R xs ys → A2 R (xs.drop k) (ys.drop k)
  | _, _, 0, h => by simpa using h
  | [], [], _ + 1, _ => by simp [A2]
  | _ :: _, _ :: _, k + 1, h => A2.drop k h.2
  | [], _ :: _, _ + 1, h => h.elim
  | _ :: _, [], _ + 1, h => h.elim
theorem A2.take {α β : Type} {R : α → β → Prop} : ∀ {xs : List α} {ys : List β} (k : Nat), A2 R xs ys → A2 R (xs.take k) (ys.take k)
  | _, _, 0, _ => by simp [A2]
  | [], [], _ + 1, _ => by simp [A2]
  | _ :: _, _ :: _, k + 1, h => ⟨h.1, A2.take k h.2⟩
  | [], _ :: _, _ + 1, h => h.elim
  | _ :: _, [], _ + 1, h => h.elim
theorem A2.set {α β : Type} {R : α → β → Prop} {a : α} {b : β} (hr : R a b) : ∀ {xs : List α} {ys : List β} (k : Nat), A2 R xs ys → A2 R (xs.set k a) (ys.set k b)
  | [], [], _, _ => by simp [A2]
  | _ :: _, _ :: _, 0, h => ⟨hr, h.2⟩
  | _ :: _, _ :: _, k + 1, h => ⟨h.1, A2.set hr k h.2⟩
  | [], _ :: _, _, h => h.elim
  | _ :: _, [], _, h => h.elim
def RB (ρ : Rho) : B → Value → Prop
  | .k v, x => x = v
  | .p b o, x => ∃ g c, ρ b = some (g, c) ∧ x = .pointer (some ⟨g, o, none⟩)
  | .s b o n (.k c'), x => ∃ g c, ρ b = some (g, c) ∧ n ≤ c' ∧ x = .slice (some ⟨g, o, none⟩) n c'
  | .s b o n (.u d), x => ∃ g c, ρ b = some (g, c) ∧ n + d ≤ c ∧ x = .slice (some ⟨g, o, none⟩) n (c - d)
  | .m b, x => ∃ g c, ρ b = some (g, c) ∧ x = .map (some g)
  | .y b, x => ∃ g c, ρ b = some (g, c) ∧ x = .func (.yield g) #[] #[]
  | .z b o o' e, x => ∃ g c, ρ b = some (g, c) ∧ e ≤ c ∧ x = .slice (some ⟨g, if c = e then o else o', none⟩) 0 (c - e)
def RC (ρ : Rho) : C → Value → Prop
  | .b x, v => RB ρ x v
  | .f f fs cs, v => ∃ fs' cs', A2 (RB ρ) fs fs' ∧ A2 (RB ρ) cs cs' ∧ v = .func (.func f) fs'.toArray cs'.toArray
def R1 (ρ : Rho) : V1 → Value → Prop
  | .c x, v => RC ρ x v
  | .a l, v => ∃ l', A2 (RC ρ) l l' ∧ v = .agg l'.toArray
def R2 (ρ : Rho) : V2 → Value → Prop
  | .v x, v => R1 ρ x v
  | .t l, v => ∃ l', A2 (R1 ρ) l l' ∧ v = .tuple l'.toArray
def Le (ρ ρ' : Rho) : Prop := ∀ b g, ρ b = some g → ρ' b = some g
section
variable {ρ ρ' ρ'' : Rho}
theorem Le.refl (ρ : Rho) : Le ρ ρ := fun _ _ h => h
theorem Le.trans (h : Le ρ ρ') (h' : Le ρ' ρ'') : Le ρ ρ'' := fun b g e => h' b g (h b g e)
theorem RB.mono (h : Le ρ ρ') : ∀ {x : B} {v : Value}, RB ρ x v → RB ρ' x v
  | .k _, _, e => e
  | .p _ _, _, ⟨g, c, e, e'⟩ => ⟨g, c, h _ _ e, e'⟩
  | .s _ _ _ (.k _), _, ⟨g, c, e, e'⟩ => ⟨g, c, h _ _ e, e'⟩
  | .s _ _ _ (.u _), _, ⟨g, c, e, e'⟩ => ⟨g, c, h _ _ e, e'⟩
  | .m _, _, ⟨g, c, e, e'⟩ => ⟨g, c, h _ _ e, e'⟩
  | .y _, _, ⟨g, c, e, e'⟩ => ⟨g, c, h _ _ e, e'⟩
  | .z _ _ _ _, _, ⟨g, c, e, e'⟩ => ⟨g, c, h _ _ e, e'⟩
theorem RC.mono (h : Le ρ ρ') : ∀ {x : C} {v : Value}, RC ρ x v → RC ρ' x v
  | .b _, _, e => RB.mono h e
  | .f _ _ _, _, ⟨a, b, h1, h2, e⟩ => ⟨a, b, h1.mono fun _ _ => RB.mono h, h2.mono fun _ _ => RB.mono h, e⟩
theorem R1.mono (h : Le ρ ρ') : ∀ {x : V1} {v : Value}, R1 ρ x v → R1 ρ' x v
  | .c _, _, e => RC.mono h e
  | .a _, _, ⟨l, h1, e⟩ => ⟨l, h1.mono fun _ _ => RC.mono h, e⟩
theorem R2.mono (h : Le ρ ρ') : ∀ {x : V2} {v : Value}, R2 ρ x v → R2 ρ' x v
  | .v _, _, e => R1.mono h e
  | .t _, _, ⟨l, h1, e⟩ => ⟨l, h1.mono fun _ _ => R1.mono h, e⟩
end

/-! ### frames -/
abbrev Fr := Tr V2
def FR (ρ : Rho) (n : Nat) (fr : Fr) (l : Sl) : Prop := ∀ t x, fr.get t = some x → t < n ∧ ∃ v, lk l t = some v ∧ R2 ρ x v
theorem FR.mono {ρ ρ' : Rho} {n : Nat} {fr : Fr} {l : Sl} (hl : Le ρ ρ') (h : FR ρ n fr l) : FR ρ' n fr l := fun t x e => by
  obtain ⟨h0, v, h1, h2⟩ := h t x e
  exact ⟨h0, v, h1, h2.mono hl⟩
/-- How a piece of code is left. -/
inductive Ex where
  | normal
  | exit (id : Nat)
  | ret
def Ex.to : Ex → Exit
  | .normal => .normal
  | .exit id => .exit id
  | .ret => .ret
def Ex.jump : Ex → Option Code
  | .normal => none
  | .exit id => some (.exit id)
  | .ret => some .ret
/-! ### memory -/
/-- md: 0 whole, 2 only to be read, 3 + s: a row of elements of s cells; there may be more behind. A map: key, value, stamp of each entry; its clock; only to be read? An iterator: its map, and what it has handed out. -/
inductive MB where
  | cells (t : TypeId) (cs : List C) (md : Nat)
  | map (es : List (Value × C × Nat)) (clock : Nat) (ro : Bool)
  | iter (b since : Nat) (seen : List Nat) (last : Nat)
  | loop (n : Nat) (fr : Tr V2) (ps : Array Tmp) (asg body : Code) (dk : Nat) (ls : LoopState) (x : Ex)
  | dfr
structure St where
  mem : Tr MB
  next : Nat
def MB.ro : MB → Bool
  | .cells _ _ md => Nat.beq md 2
  | .map _ _ r => r
  | .iter _ _ _ _ => false
  | .loop _ _ _ _ _ _ _ _ => false
  | .dfr => false
/-- One entry of a map. -/
def EN (ρ : Rho) (x : Value × C × Nat) (e : MapEntry) : Prop := e.key = x.1 ∧ RC ρ x.2.1 e.val ∧ e.born = x.2.2
/-- The block g, of c elements, is as is said. -/
def Holds (ρ : Rho) (w : World) (g c : Nat) : MB → Prop
  | .cells t cs md => ∃ (vs vs' : List Value) (fz : (Nat × Nat) × Nat), w.heap[g]? = some (.cells (vs ++ vs').toArray fz.2 fz.1) ∧ A2 (RC ρ) cs vs ∧ (md = 0 → vs' = []) ∧ (3 ≤ md → vs.length + vs'.length = c * (md - 3) ∧ c ≤ maxLen) ∧ (md ≠ 2 → fz = ((0, 0), t))
  | .map es clock _ => ∃ ms : List MapEntry, w.heap[g]? = some (.map ms.toArray clock) ∧ A2 (EN ρ) es ms
  | .iter b since seen last => ∃ gm cm, ρ b = some (gm, cm) ∧ w.heap[g]? = some (.mapIter (some gm) since seen.toArray last)
  | .loop n fr ps asg body dk ls x => ∃ fn σ l gd cd, ρ dk = some (gd, cd) ∧ FR ρ n fr l ∧ w.heap[g]? = some (lrec fn (Gw.fr n σ l) ps asg body gd ls x.jump)
  | .dfr => w.heap[g]? = some (.deferred (some []))
theorem Holds.mono {ρ ρ' : Rho} (h : Le ρ ρ') {w : World} {g c : Nat} : ∀ {mb : MB}, Holds ρ w g c mb → Holds ρ' w g c mb
  | .cells _ _ _, ⟨vs, vs', fz, h1, h2, h3⟩ => ⟨vs, vs', fz, h1, h2.mono fun _ _ => RC.mono h, h3⟩
  | .map _ _ _, ⟨a, h1, h2⟩ => ⟨a, h1, h2.mono fun _ _ e => ⟨e.1, RC.mono h e.2.1, e.2.2⟩⟩
  | .iter _ _ _ _, ⟨gm, cm, h1, h2⟩ => ⟨gm, cm, h _ _ h1, h2⟩
  | .loop _ _ _ _ _ _ _ _, ⟨fn, σ, l, gd, cd, h1, h2, h3⟩ => ⟨fn, σ, l, gd, cd, h _ _ h1, h2.mono h, h3⟩
  | .dfr, h1 => h1
theorem Holds.same {ρ : Rho} {w w' : World} {g c : Nat} (h : w'.heap[g]? = w.heap[g]?) : ∀ {mb : MB}, Holds ρ w g c mb → Holds ρ w' g c mb
  | .cells _ _ _, ⟨vs, vs', fz, h1, h2, h3⟩ => ⟨vs, vs', fz, h.trans h1, h2, h3⟩
  | .map _ _ _, ⟨a, h1, h2⟩ => ⟨a, h.trans h1, h2⟩
  | .iter _ _ _ _, ⟨gm, cm, h1, h2⟩ => ⟨gm, cm, h1, h.trans h2⟩
  | .loop _ _ _ _ _ _ _ _, ⟨fn, σ, l, gd, cd, h1, h2, h3⟩ => ⟨fn, σ, l, gd, cd, h1, h2, h.trans h3⟩
  | .dfr, h1 => h.trans h1
theorem Holds.lt {ρ : Rho} {w : World} {g c : Nat} : ∀ {mb : MB}, Holds ρ w g c mb → g < w.heap.size
  | .cells _ _ _, ⟨_, _, _, h, _⟩ => (Array.getElem?_eq_some_iff.1 h).1
  | .map _ _ _, ⟨_, h, _⟩ => (Array.getElem?_eq_some_iff.1 h).1
  | .iter _ _ _ _, ⟨_, _, _, h⟩ => (Array.getElem?_eq_some_iff.1 h).1
  | .loop _ _ _ _ _ _ _ _, ⟨_, _, _, _, _, _, _, h⟩ => (Array.getElem?_eq_some_iff.1 h).1
  | .dfr, h => (Array.getElem?_eq_some_iff.1 h).1
/-- A world that was there ahead, blocks of it that stay as they were, and such that nobody knows. -/
structure Wd where
  w : World
  F : Nat → Prop
  H : Nat → Prop
  ltF : ∀ g, F g → g < w.heap.size
  ltH : ∀ g, H g → g < w.heap.size
/-- A world behind it. -/
structure Wd.gb (W : Wd) (w' : World) : Prop where
  os : w'.os = W.w.os
  tape : w'.tape = W.w.tape
  output : w'.output = W.w.output
  size : W.w.heap.size ≤ w'.heap.size
  block : ∀ k, W.F k ∨ W.H k → w'.heap[k]? = W.w.heap[k]?
def Wd.ok (W : Wd) (g : Nat) : Prop := ¬ W.F g ∧ ¬ W.H g
theorem Wd.ok_of {W : Wd} {g : Nat} (h : W.w.heap.size ≤ g) : W.ok g := ⟨fun hf => by have := W.ltF g hf; omega, fun hf => by have := W.ltH g hf; omega⟩
/-- All that was there stays. -/
def Wd.old (w : World) : Wd := ⟨w, fun g => g < w.heap.size, fun _ => False, fun _ h => h, fun _ h => h.elim⟩
theorem Wd.old_gb {w w' : World} (h : (Wd.old w).gb w') : w.grownBy w' none := ⟨h.os, h.tape, h.output, h.size, fun k hk _ => h.block k (.inl hk)⟩
theorem Wd.old_refl (w : World) : (Wd.old w).gb w := ⟨rfl, rfl, rfl, Nat.le_refl _, fun _ _ => rfl⟩
theorem Wd.gb_row {W : Wd} {w w' : World} {row : Option Nat} (h : W.gb w) (hg : w.grownBy w' row) (hr : ∀ k, row = some k → W.ok k) : W.gb w' :=
  ⟨hg.os.trans h.os, hg.tape.trans h.tape, hg.output.trans h.output, Nat.le_trans h.size hg.size, fun k hk => (hg.block k (by
      rcases hk with hk | hk
      · exact Nat.lt_of_lt_of_le (W.ltF k hk) h.size
      · exact Nat.lt_of_lt_of_le (W.ltH k hk) h.size) (fun e => by
      have := hr k e.symm
      rcases hk with hk | hk
      · exact this.1 hk
      · exact this.2 hk)).trans (h.block k hk)⟩
/-- The memory stands for the world; 'w0' is what was there ahead of all. -/
structure MR (w0 : Wd) (ρ : Rho) (st : St) (w : World) : Prop where
  gb : w0.gb w
  top : ∀ b, st.next ≤ b → ρ b = none
  at_ : ∀ b mb, st.mem.get b = some mb → ∃ g c, ρ b = some (g, c) ∧ ((mb.ro = false → ¬ w0.F g) ∧ ¬ w0.H g) ∧ Holds ρ w g c mb
  inj : ∀ b b' mb mb' g c c', st.mem.get b = some mb → st.mem.get b' = some mb' → ρ b = some (g, c) → ρ b' = some (g, c') → b = b'
section
variable {w0 : Wd} {w w' : World} {ρ : Rho} {st : St}
/-- The world grew, nothing else. -/
theorem MR.grow (h : MR w0 ρ st w) (hg : w.grownBy w' none) : MR w0 ρ st w' :=
  ⟨Wd.gb_row h.gb hg (fun _ e => by cases e), h.top, fun b mb e => by
    obtain ⟨g, c, h1, h2, h3⟩ := h.at_ b mb e
    exact ⟨g, c, h1, h2, h3.same (hg.block g h3.lt (by simp))⟩, h.inj⟩
/-- A block of which the memory says nothing turned. -/
theorem MR.skip {row : Option Nat} (h : MR w0 ρ st w) (hg : w.grownBy w' row) (hw : ∀ k, row = some k → w0.ok k) (hr : ∀ b mb g c, st.mem.get b = some mb → ρ b = some (g, c) → some g ≠ row) : MR w0 ρ st w' :=
  ⟨Wd.gb_row h.gb hg hw, h.top, fun b mb e => by
    obtain ⟨g, c, h1, h2, h3⟩ := h.at_ b mb e
    exact ⟨g, c, h1, h2, h3.same (hg.block g h3.lt (hr b mb g c e h1))⟩, h.inj⟩
def ext (ρ : Rho) (b : Nat) (g : Nat × Nat) : Rho := fun x => if x = b then some g else ρ x
theorem MR.ext_le (h : MR w0 ρ st w) (g : Nat × Nat) : Le ρ (ext ρ st.next g) := fun b g' e => by
  unfold ext
  by_cases hb : b = st.next
  · rw [h.top b (by omega)] at e; cases e
  · rw [if_neg hb]; exact e
theorem ext_at (ρ : Rho) (b : Nat) (g : Nat × Nat) : ext ρ b g b = some g := by simp [ext]
/-- A new block, of which none of the old ones is. -/
theorem MR.new' {mb : MB} {g c : Nat} {t' : Tr MB} {d : Nat} {row : Option Nat} (h : MR w0 ρ st w) (hg : w.grownBy w' row) (hw0 : ∀ k, row = some k → w0.ok k) (hge : w0.ok g)
    (hfar : ∀ b mb' g' c', st.mem.get b = some mb' → ρ b = some (g', c') → g' ≠ g ∧ some g' ≠ row) (hm : Holds (ext ρ st.next (g, c)) w' g c mb)
    (hs : Tr.set d st.mem st.next (some mb) = some t') : MR w0 (ext ρ st.next (g, c)) ⟨t', st.next + 1⟩ w' := by
  have hget := Tr.get_set d _ _ _ _ hs
  have hle := h.ext_le (g, c)
  refine ⟨Wd.gb_row h.gb hg hw0, fun b hb => ?_, fun b mb' e => ?_, fun b b' m1 m2 g' c1 c2 e1 e2 r1 r2 => ?_⟩
  · have hb' : st.next + 1 ≤ b := hb
    unfold ext; rw [if_neg (by omega)]; exact h.top b (by omega)
  · rw [hget] at e
    by_cases hb : b = st.next
    · rw [if_pos hb] at e
      obtain rfl := Option.some.inj e
      exact ⟨g, c, by simp [ext, hb], ⟨fun _ => hge.1, hge.2⟩, hm⟩
    · rw [if_neg hb] at e
      obtain ⟨g', c', h1, h2, h3⟩ := h.at_ b mb' e
      exact ⟨g', c', hle _ _ h1, h2, (h3.mono hle).same (hg.block g' h3.lt (hfar b mb' g' c' e h1).2)⟩
  · rw [hget] at e1 e2
    by_cases hb : b = st.next <;> by_cases hb' : b' = st.next
    · rw [hb, hb']
    · rw [if_neg hb'] at e2
      obtain ⟨g2, c2', x1, x2, x3⟩ := h.at_ b' m2 e2
      have y1 : g' = g := by have : ext ρ st.next (g, c) b = some (g, c) := by simp [ext, hb]
                             rw [this] at r1; injection r1 with r1; exact (Prod.mk.inj r1).1.symm
      have y2 := Option.some.inj ((hle _ _ x1).symm.trans r2)
      exact absurd ((Prod.mk.inj y2).1.trans y1) (hfar b' m2 g2 c2' e2 x1).1
    · rw [if_neg hb] at e1
      obtain ⟨g2, c2', x1, x2, x3⟩ := h.at_ b m1 e1
      have y1 : g' = g := by have : ext ρ st.next (g, c) b' = some (g, c) := by simp [ext, hb']
                             rw [this] at r2; injection r2 with r2; exact (Prod.mk.inj r2).1.symm
      have y2 := Option.some.inj ((hle _ _ x1).symm.trans r1)
      exact absurd ((Prod.mk.inj y2).1.trans y1) (hfar b m1 g2 c2' e1 x1).1
    · rw [if_neg hb] at e1
      rw [if_neg hb'] at e2
      obtain ⟨g1, d1, x1, _⟩ := h.at_ b m1 e1
      obtain ⟨g2, d2, x2, _⟩ := h.at_ b' m2 e2
      have y1 := (Prod.mk.inj (Option.some.inj ((hle _ _ x1).symm.trans r1))).1
      have y2 := (Prod.mk.inj (Option.some.inj ((hle _ _ x2).symm.trans r2))).1
      exact h.inj b b' m1 m2 g' d1 d2 e1 e2 (y1 ▸ x1) (y2 ▸ x2)
/-- A new block. -/
theorem MR.new {mb : MB} {g c : Nat} {t' : Tr MB} {d : Nat} (h : MR w0 ρ st w) (hg : w.grownBy w' none) (hge : w.heap.size ≤ g) (hm : Holds (ext ρ st.next (g, c)) w' g c mb)
    (hs : Tr.set d st.mem st.next (some mb) = some t') : MR w0 (ext ρ st.next (g, c)) ⟨t', st.next + 1⟩ w' :=
  h.new' hg (fun _ e => by cases e) (Wd.ok_of (Nat.le_trans h.gb.size hge)) (fun b mb' g' c' e r => by
    obtain ⟨g1, c1, x1, x2, x3⟩ := h.at_ b mb' e
    have y1 := (Prod.mk.inj (Option.some.inj (x1.symm.trans r))).1
    have := x3.lt
    exact ⟨by omega, by simp⟩) hm hs
/-- One block turned. -/
theorem MR.put {mb mb' : MB} {b g c : Nat} {t' : Tr MB} {d : Nat} (h : MR w0 ρ st w) (e : st.mem.get b = some mb) (hr : mb.ro = false) (hb : ρ b = some (g, c)) (hg : w.grownBy w' (some g)) (hm : Holds ρ w' g c mb')
    (hs : Tr.set d st.mem b (some mb') = some t') : MR w0 ρ ⟨t', st.next⟩ w' := by
  have hget := Tr.get_set d _ _ _ _ hs
  obtain ⟨g1, c1, r1, r2, r3⟩ := h.at_ b mb e
  obtain ⟨rfl, rfl⟩ := Prod.mk.inj (Option.some.inj (r1.symm.trans hb))
  have hge : w0.ok g1 := ⟨r2.1 hr, r2.2⟩
  refine ⟨Wd.gb_row h.gb hg (by rintro _ ⟨rfl⟩; exact hge), h.top, fun b' m e' => ?_, fun b1 b2 m1 m2 g' d1 d2 e1 e2 x1 x2 => ?_⟩
  · rw [hget] at e'
    by_cases hbb : b' = b
    · rw [if_pos hbb] at e'
      obtain rfl := Option.some.inj e'
      subst hbb
      exact ⟨g1, c1, hb, ⟨fun _ => hge.1, hge.2⟩, hm⟩
    · rw [if_neg hbb] at e'
      obtain ⟨g2, c2, y1, y2, y3⟩ := h.at_ b' m e'
      refine ⟨g2, c2, y1, y2, y3.same (hg.block g2 y3.lt fun hh => hbb ?_)⟩
      obtain rfl := Option.some.inj hh
      exact h.inj b' b m mb g2 c2 c1 e' e y1 hb
  · rw [hget] at e1 e2
    have f1 : ∃ m, st.mem.get b1 = some m := by
      by_cases hh : b1 = b
      · exact ⟨mb, hh ▸ e⟩
      · rw [if_neg hh] at e1; exact ⟨m1, e1⟩
    have f2 : ∃ m, st.mem.get b2 = some m := by
      by_cases hh : b2 = b
      · exact ⟨mb, hh ▸ e⟩
      · rw [if_neg hh] at e2; exact ⟨m2, e2⟩
    obtain ⟨n1, f1⟩ := f1
    obtain ⟨n2, f2⟩ := f2
    exact h.inj b1 b2 n1 n2 g' d1 d2 f1 f2 x1 x2
/-- A block forgotten. -/
theorem MR.drop {b : Nat} {t' : Tr MB} {d : Nat} (h : MR w0 ρ st w) (hs : Tr.set d st.mem b none = some t') : MR w0 ρ ⟨t', st.next⟩ w := by
  have hget := Tr.get_set d _ _ _ _ hs
  refine ⟨h.gb, h.top, fun b' m e' => ?_, fun b1 b2 m1 m2 g' d1 d2 e1 e2 x1 x2 => ?_⟩
  · rw [hget] at e'
    by_cases hbb : b' = b
    · rw [if_pos hbb] at e'; cases e'
    · rw [if_neg hbb] at e'; exact h.at_ b' m e'
  · rw [hget] at e1 e2
    by_cases h1 : b1 = b
    · rw [if_pos h1] at e1; cases e1
    · by_cases h2 : b2 = b
      · rw [if_pos h2] at e2; cases e2
      · rw [if_neg h1] at e1; rw [if_neg h2] at e2
        exact h.inj b1 b2 m1 m2 g' d1 d2 e1 e2 x1 x2
end
end Go.Proofs.Ytbmohojdlgedpaa.Ev
