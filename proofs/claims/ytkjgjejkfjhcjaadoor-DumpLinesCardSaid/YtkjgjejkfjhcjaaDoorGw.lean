/-
  Step lemmas for walking code of the model with the frame kept as an association list and the world kept as a variable: each lemma says what one operation does. They hold of every program; nothing of this program stands here.
-/
import Derived.WalkKit
import Derived.Handy
import Derived.ProofKit
import Derived.Lib.ConvBytes
import Derived.Laws.BytesArg
import Derived.Maps.AppendAt
import Derived.Deep.AppendLies
import Derived.KernelRfl
import Derived.OrdersIn
namespace Go.Proofs.YtkjgjejkfjhcjaaDoor.Gw
open Go.RowKit
set_option linter.unusedVariables false
set_option linter.unusedSimpArgs false

/-! ### the frame -/
abbrev Sl := List (Nat × Value)
def lk : Sl → Nat → Option Value
  | [], _ => none
  | (k, v) :: r, t => bif Nat.beq k t then some v else lk r t
def fr (n : Nat) (σ : Nat → Value) (l : Sl) : Array Value := (Array.range n).map fun i => (lk l i).getD (σ i)
def Ac (n : Nat) (σ : Nat → Value) (ds : List Deferred) (l : Sl) : Act := ⟨fr n σ l, ds⟩
def ev (n : Nat) (l : Sl) : Operand → Option Value
  | .tmp t => bif Nat.blt t n then lk l t else none
  | .const v => some v
  | .global g => some (.pointer (some ⟨g, 0, none⟩))
  | .func f => some (.func (.func f) #[] #[])

section
variable {n : Nat} {σ : Nat → Value} {ds : List Deferred} {l : Sl}
theorem fr_get (t : Nat) (h : t < n) : (fr n σ l).getD t undef = (lk l t).getD (σ t) := by
  simp [fr, Array.getD, h]
theorem ev_eval {x : Operand} {v : Value} (h : ev n l x = some v) : (Ac n σ ds l).eval x = v := by
  cases x with
  | tmp t =>
    simp only [ev] at h
    cases hb : Nat.blt t n with
    | false => rw [hb] at h; cases h
    | true =>
      rw [hb] at h
      have hlt : t < n := by simpa [Nat.blt_eq] using hb
      simp only [cond_true] at h
      show (fr n σ l).getD t undef = v
      rw [fr_get t hlt, h]; rfl
  | const c => exact Option.some.inj h
  | global g => exact Option.some.inj h
  | func f => exact Option.some.inj h
theorem beq_no {i j : Nat} (h : i ≠ j) : Nat.beq i j = false := by
  cases hb : Nat.beq i j with
  | false => rfl
  | true => exact absurd (Nat.eq_of_beq_eq_true hb) h
theorem Ac_put {d : Nat} {v : Value} (h : Nat.blt d n = true) : (Ac n σ ds l).put (some d) v = Ac n σ ds ((d, v) :: l) := by
  have hlt : d < n := by simpa [Nat.blt_eq] using h
  simp only [Ac, Act.put]
  congr 1
  unfold fr
  apply Array.ext
  · simp
  · intro i h1 h2
    have hi : i < n := by simpa using h2
    rw [Array.getElem_setIfInBounds (by simpa using hi)]
    by_cases e : d = i
    · subst e; simp [lk]
    · simp [e, lk, beq_no e]
theorem Ac_none {v : Value} : (Ac n σ ds l).put none v = Ac n σ ds l := rfl
/-- What the new list says of the slots that it names, the old one says too. -/
def Agrees (l : Sl) : Sl → Prop
  | [] => True
  | (t, v) :: r => lk l t = some v ∧ Agrees l r
theorem lk_agrees {l l' : Sl} (h : Agrees l l') : ∀ t v, lk l' t = some v → lk l t = some v := by
  induction l' with
  | nil => intro t v h'; cases h'
  | cons p r ih =>
    obtain ⟨k, u⟩ := p
    obtain ⟨h1, h2⟩ := h
    intro t v h'
    simp only [lk] at h'
    cases hb : Nat.beq k t with
    | true =>
      rw [hb] at h'
      obtain rfl : k = t := by simpa using hb
      simp only [cond_true] at h'
      rw [← h']; exact h1
    | false => rw [hb] at h'; exact ih h2 t v h'
/-- All slots but those named are forgotten. -/
theorem Ac_forget (l' : Sl) (h : Agrees l l') : ∃ σ', Ac n σ ds l = Ac n σ' ds l' := by
  refine ⟨fun i => (lk l i).getD (σ i), ?_⟩
  simp only [Ac]
  congr 1
  simp only [fr]
  apply Array.map_congr_left
  intro i _
  cases h' : lk l' i with
  | none => rfl
  | some v => rw [lk_agrees h i v h']; rfl
end

/-! ### code -/
/-- The frame of a function, or of a round of the loop 'ro'. There is no fence. -/
abbrev wF (ro : Option Nat) : Fence := { Fence.wide with round := ro }
/-- The operation hands a value to the body of a loop over a function; what that answers goes on. -/
def Gives (P : Program) (o : Oper) (a : Act) (w : World) (next : Act → World → Prop) : Prop :=
  ∃ lp f tmps asg body w', (execOp a.eval o).run P w = .ok (.round lp f tmps asg body) w' ∧ RoundIn Fence.wide 0 P lp f tmps asg body w' (fun e w'' => match e with | .returned v => next (a.put o.dst v) w'' | _ => False)
/-- What a list of operations comes to. -/
def wpL (P : Program) (ops : Array Oper) (Q : Exit → Act → World → Prop) : List Oper → Act → World → Prop
  | [], a, w => Q .normal a w
  | o :: rest, a, w =>
    if Region.wanted o (yielded ops a.tmps) then o.wp P a w (wpL P ops Q rest) Q ∨ Gives P o a w (wpL P ops Q rest)
    else wpL P ops Q rest (a.put o.dst undef) w
def notDefer (o : Oper) : Bool := match o.op with | .defer _ => false | _ => true
theorem notDefer_ne {o : Oper} (h : notDefer o = true) : ∀ c, o.op ≠ .defer c := by
  intro c e
  unfold notDefer at h
  rw [e] at h
  cases h
theorem opIn_of_wp {ro : Option Nat} {P : Program} {o : Oper} {a : Act} {w : World} {K : Act → World → Prop} {Q : Exit → Act → World → Prop} (hd : ro.isNone = true ∨ notDefer o = true) (h : o.wp P a w K Q) : o.wpIn (wF ro) 0 P a w K Q := by
  refine ⟨fun _ _ => trivial, ?_⟩
  have e : o.semAt (wF ro).round a.eval = execOp a.eval o := by
    rcases hd with hd | hd
    · cases ro with
      | none => rfl
      | some l => cases hd
    · exact Oper.semAt_eq _ _ _ (notDefer_ne hd)
  rw [e]
  unfold Oper.wp at h
  generalize (execOp a.eval o).run P w = r at *
  cases r with
  | ok x w' =>
    cases x <;> simp only [Oper.upon, Oper.uponIn] at h ⊢ <;>
      first
        | exact h
        | exact h.elim
        | exact ⟨(fun e => by cases e), callsIn_wide.2 h⟩
        | exact ⟨(fun e => by cases e), fun c cs _ => (let ⟨v, w'', r, s⟩ := h c cs; ⟨v, w'', r, stepsIn_wide.2 s⟩)⟩
  | halt x w' => cases x <;> simp only [Oper.upon, Oper.uponIn] at h ⊢ <;> first | exact h | exact h.elim
theorem opIn_of_gives {ro : Option Nat} {P : Program} {o : Oper} {a : Act} {w : World} {K : Act → World → Prop} {Q : Exit → Act → World → Prop} (hd : ro.isNone = true ∨ notDefer o = true) (h : Gives P o a w K) : o.wpIn (wF ro) 0 P a w K Q := by
  refine ⟨fun _ _ => trivial, ?_⟩
  have e : o.semAt (wF ro).round a.eval = execOp a.eval o := by
    rcases hd with hd | hd
    · cases ro with
      | none => rfl
      | some l => cases hd
    · exact Oper.semAt_eq _ _ _ (notDefer_ne hd)
  rw [e]
  obtain ⟨lp, f, tmps, asg, body, w', hr, h⟩ := h
  rw [hr]
  refine ⟨(fun e => by cases e), RoundIn.mono h fun e w'' he => ?_⟩
  cases e with
  | returned v => exact he
  | panicked c => exact he.elim
  | outgrown => exact he.elim
theorem listIn_of_wpL {ro : Option Nat} {P : Program} {ops : Array Oper} {Q : Exit → Act → World → Prop} : ∀ {l : List Oper} {a : Act} {w : World}, (ro.isNone || l.all notDefer) = true → wpL P ops Q l a w → wpListIn (wF ro) 0 P ops Q l a w
  | [], _, _, _, h => h
  | o :: r, a, w, hd, h => by
    have h1 : ro.isNone = true ∨ notDefer o = true := by
      rw [Bool.or_eq_true, List.all_cons, Bool.and_eq_true] at hd
      exact hd.imp id (·.1)
    have h2 : (ro.isNone || r.all notDefer) = true := by
      rw [Bool.or_eq_true, List.all_cons, Bool.and_eq_true] at hd
      rw [Bool.or_eq_true]
      exact hd.imp id (·.2)
    unfold wpListIn
    unfold wpL at h
    split
    · rename_i hw
      rw [if_pos hw] at h
      rcases h with h | h
      · exact Oper.wpIn_mono (fun a w h => listIn_of_wpL h2 h) (opIn_of_wp h1 h)
      · exact Oper.wpIn_mono (fun a w h => listIn_of_wpL h2 h) (opIn_of_gives h1 h)
    · rename_i hw
      rw [if_neg hw] at h
      exact ⟨fun _ _ => trivial, listIn_of_wpL h2 h⟩
section
variable {ro : Option Nat} {P : Program} {Q : Exit → Act → World → Prop} {a : Act} {w : World}
theorem C_seq {x y : Code} (h : x.wpIn (wF ro) 0 P (Exit.then (fun a w => y.wpIn (wF ro) 0 P Q a w) Q) a w) : (Code.seq x y).wpIn (wF ro) 0 P Q a w := wpIn_seq h
theorem C_reg {id : Nat} {l : List Oper} (hd : (ro.isNone || l.all notDefer) = true) (h : wpL P l.toArray Q l a w) : (Code.region id l.toArray false).wpIn (wF ro) 0 P Q a w := wpIn_region_lit (listIn_of_wpL hd h)
theorem C_block {id : Nat} {c : Code} (h : c.wpIn (wF ro) 0 P (Exit.inBlock id Q) a w) : (Code.block id c).wpIn (wF ro) 0 P Q a w := wpIn_block h
theorem C_skip (h : Q .normal a w) : Code.skip.wpIn (wF ro) 0 P Q a w := wpIn_skip h
theorem C_exit {id : Nat} (h : Q (.exit id) a w) : (Code.exit id).wpIn (wF ro) 0 P Q a w := wpIn_exit h
theorem C_ret (h : Q .ret a w) : Code.ret.wpIn (wF ro) 0 P Q a w := wpIn_ret h
theorem L_nil {ops : Array Oper} (h : Q .normal a w) : wpL P ops Q [] a w := h
variable {K : Act → World → Prop} {id i : Nat}
theorem N_then (h : K a w) : Exit.then K Q .normal a w := h
theorem N_in (h : Q .normal a w) : Exit.inBlock id Q .normal a w := h
theorem X_then (h : Q (.exit i) a w) : Exit.then K Q (.exit i) a w := h
theorem X_hit (h : Q .normal a w) : Exit.inBlock id Q (.exit id) a w := by simp only [Exit.inBlock, if_true]; exact h
theorem X_miss (hne : Nat.beq i id = false) (h : Q (.exit i) a w) : Exit.inBlock id Q (.exit i) a w := by
  have : i ≠ id := Nat.ne_of_beq_eq_false hne
  simp only [Exit.inBlock, if_neg this]; exact h
theorem R_then (h : Q .ret a w) : Exit.then K Q .ret a w := h
theorem R_in (h : Q .ret a w) : Exit.inBlock id Q .ret a w := h
theorem P_then {c : List PanicEntry} (h : Q (.panic c) a w) : Exit.then K Q (.panic c) a w := h
theorem P_in {c : List PanicEntry} (h : Q (.panic c) a w) : Exit.inBlock id Q (.panic c) a w := h

variable {n : Nat} {σ : Nat → Value} {ds : List Deferred} {l : Sl}
theorem C_cond {c : Operand} {x y : Code} {b : Bool} (hc : ev n l c = some (.bool b)) (ht : b = true → x.wpIn (wF ro) 0 P Q (Ac n σ ds l) w) (hf : b = false → y.wpIn (wF ro) 0 P Q (Ac n σ ds l) w) :
    (Code.cond c x y).wpIn (wF ro) 0 P Q (Ac n σ ds l) w := wpIn_cond_split (ev_eval hc) ht hf
theorem C_condT {c : Operand} {x y : Code} {b : Bool} (hc : ev n l c = some (.bool b)) (hb : b = true) (ht : x.wpIn (wF ro) 0 P Q (Ac n σ ds l) w) :
    (Code.cond c x y).wpIn (wF ro) 0 P Q (Ac n σ ds l) w := wpIn_cond_true (hb ▸ ev_eval hc) ht
theorem C_condF {c : Operand} {x y : Code} {b : Bool} (hc : ev n l c = some (.bool b)) (hb : b = false) (hf : y.wpIn (wF ro) 0 P Q (Ac n σ ds l) w) :
    (Code.cond c x y).wpIn (wF ro) 0 P Q (Ac n σ ds l) w := wpIn_cond_false (hb ▸ ev_eval hc) hf
/-- A cut: what holds behind the first piece is all that the second is told. -/
theorem C_cut {x y : Code} (Mid : Act → World → Prop) (hx : x.wpIn (wF ro) 0 P (Exit.then Mid Q) a w) (hy : ∀ a w, Mid a w → y.wpIn (wF ro) 0 P Q a w) : (Code.seq x y).wpIn (wF ro) 0 P Q a w :=
  wpIn_seq (wpIn_mono hx (fun e a w h => by cases e <;> first | exact hy _ _ h | exact h))
/-- A loop with a measure of one's own. -/
theorem C_loop {c : Code} (I : Nat → Act → World → Prop) (m : Nat) (h0 : I m a w)
    (round : ∀ m a w, I m a w → c.wpIn (wF ro) 0 P (Exit.then (fun a' w' => ∃ m', m' < m ∧ I m' a' w') Q) a w) : (Code.loop c).wpIn (wF ro) 0 P Q a w := by
  intro b k cs hro hb hr
  have key : ∀ m a w, I m a w → ∃ e a' w', Q e a' w' ∧ ArrivesIn (Machine.fenced P (wF ro)) P (lone (b.atR a (.code c :: .inLoop c :: k)) cs w) b k cs e a' w' := by
    intro m
    induction m using Nat.strongRecOn with
    | _ m ih =>
      intro a w hI
      obtain ⟨e, a₁, w₁, hq, harr⟩ := round m a w hI b (.inLoop c :: k) cs hro hb hr
      cases e with
      | normal =>
        obtain ⟨m', hlt, hI₁⟩ := hq
        obtain ⟨e₂, a₂, w₂, hq₂, harr₂⟩ := ih m' hlt a₁ w₁ hI₁
        exact ⟨e₂, a₂, w₂, hq₂, .of_steps (StepsIn.trans harr (.one (fenced_calm hb hr rfl) stepR_inLoop)) harr₂⟩
      | exit id => exact ⟨_, a₁, w₁, hq, .pass (x := .inLoop c) rfl (fun _ _ => .inl (by simp)) harr⟩
      | goto l => exact ⟨_, a₁, w₁, hq, .pass (x := .inLoop c) rfl (fun _ _ => .inl (by simp)) harr⟩
      | ret => exact ⟨_, a₁, w₁, hq, .pass (x := .inLoop c) rfl (fun _ _ => .inl (by simp)) harr⟩
      | panic ch => exact ⟨_, a₁, w₁, hq, .pass (x := .inLoop c) rfl (fun _ _ => .inl (by simp)) harr⟩
      | outgrown => exact ⟨_, a₁, w₁, hq, .pass (x := .inLoop c) rfl (fun _ _ => .inl (by simp)) harr⟩
  obtain ⟨e, a', w', hq, harr⟩ := key m a w h0
  exact ⟨e, a', w', hq, .of_steps (.one (fenced_calm hb hr rfl) stepR_loop) harr⟩
end

/-! ### entering and leaving -/
/-- The function returns, and what it returns is so. -/
def Runs (P : Program) (f : FuncId) (args : Array Value) (w : World) (R : Value → World → Prop) : Prop :=
  Calls P f args w fun e w' => match e with | .returned v => R v w' | _ => False
theorem Runs.mono {P : Program} {f : FuncId} {args : Array Value} {w : World} {R R' : Value → World → Prop} (h : Runs P f args w R) (hr : ∀ v w', R v w' → R' v w') : Runs P f args w R' :=
  Calls.mono h fun e w' he => by cases e <;> first | exact hr _ _ he | exact he
theorem Runs.calls {P : Program} {f : FuncId} {args : Array Value} {w : World} {R : Value → World → Prop} (h : Runs P f args w R) : Calls P f args w fun e w' => ∃ v, e = .returned v ∧ R v w' :=
  Calls.mono h fun e w' he => by cases e <;> first | exact ⟨_, rfl, he⟩ | exact he.elim
def RetOf (R : Value → World → Prop) : Ending → World → Prop := fun e w' => match e with | .returned v => R v w' | _ => False
def zipA : Nat → List Value → Sl
  | _, [] => []
  | k, v :: r => (k, v) :: zipA (k + 1) r
theorem lk_zipA : ∀ (vs : List Value) (k i : Nat), lk (zipA k vs) (k + i) = vs[i]? := by
  intro vs
  induction vs with
  | nil => intro k i; simp [zipA, lk]
  | cons v r ih =>
    intro k i
    cases i with
    | zero => simp [zipA, lk]
    | succ i =>
      have h : Nat.beq k (k + (i + 1)) = false := beq_no (by omega)
      simp only [zipA, lk, h, cond_false]
      have := ih (k + 1) i
      rw [show k + 1 + i = k + (i + 1) by omega] at this
      simpa using this
theorem enter {P : Program} {f : FuncId} {fn : Func} {c : Code} {vs : List Value} {w : World} {R : Value → World → Prop} {n : Nat}
    (hf : P.funcs[f]? = some fn) (hn : fn.ntmps = n) (hs : Nat.ble vs.length n = true) (hb : fn.body = some c)
    (h : c.wpIn (wF none) 0 P (bodyPost P fn (RetOf R)) (Ac n (fun _ => undef) [] (zipA 0 vs)) w) : Runs P f vs.toArray w R := by
  refine calls_of_wp hf hb (wpIn_wide.1 (?_ : Code.wpIn (wF none) 0 P c _ _ _))
  have hle : vs.length ≤ n := by simpa using hs
  have e : vs.toArray ++ Array.replicate (fn.ntmps - vs.toArray.size) undef = fr n (fun _ => undef) (zipA 0 vs) := by
    apply Array.ext
    · simp [fr, hn]; omega
    · intro i h1 h2
      have hi : i < n := by simpa [fr] using h2
      have hz := lk_zipA vs 0 i
      rw [Nat.zero_add] at hz
      simp only [fr, Array.getElem_map, Array.getElem_range]
      rw [hz]
      by_cases hlt : i < vs.length
      · rw [Array.getElem_append_left (by simpa using hlt)]
        simp [List.getElem?_eq_getElem hlt]
      · rw [Array.getElem_append_right (by simpa using hlt)]
        simp [List.getElem?_eq_none (by omega : vs.length ≤ i)]
  rw [e]
  exact h
section
variable {P : Program} {fn : Func} {R : Value → World → Prop} {w : World} {n : Nat} {σ : Nat → Value} {l : Sl}
theorem eval_tmp {t : Nat} {v : Value} (h : ev n l (.tmp t) = some v) : (fr n σ l).getD t undef = v := ev_eval (σ := σ) (ds := []) h
theorem ret0 (hr : fn.results = #[]) (hR : R (.tuple #[]) w) : bodyPost P fn (RetOf R) .ret (Ac n σ [] l) w := bodyPost_ret (results_none hr _ _ _) rfl hR
theorem end0 (hr : fn.results = #[]) (hR : R (.tuple #[]) w) : bodyPost P fn (RetOf R) .normal (Ac n σ [] l) w := bodyPost_end (results_none hr _ _ _) rfl hR
theorem ret1 {t : Nat} {v : Value} (hr : fn.results = #[.tmp t]) (hv : ev n l (.tmp t) = some v) (hR : R v w) : bodyPost P fn (RetOf R) .ret (Ac n σ [] l) w :=
  bodyPost_ret (results_tmp hr _ _ _) rfl (by simp only [Ac]; rw [eval_tmp hv]; exact hR)
theorem ret2 {t u : Nat} {v v' : Value} (hr : fn.results = #[.tmp t, .tmp u]) (hv : ev n l (.tmp t) = some v) (hv' : ev n l (.tmp u) = some v') (hR : R (.tuple #[v, v']) w) :
    bodyPost P fn (RetOf R) .ret (Ac n σ [] l) w :=
  bodyPost_ret (results_tmp2 hr _ _ _) rfl (by simp only [Ac]; rw [eval_tmp hv, eval_tmp hv']; exact hR)
theorem ret3 {t u s : Nat} {v v' v'' : Value} (hr : fn.results = #[.tmp t, .tmp u, .tmp s]) (hv : ev n l (.tmp t) = some v) (hv' : ev n l (.tmp u) = some v') (hv'' : ev n l (.tmp s) = some v'')
    (hR : R (.tuple #[v, v', v'']) w) : bodyPost P fn (RetOf R) .ret (Ac n σ [] l) w :=
  bodyPost_ret (results_tmp3 hr _ _ _) rfl (by simp only [Ac]; rw [eval_tmp hv, eval_tmp hv', eval_tmp hv'']; exact hR)
end

/-! ### memory -/
theorem gb_refl (w : World) (row : Option Nat) : w.grownBy w row := World.grownBy.refl w row
/-- Block g holds just these cells. -/
def Blk (w : World) (g : Nat) (t : TypeId) (cs : List Value) : Prop := w.heap[g]? = some (.cells cs.toArray t (0, 0))
section
variable {w w' : World} {g : Nat} {t : TypeId} {cs : List Value}
theorem Blk.lt (h : Blk w g t cs) : g < w.heap.size := (Array.getElem?_eq_some_iff.1 h).1
theorem Blk.cell (h : Blk w g t cs) {i : Nat} {v : Value} (hi : cs[i]? = some v) : w.cell? ⟨g, i, none⟩ = some v := by
  rw [cell_of_row w g i cs.toArray t (0, 0) h]; simpa using hi
theorem Blk.grown {row : Option Nat} (h : Blk w g t cs) (hb : w.grownBy w' row) (hg : some g ≠ row) : Blk w' g t cs := (hb.block g h.lt hg).trans h
theorem Blk.gb (h : Blk w g t cs) (hb : w.grownBy w' none) : Blk w' g t cs := h.grown hb (by simp)
theorem Blk.set1 (h : Blk w g t cs) (i : Nat) (u : Value) : Blk (w.setCell ⟨g, i, none⟩ u) g t (cs.set i u) := by
  unfold Blk at h ⊢
  simp [World.setCell, Array.getElem?_modify, h]
end
theorem gb_set (w : World) (g i : Nat) (u : Value) : w.grownBy (w.setCell ⟨g, i, none⟩ u) (some g) :=
  ⟨rfl, rfl, rfl, by simp [World.setCell], fun k hk hne => Below.heap_setCell _ _ _ _ (by simpa using hne)⟩
theorem gb_below {w w' : World} (h : w.grownBy w' none) : Below w.heap.size w w' := ⟨h.os, h.tape, h.output, h.size, fun k hk => h.block k hk (by simp)⟩
theorem below_gb {w w' : World} (h : Below w.heap.size w w') : w.grownBy w' none := grown_of_below' h
  where grown_of_below' {w w' : World} (h : Below w.heap.size w w') : w.grownBy w' none := ⟨h.os, h.tape, h.output, h.size, fun k hk _ => h.block k hk⟩
theorem gb_trans {a b c : World} {row : Option Nat} (h : a.grownBy b row) (k : b.grownBy c row) : a.grownBy c row := World.grownBy.trans h k
/-- New memory, then more: a store into what is new is none into what was there. -/
theorem gb_new {a b c : World} {row : Option Nat} (h : a.grownBy b none) (k : b.grownBy c row) (hr : ∀ g, row = some g → a.heap.size ≤ g) : a.grownBy c none :=
  ⟨k.os.trans h.os, k.tape.trans h.tape, k.output.trans h.output, Nat.le_trans h.size k.size,
    fun i hi _ => (k.block i (Nat.lt_of_lt_of_le hi h.size) (fun e => by have := hr i e.symm; omega)).trans (h.block i hi (by simp))⟩
theorem gb_alloc (w : World) (o : Obj) : w.grownBy (w.alloc o) none := World.grownBy_alloc w o none

end Go.Proofs.YtkjgjejkfjhcjaaDoor.Gw
