import Derived.WalkKit
import Derived.Handy
import Derived.ProofKit
import Derived.Lib.ConvBytes
import Derived.Laws.BytesArg
import Derived.Maps.AppendAt
import Derived.Deep.AppendLies
import Derived.KernelRfl
import Derived.OrdersIn
import Derived.OrdersHeld
import Derived.Deep.RegionHeld3
import Derived.Deep.Slices
import Derived.SizedLaws
import Derived.ChangeArms
import GoSem.Claim
import Derived.Recover
import Derived.RangeFuncRecord
import Derived.RangeFuncSeq
import Derived.ChangeKeysEq
import Derived.Laws.CopyRow
import Derived.Sort.Walk0
import Derived.Maps.RangeRun
import Derived.MapKept
/-
  What the law's proof stands on, part 1.
-/
namespace Go.Proofs.Ytoipncaopdmicaa.Gw
open Go.RowKit
set_option linter.unusedVariables false
set_option linter.unusedSimpArgs false
/-! ### the frame -/
abbrev Sl := List (Nat × Value)
def lk : Sl → Nat → Option Value
  | [], _ => none
  | (k, v) :: r, t => bif Nat.beq k t then some v else lk r t
def fr (n : Nat) (σ : Nat → Value) (l : Sl) : Array Value := (Array.range n).map fun i => (lk l i).getD (σ i)
def Ac (n : Nat) (σ : Nat → Value) (ds : List Deferred) (l : Sl) : Act := ⟨fr n σ l, ds⟩
def ev (n : Nat) (l : Sl) : Operand → Option Value
  | .tmp t => bif Nat.blt t n then lk l t else none
  | .const v => some v
  | .global g => some (.pointer (some ⟨g, 0, none⟩))
  | .func f => some (.func (.func f) #[] #[])
section
variable {n : Nat} {σ : Nat → Value} {ds : List Deferred} {l : Sl}
theorem fr_get (t : Nat) (h : t < n) : (fr n σ l).getD t undef = (lk l t).getD (σ t) := by
  simp [fr, Array.getD, h]
theorem ev_eval {x : Operand} {v : Value} (h : ev n l x = some v) : (Ac n σ ds l).eval x = v := by
  cases x with
  | tmp t =>
    simp only [ev] at h
    cases hb : Nat.blt t n with
    | false => rw [hb] at h; cases h
    | true =>
      rw [hb] at h
      have hlt : t < n := by simpa [Nat.blt_eq] using hb
      simp only [cond_true] at h
      show (fr n σ l).getD t undef = v
      rw [fr_get t hlt, h]; rfl
  | const c => exact Option.some.inj h
  | global g => exact Option.some.inj h
  | func f => exact Option.some.inj h
theorem beq_no {i j : Nat} (h : i ≠ j) : Nat.beq i j = false := by
  cases hb : Nat.beq i j with
  | false => rfl
  | true => exact absurd (Nat.eq_of_beq_eq_true hb) h
theorem Ac_put {d : Nat} {v : Value} (h : Nat.blt d n = true) : (Ac n σ ds l).put (some d) v = Ac n σ ds ((d, v) :: l) := by
  have hlt : d < n := by simpa [Nat.blt_eq] using h
  simp only [Ac, Act.put]
  congr 1
  unfold fr
  apply Array.ext
  · simp
  · intro i h1 h2
    have hi : i < n := by simpa using h2
    rw [Array.getElem_setIfInBounds (by simpa using hi)]
    by_cases e : d = i
    · subst e; simp [lk]
    · simp [e, lk, beq_no e]
/-- What the new list says of the slots that it names, the old one says too. -/
def Agrees (l : Sl) : Sl → Prop
  | [] => True
  | (t, v) :: r => lk l t = some v ∧ Agrees l r
theorem lk_agrees {l l' : Sl} (h : Agrees l l') : ∀ t v, lk l' t = some v → lk l t = some v := by
  induction l' with
  | nil => intro t v h'; cases h'
  | cons p r ih =>
    obtain ⟨k, u⟩ := p
    obtain ⟨h1, h2⟩ := h
    intro t v h'
    simp only [lk] at h'
    cases hb : Nat.beq k t with
    | true =>
      rw [hb] at h'
      obtain rfl : k = t := by simpa using hb
      simp only [cond_true] at h'
      rw [← h']; exact h1
    | false => rw [hb] at h'; exact ih h2 t v h'
end
/-! ### code -/
/-- The frame of a function, or of a round of the loop 'ro'. There is no fence. -/
abbrev wF (ro : Option Nat) : Fence := { Fence.wide with round := ro }
/-- The operation hands a value to the body of a loop over a function; what that answers goes on. -/
def Gives (P : Program) (o : Oper) (a : Act) (w : World) (next : Act → World → Prop) : Prop :=
  ∃ lp f tmps asg body w', (execOp a.eval o).run P w = .ok (.round lp f tmps asg body) w' ∧ RoundIn Fence.wide 0 P lp f tmps asg body w' (fun e w'' => match e with | .returned v => next (a.put o.dst v) w'' | _ => False)
/-- What a list of operations comes to. -/
def wpL (P : Program) (ops : Array Oper) (Q : Exit → Act → World → Prop) : List Oper → Act → World → Prop
  | [], a, w => Q .normal a w
  | o :: rest, a, w =>
    if Region.wanted o (yielded ops a.tmps) then o.wp P a w (wpL P ops Q rest) Q ∨ Gives P o a w (wpL P ops Q rest)
    else wpL P ops Q rest (a.put o.dst undef) w
def notDefer (o : Oper) : Bool := match o.op with | .defer _ => false | _ => true
theorem notDefer_ne {o : Oper} (h : notDefer o = true) : ∀ c, o.op ≠ .defer c := by
  intro c e
  unfold notDefer at h
  rw [e] at h
  cases h
theorem opIn_of_wp {ro : Option Nat} {P : Program} {o : Oper} {a : Act} {w : World} {K : Act → World → Prop} {Q : Exit → Act → World → Prop} (hd : ro.isNone = true ∨ notDefer o = true) (h : o.wp P a w K Q) : o.wpIn (wF ro) 0 P a w K Q := by
  refine ⟨fun _ _ => trivial, ?_⟩
  have e : o.semAt (wF ro).round a.eval = execOp a.eval o := by
    rcases hd with hd | hd
    · cases ro with
      | none => rfl
      | some l => cases hd
    · exact Oper.semAt_eq _ _ _ (notDefer_ne hd)
  rw [e]
  unfold Oper.wp at h
  generalize (execOp a.eval o).run P w = r at *
  cases r with
  | ok x w' =>
    cases x <;> simp only [Oper.upon, Oper.uponIn] at h ⊢ <;>
      first
        | exact h
        | exact h.elim
        | exact ⟨(fun e => by cases e), callsIn_wide.2 h⟩
        | exact ⟨(fun e => by cases e), fun c cs _ => (let ⟨v, w'', r, s⟩ := h c cs; ⟨v, w'', r, stepsIn_wide.2 s⟩)⟩
  | halt x w' => cases x <;> simp only [Oper.upon, Oper.uponIn] at h ⊢ <;> first | exact h | exact h.elim
theorem opIn_of_gives {ro : Option Nat} {P : Program} {o : Oper} {a : Act} {w : World} {K : Act → World → Prop} {Q : Exit → Act → World → Prop} (hd : ro.isNone = true ∨ notDefer o = true) (h : Gives P o a w K) : o.wpIn (wF ro) 0 P a w K Q := by
  refine ⟨fun _ _ => trivial, ?_⟩
  have e : o.semAt (wF ro).round a.eval = execOp a.eval o := by
    rcases hd with hd | hd
    · cases ro with
      | none => rfl
      | some l => cases hd
    · exact Oper.semAt_eq _ _ _ (notDefer_ne hd)
  rw [e]
  obtain ⟨lp, f, tmps, asg, body, w', hr, h⟩ := h
  rw [hr]
  refine ⟨(fun e => by cases e), RoundIn.mono h fun e w'' he => ?_⟩
  cases e with
  | returned v => exact he
  | panicked c => exact he.elim
  | outgrown => exact he.elim
theorem listIn_of_wpL {ro : Option Nat} {P : Program} {ops : Array Oper} {Q : Exit → Act → World → Prop} : ∀ {l : List Oper} {a : Act} {w : World}, (ro.isNone || l.all notDefer) = true → wpL P ops Q l a w → wpListIn (wF ro) 0 P ops Q l a w
  | [], _, _, _, h => h
  | o :: r, a, w, hd, h => by
    have h1 : ro.isNone = true ∨ notDefer o = true := by
      rw [Bool.or_eq_true, List.all_cons, Bool.and_eq_true] at hd
      exact hd.imp id (·.1)
    have h2 : (ro.isNone || r.all notDefer) = true := by
      rw [Bool.or_eq_true, List.all_cons, Bool.and_eq_true] at hd
      rw [Bool.or_eq_true]
      exact hd.imp id (·.2)
    unfold wpListIn
    unfold wpL at h
    split
    · rename_i hw
      rw [if_pos hw] at h
      rcases h with h | h
      · exact Oper.wpIn_mono (fun a w h => listIn_of_wpL h2 h) (opIn_of_wp h1 h)
      · exact Oper.wpIn_mono (fun a w h => listIn_of_wpL h2 h) (opIn_of_gives h1 h)
    · rename_i hw
      rw [if_neg hw] at h
      exact ⟨fun _ _ => trivial, listIn_of_wpL h2 h⟩
section
variable {ro : Option Nat} {P : Program} {Q : Exit → Act → World → Prop} {a : Act} {w : World}
theorem C_seq {x y : Code} (h : x.wpIn (wF ro) 0 P (Exit.then (fun a w => y.wpIn (wF ro) 0 P Q a w) Q) a w) : (Code.seq x y).wpIn (wF ro) 0 P Q a w := wpIn_seq h
theorem C_reg {id : Nat} {l : List Oper} (hd : (ro.isNone || l.all notDefer) = true) (h : wpL P l.toArray Q l a w) : (Code.region id l.toArray false).wpIn (wF ro) 0 P Q a w := wpIn_region_lit (listIn_of_wpL hd h)
theorem C_block {id : Nat} {c : Code} (h : c.wpIn (wF ro) 0 P (Exit.inBlock id Q) a w) : (Code.block id c).wpIn (wF ro) 0 P Q a w := wpIn_block h
theorem C_skip (h : Q .normal a w) : Code.skip.wpIn (wF ro) 0 P Q a w := wpIn_skip h
theorem C_exit {id : Nat} (h : Q (.exit id) a w) : (Code.exit id).wpIn (wF ro) 0 P Q a w := wpIn_exit h
theorem C_ret (h : Q .ret a w) : Code.ret.wpIn (wF ro) 0 P Q a w := wpIn_ret h
theorem L_nil {ops : Array Oper} (h : Q .normal a w) : wpL P ops Q [] a w := h
variable {K : Act → World → Prop} {id i : Nat}
theorem N_then (h : K a w) : Exit.then K Q .normal a w := h
theorem X_hit (h : Q .normal a w) : Exit.inBlock id Q (.exit id) a w := by simp only [Exit.inBlock, if_true]; exact h
theorem X_miss (hne : Nat.beq i id = false) (h : Q (.exit i) a w) : Exit.inBlock id Q (.exit i) a w := by
  have : i ≠ id := Nat.ne_of_beq_eq_false hne
  simp only [Exit.inBlock, if_neg this]; exact h
variable {n : Nat} {σ : Nat → Value} {ds : List Deferred} {l : Sl}
theorem C_cond {c : Operand} {x y : Code} {b : Bool} (hc : ev n l c = some (.bool b)) (ht : b = true → x.wpIn (wF ro) 0 P Q (Ac n σ ds l) w) (hf : b = false → y.wpIn (wF ro) 0 P Q (Ac n σ ds l) w) :
    (Code.cond c x y).wpIn (wF ro) 0 P Q (Ac n σ ds l) w := wpIn_cond_split (ev_eval hc) ht hf
theorem C_condT {c : Operand} {x y : Code} {b : Bool} (hc : ev n l c = some (.bool b)) (hb : b = true) (ht : x.wpIn (wF ro) 0 P Q (Ac n σ ds l) w) :
    (Code.cond c x y).wpIn (wF ro) 0 P Q (Ac n σ ds l) w := wpIn_cond_true (hb ▸ ev_eval hc) ht
theorem C_condF {c : Operand} {x y : Code} {b : Bool} (hc : ev n l c = some (.bool b)) (hb : b = false) (hf : y.wpIn (wF ro) 0 P Q (Ac n σ ds l) w) :
    (Code.cond c x y).wpIn (wF ro) 0 P Q (Ac n σ ds l) w := wpIn_cond_false (hb ▸ ev_eval hc) hf
/-- A loop with a measure of one's own. -/
theorem C_loop {c : Code} (I : Nat → Act → World → Prop) (m : Nat) (h0 : I m a w)
    (round : ∀ m a w, I m a w → c.wpIn (wF ro) 0 P (Exit.then (fun a' w' => ∃ m', m' < m ∧ I m' a' w') Q) a w) : (Code.loop c).wpIn (wF ro) 0 P Q a w := by
  intro b k cs hro hb hr
  have key : ∀ m a w, I m a w → ∃ e a' w', Q e a' w' ∧ ArrivesIn (Machine.fenced P (wF ro)) P (lone (b.atR a (.code c :: .inLoop c :: k)) cs w) b k cs e a' w' := by
    intro m
    induction m using Nat.strongRecOn with
    | _ m ih =>
      intro a w hI
      obtain ⟨e, a₁, w₁, hq, harr⟩ := round m a w hI b (.inLoop c :: k) cs hro hb hr
      cases e with
      | normal =>
        obtain ⟨m', hlt, hI₁⟩ := hq
        obtain ⟨e₂, a₂, w₂, hq₂, harr₂⟩ := ih m' hlt a₁ w₁ hI₁
        exact ⟨e₂, a₂, w₂, hq₂, .of_steps (StepsIn.trans harr (.one (fenced_calm hb hr rfl) stepR_inLoop)) harr₂⟩
      | exit id => exact ⟨_, a₁, w₁, hq, .pass (x := .inLoop c) rfl (fun _ _ => .inl (by simp)) harr⟩
      | goto l => exact ⟨_, a₁, w₁, hq, .pass (x := .inLoop c) rfl (fun _ _ => .inl (by simp)) harr⟩
      | ret => exact ⟨_, a₁, w₁, hq, .pass (x := .inLoop c) rfl (fun _ _ => .inl (by simp)) harr⟩
      | panic ch => exact ⟨_, a₁, w₁, hq, .pass (x := .inLoop c) rfl (fun _ _ => .inl (by simp)) harr⟩
      | outgrown => exact ⟨_, a₁, w₁, hq, .pass (x := .inLoop c) rfl (fun _ _ => .inl (by simp)) harr⟩
  obtain ⟨e, a', w', hq, harr⟩ := key m a w h0
  exact ⟨e, a', w', hq, .of_steps (.one (fenced_calm hb hr rfl) stepR_loop) harr⟩
end
/-! ### entering and leaving -/
/-- The function returns, and what it returns is so. -/
def Runs (P : Program) (f : FuncId) (args : Array Value) (w : World) (R : Value → World → Prop) : Prop :=
  Calls P f args w fun e w' => match e with | .returned v => R v w' | _ => False
theorem Runs.mono {P : Program} {f : FuncId} {args : Array Value} {w : World} {R R' : Value → World → Prop} (h : Runs P f args w R) (hr : ∀ v w', R v w' → R' v w') : Runs P f args w R' :=
  Calls.mono h fun e w' he => by cases e <;> first | exact hr _ _ he | exact he
theorem Runs.calls {P : Program} {f : FuncId} {args : Array Value} {w : World} {R : Value → World → Prop} (h : Runs P f args w R) : Calls P f args w fun e w' => ∃ v, e = .returned v ∧ R v w' :=
  Calls.mono h fun e w' he => by cases e <;> first | exact ⟨_, rfl, he⟩ | exact he.elim
def RetOf (R : Value → World → Prop) : Ending → World → Prop := fun e w' => match e with | .returned v => R v w' | _ => False
def zipA : Nat → List Value → Sl
  | _, [] => []
  | k, v :: r => (k, v) :: zipA (k + 1) r
theorem lk_zipA : ∀ (vs : List Value) (k i : Nat), lk (zipA k vs) (k + i) = vs[i]? := by
  intro vs
  induction vs with
  | nil => intro k i; simp [zipA, lk]
  | cons v r ih =>
    intro k i
    cases i with
    | zero => simp [zipA, lk]
    | succ i =>
      have h : Nat.beq k (k + (i + 1)) = false := beq_no (by omega)
      simp only [zipA, lk, h, cond_false]
      have := ih (k + 1) i
      rw [show k + 1 + i = k + (i + 1) by omega] at this
      simpa using this
theorem enter {P : Program} {f : FuncId} {fn : Func} {c : Code} {vs : List Value} {w : World} {R : Value → World → Prop} {n : Nat}
    (hf : P.funcs[f]? = some fn) (hn : fn.ntmps = n) (hs : Nat.ble vs.length n = true) (hb : fn.body = some c)
    (h : c.wpIn (wF none) 0 P (bodyPost P fn (RetOf R)) (Ac n (fun _ => undef) [] (zipA 0 vs)) w) : Runs P f vs.toArray w R := by
  refine calls_of_wp hf hb (wpIn_wide.1 (?_ : Code.wpIn (wF none) 0 P c _ _ _))
  have hle : vs.length ≤ n := by simpa using hs
  have e : vs.toArray ++ Array.replicate (fn.ntmps - vs.toArray.size) undef = fr n (fun _ => undef) (zipA 0 vs) := by
    apply Array.ext
    · simp [fr, hn]; omega
    · intro i h1 h2
      have hi : i < n := by simpa [fr] using h2
      have hz := lk_zipA vs 0 i
      rw [Nat.zero_add] at hz
      simp only [fr, Array.getElem_map, Array.getElem_range]
      rw [hz]
      by_cases hlt : i < vs.length
      · rw [Array.getElem_append_left (by simpa using hlt)]
        simp [List.getElem?_eq_getElem hlt]
      · rw [Array.getElem_append_right (by simpa using hlt)]
        simp [List.getElem?_eq_none (by omega : vs.length ≤ i)]
  rw [e]
  exact h
section
variable {P : Program} {fn : Func} {R : Value → World → Prop} {w : World} {n : Nat} {σ : Nat → Value} {l : Sl}
theorem eval_tmp {t : Nat} {v : Value} (h : ev n l (.tmp t) = some v) : (fr n σ l).getD t undef = v := ev_eval (σ := σ) (ds := []) h
theorem ret0 (hr : fn.results = #[]) (hR : R (.tuple #[]) w) : bodyPost P fn (RetOf R) .ret (Ac n σ [] l) w := bodyPost_ret (results_none hr _ _ _) rfl hR
theorem end0 (hr : fn.results = #[]) (hR : R (.tuple #[]) w) : bodyPost P fn (RetOf R) .normal (Ac n σ [] l) w := bodyPost_end (results_none hr _ _ _) rfl hR
theorem ret1 {t : Nat} {v : Value} (hr : fn.results = #[.tmp t]) (hv : ev n l (.tmp t) = some v) (hR : R v w) : bodyPost P fn (RetOf R) .ret (Ac n σ [] l) w :=
  bodyPost_ret (results_tmp hr _ _ _) rfl (by simp only [Ac]; rw [eval_tmp hv]; exact hR)
theorem ret2 {t u : Nat} {v v' : Value} (hr : fn.results = #[.tmp t, .tmp u]) (hv : ev n l (.tmp t) = some v) (hv' : ev n l (.tmp u) = some v') (hR : R (.tuple #[v, v']) w) :
    bodyPost P fn (RetOf R) .ret (Ac n σ [] l) w :=
  bodyPost_ret (results_tmp2 hr _ _ _) rfl (by simp only [Ac]; rw [eval_tmp hv, eval_tmp hv']; exact hR)
end
/-! ### memory -/
theorem gb_refl (w : World) (row : Option Nat) : w.grownBy w row := World.grownBy.refl w row
/-- Block g holds just these cells. -/
def Blk (w : World) (g : Nat) (t : TypeId) (cs : List Value) : Prop := w.heap[g]? = some (.cells cs.toArray t (0, 0))
section
variable {w w' : World} {g : Nat} {t : TypeId} {cs : List Value}
theorem Blk.lt (h : Blk w g t cs) : g < w.heap.size := (Array.getElem?_eq_some_iff.1 h).1
theorem Blk.cell (h : Blk w g t cs) {i : Nat} {v : Value} (hi : cs[i]? = some v) : w.cell? ⟨g, i, none⟩ = some v := by
  rw [cell_of_row w g i cs.toArray t (0, 0) h]; simpa using hi
theorem Blk.grown {row : Option Nat} (h : Blk w g t cs) (hb : w.grownBy w' row) (hg : some g ≠ row) : Blk w' g t cs := (hb.block g h.lt hg).trans h
theorem Blk.gb (h : Blk w g t cs) (hb : w.grownBy w' none) : Blk w' g t cs := h.grown hb (by simp)
theorem Blk.set1 (h : Blk w g t cs) (i : Nat) (u : Value) : Blk (w.setCell ⟨g, i, none⟩ u) g t (cs.set i u) := by
  unfold Blk at h ⊢
  simp [World.setCell, Array.getElem?_modify, h]
end
theorem gb_set (w : World) (g i : Nat) (u : Value) : w.grownBy (w.setCell ⟨g, i, none⟩ u) (some g) :=
  ⟨rfl, rfl, rfl, by simp [World.setCell], fun k hk hne => Below.heap_setCell _ _ _ _ (by simpa using hne)⟩
theorem gb_below {w w' : World} (h : w.grownBy w' none) : Below w.heap.size w w' := ⟨h.os, h.tape, h.output, h.size, fun k hk => h.block k hk (by simp)⟩
theorem gb_trans {a b c : World} {row : Option Nat} (h : a.grownBy b row) (k : b.grownBy c row) : a.grownBy c row := World.grownBy.trans h k
theorem gb_alloc (w : World) (o : Obj) : w.grownBy (w.alloc o) none := World.grownBy_alloc w o none
end Go.Proofs.Ytoipncaopdmicaa.Gw
namespace Go.Proofs.Ytoipncaopdmicaa.Gw
open Go.RowKit
set_option linter.unusedVariables false
set_option linter.unusedSimpArgs false
/-! ### facts of types, as Bools that the kernel reckons -/
def fldB (P : Program) (t f off : Nat) : Bool :=
  match P.underlying t with
  | some (.struct fs) => (match fs[f]? with | some x => x.offset == off && (match P.info? x.type with | some i => i.size != 0 | none => false) | none => false)
  | _ => false
/-- The type's underlying one is neither struct nor array. -/
def sclB (P : Program) (t : Nat) : Bool :=
  match P.underlying t with | some (.struct _) => false | some (.array _ _) => false | some _ => true | none => false
def aggB (P : Program) (t sz : Nat) : Bool :=
  (match P.underlying t with | some (.struct _) => true | some (.array _ _) => true | _ => false) && (match P.info? t with | some i => i.size == sz | none => false)
def szB (P : Program) (t sz : Nat) : Bool := match P.info? t with | some i => i.size == sz | none => false
def intB (P : Program) (t : Nat) (k : IntKind) : Bool := match P.underlying t with | some (.int k') => k == k' | _ => false
def strB (P : Program) (t : Nat) : Bool := match P.underlying t with | some .string => true | _ => false
def slcB (P : Program) (t e sz bytes : Nat) : Bool :=
  match P.underlying t with | some (.slice e') => e == e' && (match P.info? e with | some i => i.size == sz && i.bytes == bytes && sz != 0 && bytes != 0 && (match i.zero with | some z => z.cells.size == sz | none => false) | none => false) | _ => false
def anyB (P : Program) (t : Nat) : Bool := (P.underlying t).isSome
section
variable {P : Program} {w w' : World}
theorem strB_u {t : Nat} (h : strB P t = true) : P.underlying t = some .string := by
  unfold strB at h; split at h <;> simp_all
theorem intB_u {t : Nat} {k : IntKind} (h : intB P t k = true) : P.underlying t = some (.int k) := by
  unfold intB at h; split at h <;> simp_all
theorem slcB_u {t e sz bytes : Nat} (h : slcB P t e sz bytes = true) :
    P.underlying t = some (.slice e) ∧ ∃ i z, P.info? e = some i ∧ i.zero = some z ∧ i.size = sz ∧ i.bytes = bytes ∧ z.cells.size = sz ∧ 0 < sz ∧ 0 < bytes := by
  unfold slcB at h
  split at h
  · rename_i e' hu
    simp only [Bool.and_eq_true, beq_iff_eq] at h
    obtain ⟨rfl, h⟩ := h
    split at h
    · rename_i i hi
      simp only [Bool.and_eq_true, beq_iff_eq, bne_iff_ne] at h
      obtain ⟨⟨⟨⟨h1, h2⟩, h3⟩, h4⟩, h5⟩ := h
      split at h5
      · rename_i z hz
        exact ⟨hu, i, z, hi, hz, h1, h2, by simpa using h5, by omega, by omega⟩
      · cases h5
    · cases h
  · cases h
theorem run_sizeOf {t sz : Nat} (h : szB P t sz = true) : (sizeOf t).run P w = .ok sz w := by
  unfold szB at h
  split at h
  · rename_i i hi
    have : i.size = sz := by simpa using h
    simp [sizeOf, typeInfo, hi, this]
  · cases h
theorem run_isAgg_no {t : Nat} (h : sclB P t = true) : (isAgg t).run P w = .ok false w := by
  unfold sclB at h
  split at h <;> first | cases h | skip
  rename_i d h1 h2 hu
  simp only [isAgg]
  cases d <;> simp_all [run_underlying hu]
theorem run_isAgg_yes {t sz : Nat} (h : aggB P t sz = true) : (isAgg t).run P w = .ok true w := by
  unfold aggB at h
  simp only [Bool.and_eq_true] at h
  obtain ⟨h1, _⟩ := h
  split at h1 <;> first | cases h1 | skip
  · rename_i hu; simp [isAgg, run_underlying hu]
  · rename_i hu; simp [isAgg, run_underlying hu]
theorem aggB_sz {t sz : Nat} (h : aggB P t sz = true) : szB P t sz = true := by
  unfold aggB at h; unfold szB
  simp only [Bool.and_eq_true] at h
  exact h.2
end
/-! ### one operation -/
section
variable {P : Program} {Q : Exit → Act → World → Prop} {w w' : World} {ops : Array Oper} {rest : List Oper}
variable {n : Nat} {σ : Nat → Value} {ds : List Deferred} {l : Sl} {d : Nat} {ty : TypeId} {pos : String} {af : Array Edge} {dst : Option Nat} {gd : Option (Nat × Bool)}
theorem v_run {s : Sem Value} {v : Value} (h : s.run P w = .ok v w') : ((do pure (Next.value (← s)) : Sem Next)).run P w = .ok (.value v) w' := by
  simp [h]
theorem u_run {s : Sem Unit} (h : s.run P w = .ok () w') : ((do s; pure Next.skip : Sem Next)).run P w = .ok .skip w' := by
  simp [h]
theorem L_run {op : Op} {v : Value} (hr : (execOp (Ac n σ ds l).eval ⟨some d, op, ty, pos, af, none⟩).run P w = .ok (.value v) w') (hn : Nat.blt d n = true)
    (K : wpL P ops Q rest (Ac n σ ds ((d, v) :: l)) w') : wpL P ops Q (⟨some d, op, ty, pos, af, none⟩ :: rest) (Ac n σ ds l) w := by
  unfold wpL
  rw [if_pos (by simp [Region.wanted])]
  left
  unfold Oper.wp
  rw [hr]
  simp only [Oper.upon]
  rw [Ac_put hn]
  exact K
theorem L_run0 {op : Op} (hr : (execOp (Ac n σ ds l).eval ⟨none, op, ty, pos, af, none⟩).run P w = .ok .skip w')
    (K : wpL P ops Q rest (Ac n σ ds l) w') : wpL P ops Q (⟨none, op, ty, pos, af, none⟩ :: rest) (Ac n σ ds l) w := by
  unfold wpL
  rw [if_pos (by simp [Region.wanted])]
  left
  unfold Oper.wp
  rw [hr]
  simp only [Oper.upon]
  exact K
/-- A guarded operation that is wanted. -/
theorem L_yes {op : Op} {dst : Option Nat} {j : Nat} {want : Bool} {oj : Oper} {t : Nat} {b : Bool} (hj : ops[j]? = some oj) (ht : oj.dst = some t) (hv : ev n l (.tmp t) = some (.bool b)) (hb : b = want)
    (K : wpL P ops Q (⟨dst, op, ty, pos, af, none⟩ :: rest) (Ac n σ ds l) w) : wpL P ops Q (⟨dst, op, ty, pos, af, some (j, want)⟩ :: rest) (Ac n σ ds l) w := by
  unfold wpL at K ⊢
  rw [if_pos (by simp [Region.wanted])] at K
  have hy : yielded ops (Ac n σ ds l).tmps j = some want := by
    simp only [yielded, hj, Option.bind_some, ht]
    have h1 := eval_tmp (σ := σ) hv
    rw [← hb]
    have hlt : t < n := by
      simp only [ev] at hv
      cases hx : Nat.blt t n with
      | false => rw [hx] at hv; cases hv
      | true => simpa [Nat.blt_eq] using hx
    have h2 : (fr n σ l)[t]? = some (.bool b) := by
      rw [← h1]; simp [Array.getD, fr, hlt]
    simp [Ac, h2]
  rw [if_pos (by simp [Region.wanted, hy])]
  exact K
theorem L_no {op : Op} {d : Nat} {j : Nat} {want : Bool} {oj : Oper} {t : Nat} {b : Bool} (hj : ops[j]? = some oj) (ht : oj.dst = some t) (hv : ev n l (.tmp t) = some (.bool b)) (hb : b = !want) (hn : Nat.blt d n = true)
    (K : wpL P ops Q rest (Ac n σ ds ((d, undef) :: l)) w) : wpL P ops Q (⟨some d, op, ty, pos, af, some (j, want)⟩ :: rest) (Ac n σ ds l) w := by
  unfold wpL
  have hy : yielded ops (Ac n σ ds l).tmps j = some (!want) := by
    simp only [yielded, hj, Option.bind_some, ht]
    have h1 := eval_tmp (σ := σ) hv
    rw [← hb]
    have hlt : t < n := by
      simp only [ev] at hv
      cases hx : Nat.blt t n with
      | false => rw [hx] at hv; cases hv
      | true => simpa [Nat.blt_eq] using hx
    have h2 : (fr n σ l)[t]? = some (.bool b) := by
      rw [← h1]; simp [Array.getD, fr, hlt]
    simp [Ac, h2]
  rw [if_neg (by simp [Region.wanted, hy])]
  rw [Ac_put hn]
  exact K
/-! ### the operations that touch no memory -/
theorem R_move {x : Operand} {v : Value} (hx : ev n l x = some v) :
    (execOp (Ac n σ ds l).eval ⟨dst, .move x, ty, pos, af, gd⟩).run P w = .ok (.value v) w := by simp [execOp, ev_eval hx]
theorem R_assign {x : Operand} {v : Value} (hx : ev n l x = some v) :
    (execOp (Ac n σ ds l).eval ⟨dst, .assign x, ty, pos, af, gd⟩).run P w = .ok (.value (v)) w := by simp [execOp, ev_eval hx]
theorem R_pickT {c x y : Operand} {v : Value} {b : Bool} (hc : ev n l c = some (.bool b)) (hb : b = true) (hx : ev n l x = some v) :
    (execOp (Ac n σ ds l).eval ⟨dst, .pick c x y, ty, pos, af, gd⟩).run P w = .ok (.value (v)) w := by subst hb; simp [execOp, ev_eval hx, ev_eval hc, asBool]
theorem R_pickF {c x y : Operand} {v : Value} {b : Bool} (hc : ev n l c = some (.bool b)) (hb : b = false) (hy : ev n l y = some v) :
    (execOp (Ac n σ ds l).eval ⟨dst, .pick c x y, ty, pos, af, gd⟩).run P w = .ok (.value (v)) w := by subst hb; simp [execOp, ev_eval hy, ev_eval hc, asBool]
theorem R_nilck {x : Operand} {p : Addr} (hx : ev n l x = some (.pointer (some p))) :
    (execOp (Ac n σ ds l).eval ⟨dst, .nilCheck x, ty, pos, af, gd⟩).run P w = .ok (.value (.pointer (some p))) w := by simp [execOp, ev_eval hx]
theorem R_field {t f off r g o : Nat} {x : Operand} (hx : ev n l x = some (.pointer (some ⟨g, o, none⟩))) (hf : fldB P t f off = true) (hr : o + off = r) :
    (execOp (Ac n σ ds l).eval ⟨dst, .fieldAddr t x f, ty, pos, af, gd⟩).run P w = .ok (.value (.pointer (some ⟨g, r, none⟩))) w := by
  simp only [execOp, ev_eval hx]
  refine v_run ?_
  unfold fldB at hf
  split at hf <;> first | cases hf | skip
  rename_i fs hu
  split at hf <;> first | cases hf | skip
  rename_i x' hx'
  simp only [Bool.and_eq_true, beq_iff_eq] at hf
  obtain ⟨h1, h2⟩ := hf
  split at h2 <;> first | cases h2 | skip
  rename_i i hi
  have h2' : i.size ≠ 0 := by simpa using h2
  subst hr
  simp [Instr.fieldAt, run_underlying hu, hx', Instr.sureAddr, fieldPlace, sizeOf, typeInfo, hi, h2', h1, Addr.add_lit]
theorem R_extract {x : Operand} {vs : Array Value} {i : Nat} {v : Value} (hx : ev n l x = some (.tuple vs)) (hi : vs[i]? = some v) :
    (execOp (Ac n σ ds l).eval ⟨dst, .extract x i, ty, pos, af, gd⟩).run P w = .ok (.value (v)) w := by simp [execOp, ev_eval hx, Instr.extract, hi]
theorem R_not {t : Nat} {x : Operand} {b : Bool} (hx : ev n l x = some (.bool b)) :
    (execOp (Ac n σ ds l).eval ⟨dst, .unOp .not t x, ty, pos, af, gd⟩).run P w = .ok (.value (.bool (!b))) w := by simp [execOp, ev_eval hx, Op.unary]
theorem R_notD {t : Nat} {x : Operand} {p : Prop} [Decidable p] (hx : ev n l x = some (.bool (decide p))) :
    (execOp (Ac n σ ds l).eval ⟨dst, .unOp .not t x, ty, pos, af, gd⟩).run P w = .ok (.value (.bool (decide (¬ p)))) w := by simp [execOp, ev_eval hx, Op.unary]
section ints
variable {t t' : TypeId} {x y : Operand} {k : IntKind} {a b : Int}
theorem R_add (hx : ev n l x = some (.int k a)) (hy : ev n l y = some (.int k b)) :
    (execOp (Ac n σ ds l).eval ⟨dst, .binOp .add t x y t', ty, pos, af, gd⟩).run P w = .ok (.value (.int k (k.wrap (a + b)))) w := by simp [execOp, ev_eval hx, ev_eval hy, eqGuard, binOp, Op.intArith]
theorem R_sub (hx : ev n l x = some (.int k a)) (hy : ev n l y = some (.int k b)) :
    (execOp (Ac n σ ds l).eval ⟨dst, .binOp .sub t x y t', ty, pos, af, gd⟩).run P w = .ok (.value (.int k (k.wrap (a - b)))) w := by simp [execOp, ev_eval hx, ev_eval hy, eqGuard, binOp, Op.intArith]
theorem R_mul (hx : ev n l x = some (.int k a)) (hy : ev n l y = some (.int k b)) :
    (execOp (Ac n σ ds l).eval ⟨dst, .binOp .mul t x y t', ty, pos, af, gd⟩).run P w = .ok (.value (.int k (k.wrap (a * b)))) w := by simp [execOp, ev_eval hx, ev_eval hy, eqGuard, binOp, Op.intArith]
theorem i64_fit {z : Int} (h : -9223372036854775808 ≤ z ∧ z ≤ 9223372036854775807) : IntKind.i64.wrap z = z := IntWalk.i64_in z h
theorem R_add64 (hx : ev n l x = some (.int .i64 a)) (hy : ev n l y = some (.int .i64 b)) (hb : -9223372036854775808 ≤ a + b ∧ a + b ≤ 9223372036854775807) :
    (execOp (Ac n σ ds l).eval ⟨dst, .binOp .add t x y t', ty, pos, af, gd⟩).run P w = .ok (.value (.int .i64 (a + b))) w :=
  (R_add hx hy).trans (by rw [i64_fit hb])
theorem R_sub64 (hx : ev n l x = some (.int .i64 a)) (hy : ev n l y = some (.int .i64 b)) (hb : -9223372036854775808 ≤ a - b ∧ a - b ≤ 9223372036854775807) :
    (execOp (Ac n σ ds l).eval ⟨dst, .binOp .sub t x y t', ty, pos, af, gd⟩).run P w = .ok (.value (.int .i64 (a - b))) w :=
  (R_sub hx hy).trans (by rw [i64_fit hb])
theorem R_mul64 (hx : ev n l x = some (.int .i64 a)) (hy : ev n l y = some (.int .i64 b)) (hb : -9223372036854775808 ≤ a * b ∧ a * b ≤ 9223372036854775807) :
    (execOp (Ac n σ ds l).eval ⟨dst, .binOp .mul t x y t', ty, pos, af, gd⟩).run P w = .ok (.value (.int .i64 (a * b))) w :=
  (R_mul hx hy).trans (by rw [i64_fit hb])
theorem R_lss (hx : ev n l x = some (.int k a)) (hy : ev n l y = some (.int k b)) :
    (execOp (Ac n σ ds l).eval ⟨dst, .binOp .lss t x y t', ty, pos, af, gd⟩).run P w = .ok (.value (.bool (decide (a < b)))) w := by simp [execOp, ev_eval hx, ev_eval hy, eqGuard, binOp, Op.intCmp]
theorem R_leq (hx : ev n l x = some (.int k a)) (hy : ev n l y = some (.int k b)) :
    (execOp (Ac n σ ds l).eval ⟨dst, .binOp .leq t x y t', ty, pos, af, gd⟩).run P w = .ok (.value (.bool (decide (a ≤ b)))) w := by simp [execOp, ev_eval hx, ev_eval hy, eqGuard, binOp, Op.intCmp]
theorem R_gtr (hx : ev n l x = some (.int k a)) (hy : ev n l y = some (.int k b)) :
    (execOp (Ac n σ ds l).eval ⟨dst, .binOp .gtr t x y t', ty, pos, af, gd⟩).run P w = .ok (.value (.bool (decide (b < a)))) w := by simp [execOp, ev_eval hx, ev_eval hy, eqGuard, binOp, Op.intCmp]
theorem R_geq (hx : ev n l x = some (.int k a)) (hy : ev n l y = some (.int k b)) :
    (execOp (Ac n σ ds l).eval ⟨dst, .binOp .geq t x y t', ty, pos, af, gd⟩).run P w = .ok (.value (.bool (decide (b ≤ a)))) w := by simp [execOp, ev_eval hx, ev_eval hy, eqGuard, binOp, Op.intCmp]
theorem R_eql (hx : ev n l x = some (.int k a)) (hy : ev n l y = some (.int k b)) :
    (execOp (Ac n σ ds l).eval ⟨dst, .binOp .eql t x y t', ty, pos, af, gd⟩).run P w = .ok (.value (.bool (decide (a = b)))) w := by simp [execOp, ev_eval hx, ev_eval hy, eqGuard, binOp, Op.intCmp]; exact Bool.beq_eq_decide_eq a b
theorem R_neq (hx : ev n l x = some (.int k a)) (hy : ev n l y = some (.int k b)) :
    (execOp (Ac n σ ds l).eval ⟨dst, .binOp .neq t x y t', ty, pos, af, gd⟩).run P w = .ok (.value (.bool (decide (a ≠ b)))) w := by simp [execOp, ev_eval hx, ev_eval hy, eqGuard, binOp, Op.intCmp, bne, Bool.beq_eq_decide_eq]
theorem R_conv {s t2 : Nat} {k2 : IntKind} (hx : ev n l x = some (.int k a)) (hs : anyB P s = true) (ht : intB P t2 k2 = true) :
    (execOp (Ac n σ ds l).eval ⟨dst, .convert s t2 x, ty, pos, af, gd⟩).run P w = .ok (.value (.int k2 (k2.wrap a))) w := by
  obtain ⟨u, hu⟩ := Option.isSome_iff_exists.1 hs
  (simp only [execOp, ev_eval hx]; exact v_run (by simp [convert, run_underlying hu, run_underlying (intB_u ht), Conv.intToInt]))
end ints
section strings
variable {t t' : TypeId} {x y : Operand} {s r : ByteArray}
theorem toList_eq (s r : ByteArray) : (s.toList == r.toList) = decide (s = r) := by
  by_cases h : s = r
  · subst h; simp
  · have : s.toList ≠ r.toList := fun e => h (by simpa [ByteArray.ext_iff, Array.ext_iff, ByteArray.toList_eq] using e)
    simp [h, this]
theorem R_eqlS (hx : ev n l x = some (.string s)) (hy : ev n l y = some (.string r)) :
    (execOp (Ac n σ ds l).eval ⟨dst, .binOp .eql t x y t', ty, pos, af, gd⟩).run P w = .ok (.value (.bool (decide (s = r)))) w := by simp [execOp, ev_eval hx, ev_eval hy, eqGuard, binOp, Op.stringOp, toList_eq]
theorem R_neqS (hx : ev n l x = some (.string s)) (hy : ev n l y = some (.string r)) :
    (execOp (Ac n σ ds l).eval ⟨dst, .binOp .neq t x y t', ty, pos, af, gd⟩).run P w = .ok (.value (.bool (decide (s ≠ r)))) w := by simp [execOp, ev_eval hx, ev_eval hy, eqGuard, binOp, Op.stringOp, toList_eq]
theorem R_lenS (hx : ev n l x = some (.string s)) (ht : strB P t = true) :
    (execOp (Ac n σ ds l).eval ⟨dst, .call ⟨.builtin .len, #[x], #[t]⟩, ty, pos, af, gd⟩).run P w = .ok (.value (.int .i64 (s.size : Int))) w := by simp [execOp, resolve, invoke, builtin, ev_eval hx, Builtin.len_, run_underlying (strB_u ht), goInt]
end strings
end
end Go.Proofs.Ytoipncaopdmicaa.Gw
namespace Go.Proofs.Ytoipncaopdmicaa.Gw
open Go.RowKit
set_option linter.unusedVariables false
set_option linter.unusedSimpArgs false
/-! ### rows that are read -/
/-- The slice at A holds the cells vs, in a block (of element type t, or of whatever one where t is 0) that lies from lo on and below hi. -/
def Sli (t lo hi : Nat) (w : World) (A : Option Addr) (vs : List Value) : Prop :=
  vs = [] ∨ ∃ g off c fr, A = some ⟨g, off, none⟩ ∧ lo ≤ g ∧ g < hi ∧ (∃ t', w.heap[g]? = some (.cells c t' fr) ∧ (t = 0 ∨ t' = t)) ∧ ∀ j v, vs[j]? = some v → c[off + j]? = some v
/-- From this cell on stand these values. -/
def At (w : World) (g off : Nat) (vs : List Value) : Prop := ∀ j v, vs[j]? = some v → w.cell? ⟨g, off + j, none⟩ = some v
section
variable {t lo hi lo' hi' : Nat} {w w' : World} {A : Option Addr} {vs : List Value}
theorem Sli.nil : Sli t lo hi w A [] := .inl rfl
theorem Sli.grown {row : Option Nat} (h : Sli t lo hi w A vs) (hg : w.grownBy w' row) (hr : ∀ k, row = some k → k < lo ∨ hi ≤ k) : Sli t lo hi w' A vs := by
  rcases h with h | ⟨g, off, c, fr, hA, h1, h2, ⟨t', h3, ht⟩, h4⟩
  · exact .inl h
  · refine .inr ⟨g, off, c, fr, hA, h1, h2, ⟨t', (hg.block g (Array.getElem?_eq_some_iff.1 h3).1 (fun e => ?_)).trans h3, ht⟩, h4⟩
    have := hr g e.symm
    omega
theorem Sli.gb (h : Sli t lo hi w A vs) (hg : w.grownBy w' none) : Sli t lo hi w' A vs := h.grown hg (by simp)
theorem Sli.old {g' : Nat} (h : Sli t lo hi w A vs) (hg : w.grownBy w' (some g')) (hr : hi ≤ g') : Sli t lo hi w' A vs := h.grown hg (by rintro _ ⟨rfl⟩; exact .inr hr)
theorem Sli.wide (h : Sli t lo hi w A vs) (h1 : lo' ≤ lo) (h2 : hi ≤ hi') : Sli t lo' hi' w A vs := by
  rcases h with h | ⟨g, off, c, fr, hA, h3, h4, h5⟩
  · exact .inl h
  · exact .inr ⟨g, off, c, fr, hA, by omega, by omega, h5⟩
/-- Whatever bound was told, it lies below the heap's size. -/
theorem Sli.top (h : Sli t lo hi w A vs) : Sli t lo w.heap.size w A vs := by
  rcases h with h | ⟨g, off, c, fr, hA, h3, h4, ⟨t', h5, ht⟩, h6⟩
  · exact .inl h
  · exact .inr ⟨g, off, c, fr, hA, h3, (Array.getElem?_eq_some_iff.1 h5).1, ⟨t', h5, ht⟩, h6⟩
/-- A store into a block of another element type. -/
theorem Sli.other {g' t' : Nat} {cs : List Value} (h : Sli t lo hi w A vs) (hb : Blk w g' t' cs) (h0 : Nat.beq t 0 = false) (hne : Nat.beq t t' = false) (hg : w.grownBy w' (some g')) : Sli t lo hi w' A vs := by
  rcases h with h | ⟨g, off, c, fr, hA, h1, h2, ⟨t2, h3, ht⟩, h4⟩
  · exact .inl h
  · refine .inr ⟨g, off, c, fr, hA, h1, h2, ⟨t2, (hg.block g (Array.getElem?_eq_some_iff.1 h3).1 (fun e => ?_)).trans h3, ht⟩, h4⟩
    have e' : g = g' := by simpa using e
    subst e'
    unfold Blk at hb
    rw [hb] at h3
    injection h3 with h3
    injection h3 with _ ht'
    rcases ht with ht | ht
    · exact Nat.ne_of_beq_eq_false h0 ht
    · exact Nat.ne_of_beq_eq_false hne (ht.symm.trans ht'.symm)
/-- A write to a row of another element type. -/
theorem Sli.otherO {base t' sz m : Nat} {v : Value} {us : List Value} (h : Sli t lo hi w A vs) (ho : w.ownsRow base t' sz v m us) (h0 : Nat.beq t 0 = false) (hne : Nat.beq t t' = false) (hg : w.grownBy w' v.ownBlock) : Sli t lo hi w' A vs := by
  rcases h with h | ⟨g, off, c, fr, hA, h1, h2, ⟨t2, h3, ht⟩, h4⟩
  · exact .inl h
  · refine .inr ⟨g, off, c, fr, hA, h1, h2, ⟨t2, (hg.block g (Array.getElem?_eq_some_iff.1 h3).1 (fun e => ?_)).trans h3, ht⟩, h4⟩
    rcases ho.2 with ⟨rfl, _⟩ | ⟨g', cap, cur, rfl, _, hh, _⟩
    · simp [Value.ownBlock] at e
    · have e' : g = g' := by simpa [Value.ownBlock] using e
      subst e'
      rw [hh] at h3
      injection h3 with h3
      injection h3 with _ ht'
      rcases ht with ht | ht
      · exact Nat.ne_of_beq_eq_false h0 ht
      · exact Nat.ne_of_beq_eq_false hne (ht.symm.trans ht'.symm)
theorem Sli.at_ (h : Sli t lo hi w A vs) (i s : Nat) (hs : i + s ≤ vs.length) (hs0 : 0 < s) : ∃ g off, A = some ⟨g, off, none⟩ ∧ At w g (off + i) ((vs.drop i).take s) := by
  rcases h with h | ⟨g, off, c, fr, hA, h1, h2, ⟨t', h3, ht⟩, h4⟩
  · subst h; simp at hs; omega
  · refine ⟨g, off, hA, fun j v hj => ?_⟩
    rw [cell_of_row w g _ c t' fr h3]
    have hv : vs[i + j]? = some v := by
      rw [List.getElem?_take] at hj
      split at hj
      · simpa using hj
      · cases hj
    have := h4 (i + j) v hv
    rwa [show off + i + j = off + (i + j) by omega]
theorem Sli.part (h : Sli t lo hi w A vs) (i s : Nat) (A' : Option Addr) (hA' : ∀ g off, A = some ⟨g, off, none⟩ → 0 < s → A' = some ⟨g, off + i, none⟩) (hs : i + s ≤ vs.length) : Sli t lo hi w A' ((vs.drop i).take s) := by
  rcases Nat.eq_zero_or_pos s with h0 | h0
  · subst h0; exact .inl (by simp)
  rcases h with h | ⟨g, off, c, fr, hA, h1, h2, h3, h4⟩
  · subst h; simp at hs; omega
  · refine .inr ⟨g, off + i, c, fr, hA' g off hA h0, h1, h2, h3, fun j v hj => ?_⟩
    have hv : vs[i + j]? = some v := by
      rw [List.getElem?_take] at hj
      split at hj
      · simpa using hj
      · cases hj
    have := h4 (i + j) v hv
    rwa [show off + i + j = off + (i + j) by omega]
theorem At.gb {g off : Nat} {row : Option Nat} (h : At w g off vs) (hg : w.grownBy w' row) (hne : some g ≠ row) : At w' g off vs := fun j v hj => by
  have := h j v hj
  exact hg.cell (a := ⟨g, off + j, none⟩) this hne
theorem Blk.at_ {g : Nat} {cs : List Value} (h : Blk w g t cs) (o : Nat) : At w g o (cs.drop o) := fun j v hj => h.cell (by simpa using hj)
theorem Blk.sli {g m : Nat} {cs : List Value} (h : Blk w g t cs) : Sli t g (g + 1) w (some ⟨g, 0, none⟩) cs :=
  .inr ⟨g, 0, cs.toArray, (0, 0), rfl, Nat.le_refl _, Nat.lt_succ_self _, ⟨t, h, .inr rfl⟩, fun j v hj => by simpa using hj⟩
theorem Blk.own {g m sz : Nat} {cs : List Value} (h : Blk w g t cs) (hm : m ≤ maxLen) (hs : cs.length = m * sz) (hb : lo ≤ g) : w.ownsRow lo t sz (.slice (some ⟨g, 0, none⟩) m m) m cs :=
  ⟨hs, .inr ⟨g, m, cs.toArray, rfl, hb, h, Nat.le_refl _, hm, by simpa using hs, by simp [← hs]⟩⟩
theorem own_sli {n sz : Nat} {v : Value} (h : w.ownsRow lo t sz v n vs) : ∃ A c, v = .slice A n c ∧ n ≤ c ∧ c ≤ maxLen ∧ Sli t lo w.heap.size w A vs := by
  rcases h.2 with ⟨rfl, rfl⟩ | ⟨g, cap, cur, rfl, hb, hh, h1, h2, h3, h4⟩
  · exact ⟨none, 0, rfl, Nat.le_refl _, by simp [maxLen], .inl (List.eq_nil_of_length_eq_zero (by simpa using h.1))⟩
  · refine ⟨_, _, rfl, h1, h2, .inr ⟨g, 0, cur, (0, 0), rfl, hb, (Array.getElem?_eq_some_iff.1 hh).1, ⟨t, hh, .inr rfl⟩, fun j v hj => ?_⟩⟩
    rw [← h4, List.getElem?_take] at hj
    split at hj
    · simpa using hj
    · cases hj
theorem own_of {n sz : Nat} {A : Option Addr} {c : Nat} (h : w.ownsRow lo t sz (.slice A n c) n vs) : n ≤ c ∧ c ≤ maxLen ∧ Sli t lo w.heap.size w A vs := by
  obtain ⟨A', c', e, h1, h2, h3⟩ := own_sli h
  simp only [Value.slice.injEq] at e
  obtain ⟨rfl, _, rfl⟩ := e
  exact ⟨h1, h2, h3⟩
theorem own_gb {n sz : Nat} {v : Value} (h : w.ownsRow lo t sz v n vs) (hg : w.grownBy w' none) : w'.ownsRow lo t sz v n vs := h.kept hg (by cases v.ownBlock <;> simp)
theorem own_nil (lo t sz : Nat) (w : World) : w.ownsRow lo t sz (.slice none 0 0) 0 [] := World.ownsRow_nil w lo t sz
theorem own_lo {n sz : Nat} {v : Value} (h : w.ownsRow lo t sz v n vs) (hl : lo' ≤ lo) : w.ownsRow lo' t sz v n vs := by
  refine ⟨h.1, ?_⟩
  rcases h.2 with h | ⟨g, cap, cur, hv, hb, r⟩
  · exact .inl h
  · exact .inr ⟨g, cap, cur, hv, by omega, r⟩
/-- A store into a block of another element type. -/
theorem own_other {n sz g' t' : Nat} {v : Value} {cs : List Value} (h : w.ownsRow lo t sz v n vs) (hb : Blk w g' t' cs) (hne : Nat.beq t t' = false) (hg : w.grownBy w' (some g')) : w'.ownsRow lo t sz v n vs := by
  refine h.kept hg ?_
  rcases h.2 with ⟨rfl, _⟩ | ⟨g, cap, cur, rfl, _, hh, _⟩
  · exact .inl rfl
  · refine .inr fun e => ?_
    have e' : g = g' := by simpa [Value.ownBlock] using e
    subst e'
    unfold Blk at hb
    rw [hb] at hh
    injection hh with hh
    injection hh with _ ht
    exact Nat.ne_of_beq_eq_false hne ht.symm
theorem blk_own {g sz n : Nat} {t' : Nat} {v : Value} {cs : List Value} (hb : Blk w g t' cs) (h : w.ownsRow lo t sz v n vs) (hne : Nat.beq t t' = false) (hg : w.grownBy w' v.ownBlock) : Blk w' g t' cs := by
  refine hb.grown hg (fun e => ?_)
  rcases h.2 with ⟨rfl, _⟩ | ⟨g', cap, cur, rfl, _, hh, _⟩
  · simp [Value.ownBlock] at e
  · have e' : g = g' := by simpa [Value.ownBlock] using e
    subst e'
    unfold Blk at hb
    rw [hb] at hh
    injection hh with hh
    injection hh with _ ht
    exact Nat.ne_of_beq_eq_false hne ht.symm
/-- A block that lies below the row's base. -/
theorem blk_low {g sz n : Nat} {t' : Nat} {v : Value} {cs : List Value} (hb : Blk w g t' cs) (h : w.ownsRow lo t sz v n vs) (hl : g < lo) (hg : w.grownBy w' v.ownBlock) : Blk w' g t' cs :=
  hb.grown hg (fun e => by have := (h.lt g e.symm).1; omega)
end
/-- Bytes as cells. -/
def u8v (b : UInt8) : Value := .int .u8 (b.toNat : Int)
def byts (l : List UInt8) : List Value := l.map u8v
@[simp] theorem byts_len (l : List UInt8) : (byts l).length = l.length := by simp [byts]
@[simp] theorem byts_nil : byts [] = [] := rfl
@[simp] theorem byts_cons (b : UInt8) (l : List UInt8) : byts (b :: l) = u8v b :: byts l := rfl
@[simp] theorem byts_app (l m : List UInt8) : byts (l ++ m) = byts l ++ byts m := by simp [byts]
section
variable {P : Program} {Q : Exit → Act → World → Prop} {w w' : World} {ops : Array Oper} {rest : List Oper}
variable {n : Nat} {σ : Nat → Value} {ds : List Deferred} {l : Sl} {d : Nat} {ty : TypeId} {pos : String} {af : Array Edge} {dst : Option Nat} {gd : Option (Nat × Bool)}
/-! ### new blocks -/
theorem blk_new (w : World) (t : Nat) (cs : List Value) : Blk (w.alloc (.cells cs.toArray t)) w.heap.size t cs := heap_alloc_new w _
theorem L_box {e : TypeId} {x : Operand} {v : Value} {cs : List Value} (hx : ev n l x = some v) (hc : v.cells = cs.toArray) (hn : Nat.blt d n = true)
    (K : ∀ g w', g = w.heap.size → Blk w' g e cs → w.grownBy w' none → w'.heap.size = g + 1 → wpL P ops Q rest (Ac n σ ds ((d, .pointer (some ⟨g, 0, none⟩)) :: l)) w') :
    wpL P ops Q (⟨some d, .box e x, ty, pos, af, none⟩ :: rest) (Ac n σ ds l) w := by
  refine L_run (w' := w.alloc (.cells cs.toArray e)) ?_ hn (K w.heap.size _ rfl (blk_new w e cs) (gb_alloc w _) (by simp))
  simp only [execOp, ev_eval hx]
  exact v_run (by simp [Instr.box, newVar, newRow, hc])
theorem L_alloc {e : TypeId} {z : Value} {cs : List Value} (hz : (P.info? e).bind (·.zero) = some z) (hc : z.cells = cs.toArray) (hn : Nat.blt d n = true)
    (K : ∀ g w', g = w.heap.size → Blk w' g e cs → w.grownBy w' none → w'.heap.size = g + 1 → wpL P ops Q rest (Ac n σ ds ((d, .pointer (some ⟨g, 0, none⟩)) :: l)) w') :
    wpL P ops Q (⟨some d, .alloc e, ty, pos, af, none⟩ :: rest) (Ac n σ ds l) w := by
  refine L_run (w' := w.alloc (.cells cs.toArray e)) ?_ hn (K w.heap.size _ rfl (blk_new w e cs) (gb_alloc w _) (by simp))
  obtain ⟨i, hi, hz'⟩ := Option.bind_eq_some_iff.1 hz
  simp only [execOp]
  exact v_run (by simp [Instr.alloc, zeroValue, typeInfo, hi, hz', newVar, newRow, hc])
/-! ### loads and stores -/
theorem run_loadCells' {g o : Nat} {vs : List Value} (h : At w g o vs) : (loadCells ⟨g, o, none⟩ vs.length).run P w = .ok vs.toArray w :=
  run_loadCells_list (w := w) ⟨g, o, none⟩ vs (fun j v hj => by rw [Addr.add_lit]; exact h j v hj)
theorem R_load1 {t : TypeId} {x : Operand} {g o : Nat} {v : Value} (hx : ev n l x = some (.pointer (some ⟨g, o, none⟩))) (ht : sclB P t = true) (hc : w.cell? ⟨g, o, none⟩ = some v) :
    (execOp (Ac n σ ds l).eval ⟨dst, .load t x, ty, pos, af, gd⟩).run P w = .ok (.value (v)) w := by
  simp only [execOp, ev_eval hx]
  refine v_run ?_
  simp [Instr.loadAt, Instr.sureAddr, loadVar, run_isAgg_no ht, load, Sem.run, hc]
theorem R_loadA {t : TypeId} {x : Operand} {g o sz : Nat} {vs : List Value} (hx : ev n l x = some (.pointer (some ⟨g, o, none⟩))) (ht : aggB P t sz = true) (hc : At w g o vs) (hs : vs.length = sz) :
    (execOp (Ac n σ ds l).eval ⟨dst, .load t x, ty, pos, af, gd⟩).run P w = .ok (.value (.agg vs.toArray)) w := by
  simp only [execOp, ev_eval hx]
  refine v_run ?_
  subst hs
  simp [Instr.loadAt, Instr.sureAddr, loadVar, run_isAgg_yes ht, run_sizeOf (aggB_sz ht), run_loadCells' hc]
theorem frozen_blk {g t i : Nat} {cs : List Value} (h : Blk w g t cs) : w.frozen? ⟨g, i, none⟩ = false := by
  unfold Blk at h; simp [World.frozen?, h]
/-- A store of one cell into a block that is known whole. -/
theorem L_st1 {t T : TypeId} {x y : Operand} {g i : Nat} {v : Value} {cs : List Value} (hx : ev n l x = some (.pointer (some ⟨g, i, none⟩))) (hy : ev n l y = some v) (hv : v.oneCell' = true) (hz : szB P t 1 = true)
    (hb : Blk w g T cs) (hi : Nat.blt i cs.length = true)
    (K : ∀ w', Blk w' g T (cs.set i v) → w.grownBy w' (some g) → w'.heap.size = w.heap.size → wpL P ops Q rest (Ac n σ ds l) w') :
    wpL P ops Q (⟨none, .store t x y, ty, pos, af, none⟩ :: rest) (Ac n σ ds l) w := by
  have hlt : i < cs.length := by simpa [Nat.blt_eq] using hi
  refine L_run0 (w' := w.setCell ⟨g, i, none⟩ v) ?_ (K _ (hb.set1 i v) (gb_set w g i v) (by simp [World.setCell]))
  have hc : v.cells = #[v] := by cases v <;> first | rfl | simp [Value.oneCell'] at hv
  simp only [execOp, ev_eval hx, ev_eval hy]
  refine u_run ?_
  have h1 : w.cell? ⟨g, i, none⟩ = some cs[i] := hb.cell (by simp [hlt])
  have hst := run_store P w ⟨g, i, none⟩ v .plain hv
  simp [Instr.storeAt, Instr.sureAddr, storeVar, hc, run_sizeOf hz, storeCells, Addr.add_zero', hst, h1, frozen_blk hb]
theorem L_stA {t T : TypeId} {x y : Operand} {g sz : Nat} {vs : List Value} {cs : List Value} (hx : ev n l x = some (.pointer (some ⟨g, 0, none⟩))) (hy : ev n l y = some (.agg vs.toArray)) (hv : vs.all (·.oneCell') = true) (hz : szB P t sz = true)
    (hs : vs.length = sz) (hb : Blk w g T cs) (hi : cs.length = sz)
    (K : ∀ w', Blk w' g T vs → w.grownBy w' (some g) → w'.heap.size = w.heap.size → wpL P ops Q rest (Ac n σ ds l) w') :
    wpL P ops Q (⟨none, .store t x y, ty, pos, af, none⟩ :: rest) (Ac n σ ds l) w := by
  have hone : ∀ v ∈ vs, v.oneCell' = true := fun v hv' => (List.all_eq_true.1 hv) v hv'
  have h := run_storeCells_at (P := P) g 0 T vs 0 cs.toArray w hb (by simp; omega) hone
  have hw : w.setRow g ((cs.toArray.toList.take (0 + 0)) ++ vs ++ cs.toArray.toList.drop (0 + 0 + vs.length)).toArray = w.setRow g vs.toArray := by
    congr 1
    simp [List.drop_eq_nil_of_le (by omega : cs.length ≤ vs.length)]
  rw [hw] at h
  refine L_run0 (w' := w.setRow g vs.toArray) ?_ (K _ (setRow_heap w g cs.toArray vs.toArray T (0, 0) hb) ⟨rfl, rfl, rfl, by simp, fun k _ hk => setRow_other w g k _ (fun e => hk (by simp [e]))⟩ (by simp))
  simp only [execOp, ev_eval hx, ev_eval hy]
  refine u_run ?_
  simp [Instr.storeAt, Instr.sureAddr, storeVar, Value.cells, run_sizeOf hz, hs, h]
/-- operands' values -/
def evL (n : Nat) (l : Sl) : List Operand → Option (List Value)
  | [] => some []
  | x :: r => match ev n l x, evL n l r with | some v, some vs => some (v :: vs) | _, _ => none
theorem evL_map {xs : List Operand} : ∀ {vs : List Value}, evL n l xs = some vs → xs.map (Ac n σ ds l).eval = vs := by
  induction xs with
  | nil => intro vs h; simp [evL] at h; subst h; rfl
  | cons x r ih =>
    intro vs h
    simp only [evL] at h
    split at h
    · rename_i v us hv hus
      obtain rfl : v :: us = vs := by simpa using h
      simp [ev_eval hv, ih hus]
    · cases h
def evP (n : Nat) (l : Sl) : List (Nat × Operand) → Option (List (Nat × Value))
  | [] => some []
  | (i, x) :: r => match ev n l x, evP n l r with | some v, some vs => some ((i, v) :: vs) | _, _ => none
theorem evP_map {xs : List (Nat × Operand)} : ∀ {vs : List (Nat × Value)}, evP n l xs = some vs → xs.toArray.map (fun (p : Nat × Operand) => (p.1, (Ac n σ ds l).eval p.2)) = vs.toArray := by
  induction xs with
  | nil => intro vs h; simp [evP] at h; subst h; simp
  | cons x r ih =>
    intro vs h
    obtain ⟨i, x⟩ := x
    simp only [evP] at h
    split at h
    · rename_i v us hv hus
      obtain rfl : (i, v) :: us = vs := by simpa using h
      have := congrArg Array.toList (ih hus)
      simp at this
      simp [ev_eval hv, this]
    · cases h
theorem R_makeFunc {fn : Fn} {f c : List Operand} {fs cs : List Value} (hf : evL n l f = some fs) (hc : evL n l c = some cs) :
    (execOp (Ac n σ ds l).eval ⟨dst, .makeFunc fn f.toArray c.toArray, ty, pos, af, gd⟩).run P w = .ok (.value (.func fn fs.toArray cs.toArray)) w := by
  have h1 := evL_map (σ := σ) (ds := ds) hf
  have h2 := evL_map (σ := σ) (ds := ds) hc
  simp [execOp, Instr.makeFunc, h1, h2]
/-! ### slices -/
theorem L_buildSlice {t e sz by_ m : Nat} {ps : List (Nat × Operand)} {pv : List (Nat × Value)} {z : Value} {cs : List Value} (hs : slcB P t e sz by_ = true) (hz : (P.info? e).bind (·.zero) = some z)
    (hp : evP n l ps = some pv) (hm : Nat.ble (m * sz) 16777216 = true)
    (hc : Instr.fill (fun i => some (i * sz, sz)) ((Array.range (m * sz)).map (z.cells[· % z.cells.size]!)) pv = some cs.toArray) (hn : Nat.blt d n = true)
    (K : ∀ g w', g = w.heap.size → Blk w' g e cs → w.grownBy w' none → w'.heap.size = g + 1 → wpL P ops Q rest (Ac n σ ds ((d, .slice (some ⟨g, 0, none⟩) m m) :: l)) w') :
    wpL P ops Q (⟨some d, .buildSlice t m ps.toArray, ty, pos, af, none⟩ :: rest) (Ac n σ ds l) w := by
  refine L_run (w' := w.alloc (.cells cs.toArray e)) ?_ hn (K w.heap.size _ rfl (blk_new w e cs) (gb_alloc w _) (by simp))
  obtain ⟨hu, i, z', hi, hz', h1, h2, h3, h4, h5⟩ := slcB_u hs
  obtain rfl : z' = z := by simpa [hi, hz'] using hz
  have hble : ¬ (2 ^ 24 < m * sz) := by have : m * sz ≤ 16777216 := by simpa using hm
                                        omega
  simp only [execOp]
  refine v_run ?_
  have hp' : (Array.map (fun (x : Nat × Operand) => match x with | (i, x) => (i, (Ac n σ ds l).eval x)) ps.toArray) = pv.toArray := evP_map (σ := σ) (ds := ds) hp
  rw [hp']
  by_cases h0 : m * sz = 0
  · have hf : Instr.fill (fun i => some (i * sz, sz)) ((Array.range (m * sz)).map ((#[] : Array Value)[· % (#[] : Array Value).size]!)) pv = some cs.toArray := by
      rw [h0] at hc ⊢
      have e0 : Array.range 0 = #[] := rfl
      rw [e0] at hc ⊢
      simpa using hc
    simp [Instr.buildSlice, run_underlying hu, sizeOf, typeInfo, hi, h1, hble, h0, newRow]
    simp [h0] at hf
    simp [hf]
  · simp [Instr.buildSlice, run_underlying hu, sizeOf, typeInfo, hi, h1, hble, h0, newRow, zeroValue, hz', hc]
theorem R_lenSl {t e sz by_ m c : Nat} {x : Operand} {A : Option Addr} (hx : ev n l x = some (.slice A m c)) (hs : slcB P t e sz by_ = true) :
    (execOp (Ac n σ ds l).eval ⟨dst, .call ⟨.builtin .len, #[x], #[t]⟩, ty, pos, af, gd⟩).run P w = .ok (.value (.int .i64 (m : Int))) w := by simp [execOp, resolve, invoke, builtin, ev_eval hx, Builtin.len_, run_underlying (slcB_u hs).1, goInt]
/-- append onto a row of the call's own. -/
theorem L_append {t e te sz by_ m c lo lo2 hi2 k : Nat} {s x : Operand} {v : Value} {A : Option Addr} {vs news : List Value} (hs : slcB P t e sz by_ = true) (hv : ev n l s = some v) (hx : ev n l x = some (.slice A m c))
    (ho : w.ownsRow lo e sz v k vs) (hr : Sli te lo2 hi2 w A news) (hm : news.length = m * sz) (h1 : ∀ u ∈ news, u.oneCell' = true) (hb : (k + m) * by_ ≤ 140737488355328) (hlo : lo ≤ w.heap.size) (hn : Nat.blt d n = true)
    (K : ∀ A' c' w', w'.ownsRow lo e sz (.slice A' (k + m) c') (k + m) (vs ++ news) → w.grownBy w' v.ownBlock → ((Value.slice A' (k + m) c').ownBlock = v.ownBlock ∨ (Value.slice A' (k + m) c').ownBlock = some w.heap.size) →
      wpL P ops Q rest (Ac n σ ds ((d, .slice A' (k + m) c') :: l)) w') :
    wpL P ops Q (⟨some d, .call ⟨.builtin .append, #[s, x], #[t, t]⟩, ty, pos, af, none⟩ :: rest) (Ac n σ ds l) w := by
  obtain ⟨hu, i, z, hi, hz, e1, e2, e3, e4, e5⟩ := slcB_u hs
  have h63 : k + m ≤ maxLen := by
    have : (k + m) * 1 ≤ (k + m) * by_ := Nat.mul_le_mul_left _ e5
    simp only [maxLen]; omega
  have go : ∃ v' w', (Builtin.append_ #[t, t] ty #[v, .slice A m c]).run P w = .ok v' w' ∧ w'.ownsRow lo e sz v' (k + m) (vs ++ news) ∧ w.grownBy w' v.ownBlock ∧ (v'.ownBlock = v.ownBlock ∨ v'.ownBlock = some w.heap.size) := by
    rcases hr with hr | ⟨g, off, cc, fr, rfl, _, _, ⟨te', h3, _⟩, h4⟩
    · subst hr
      have hm0 : m = 0 := by
        rcases Nat.eq_zero_or_pos m with h | h
        · exact h
        · have : 0 < m * sz := Nat.mul_pos h e4
          simp at hm; omega
      subst hm0
      refine ⟨v, w, ?_, by simpa using ho, World.grownBy.refl w _, .inl rfl⟩
      have hfc : ∀ W : World, (Builtin.firstCells sz 0 (.slice A 0 c)).run P W = .ok #[] W := by
        intro W; cases A <;> simp [Builtin.firstCells, loadCells, loadCellsFrom]
      rcases ho.2 with ⟨rfl, rfl⟩ | ⟨g, cap, cur, rfl, _, _, hnc, _⟩
      · simp [Builtin.append_, run_underlying hu, sizeOf, typeInfo, hi, e1, Builtin.lenOf, hfc]
      · simp [Builtin.append_, run_underlying hu, sizeOf, typeInfo, hi, e1, Builtin.lenOf, hfc, hnc, storeCells]
    · obtain ⟨v', w', a1, a2, a3, _, a5⟩ := run_append_own_at (P := P) w lo t ty e i z sz by_ hu hi hz e1 e2 e3 e4 v k vs ho ⟨g, off, none⟩ m c news hm
        (fun j u hj => by rw [Addr.add_lit, cell_of_row w g _ cc te' fr h3]; exact h4 j u hj) h1 h63 hb hlo
      exact ⟨v', w', a1, a2, a3, a5⟩
  obtain ⟨v', w', hrun, hown, hg, hat⟩ := go
  obtain ⟨A', c', rfl, _, _, _⟩ := own_sli hown
  refine L_run ?_ hn (K A' c' w' hown hg hat)
  simp [execOp, resolve, invoke, builtin, ev_eval hv, ev_eval hx, hrun]
def callB (P : Program) (f : FuncId) : Bool := match P.funcs[f]? with | some fn => !(fn.name == "runtime.NumGoroutine") && fn.body.isSome | none => false
theorem run_callFunc {f : FuncId} {args : Array Value} (h : callB P f = true) : (callFunc f args).run P w = .ok (.enter f args) w := by
  unfold callB at h
  split at h
  · rename_i fn hf
    simp only [Bool.and_eq_true, Bool.not_eq_true'] at h
    have hb : fn.body.isNone = false := by rw [Option.isNone_eq_false_iff]; exact h.2
    have hs : (Sem.run P program w) = .ok P w := rfl
    simp only [callFunc, Sem.run_bind, hs, Result.andThen_ok, hf, h.1, hb, Bool.false_eq_true, if_false, Sem.run_pure]
  · cases h
theorem L_enter {op : Op} {f : FuncId} {vals : Array Value} {R : Value → World → Prop} (hr : (execOp (Ac n σ ds l).eval ⟨some d, op, ty, pos, af, none⟩).run P w = .ok (.enter f vals) w)
    (h : Runs P f vals w R) (hn : Nat.blt d n = true) (K : ∀ v w', R v w' → wpL P ops Q rest (Ac n σ ds ((d, v) :: l)) w') :
    wpL P ops Q (⟨some d, op, ty, pos, af, none⟩ :: rest) (Ac n σ ds l) w := by
  unfold wpL
  rw [if_pos (by simp [Region.wanted])]
  left
  unfold Oper.wp
  rw [hr]
  simp only [Oper.upon]
  refine Calls.mono h fun e w' he => ?_
  cases e with
  | returned v => simp only []; rw [Ac_put hn]; exact K v w' he
  | panicked c => exact he.elim
  | outgrown => exact he.elim
theorem L_call {f : FuncId} {xs : List Operand} {ts : Array TypeId} {vals : List Value} {R : Value → World → Prop} (hv : evL n l xs = some vals) (hf : callB P f = true) (h : Runs P f vals.toArray w R) (hn : Nat.blt d n = true)
    (K : ∀ v w', R v w' → wpL P ops Q rest (Ac n σ ds ((d, v) :: l)) w') : wpL P ops Q (⟨some d, .call ⟨.value (.func f), xs.toArray, ts⟩, ty, pos, af, none⟩ :: rest) (Ac n σ ds l) w := by
  refine L_enter ?_ h hn K
  have hm := evL_map (σ := σ) (ds := ds) hv
  simp [execOp, resolve, Deferred.ofValue, invoke, Act.eval, run_callFunc hf, ← hm]
/-- a call of a function value -/
theorem L_callV {f : FuncId} {x : Operand} {xs : List Operand} {ts : Array TypeId} {vals first cap : List Value} {R : Value → World → Prop} (hx : ev n l x = some (.func (.func f) first.toArray cap.toArray)) (hv : evL n l xs = some vals)
    (hf : callB P f = true) (h : Runs P f (first ++ vals ++ cap).toArray w R) (hn : Nat.blt d n = true)
    (K : ∀ v w', R v w' → wpL P ops Q rest (Ac n σ ds ((d, v) :: l)) w') : wpL P ops Q (⟨some d, .call ⟨.value x, xs.toArray, ts⟩, ty, pos, af, none⟩ :: rest) (Ac n σ ds l) w := by
  refine L_enter ?_ h hn K
  have hm := evL_map (σ := σ) (ds := ds) hv
  simp [execOp, resolve, Deferred.ofValue, invoke, ev_eval hx, run_callFunc hf, ← hm]
end
end Go.Proofs.Ytoipncaopdmicaa.Gw
namespace Go.Proofs.Ytoipncaopdmicaa.Gw
open Go.RowKit
set_option linter.unusedVariables false
set_option linter.unusedSimpArgs false
section
variable {P : Program} {Q : Exit → Act → World → Prop} {w w' : World} {ops : Array Oper} {rest : List Oper}
variable {n : Nat} {σ : Nat → Value} {ds : List Deferred} {l : Sl} {d : Nat} {ty : TypeId} {pos : String} {af : Array Edge} {dst : Option Nat} {gd : Option (Nat × Bool)}
/-! ### slicing -/
section slicing
variable {t e te sz by_ m c lo hi hi' : Nat} {x : Operand} {A : Option Addr} {vs : List Value}
/-- the address of an element -/
theorem L_index {k : IntKind} {a : Int} {i : Nat} {y : Operand} (hx : ev n l x = some (.slice A m c)) (hy : ev n l y = some (.int k a)) (ha : a = (i : Int)) (hs : slcB P t e sz by_ = true) (hi : i < m)
    (hS : Sli te lo hi' w A vs) (hl : vs.length = m * sz) (hn : Nat.blt d n = true)
    (K : ∀ g o, At w g o ((vs.drop (i * sz)).take sz) → wpL P ops Q rest (Ac n σ ds ((d, .pointer (some ⟨g, o, none⟩)) :: l)) w) :
    wpL P ops Q (⟨some d, .indexAddr t x y, ty, pos, af, none⟩ :: rest) (Ac n σ ds l) w := by
  obtain ⟨hu, inf, z, hinf, hz, e1, e2, e3, e4, e5⟩ := slcB_u hs
  have hle : (i + 1) * sz ≤ m * sz := Nat.mul_le_mul_right _ hi
  obtain ⟨g, off, rfl, hat⟩ := hS.at_ (i * sz) sz (by rw [hl]; rw [Nat.add_mul, Nat.one_mul] at hle; exact hle) e4
  refine L_run ?_ hn (K g (off + i * sz) hat)
  subst ha
  simp only [execOp, ev_eval hx, ev_eval hy]
  refine v_run ?_
  simp [Instr.indexAt, asIntOf, run_underlying hu, hi, sizeOf, typeInfo, hinf, e1, Addr.add_lit]
end slicing
theorem At.one {g o : Nat} {v : Value} {vs : List Value} (h : At w g o (v :: vs)) : w.cell? ⟨g, o, none⟩ = some v := h 0 v rfl
/-! ### strings and bytes -/
theorem R_b2s {t t' e te lo hi m c : Nat} {x : Operand} {A : Option Addr} {bs : List UInt8} (hx : ev n l x = some (.slice A m c)) (ht : slcB P t e 1 1 = true) (he : intB P e .u8 = true) (hs : strB P t' = true)
    (hS : Sli te lo hi w A (byts bs)) (hm : bs.length = m) :
    (execOp (Ac n σ ds l).eval ⟨dst, .convert t t' x, ty, pos, af, gd⟩).run P w = .ok (.value (.string ⟨bs.toArray⟩)) w := by
  have hu := (slcB_u ht).1
  have hb : ((bs.map fun b => (b.toNat : Int)).map fun n => UInt8.ofNat n.toNat) = bs := by
    rw [List.map_map]
    conv => rhs; rw [← List.map_id bs]
    exact List.map_congr_left fun b _ => by simp
  have hstr : strOfNums (bs.map fun b => (b.toNat : Int)) = ⟨bs.toArray⟩ := by unfold strOfNums; rw [hb]
  have go : (convert t t' (.slice A m c)).run P w = .ok (.string ⟨bs.toArray⟩) w := by
    rcases hS with h | ⟨g, off, cc, fr, rfl, _, _, ⟨te', h3, _⟩, h4⟩
    · have : bs = [] := by simpa [byts] using h
      subst this
      obtain rfl : m = 0 := by simpa using hm.symm
      cases A with
      | none => exact run_convert_bytes_nil w t e hu (intB_u he) 0 c t' (strB_u hs)
      | some a =>
        obtain ⟨g, off, sp⟩ := a
        simp [convert, run_underlying hu, run_underlying (intB_u he), run_underlying (strB_u hs), Conv.bytesToString, loadCells, loadCellsFrom]
        rfl
    · rw [← hstr]
      refine run_convert_bytes_arg w t e hu (intB_u he) g off m c _ (by simpa using hm) (fun i hi => ?_) t' (strB_u hs)
      rw [cell_of_row w g _ cc te' fr h3]
      have : (byts bs)[i]? = some (u8v (bs[i]'(by omega))) := by simp [byts, hm ▸ hi]
      rw [h4 i _ this]
      simp [u8v, hm ▸ hi]
  (simp only [execOp, ev_eval hx]; exact v_run go)
/-! ### structs -/
theorem R_build {t : TypeId} {ps : List (Nat × Operand)} {pv : List (Nat × Value)} {cs : List Value} (hp : evP n l ps = some pv)
    (hc : P.built t pv = some cs.toArray) :
    (execOp (Ac n σ ds l).eval ⟨dst, .build t ps.toArray, ty, pos, af, gd⟩).run P w = .ok (.value (.agg cs.toArray)) w := by
  simp only [execOp]
  refine v_run ?_
  have hp' : (Array.map (fun (x : Nat × Operand) => match x with | (i, x) => (i, (Ac n σ ds l).eval x)) ps.toArray) = pv.toArray := evP_map (σ := σ) (ds := ds) hp
  rw [hp']
  exact run_build w t pv.toArray cs.toArray (by simpa using hc)
end
end Go.Proofs.Ytoipncaopdmicaa.Gw
namespace Go.Proofs.Ytoipncaopdmicaa.Gw
open Go.RowKit
set_option linter.unusedVariables false
set_option linter.unusedSimpArgs false
section
variable {P : Program} {ops : Array Oper} {Q : Exit → Act → World → Prop} {md : Region.Mode} {S : World → Prop} {qs : List Nat}
/-- What comes behind operation q, and q. -/
def BackB (md : Region.Mode) (ops : Array Oper) (q : Nat) : List Nat :=
  (List.range ops.size).foldl (fun acc j => match ops[j]? with
    | some o => if o.after.any fun e => Region.binds md e && acc.contains e.on then j :: acc else acc
    | none => acc) [q]
theorem back_of {q : Nat} : ∀ (l acc : List Nat), (∀ b ∈ acc, b = q ∨ ∃ o, ops[b]? = some o ∧ ∃ e ∈ o.after, Region.binds md e = true ∧ e.on ∈ acc) →
    ∀ b ∈ l.foldl (fun acc j => match ops[j]? with
      | some o => if o.after.any fun e => Region.binds md e && acc.contains e.on then j :: acc else acc
      | none => acc) acc, b = q ∨ ∃ o, ops[b]? = some o ∧ ∃ e ∈ o.after, Region.binds md e = true ∧ e.on ∈ l.foldl (fun acc j => match ops[j]? with
      | some o => if o.after.any fun e => Region.binds md e && acc.contains e.on then j :: acc else acc
      | none => acc) acc := by
  intro l
  induction l with
  | nil => intro acc h; exact h
  | cons j l ih =>
    intro acc h
    rw [List.foldl_cons]
    refine ih _ ?_
    split
    · rename_i o ho
      split
      · rename_i hany
        intro b hb
        rcases List.mem_cons.1 hb with rfl | hb
        · obtain ⟨e, he, hx⟩ := Array.any_eq_true'.1 hany
          simp only [Bool.and_eq_true, List.contains_iff_mem] at hx
          exact .inr ⟨o, ho, e, he, hx.1, List.mem_cons_of_mem _ hx.2⟩
        · rcases h b hb with h | ⟨o', h1, e, h2, h3, h4⟩
          · exact .inl h
          · exact .inr ⟨o', h1, e, h2, h3, List.mem_cons_of_mem _ h4⟩
      · exact h
    · exact h
theorem back_pred {q b : Nat} (h : b ∈ BackB md ops q) : b = q ∨ ∃ o, ops[b]? = some o ∧ ∃ e ∈ o.after, Region.binds md e = true ∧ e.on ∈ BackB md ops q :=
  back_of (List.range ops.size) [q] (fun b hb => .inl (by simpa using hb)) b h
/-- It moves a value, whatever the world. -/
def isMv (o : Oper) : Bool := match o.op with | .move _ => o.guard.isNone | _ => false
def mvAt (ops : Array Oper) (q : Nat) : Bool := match ops[q]? with | some o => isMv o | none => false
/-- Operation j need not wait for all of qs. -/
def NeedB (md : Region.Mode) (ops : Array Oper) (qs : List Nat) (j : Nat) : Bool :=
  match ops[j]? with
  | some o => !isMv o && qs.any fun q => !mvAt ops q && !(BackB md ops q).contains j
  | none => true
/-- Nothing of what comes behind q, nor q, is listed. -/
def ShutB (md : Region.Mode) (ops : Array Oper) (listed : Array Bool) (q : Nat) : Bool := (BackB md ops q).all fun b => !listed.getD b true
theorem need_of {i j : Nat} {oj : Oper} {listed : Array Bool} (hq : i ∈ qs) (hj : ops[j]? = some oj) (hji : j ≠ i) (hs : ∀ b ∈ BackB md ops i, listed.getD b true = false) (hall : ∀ e ∈ oj.after, Region.binds md e = true → listed.getD e.on false = true) : j ∉ BackB md ops i := by
  intro hb
  rcases back_pred hb with h | ⟨o, h1, e, h2, h3, h4⟩
  · exact hji h
  · rw [hj] at h1
    cases h1
    have h5 := hs _ h4
    have h6 := hall e h2 h3
    rcases Nat.lt_or_ge e.on listed.size with h' | h'
    · simp [h'] at h5 h6; rw [h6] at h5; cases h5
    · simp [Array.getElem?_eq_none h'] at h6
theorem need_in {i j : Nat} {oi oj : Oper} (hq : i ∈ qs) (hi : ops[i]? = some oi) (hmi : isMv oi = false) (hj : ops[j]? = some oj) (hmj : isMv oj = false) (h : j ∉ BackB md ops i) : NeedB md ops qs j = true := by
  simp only [NeedB, hj, hmj, Bool.not_false, Bool.true_and]
  exact List.any_eq_true.2 ⟨i, hq, by simp only [mvAt, hi, hmi, Bool.not_false, Bool.true_and]; simpa using h⟩
theorem mv_wanted {o : Oper} (h : isMv o = true) (y : Nat → Option Bool) : Region.wanted o y = true := by
  obtain ⟨d, op, ty, pos, af, gd⟩ := o
  cases op with
  | move x =>
    cases gd with
    | none => simp [Region.wanted]
    | some g => simp [isMv] at h
  | _ => simp [isMv] at h
theorem mv_run {o : Oper} (h : isMv o = true) (a : Act) : ∃ v, ∀ w, (execOp a.eval o).run P w = .ok (.value v) w := by
  obtain ⟨d, op, ty, pos, af, gd⟩ := o
  cases op with
  | move x => exact ⟨a.eval x, fun w => by simp [execOp]⟩
  | _ => simp [isMv] at h
/-- Operation i, if it is wanted: it goes on, or hands a value to the body of a loop over a function. -/
def wpOpG (P : Program) (ops : Array Oper) (Q : Exit → Act → World → Prop) (i : Nat) (K : Act → World → Prop) (a : Act) (w : World) : Prop :=
  match ops[i]? with
  | none => K a w
  | some o => if Region.wanted o (yielded ops a.tmps) then o.wp P a w K Q ∨ Gives P o a w K else K (a.put o.dst undef) w
theorem Gives.mono {o : Oper} {a : Act} {w : World} {K K' : Act → World → Prop} (h : ∀ a w, K a w → K' a w) (hh : Gives P o a w K) : Gives P o a w K' := by
  obtain ⟨lp, f, tmps, asg, body, w', hr, h2⟩ := hh
  exact ⟨lp, f, tmps, asg, body, w', hr, RoundIn.mono h2 fun e w'' he => by cases e <;> first | exact h _ _ he | exact he⟩
theorem wp_monoG {o : Oper} {a : Act} {w : World} {K K' : Act → World → Prop} (h : ∀ a w, K a w → K' a w) (hh : o.wp P a w K Q) : o.wp P a w K' Q := by
  unfold Oper.wp at *
  generalize (execOp a.eval o).run P w = r at *
  cases r with
  | ok x w' =>
    cases x <;> simp only [Oper.upon] at hh ⊢ <;>
      first
        | exact h _ _ hh
        | exact Calls.mono hh (fun e w'' he => by cases e <;> first | exact h _ _ he | exact he)
        | exact Rows.mono hh (fun _ _ he => h _ _ he)
  | halt x w' => cases x <;> simp only [Oper.upon] at hh ⊢ <;> exact hh
theorem wpOpG_mono {i : Nat} {a : Act} {w : World} {K K' : Act → World → Prop} (h : ∀ a w, K a w → K' a w) (hh : wpOpG P ops Q i K a w) : wpOpG P ops Q i K' a w := by
  unfold wpOpG at *
  split
  · rename_i ho
    rw [ho] at hh
    exact h _ _ hh
  · rename_i o ho
    rw [ho] at hh
    simp only at hh
    split
    · rename_i hw
      rw [if_pos hw] at hh
      exact hh.imp (wp_monoG h) (Gives.mono h)
    · rename_i hw
      rw [if_neg hw] at hh
      exact h _ _ hh
theorem wpOpG_in {ro : Option Nat} (hd : (ro.isNone || ops.toList.all notDefer) = true) {i : Nat} {a : Act} {w : World} {K : Act → World → Prop} (h : wpOpG P ops Q i K a w) : wpOpIn (wF ro) 0 P ops Q i K a w := by
  unfold wpOpG at h
  unfold wpOpIn
  split
  · rename_i ho
    rw [ho] at h
    exact h
  · rename_i o ho
    rw [ho] at h
    simp only at h
    have h1 : ro.isNone = true ∨ notDefer o = true := by
      rw [Bool.or_eq_true] at hd
      exact hd.imp id fun hd => List.all_eq_true.1 hd o (by have := Array.mem_of_getElem? ho; simpa using this)
    split
    · rename_i hw
      rw [if_pos hw] at h
      rcases h with h | h
      · exact opIn_of_wp h1 h
      · exact opIn_of_gives h1 h
    · rename_i hw
      rw [if_neg hw] at h
      exact ⟨fun _ _ => trivial, h⟩
theorem yieldsG {i : Nat} {o : Oper} {v : Value} {a : Act} (hi : ops[i]? = some o) (hy : YieldsIf P ops S o v a) {K : Act → World → Prop} {w : World} (hS : S w) (h : K (a.put o.dst v) w) : wpOpG P ops Q i K a w := by
  unfold wpOpG
  rw [hi]
  simp only
  rcases hy with ⟨hw, hv⟩ | ⟨hw, rfl⟩
  · rw [if_pos hw]
    left
    unfold Oper.wp
    rw [hv w hS]
    exact h
  · rw [if_neg (by rw [hw]; simp)]
    exact h
theorem wpOpG_put {j : Nat} {oi oj : Oper} {v : Value} (hL : ¬ LetsOut Q) (hj : ops[j]? = some oj) (hap : oi.apart ops oj = true) (hsi : ∀ cs b, oi.op ≠ .select cs b) (hsj : ∀ cs b, oj.op ≠ .select cs b)
    (hQ : ∀ c a w, Q (.panic c) (a.put oi.dst v) w → Q (.panic c) a w) {K : Act → World → Prop} {a : Act} {w : World} (hy : YieldsIf P ops S oi v a) (h : wpOpG P ops Q j K (a.put oi.dst v) w) :
    wpOpG P ops Q j (fun a' w' => YieldsIf P ops S oi v a' ∧ K (a'.put oi.dst v) w') a w := by
  obtain ⟨h1, h2, h3⟩ := Oper.apart_spec hap
  have hwd := wanted_put oj a oi.dst v h1
  by_cases hw : Region.wanted oj (yielded ops a.tmps) = true
  · have hw' : Region.wanted oj (yielded ops (a.put oi.dst v).tmps) = true := hwd ▸ hw
    unfold wpOpG at h
    rw [hj] at h
    simp only at h
    rw [if_pos hw'] at h
    unfold wpOpG
    rw [hj]
    simp only
    rw [if_pos hw]
    rcases h with h | ⟨lp, f, tmps, asg, body, w', hr, hro⟩
    · left
      have hk : wpOp P ops Q j K (a.put oi.dst v) w := by
        unfold wpOp
        rw [hj]
        simp only
        rw [if_pos hw']
        exact .inl h
      have := wpOp_putIf hj hap hsi hsj hQ hy hk
      unfold wpOp at this
      rw [hj] at this
      simp only at this
      rw [if_pos hw] at this
      rcases this with this | ⟨_, hl⟩
      · exact this
      · exact absurd hl hL
    · right
      rw [execOp_put oj hsj a oi.dst v h1] at hr
      refine ⟨lp, f, tmps, asg, body, w', hr, RoundIn.mono hro fun e w'' he => ?_⟩
      cases e with
      | returned u => exact ⟨hy.of_same (execOp_put oi hsi a oj.dst u h3) (wanted_put oi a oj.dst u h3), by rw [← Act.put_comm a v u h2]; exact he⟩
      | panicked c => exact he
      | outgrown => exact he
  · have hw' : ¬ Region.wanted oj (yielded ops (a.put oi.dst v).tmps) = true := hwd ▸ hw
    unfold wpOpG at h ⊢
    rw [hj] at h ⊢
    simp only at h ⊢
    rw [if_neg hw'] at h
    rw [if_neg hw]
    exact ⟨hy.of_same (execOp_put oi hsi a oj.dst undef h3) (wanted_put oi a oj.dst undef h3), by rw [← Act.put_comm a v undef h2]; exact h⟩
/-- What a region that draws may end in: no panic. -/
def CalmE (Q : Exit → Act → World → Prop) : Exit → Act → World → Prop
  | .panic _, _, _ => False
  | .outgrown, _, _ => False
  | e, a, w => Q e a w
theorem CalmE.normal {a : Act} {w : World} (h : Q .normal a w) : CalmE Q .normal a w := h
theorem CalmE.imp : ∀ (e : Exit) (a : Act) (w : World), CalmE Q e a w → Q e a w := fun e a w h => by
  cases e <;> first | exact h | exact (h : False).elim
theorem CalmE.lets : ¬ LetsOut (CalmE Q) := fun ⟨_, _, h⟩ => h
/-- Whatever order is picked; behind each that need not wait for all of 'qs', S holds. -/
def wpAnyT (P : Program) (md : Region.Mode) (ops : Array Oper) (Q : Exit → Act → World → Prop) (S : World → Prop) (qs : List Nat) : Nat → Array Bool → Act → World → Prop
  | 0, listed, a, w => Region.ready md ops listed = [] ∧ Q .normal a w
  | fuel + 1, listed, a, w =>
    (Region.ready md ops listed = [] → Q .normal a w) ∧
    ∀ i ∈ Region.ready md ops listed, wpOpG P ops Q i (fun a' w' => (NeedB md ops qs i = true → S w') ∧ wpAnyT P md ops Q S qs fuel (listed.setIfInBounds i true) a' w') a w
theorem wpAnyIn_of_T {ro : Option Nat} (hd : (ro.isNone || ops.toList.all notDefer) = true) : ∀ (fuel : Nat) (listed : Array Bool) (a : Act) (w : World), wpAnyT P md ops Q S qs fuel listed a w → wpAnyIn (wF ro) 0 P md ops Q fuel listed a w
  | 0, _, _, _, h => h
  | fuel + 1, _, _, _, h => ⟨h.1, fun i hi => wpOpIn_mono (fun a' w' h' => wpAnyIn_of_T hd fuel _ a' w' h'.2) (wpOpG_in hd (h.2 i hi))⟩
theorem mv_same {j : Nat} {oj : Oper} (hj : ops[j]? = some oj) (hm : isMv oj = true) {K : Act → World → Prop} {a : Act} {w : World} (h : wpOpG P ops Q j K a w) : wpOpG P ops Q j (fun a' w' => w' = w ∧ K a' w') a w := by
  unfold wpOpG at h ⊢
  rw [hj] at h ⊢
  simp only at h ⊢
  rw [if_pos (mv_wanted hm _)] at h ⊢
  obtain ⟨v, hv⟩ := mv_run (P := P) hm a
  rcases h with h | ⟨lp, f, tmps, asg, body, w', hr, _⟩
  · left
    unfold Oper.wp at h ⊢
    rw [hv w] at h ⊢
    exact ⟨rfl, h⟩
  · rw [hv w] at hr
    cases hr
theorem T_firstM {i : Nat} {oi : Oper} {v : Value} (hL : ¬ LetsOut Q) (hi : ops[i]? = some oi) (hmi : isMv oi = true) (hsel : ∀ (j : Nat) (o : Oper) cs b, ops[j]? = some o → o.op ≠ .select cs b)
    (hQ : ∀ c a w, Q (.panic c) (a.put oi.dst v) w → Q (.panic c) a w) :
    ∀ (fuel : Nat) (listed : Array Bool) (a : Act) (w : World),
      (∀ j oj, ops[j]? = some oj → j ≠ i → listed.getD j true = false → (∀ e ∈ oj.after, Region.binds md e = true → e.on ≠ i) → oi.apart ops oj = true) →
      i ∈ Region.ready md ops listed → YieldsIf P ops (fun _ => True) oi v a →
      wpAnyT P md ops Q S qs fuel (listed.setIfInBounds i true) (a.put oi.dst v) w → wpAnyT P md ops Q S qs (fuel + 1) listed a w := by
  have hni : NeedB md ops qs i = true → False := fun h => by simp only [NeedB, hi, hmi, Bool.not_true, Bool.false_and] at h; cases h
  intro fuel
  induction fuel with
  | zero =>
    intro listed a w _ hr hy H
    refine ⟨fun h => (by rw [h] at hr; cases hr), fun j hj => ?_⟩
    by_cases hji : j = i
    · subst hji; exact yieldsG hi hy trivial ⟨fun h => (hni h).elim, H⟩
    · have := ready_mono hj hji
      rw [H.1] at this
      cases this
  | succ fuel ih =>
    intro listed a w hfree hr hy H
    refine ⟨fun h => (by rw [h] at hr; cases hr), fun j hj => ?_⟩
    by_cases hji : j = i
    · subst hji; exact yieldsG hi hy trivial ⟨fun h => (hni h).elim, H⟩
    · have h1 := H.2 j (ready_mono hj hji)
      obtain ⟨hjun, oj, hoj, hall⟩ := mem_ready.1 hj
      have hiun : listed.getD i true = false := (mem_ready.1 hr).1
      have hnot : ∀ e ∈ oj.after, Region.binds md e = true → e.on ≠ i := fun e he hb heq => by
        have h1 := hall e he hb
        rw [heq] at h1
        rcases Nat.lt_or_ge i listed.size with h' | h'
        · simp [h'] at hiun h1; rw [hiun] at h1; cases h1
        · simp [Array.getElem?_eq_none h'] at h1
      have h2 := wpOpG_put hL hoj (hfree j oj hoj hji hjun hnot) (fun cs b => hsel i oi cs b hi) (fun cs b => hsel j oj cs b hoj) hQ hy h1
      have hfree' : ∀ k ok, ops[k]? = some ok → k ≠ i → (listed.setIfInBounds j true).getD k true = false →
          (∀ e ∈ ok.after, Region.binds md e = true → e.on ≠ i) → oi.apart ops ok = true := fun k ok hk hki hun hno => by
        refine hfree k ok hk hki ?_ hno
        by_cases hjk : j = k
        · subst hjk; exact hjun
        · rw [getD_set_ne true hjk] at hun; exact hun
      refine wpOpG_mono (fun a' w' h3 => ⟨h3.2.1, ih (listed.setIfInBounds j true) a' w' hfree' (ready_mono hr (Ne.symm hji)) h3.1 ?_⟩) h2
      rw [Array.setIfInBounds_comm _ _ hji]
      exact h3.2.2
theorem T_first {i : Nat} {oi : Oper} {v : Value} (hL : ¬ LetsOut Q) (hq : i ∈ qs) (hi : ops[i]? = some oi) (hmi : isMv oi = false) (hsel : ∀ (j : Nat) (o : Oper) cs b, ops[j]? = some o → o.op ≠ .select cs b)
    (hQ : ∀ c a w, Q (.panic c) (a.put oi.dst v) w → Q (.panic c) a w) :
    ∀ (fuel : Nat) (listed : Array Bool) (a : Act) (w : World),
      (∀ j oj, ops[j]? = some oj → j ≠ i → listed.getD j true = false → (∀ e ∈ oj.after, Region.binds md e = true → e.on ≠ i) → oi.apart ops oj = true) → (∀ b ∈ BackB md ops i, listed.getD b true = false) →
      i ∈ Region.ready md ops listed → YieldsIf P ops S oi v a → S w →
      wpAnyT P md ops Q S qs fuel (listed.setIfInBounds i true) (a.put oi.dst v) w → wpAnyT P md ops Q S qs (fuel + 1) listed a w := by
  intro fuel
  induction fuel with
  | zero =>
    intro listed a w _ _ hr hy hS H
    refine ⟨fun h => (by rw [h] at hr; cases hr), fun j hj => ?_⟩
    by_cases hji : j = i
    · subst hji; exact yieldsG hi hy hS ⟨fun _ => hS, H⟩
    · have := ready_mono hj hji
      rw [H.1] at this
      cases this
  | succ fuel ih =>
    intro listed a w hfree hsh hr hy hS H
    refine ⟨fun h => (by rw [h] at hr; cases hr), fun j hj => ?_⟩
    by_cases hji : j = i
    · subst hji; exact yieldsG hi hy hS ⟨fun _ => hS, H⟩
    · have h1 := H.2 j (ready_mono hj hji)
      obtain ⟨hjun, oj, hoj, hall⟩ := mem_ready.1 hj
      have hiun : listed.getD i true = false := (mem_ready.1 hr).1
      have hnot : ∀ e ∈ oj.after, Region.binds md e = true → e.on ≠ i := fun e he hb heq => by
        have h1 := hall e he hb
        rw [heq] at h1
        rcases Nat.lt_or_ge i listed.size with h' | h'
        · simp [h'] at hiun h1; rw [hiun] at h1; cases h1
        · simp [Array.getElem?_eq_none h'] at h1
      have h2 := wpOpG_put hL hoj (hfree j oj hoj hji hjun hnot) (fun cs b => hsel i oi cs b hi) (fun cs b => hsel j oj cs b hoj) hQ hy h1
      have hfree' : ∀ k ok, ops[k]? = some ok → k ≠ i → (listed.setIfInBounds j true).getD k true = false →
          (∀ e ∈ ok.after, Region.binds md e = true → e.on ≠ i) → oi.apart ops ok = true := fun k ok hk hki hun hno => by
        refine hfree k ok hk hki ?_ hno
        by_cases hjk : j = k
        · subst hjk; exact hjun
        · rw [getD_set_ne true hjk] at hun; exact hun
      have hout := need_of hq hoj hji hsh hall
      have hsh' : ∀ b ∈ BackB md ops i, (listed.setIfInBounds j true).getD b true = false := fun b hb => by
        by_cases e : j = b
        · exact absurd (by rw [e]; exact hb) hout
        · rw [getD_set_ne true e]; exact hsh b hb
      cases hmj : isMv oj with
      | false =>
        have hneed := need_in hq hi hmi hoj hmj hout
        refine wpOpG_mono (fun a' w' h3 => ⟨h3.2.1, ih (listed.setIfInBounds j true) a' w' hfree' hsh' (ready_mono hr (Ne.symm hji)) h3.1 (h3.2.1 hneed) ?_⟩) h2
        rw [Array.setIfInBounds_comm _ _ hji]
        exact h3.2.2
      | true =>
        refine wpOpG_mono ?_ (mv_same hoj hmj h2)
        intro a' w' h3
        refine ⟨h3.2.2.1, ih (listed.setIfInBounds j true) a' w' hfree' hsh' (ready_mono hr (Ne.symm hji)) h3.2.1 (by rw [h3.1]; exact hS) ?_⟩
        rw [Array.setIfInBounds_comm _ _ hji]
        exact h3.2.2.2
theorem T_take {i : Nat} {oi : Oper} {v : Value} {fuel : Nat} {listed : Array Bool} {a : Act} {w : World} (hi : ops[i]? = some oi) (hq : (qs.contains i && ShutB md ops listed i) = true)
    (hs : Region.noSelect ops = true) (hf : Region.free md ops listed i = true) (hr : (Region.ready md ops listed).contains i = true)
    (hy : YieldsIf P ops S oi v a) (hS : S w)
    (h : wpAnyT P md ops (CalmE Q) S qs fuel (listed.setIfInBounds i true) (a.put oi.dst v) w) : wpAnyT P md ops (CalmE Q) S qs (fuel + 1) listed a w :=
  match hm : isMv oi with
  | false => T_first CalmE.lets (by simpa using (Bool.and_eq_true_iff.1 hq).1) hi hm (Region.noSelect_spec hs) (fun _ _ _ h => h) fuel listed a w (Region.free_spec hi hf) (fun b hb => by
    have := List.all_eq_true.1 (Bool.and_eq_true_iff.1 hq).2 b hb
    simpa using this) (by simpa using hr) hy hS h
  | true => T_firstM CalmE.lets hi hm (Region.noSelect_spec hs) (fun _ _ _ h => h) fuel listed a w (Region.free_spec hi hf) (by simpa using hr) (by
      obtain ⟨u, hu⟩ := mv_run (P := P) hm a
      rcases hy with ⟨h1, h2⟩ | ⟨h1, _⟩
      · have h3 := (hu w).symm.trans (h2 w hS)
        have h4 : u = v := by simpa using h3
        exact .inl ⟨h1, fun w' _ => h4 ▸ hu w'⟩
      · rw [mv_wanted hm] at h1; cases h1) h
/-- Whichever of those that may come up comes up. -/
theorem T_all {rs : List Nat} {fuel : Nat} {listed : Array Bool} {a : Act} {w : World} (hr : Region.ready md ops listed = rs) (hne : rs.isEmpty = false)
    (h : ∀ i ∈ rs, wpOpG P ops Q i (fun a' w' => (NeedB md ops qs i = true → S w') ∧ wpAnyT P md ops Q S qs fuel (listed.setIfInBounds i true) a' w') a w) : wpAnyT P md ops Q S qs (fuel + 1) listed a w :=
  ⟨fun h0 => (by rw [hr] at h0; subst h0; cases hne), hr ▸ h⟩
theorem T_done {fuel : Nat} {listed : Array Bool} {a : Act} {w : World} (hr : Region.ready md ops listed = []) (h : Q .normal a w) : wpAnyT P md ops Q S qs fuel listed a w := by
  cases fuel with
  | zero => exact ⟨hr, h⟩
  | succ fuel => exact ⟨fun _ => h, fun i hi => by rw [hr] at hi; cases hi⟩
/-- No operation that is left asks for S. -/
theorem T_switch {S' : World → Prop} {qs' : List Nat} : ∀ {fuel : Nat} {listed : Array Bool} {a : Act} {w : World},
    (List.range ops.size).all (fun j => listed.getD j true || !NeedB md ops qs j) = true →
    wpAnyT P md ops Q S' qs' fuel listed a w → wpAnyT P md ops Q S qs fuel listed a w := by
  intro fuel
  induction fuel with
  | zero => intro listed a w _ h; exact h
  | succ fuel ih =>
    intro listed a w hall h
    refine ⟨h.1, fun i hi => wpOpG_mono (fun a' w' h' => ⟨fun hn => ?_, ih ?_ h'.2⟩) (h.2 i hi)⟩
    · obtain ⟨hun, o, ho, _⟩ := mem_ready.1 hi
      have hlt : i < ops.size := (Array.getElem?_eq_some_iff.1 ho).1
      have := List.all_eq_true.1 hall i (by simpa using hlt)
      rw [hun, hn] at this
      cases this
    · refine List.all_eq_true.2 fun j hj => ?_
      have := List.all_eq_true.1 hall j hj
      by_cases hij : i = j
      · subst hij
        obtain ⟨hun, o, ho, _⟩ := mem_ready.1 hi
        rcases Nat.lt_or_ge i listed.size with h' | h'
        · simp [h']
        · simp [h']
      · rw [getD_set_ne true hij]; exact this
/-- One operation, by the laws for a list. -/
theorem O_one {i : Nat} {o : Oper} {K : Act → World → Prop} {a : Act} {w : World} (hi : ops[i]? = some o) (h : wpL P ops (Exit.then K Q) [o] a w) : wpOpG P ops Q i K a w := by
  unfold wpOpG
  rw [hi]
  simp only [wpL] at h ⊢
  split
  · rename_i hw
    rw [if_pos hw] at h
    rcases h with h | h
    · left
      unfold Oper.wp at *
      generalize (execOp a.eval o).run P w = r at *
      cases r with
      | ok n w' =>
        cases n <;> simp only [Oper.upon] at h ⊢
        all_goals first | exact h | skip
      | halt x w' => cases x <;> simp only [Oper.upon] at h ⊢ <;> exact h
    · exact .inr h
  · rename_i hw
    rw [if_neg hw] at h
    exact h
/-- An operation without a guard that leaves the world as it is. -/
theorem Y_of {n : Nat} {σ : Nat → Value} {ds : List Deferred} {l : Sl} {dst : Option Nat} {op : Op} {ty : TypeId} {pos : String} {af : Array Edge} {v : Value}
    (h : ∀ w, S w → (execOp (Ac n σ ds l).eval ⟨dst, op, ty, pos, af, none⟩).run P w = .ok (.value v) w) : YieldsIf P ops S ⟨dst, op, ty, pos, af, none⟩ v (Ac n σ ds l) :=
  .inl ⟨by simp [Region.wanted], h⟩
theorem yld {n : Nat} {σ : Nat → Value} {ds : List Deferred} {l : Sl} {j t : Nat} {oj : Oper} {b : Bool} (hj : ops[j]? = some oj) (ht : oj.dst = some t) (hv : ev n l (.tmp t) = some (.bool b)) :
    yielded ops (Ac n σ ds l).tmps j = some b := by
  simp only [yielded, hj, Option.bind_some, ht]
  have h1 := eval_tmp (σ := σ) hv
  have hlt : t < n := by
    simp only [ev] at hv
    cases hx : Nat.blt t n with
    | false => rw [hx] at hv; cases hv
    | true => simpa [Nat.blt_eq] using hx
  have h2 : (fr n σ l)[t]? = some (.bool b) := by
    rw [← h1]; simp [Array.getD, fr, hlt]
  simp [Ac, h2]
theorem Y_yes {n : Nat} {σ : Nat → Value} {ds : List Deferred} {l : Sl} {dst : Option Nat} {op : Op} {ty : TypeId} {pos : String} {af : Array Edge} {v : Value} {j t : Nat} {want : Bool} {oj : Oper} {b : Bool}
    (hj : ops[j]? = some oj) (ht : oj.dst = some t) (hv : ev n l (.tmp t) = some (.bool b)) (hb : b = want)
    (h : ∀ w, S w → (execOp (Ac n σ ds l).eval ⟨dst, op, ty, pos, af, some (j, want)⟩).run P w = .ok (.value v) w) : YieldsIf P ops S ⟨dst, op, ty, pos, af, some (j, want)⟩ v (Ac n σ ds l) :=
  .inl ⟨by simp [Region.wanted, yld (σ := σ) (ds := ds) hj ht hv, hb], h⟩
theorem Y_no {n : Nat} {σ : Nat → Value} {ds : List Deferred} {l : Sl} {dst : Option Nat} {op : Op} {ty : TypeId} {pos : String} {af : Array Edge} {j t : Nat} {want : Bool} {oj : Oper} {b : Bool}
    (hj : ops[j]? = some oj) (ht : oj.dst = some t) (hv : ev n l (.tmp t) = some (.bool b)) (hb : b = !want) : YieldsIf P ops S ⟨dst, op, ty, pos, af, some (j, want)⟩ undef (Ac n σ ds l) :=
  .inr ⟨by simp [Region.wanted, yld (σ := σ) (ds := ds) hj ht hv, hb], rfl⟩
/-- These blocks are as they were. -/
def Same (w0 : World) (bs : List Nat) (w : World) : Prop := w0.heap.size ≤ w.heap.size ∧ ∀ b ∈ bs, b < w0.heap.size ∧ w.heap[b]? = w0.heap[b]?
theorem Same.refl {w : World} {bs : List Nat} (h : ∀ b ∈ bs, b < w.heap.size) : Same w bs w := ⟨Nat.le_refl _, fun b hb => ⟨h b hb, rfl⟩⟩
theorem Same.step {w0 w w' : World} {bs : List Nat} {row : Option Nat} (h : Same w0 bs w) (hg : w.grownBy w' row) (hr : ∀ b ∈ bs, some b ≠ row) : Same w0 bs w' :=
  ⟨Nat.le_trans h.1 hg.size, fun b hb => ⟨(h.2 b hb).1, (hg.block b (Nat.lt_of_lt_of_le (h.2 b hb).1 h.1) (hr b hb)).trans (h.2 b hb).2⟩⟩
theorem Same.gb {w0 w w' : World} {bs : List Nat} (h : Same w0 bs w) (hg : w.grownBy w' none) : Same w0 bs w' := h.step hg (fun _ _ e => by cases e)
theorem Same.cell {w0 w : World} {bs : List Nat} {g o : Nat} {v : Value} (h : Same w0 bs w) (hb : g ∈ bs) (hc : w0.cell? ⟨g, o, none⟩ = some v) : w.cell? ⟨g, o, none⟩ = some v :=
  (World.cell?_of_block (a := ⟨g, o, none⟩) (h.2 g hb).2).trans hc
theorem Same.at_ {w0 w : World} {bs : List Nat} {g o : Nat} {vs : List Value} (h : Same w0 bs w) (hb : g ∈ bs) (hc : At w0 g o vs) : At w g o vs := fun j v hj => h.cell hb (hc j v hj)
end
end Go.Proofs.Ytoipncaopdmicaa.Gw
namespace Go.Proofs.Ytoipncaopdmicaa.Gw
open Go.RowKit
set_option linter.unusedVariables false
set_option linter.unusedSimpArgs false
section
variable {ro : Option Nat} {P : Program} {Q : Exit → Act → World → Prop} {w w' w0 : World} {ops : Array Oper} {rest : List Oper} {a : Act}
variable {n : Nat} {σ : Nat → Value} {ds : List Deferred} {l : Sl} {d : Nat} {ty : TypeId} {pos : String} {af : Array Edge} {dst : Option Nat} {gd : Option (Nat × Bool)}
theorem C_if {c : Operand} {x y : Code} {p : Prop} [Decidable p] (hc : ev n l c = some (.bool (decide p))) (ht : p → x.wpIn (wF ro) 0 P Q (Ac n σ ds l) w) (hf : ¬ p → y.wpIn (wF ro) 0 P Q (Ac n σ ds l) w) :
    (Code.cond c x y).wpIn (wF ro) 0 P Q (Ac n σ ds l) w := C_cond hc (fun h => ht (of_decide_eq_true h)) (fun h => hf (of_decide_eq_false h))
theorem C_ifN {c : Operand} {x y : Code} {p : Prop} [Decidable p] (hc : ev n l c = some (.bool (decide (¬ p)))) (ht : ¬ p → x.wpIn (wF ro) 0 P Q (Ac n σ ds l) w) (hf : p → y.wpIn (wF ro) 0 P Q (Ac n σ ds l) w) :
    (Code.cond c x y).wpIn (wF ro) 0 P Q (Ac n σ ds l) w := C_cond hc (fun h => ht (of_decide_eq_true h)) (fun h => hf (Decidable.not_not.1 (of_decide_eq_false h)))
theorem gb_tr {row : Option Nat} (h : w0.grownBy w row) (k : w.grownBy w' none) : w0.grownBy w' row :=
  ⟨k.os.trans h.os, k.tape.trans h.tape, k.output.trans h.output, Nat.le_trans h.size k.size, fun i hi hne => (k.block i (Nat.lt_of_lt_of_le hi h.size) (by simp)).trans (h.block i hi hne)⟩
theorem gb_trg {g : Nat} {row : Option Nat} (h : w0.grownBy w row) (k : w.grownBy w' (some g)) (hg : w0.heap.size ≤ g) : w0.grownBy w' row :=
  ⟨k.os.trans h.os, k.tape.trans h.tape, k.output.trans h.output, Nat.le_trans h.size k.size, fun i hi hne => (k.block i (Nat.lt_of_lt_of_le hi h.size) (by intro e; injection e; omega)).trans (h.block i hi hne)⟩
theorem gb_tro {lo t sz m : Nat} {v : Value} {vs : List Value} {row : Option Nat} (h : w0.grownBy w row) (ho : w.ownsRow lo t sz v m vs) (k : w.grownBy w' v.ownBlock) (hg : w0.heap.size ≤ lo) : w0.grownBy w' row :=
  ⟨k.os.trans h.os, k.tape.trans h.tape, k.output.trans h.output, Nat.le_trans h.size k.size, fun i hi hne => (k.block i (Nat.lt_of_lt_of_le hi h.size) (by intro e; have := (ho.lt i e.symm).1; omega)).trans (h.block i hi hne)⟩
theorem eg_ge {g : Nat} {row : Option Nat} (h : w0.grownBy w row) (e : g = w.heap.size) : w0.heap.size ≤ g := by have := h.size; omega
theorem lt_of_eg {g g' : Nat} (h : g < w.heap.size) (e : g' = w.heap.size) : g < g' := by omega
theorem ne_lt {g g' : Nat} (h : g < g') : some g ≠ some g' := by intro e; injection e; omega
theorem ne_gt {g g' : Nat} (h : g' < g) : some g ≠ some g' := by intro e; injection e; omega
theorem At.pre {g o : Nat} {vs us : List Value} (h : At w g o us) (e : us.take vs.length = vs) : At w g o vs := fun j v hj => h j v (by
  rw [← e, List.getElem?_take] at hj
  split at hj
  · exact hj
  · cases hj)
theorem At.part {w : World} {g o k : Nat} {us vs : List Value} (h : At w g o us) (e : (us.drop k).take vs.length = vs) : At w g (o + k) vs := fun j v hj => by
  rw [Nat.add_assoc]
  refine h (k + j) v ?_
  rw [← e, List.getElem?_take] at hj
  split at hj
  · rwa [List.getElem?_drop] at hj
  · cases hj
theorem agr {t : Nat} {v v' : Value} (h : lk l t = some v) (e : v = v') : lk l t = some v' := e ▸ h
theorem R_conv' {s t2 : Nat} {x : Operand} {k k2 : IntKind} {a b : Int} (hx : ev n l x = some (.int k a)) (hs : anyB P s = true) (ht : intB P t2 k2 = true) (hb : k2.wrap a = b) :
    (execOp (Ac n σ ds l).eval ⟨dst, .convert s t2 x, ty, pos, af, gd⟩).run P w = .ok (.value (.int k2 b)) w := hb ▸ R_conv hx hs ht
theorem own_type_ne' {b b' e e' s s' n n' : Nat} {v v' : Value} {xs xs' : List Value} (h : w.ownsRow b e s v n xs) (h' : w.ownsRow b' e' s' v' n' xs') (hne : Nat.beq e e' = false) : v.ownBlock = none ∨ v.ownBlock ≠ v'.ownBlock := by
  rcases h.2 with ⟨rfl, _⟩ | ⟨g, cap, cur, rfl, _, hh, _⟩
  · exact .inl rfl
  · refine .inr fun hk => ?_
    rcases h'.2 with ⟨rfl, _⟩ | ⟨g', cap', cur', rfl, _, hh', _⟩
    · simp [Value.ownBlock] at hk
    · have : g = g' := by simpa [Value.ownBlock] using hk
      subst this
      rw [hh] at hh'
      injection hh' with hh'
      injection hh' with _ ht
      exact Nat.ne_of_beq_eq_false hne ht
theorem L_noU {op : Op} {j : Nat} {want : Bool} {oj : Oper} {t : Nat} (hj : ops[j]? = some oj) (ht : oj.dst = some t) (hv : ev n l (.tmp t) = some undef) (hn : Nat.blt d n = true)
    (K : wpL P ops Q rest (Ac n σ ds ((d, undef) :: l)) w) : wpL P ops Q (⟨some d, op, ty, pos, af, some (j, want)⟩ :: rest) (Ac n σ ds l) w := by
  unfold wpL
  have hy : yielded ops (Ac n σ ds l).tmps j = none := by
    simp only [yielded, hj, Option.bind_some, ht]
    have h1 := eval_tmp (σ := σ) hv
    have hlt : t < n := by
      simp only [ev] at hv
      cases hx : Nat.blt t n with
      | false => rw [hx] at hv; cases hv
      | true => simpa [Nat.blt_eq] using hx
    have h2 : (fr n σ l)[t]? = some undef := by
      rw [← h1]; simp [Array.getD, fr, hlt]
    simp [Ac, h2, undef]
  rw [if_neg (by simp [Region.wanted, hy])]
  rw [Ac_put hn]
  exact K
theorem Y_noU {ops : Array Oper} {S : World → Prop} {n : Nat} {σ : Nat → Value} {ds : List Deferred} {l : Sl} {dst : Option Nat} {op : Op} {ty : TypeId} {pos : String} {af : Array Edge} {j t : Nat} {want : Bool} {oj : Oper}
    (hj : ops[j]? = some oj) (ht : oj.dst = some t) (hv : ev n l (.tmp t) = some undef) : YieldsIf P ops S ⟨dst, op, ty, pos, af, some (j, want)⟩ undef (Ac n σ ds l) := by
  have hy : yielded ops (Ac n σ ds l).tmps j = none := by
    simp only [yielded, hj, Option.bind_some, ht]
    have h1 := eval_tmp (σ := σ) hv
    have hlt : t < n := by
      simp only [ev] at hv
      cases hx : Nat.blt t n with
      | false => rw [hx] at hv; cases hv
      | true => simpa [Nat.blt_eq] using hx
    have h2 : (fr n σ l)[t]? = some undef := by
      rw [← h1]; simp [Array.getD, fr, hlt]
    simp [Ac, h2, undef]
  exact .inr ⟨by simp [Region.wanted, hy], rfl⟩
theorem bD {p q : Prop} [Decidable p] [Decidable q] (h : p ↔ q) : Value.bool (decide p) = .bool (decide q) := by simp [h]
theorem bT {q : Prop} [Decidable q] (h : q) : Value.bool true = .bool (decide q) := by simp [h]
theorem bF {q : Prop} [Decidable q] (h : ¬ q) : Value.bool false = .bool (decide q) := by simp [h]
theorem Ac_frg {l' : Sl} (h : Agrees l l') : Ac n σ ds l = Ac n (fun i => (lk l i).getD (σ i)) ds l' := by
  simp only [Ac]
  congr 1
  simp only [fr]
  apply Array.map_congr_left
  intro i _
  cases h' : lk l' i with
  | none => rfl
  | some v => rw [lk_agrees h i v h']; rfl
theorem C_draw2 {id : Nat} {os : List Oper} (hd : (ro.isNone || os.all notDefer) = true) (hm : P.follows .mixedOrders = true)
    (h : ∀ w', w.grownBy w' none → w'.heap.size = w.heap.size → ∃ S qs, wpAnyT P .any os.toArray (CalmE Q) S qs os.length (Array.replicate os.length false) a w') : (Code.region id os.toArray true).wpIn (wF ro) 0 P Q a w :=
  wpIn_mono (wpIn_region_any hm (by
    obtain ⟨S, qs, h⟩ := h { w with drawn := w.drawn + 1 } ⟨rfl, rfl, rfl, Nat.le_refl _, fun _ _ _ => rfl⟩ rfl
    have := wpAnyIn_of_T (ro := ro) (by simpa using hd) _ _ _ _ h
    simpa using this)) CalmE.imp
theorem T_takeA {md : Region.Mode} {S : World → Prop} {qs : List Nat} {i : Nat} {op : Op} {v : Value} {fuel : Nat} {listed : Array Bool} (hi : ops[i]? = some ⟨some d, op, ty, pos, af, gd⟩) (hq : (qs.contains i && ShutB md ops listed i) = true)
    (hs : Region.noSelect ops = true) (hf : Region.free md ops listed i = true) (hr : (Region.ready md ops listed).contains i = true)
    (hy : YieldsIf P ops S ⟨some d, op, ty, pos, af, gd⟩ v (Ac n σ ds l)) (hS : S w) (hn : Nat.blt d n = true)
    (h : wpAnyT P md ops (CalmE Q) S qs fuel (listed.setIfInBounds i true) (Ac n σ ds ((d, v) :: l)) w) : wpAnyT P md ops (CalmE Q) S qs (fuel + 1) listed (Ac n σ ds l) w :=
  T_take hi hq hs hf hr hy hS (by rw [Ac_put hn]; exact h)
theorem all1 {p : Nat → Prop} {i : Nat} (h : p i) : ∀ j ∈ [i], p j := by intro j hj; simp at hj; subst hj; exact h
theorem all2 {p : Nat → Prop} {i k : Nat} (h : p i) (h' : p k) : ∀ j ∈ [i, k], p j := by intro j hj; simp at hj; rcases hj with rfl | rfl <;> assumption
theorem all3 {p : Nat → Prop} {i k m : Nat} (h : p i) (h' : p k) (h'' : p m) : ∀ j ∈ [i, k, m], p j := by intro j hj; simp at hj; rcases hj with rfl | rfl | rfl <;> assumption
end
end Go.Proofs.Ytoipncaopdmicaa.Gw
namespace Go.Proofs.Ytoipncaopdmicaa.Gw
open Go.RowKit
set_option linter.unusedVariables false
set_option linter.unusedSimpArgs false
def fl {α : Type} (enc : α → List Value) (xs : List α) : List Value := xs.flatMap enc
/-- Every element takes sz cells, each of them one cell. -/
structure Enc {α : Type} (enc : α → List Value) (sz : Nat) : Prop where
  len : ∀ x, (enc x).length = sz
  one : ∀ x, (enc x).all (·.oneCell') = true
section
variable {α : Type} {enc : α → List Value} {sz : Nat}
@[simp] theorem fl_nil : fl enc [] = [] := rfl
theorem fl_app (xs ys : List α) : fl enc (xs ++ ys) = fl enc xs ++ fl enc ys := by simp [fl]
theorem fl_cons (x : α) (xs : List α) : fl enc (x :: xs) = enc x ++ fl enc xs := by simp [fl]
theorem fl_len (h : Enc enc sz) : ∀ xs : List α, (fl enc xs).length = xs.length * sz
  | [] => by simp
  | x :: xs => by rw [fl_cons, List.length_append, h.len, fl_len h xs, List.length_cons, Nat.add_mul, Nat.one_mul, Nat.add_comm]
theorem fl_all (h : Enc enc sz) (xs : List α) : ∀ u ∈ fl enc xs, u.oneCell' = true := by
  intro u hu
  obtain ⟨x, _, hx⟩ := List.mem_flatMap.1 hu
  exact List.all_eq_true.1 (h.one x) u hx
theorem fl_drop (h : Enc enc sz) : ∀ (i : Nat) (xs : List α), (fl enc xs).drop (i * sz) = fl enc (xs.drop i)
  | 0, xs => by simp
  | i + 1, [] => by simp
  | i + 1, x :: xs => by
    rw [fl_cons, List.drop_succ_cons, ← fl_drop h i xs, Nat.add_mul, Nat.one_mul, Nat.add_comm, ← List.drop_drop, List.drop_left' (h.len x)]
theorem fl_get (h : Enc enc sz) {xs : List α} {i : Nat} (hi : i < xs.length) : ((fl enc xs).drop (i * sz)).take sz = enc xs[i] := by
  rw [fl_drop h, List.drop_eq_getElem_cons hi, fl_cons, List.take_left' (h.len _)]
end
def encB (b : UInt8) : List Value := [.int .u8 (b.toNat : Int)]
theorem EncB : Enc encB 1 := ⟨fun _ => rfl, fun _ => rfl⟩
theorem byts_fl (l : List UInt8) : byts l = fl encB l := by
  induction l with
  | nil => rfl
  | cons b l ih => rw [byts_cons, ih, fl_cons]; rfl
section
variable {P : Program} {Q : Exit → Act → World → Prop} {w w' : World} {ops : Array Oper} {rest : List Oper}
variable {n : Nat} {σ : Nat → Value} {ds : List Deferred} {l : Sl} {d : Nat} {ty : TypeId} {pos : String} {af : Array Edge} {dst : Option Nat} {gd : Option (Nat × Bool)}
variable {α : Type} {enc : α → List Value} {t e te sz by_ c lo hi : Nat} {x : Operand} {A : Option Addr} {xs : List α}
theorem T_append {c2 lo2 hi2 : Nat} {s : Operand} {A2 : Option Addr} {ys : List α} (he : Enc enc sz) (hs : slcB P t e sz by_ = true) (hv : ev n l s = some (.slice A xs.length c)) (hx : ev n l x = some (.slice A2 ys.length c2))
    (ho : w.ownsRow lo e sz (.slice A xs.length c) xs.length (fl enc xs)) (hr : Sli te lo2 hi2 w A2 (fl enc ys)) (hb : (xs.length + ys.length) * by_ ≤ 140737488355328) (hlo : lo ≤ w.heap.size) (hn : Nat.blt d n = true)
    (K : ∀ A' c' w', w'.ownsRow lo e sz (.slice A' (xs ++ ys).length c') (xs ++ ys).length (fl enc (xs ++ ys)) → w.grownBy w' (Value.slice A xs.length c).ownBlock →
      ((Value.slice A' (xs ++ ys).length c').ownBlock = (Value.slice A xs.length c).ownBlock ∨ (Value.slice A' (xs ++ ys).length c').ownBlock = some w.heap.size) → wpL P ops Q rest (Ac n σ ds ((d, .slice A' (xs ++ ys).length c') :: l)) w') :
    wpL P ops Q (⟨some d, .call ⟨.builtin .append, #[s, x], #[t, t]⟩, ty, pos, af, none⟩ :: rest) (Ac n σ ds l) w :=
  L_append hs hv hx ho hr (fl_len he ys) (fl_all he ys) hb hlo hn (fun A' c' w' h1 h2 h3 => by
    have := K A' c' w'
    rw [List.length_append, fl_app] at this
    exact this h1 h2 h3)
theorem T_index {k : IntKind} {a : Int} {i : Nat} {y : Operand} (he : Enc enc sz) (hx : ev n l x = some (.slice A xs.length c)) (hy : ev n l y = some (.int k a)) (ha : a = (i : Int)) (hs : slcB P t e sz by_ = true) (hi' : i < xs.length)
    (hS : Sli te lo hi w A (fl enc xs)) (hn : Nat.blt d n = true)
    (K : ∀ g o, At w g o (enc xs[i]) → wpL P ops Q rest (Ac n σ ds ((d, .pointer (some ⟨g, o, none⟩)) :: l)) w) :
    wpL P ops Q (⟨some d, .indexAddr t x y, ty, pos, af, none⟩ :: rest) (Ac n σ ds l) w :=
  L_index hx hy ha hs hi' hS (fl_len he xs) hn (fun g o h => K g o (by rw [fl_get he hi'] at h; exact h))
/-- The same, the row's place known (for a region that draws its order). -/
theorem Sli.place (he : Enc enc sz) (h : Sli te lo hi w A (fl enc xs)) {i : Nat} (hi' : i < xs.length) (h0 : 0 < sz) : ∃ g off, A = some ⟨g, off, none⟩ ∧ At w g (off + i * sz) (enc xs[i]) := by
  have hl := fl_len he xs
  have hle : (i + 1) * sz ≤ xs.length * sz := Nat.mul_le_mul_right _ hi'
  rw [Nat.add_mul, Nat.one_mul] at hle
  obtain ⟨g, off, hA, hat⟩ := h.at_ (i * sz) sz (by omega) h0
  exact ⟨g, off, hA, by rw [fl_get he hi'] at hat; exact hat⟩
theorem R_index {k : IntKind} {a : Int} {i m g off : Nat} {y : Operand} (hx : ev n l x = some (.slice (some ⟨g, off, none⟩) m c)) (hy : ev n l y = some (.int k a)) (ha : a = (i : Int)) (hs : slcB P t e sz by_ = true) (hi' : i < m) :
    (execOp (Ac n σ ds l).eval ⟨dst, .indexAddr t x y, ty, pos, af, gd⟩).run P w = .ok (.value (.pointer (some ⟨g, off + i * sz, none⟩))) w := by
  obtain ⟨hu, inf, z, hinf, hz, e1, e2, e3, e4, e5⟩ := slcB_u hs
  subst ha
  simp only [execOp, ev_eval hx, ev_eval hy]
  refine v_run ?_
  simp [Instr.indexAt, asIntOf, run_underlying hu, hi', sizeOf, typeInfo, hinf, e1, Addr.add_lit]
theorem R_indexE {k : IntKind} {a : Int} {i m g off r : Nat} {y : Operand} (hx : ev n l x = some (.slice A m c)) (hy : ev n l y = some (.int k a)) (ha : a = (i : Int)) (hs : slcB P t e sz by_ = true) (hi' : i < m) (hA : A = some ⟨g, off, none⟩) (hr : off + i * sz = r) :
    (execOp (Ac n σ ds l).eval ⟨dst, .indexAddr t x y, ty, pos, af, gd⟩).run P w = .ok (.value (.pointer (some ⟨g, r, none⟩))) w := by
  subst hA; subst hr
  exact R_index hx hy ha hs hi'
theorem Sli.place' (he : Enc enc sz) (h : Sli te lo hi w A (fl enc xs)) {i : Nat} (hi' : i < xs.length) (h0 : Nat.blt 0 sz = true) : ∃ g off r, A = some ⟨g, off, none⟩ ∧ off + i * sz = r ∧ At w g r (enc xs[i]) := by
  obtain ⟨g, off, h1, h2⟩ := h.place he hi' (by simpa using h0)
  exact ⟨g, off, _, h1, rfl, h2⟩
theorem R_b2s' {t' : TypeId} {bs : List UInt8} (hx : ev n l x = some (.slice A bs.length c)) (ht : slcB P t e 1 1 = true) (he : intB P e .u8 = true) (hs : strB P t' = true)
    (hS : Sli te lo hi w A (fl encB bs)) :
    (execOp (Ac n σ ds l).eval ⟨dst, .convert t t' x, ty, pos, af, gd⟩).run P w = .ok (.value (.string ⟨bs.toArray⟩)) w :=
  R_b2s hx ht he hs (by rw [byts_fl]; exact hS) rfl
theorem R_eqv {op : Oper} {a : Act} {v v' : Value} (h : (execOp a.eval op).run P w = .ok (.value v) w) (e : v = v') : (execOp a.eval op).run P w = .ok (.value v') w := e ▸ h
end
section structs
variable {P : Program} {w : World} {n : Nat} {σ : Nat → Value} {ds : List Deferred} {l : Sl} {ty : TypeId} {pos : String} {af : Array Edge} {dst : Option Nat} {gd : Option (Nat × Bool)}
variable {t t' : TypeId} {x y : Operand} {xs ys : Array Value} {p : Prop} [Decidable p]
theorem run_part1 {t : TypeId} {cs : Array Value} {off : Nat} {v : Value} (ht : sclB P t = true) (hc : cs[off]? = some v) : (part t cs off).run P w = .ok v w := by
  simp [part, run_isAgg_no ht, hc]
theorem eqs_int {d : Nat} {k : IntKind} {a b : Int} (h : intB P t k = true) : (Op.equalIn (d + 1) t (.int k a) (.int k b)).run P w = .ok (decide (a = b)) w := by
  rw [run_equalIn_int w d t k k a b (intB_u h), Bool.beq_eq_decide_eq a b]
theorem R_neqA (hx : ev n l x = some (.agg xs)) (hy : ev n l y = some (.agg ys)) (hg : P.eqGuardType P.depth t = false) (he : (Op.equalIn 10000 t (.agg xs) (.agg ys)).run P w = .ok (decide p) w) :
    (execOp (Ac n σ ds l).eval ⟨dst, .binOp .neq t x y t', ty, pos, af, gd⟩).run P w = .ok (.value (.bool (decide (¬ p)))) w := by
  simp only [execOp, ev_eval hx, ev_eval hy]
  refine v_run ?_
  simp only [Sem.run_bind, run_eqGuard_agg w .neq t x y xs ys hg, Result.andThen_ok, run_neq_struct, he, decide_not]
end structs
section ints
variable {P : Program} {w : World} {n : Nat} {σ : Nat → Value} {ds : List Deferred} {l : Sl} {ty : TypeId} {pos : String} {af : Array Edge} {dst : Option Nat} {gd : Option (Nat × Bool)}
variable {t t' : TypeId} {x y : Operand} {k k' : IntKind} {a b : Int}
theorem R_quo (hx : ev n l x = some (.int k a)) (hy : ev n l y = some (.int k b)) (hb : b ≠ 0) : (execOp (Ac n σ ds l).eval ⟨dst, .binOp .quo t x y t', ty, pos, af, gd⟩).run P w = .ok (.value (.int k (k.wrap (a.tdiv b)))) w := by
  simp [execOp, ev_eval hx, ev_eval hy, eqGuard, binOp, Op.intDiv, hb]
theorem R_rem (hx : ev n l x = some (.int k a)) (hy : ev n l y = some (.int k b)) (hb : b ≠ 0) : (execOp (Ac n σ ds l).eval ⟨dst, .binOp .rem t x y t', ty, pos, af, gd⟩).run P w = .ok (.value (.int k (a.tmod b))) w := by
  simp [execOp, ev_eval hx, ev_eval hy, eqGuard, binOp, Op.intDiv, hb]
end ints
section leave
variable {P : Program} {fn : Func} {R : Value → World → Prop} {w : World} {n : Nat} {σ : Nat → Value} {l : Sl}
theorem get_tmp {t : Nat} {v : Value} (h : ev n l (.tmp t) = some v) : (fr n σ l)[t]?.getD undef = v := by rw [← Array.getD_eq_getD_getElem?]; exact eval_tmp h
theorem run_cell {t sz g : Nat} {vs : List Value} (ht : aggB P t sz = true) (hc : At w g 0 vs) (hs : vs.length = sz) : (loadVar t ⟨g, 0, none⟩).run P w = .ok (.agg vs.toArray) w := by
  subst hs
  simp [loadVar, run_isAgg_yes ht, run_sizeOf (aggB_sz ht), run_loadCells' hc]
theorem retC {a t sz g : Nat} {vs : List Value} (hr : fn.results = #[.cell a t]) (ha : ev n l (.tmp a) = some (.pointer (some ⟨g, 0, none⟩))) (ht : aggB P t sz = true) (hc : At w g 0 vs) (hs : vs.length = sz)
    (hR : R (.agg vs.toArray) w) : bodyPost P fn (RetOf R) .ret (Ac n σ [] l) w := by
  refine bodyPost_ret (v := .agg vs.toArray) ?_ rfl hR
  have h1 := get_tmp (σ := σ) ha
  simp [results, hr, Ac, h1, asAddr, run_cell ht hc hs]
theorem retC1 {a t sz g u : Nat} {vs : List Value} {v : Value} (hr : fn.results = #[.cell a t, .tmp u]) (ha : ev n l (.tmp a) = some (.pointer (some ⟨g, 0, none⟩))) (ht : aggB P t sz = true) (hc : At w g 0 vs) (hs : vs.length = sz)
    (hv : ev n l (.tmp u) = some v) (hR : R (.tuple #[.agg vs.toArray, v]) w) : bodyPost P fn (RetOf R) .ret (Ac n σ [] l) w := by
  refine bodyPost_ret (v := .tuple #[.agg vs.toArray, v]) ?_ rfl hR
  have h1 := get_tmp (σ := σ) ha
  have h2 := get_tmp (σ := σ) hv
  simp [results, hr, Ac, h1, h2, asAddr, run_cell ht hc hs]
theorem retC2 {a t sz g u s : Nat} {vs : List Value} {v v' : Value} (hr : fn.results = #[.cell a t, .tmp u, .tmp s]) (ha : ev n l (.tmp a) = some (.pointer (some ⟨g, 0, none⟩))) (ht : aggB P t sz = true) (hc : At w g 0 vs) (hs : vs.length = sz)
    (hv : ev n l (.tmp u) = some v) (hv' : ev n l (.tmp s) = some v') (hR : R (.tuple #[.agg vs.toArray, v, v']) w) : bodyPost P fn (RetOf R) .ret (Ac n σ [] l) w := by
  refine bodyPost_ret (v := .tuple #[.agg vs.toArray, v, v']) ?_ rfl hR
  have h1 := get_tmp (σ := σ) ha
  have h2 := get_tmp (σ := σ) hv
  have h3 := get_tmp (σ := σ) hv'
  simp [results, hr, Ac, h1, h2, h3, asAddr, run_cell ht hc hs]
end leave
end Go.Proofs.Ytoipncaopdmicaa.Gw
namespace Go.Proofs.Ytoipncaopdmicaa.Gw
open Go.RowKit Go.Deep
set_option linter.unusedVariables false
set_option linter.unusedSimpArgs false
section
variable {H : Type} {enc : TypeId × Value → H} {P : Program} {W : World}
/-- What type t's cells read as: a datum y, its cells e y, and what is good of it. -/
def Rdr (enc : TypeId × Value → H) (P : Program) (W : World) (t : TypeId) {X : Type} (e : X → List Value) (good : X → Prop) : Prop :=
  ∀ (fuel : Nat) (cs : List Value) (x : DataW H × List MemPlace), DataW.trod enc P W 0 (fun _ => true) true fuel t cs = some x → (x.1.weights P t).all (· ≤ reachBytes) = true → ∃ y, cs = e y ∧ good y
theorem Rdr.map {t : TypeId} {X Y : Type} {e : X → List Value} {good : X → Prop} {e' : Y → List Value} {good' : Y → Prop} (R : Rdr enc P W t e good) (g : X → Y) (he : ∀ y, good y → e y = e' (g y)) (hg : ∀ y, good y → good' (g y)) : Rdr enc P W t e' good' := by
  intro fuel cs x h hw
  obtain ⟨y, rfl, hy⟩ := R fuel cs x h hw
  exact ⟨g y, he y hy, hg y hy⟩
theorem Rdr.int {t : TypeId} {k : IntKind} (ht : P.underlying t = some (.int k)) : Rdr enc P W t (fun n : Int => [.int k n]) (fun n => (Lit.int k n).wf = true) := by
  intro fuel cs x h hw
  obtain ⟨n, rfl, rfl, hn⟩ := DataW.trod_int ht h
  exact ⟨n, rfl, hn⟩
theorem Rdr.bool {t : TypeId} (ht : P.underlying t = some .bool) : Rdr enc P W t (fun b : Bool => [.bool b]) (fun _ => True) := by
  intro fuel cs x h hw
  obtain ⟨n, rfl, rfl⟩ := DataW.trod_bool ht h
  exact ⟨n, rfl, trivial⟩
theorem Rdr.str {t : TypeId} (ht : P.underlying t = some .string) : Rdr enc P W t (fun s : ByteArray => [.string s]) (fun s => s.size ≤ 140737488351232) := by
  intro fuel cs x h hw
  obtain ⟨n, rfl, rfl, hn⟩ := DataW.trod_string ht h
  refine ⟨n, rfl, ?_⟩
  have := List.all_eq_true.1 hw _ (List.mem_singleton.2 rfl)
  have h2 : n.data.toList.length ≤ reachBytes := of_decide_eq_true this
  have e1 : n.data.toList.length = n.size := by cases n; simp [ByteArray.size]
  have e2 : reachBytes = 140737488351232 := by decide
  omega
theorem list_of_lt {X : Type} {p : Nat → X → Prop} : ∀ {n : Nat}, (∀ i, i < n → ∃ x, p i x) → ∃ ys : List X, ys.length = n ∧ ∀ i x, ys[i]? = some x → p i x
  | 0, _ => ⟨[], rfl, fun i x h => by simp at h⟩
  | n + 1, h => by
    obtain ⟨ys, hl, hy⟩ := list_of_lt (n := n) (fun i hi => h i (by omega))
    obtain ⟨x, hx⟩ := h n (by omega)
    refine ⟨ys ++ [x], by simp [hl], fun i z hz => ?_⟩
    rcases Nat.lt_or_ge i n with hin | hin
    · rw [List.getElem?_append_left (by omega)] at hz
      exact hy i z hz
    · rw [List.getElem?_append_right (by omega)] at hz
      have : i - ys.length = 0 := by
        rcases Nat.eq_zero_or_pos (i - ys.length) with h0 | h0
        · exact h0
        · rw [List.getElem?_eq_none (by simp; omega)] at hz; cases hz
      rw [this] at hz
      have e : i = n := by omega
      subst e
      injection hz with hz
      subst hz
      exact hx
theorem fl_get? {X : Type} {ec : X → List Value} {sz : Nat} (he : Enc ec sz) {ys : List X} {j : Nat} {v : Value} (h : (fl ec ys)[j]? = some v) : ∃ i k y, ys[i]? = some y ∧ (ec y)[k]? = some v ∧ k < sz ∧ j = i * sz + k := by
  have hj : j < (fl ec ys).length := (List.getElem?_eq_some_iff.1 h).1
  rw [fl_len he] at hj
  have hs : 0 < sz := by
    rcases Nat.eq_zero_or_pos sz with h0 | h0
    · rw [h0] at hj; simp at hj
    · exact h0
  have hi : j / sz < ys.length := Nat.div_lt_of_lt_mul (by rw [Nat.mul_comm]; exact hj)
  refine ⟨j / sz, j % sz, ys[j / sz], by simp [hi], ?_, Nat.mod_lt _ hs, by rw [Nat.mul_comm]; exact (Nat.div_add_mod j sz).symm⟩
  have := fl_get he hi
  rw [← this, List.getElem?_take_of_lt (Nat.mod_lt _ hs), List.getElem?_drop]
  rw [show j / sz * sz + j % sz = j by rw [Nat.mul_comm]; exact Nat.div_add_mod j sz]
  exact h
theorem weights_all_mem {e : TypeId} {d : DataW H} : ∀ {l : List (DataW H)}, d ∈ l → ∀ n ∈ d.weights P e, n ∈ DataW.weightsAll P e l
  | x :: l, h, n, hn => by
    simp only [DataW.weightsAll, List.mem_append]
    rcases List.mem_cons.1 h with rfl | h
    · exact .inl hn
    · exact .inr (weights_all_mem h n hn)
theorem Rdr.slice {t e : TypeId} {sz by_ : Nat} {X : Type} {ec : X → List Value} {good : X → Prop} (R : Rdr enc P W e ec good) (he : Enc ec sz) (ht : P.underlying t = some (.slice e)) (hs : P.cellsOf e = sz) (hb : P.bytesOf e = by_) :
    Rdr enc P W t (fun y : Option Addr × Nat × List X => [.slice y.1 y.2.2.length y.2.1])
      (fun y => Sli 0 0 W.heap.size W y.1 (fl ec y.2.2) ∧ y.2.2.length ≤ y.2.1 ∧ y.2.1 * by_ ≤ 140737488351232 ∧ ∀ x ∈ y.2.2, good x) := by
  intro fuel cs x h hw
  rcases open_slice ht h with ⟨rfl, rfl⟩ | ⟨a, len, cap, m, n, D, Pl, rfl, _, hl, hm, hmm, rfl, hx⟩
  · exact ⟨(none, 0, []), rfl, .inl rfl, Nat.le_refl _, by simp, fun x hx => by cases hx⟩
  simp only [if_true] at hmm
  subst hmm
  rw [hs] at hx
  simp only [DataW.weights, ht, List.all_cons, Bool.and_eq_true, List.all_append, hb, decide_eq_true_eq] at hw
  obtain ⟨hw1, hw2, _⟩ := hw
  have hkey : ∀ i, i < len → ∃ y, (∀ k, k < sz → W.cell? ((a.add (i * sz)).add k) = (ec y)[k]?) ∧ good y := by
    intro i hi
    obtain ⟨cs', h1, h2⟩ := hx i (by omega)
    obtain ⟨_, hlen, hc⟩ := World.cells?_some h1
    obtain ⟨y, rfl, hy⟩ := R n cs' _ h2 (by
      refine List.all_eq_true.2 fun q hq => ?_
      exact List.all_eq_true.1 hw2 _ (weights_all_mem (List.mem_map.2 ⟨i, by simpa using hi, rfl⟩) q hq))
    exact ⟨y, hc, hy⟩
  obtain ⟨ys, hys, hyy⟩ := list_of_lt hkey
  refine ⟨(some a, m, ys), by rw [← hys], ?_, by rw [hys]; exact hl, ?_, ?_⟩
  · have key : ∀ j v, (fl ec ys)[j]? = some v → a.spot = none ∧ ∃ c t' fr, W.heap[a.block]? = some (.cells c t' fr) ∧ c[a.off + j]? = some v := by
      intro j v hj
      obtain ⟨i, k, y, hi, hk, hks, rfl⟩ := fl_get? he hj
      have hc := (hyy i y hi).1 k hks
      rw [hk] at hc
      have hq : ∀ q : Addr, q.block = a.block → q.off = a.off + (i * sz + k) → (a.spot = none ∨ q.spot = none) → W.cell? q = some v → ∃ c t' fr, W.heap[a.block]? = some (.cells c t' fr) ∧ c[a.off + (i * sz + k)]? = some v := by
        intro q hq1 hq2 _ hq3
        unfold World.cell? at hq3
        rw [hq1] at hq3
        split at hq3
        · rename_i c t' fr hh
          split at hq3
          · cases hq3
          · exact ⟨c, t', fr, hh, by rw [← hq2]; exact hq3⟩
        · cases hq3
      have hsp : a.spot = none := by
        have hpos : 0 < ys.length := Nat.lt_of_le_of_lt (Nat.zero_le _) (List.getElem?_eq_some_iff.1 hi).1
        have h0 := (hyy 0 ys[0] (List.getElem?_eq_getElem hpos)).1 0 (by omega)
        have hl0 : 0 < (ec ys[0]).length := by rw [he.len]; omega
        rw [List.getElem?_eq_getElem hl0] at h0
        simp only [Nat.zero_mul, Addr.add, if_true] at h0
        unfold World.cell? at h0
        split at h0
        · split at h0
          · cases h0
          · rename_i hn; simpa using hn
        · cases h0
      refine ⟨hsp, hq ((a.add (i * sz)).add k) ?_ ?_ (.inl hsp) hc⟩
      · unfold Addr.add; split <;> split <;> rfl
      · unfold Addr.add; split <;> split <;> simp_all <;> omega
    rcases Classical.em (fl ec ys = []) with h0 | h0
    · exact .inl h0
    · obtain ⟨v, hv⟩ : ∃ v, (fl ec ys)[0]? = some v := by
        cases hh : fl ec ys with
        | nil => exact absurd hh h0
        | cons v l => exact ⟨v, rfl⟩
      obtain ⟨hsp, c, t', fr, h1, h2⟩ := key 0 v hv
      refine .inr ⟨a.block, a.off, c, fr, ?_, Nat.zero_le _, (Array.getElem?_eq_some_iff.1 h1).1, ⟨t', h1, .inl rfl⟩, ?_⟩
      · cases a; simp_all
      · intro j v hj
        obtain ⟨_, c', t2, fr2, h3, h4⟩ := key j v hj
        rw [h1] at h3
        injection h3 with h3
        injection h3 with h3
        subst h3
        exact h4
  · have e2 : reachBytes = 140737488351232 := by decide
    have : len + (m - len) = m := by omega
    simp only [List.length_map, List.length_range, this] at hw1
    show m * by_ ≤ _
    omega
  · intro y hy
    obtain ⟨i, hi, rfl⟩ := List.mem_iff_getElem.1 hy
    exact (hyy i _ (List.getElem?_eq_getElem hi)).2
/-- The fields of a struct, from cell off on. -/
def Rds (enc : TypeId × Value → H) (P : Program) (W : World) (fs : List Field) (off : Nat) {X : Type} (e : X → List Value) (good : X → Prop) : Prop :=
  ∀ (n : Nat) (cs : List Value) (xs : List (DataW H × List MemPlace)), (∀ (i : Nat) (f : Field), fs[i]? = some f → off ≤ f.offset ∧ DataW.trod enc P W 0 (fun _ => true) true n f.type ((cs.drop (f.offset - off)).take (P.cellsOf f.type)) = xs[i]?) → xs.length = fs.length →
    cs.length = (fs.map fun f : Field => P.cellsOf f.type).sum → (DataW.weightsEach P (fs.map (·.type)) (xs.map (·.1))).all (· ≤ reachBytes) = true → ∃ y, cs = e y ∧ good y
theorem Rds.nil {off : Nat} : Rds enc P W [] off (fun _ : Unit => []) (fun _ => True) := by
  intro n cs xs _ _ hl _
  exact ⟨(), List.eq_nil_of_length_eq_zero (by simpa using hl), trivial⟩
theorem Rds.cons {f : Field} {fs : List Field} {off sz : Nat} {X Y : Type} {e1 : X → List Value} {g1 : X → Prop} {e2 : Y → List Value} {g2 : Y → Prop} (R : Rdr enc P W f.type e1 g1) (hs : P.cellsOf f.type = sz) (ho : f.offset = off) (hge : fs.all (fun f : Field => Nat.ble (off + sz) f.offset) = true) (T : Rds enc P W fs (off + sz) e2 g2) :
    Rds enc P W (f :: fs) off (fun y : X × Y => e1 y.1 ++ e2 y.2) (fun y => g1 y.1 ∧ g2 y.2) := by
  intro n cs xs hf hx hl hw
  cases xs with
  | nil => simp at hx
  | cons x xs =>
    simp only [List.map_cons, List.sum_cons, hs] at hl
    simp only [List.map_cons, DataW.weightsEach, List.all_append, Bool.and_eq_true] at hw
    have h0 := (hf 0 f rfl).2
    rw [ho, Nat.sub_self, List.drop_zero, hs] at h0
    obtain ⟨y1, h1, hy1⟩ := R n _ x h0 hw.1
    obtain ⟨y2, h2, hy2⟩ := T n (cs.drop sz) xs (fun i f' hi => by
      have hi' := hf (i + 1) f' hi
      have hle : off + sz ≤ f'.offset := by
        have := List.all_eq_true.1 hge f' (List.mem_of_getElem? hi)
        simpa [Nat.ble_eq] using this
      refine ⟨hle, ?_⟩
      rw [List.drop_drop]
      rw [show sz + (f'.offset - (off + sz)) = f'.offset - off by omega]
      exact hi'.2) (by simpa using hx) (by rw [List.length_drop]; omega) hw.2
    refine ⟨(y1, y2), ?_, hy1, hy2⟩
    show cs = e1 y1 ++ e2 y2
    rw [← h1, ← h2, List.take_append_drop]
theorem Rdr.struct {t : TypeId} {fs : Array Field} {fl : List Field} {X : Type} {e : X → List Value} {good : X → Prop} (ht : P.underlying t = some (.struct fs)) (hfl : fs.toList = fl) (hc : P.cellsOf t = (fl.map fun f : Field => P.cellsOf f.type).sum) (R : Rds enc P W fl 0 e good) : Rdr enc P W t e good := by
  intro fuel cs x h hw
  obtain ⟨xs, n, rfl, rfl, hl, hx, hi⟩ := DataW.trod_struct ht h
  subst hfl
  refine R n cs xs (fun i f hf => ⟨Nat.zero_le _, ?_⟩) (by simpa using hx) (by rw [hl, hc]) ?_
  · rw [Nat.sub_zero]
    exact hi i f (by simpa using hf)
  · simpa only [DataW.weights, ht] using hw
/-- One argument. -/
theorem Rdr.arg {t : TypeId} {X : Type} {e : X → List Value} {good : X → Prop} (R : Rdr enc P W t e good) {ts : List TypeId} {ds : List (DataW H)} (hsz : (DataW.weightsEach P ts ds).all (· ≤ reachBytes) = true) {j : Nat} {v : Value} {d : DataW H} {ps : List MemPlace}
    (ht : ts[j]? = some t) (hd : ds[j]? = some d) (h : DataW.Trod enc P W 0 (fun _ => true) true t v d ps) : ∃ y, v.cells.toList = e y ∧ good y := by
  obtain ⟨fuel, h⟩ := h
  exact R fuel _ _ h (List.all_eq_true.2 fun n hn => List.all_eq_true.1 hsz n (DataW.weights_mem_each ht hd n hn))
end
theorem of_cell {v u : Value} (h : v.cells.toList = [u]) (hv : ∀ cs, v ≠ .agg cs) : v = u := by
  cases v <;> simp_all [Value.cells]
end Go.Proofs.Ytoipncaopdmicaa.Gw
namespace Go.Proofs.Ytoipncaopdmicaa.Gw
open Go.RowKit
set_option linter.unusedVariables false
set_option linter.unusedSimpArgs false
section
variable {P : Program} {w : World} {n : Nat} {σ : Nat → Value} {ds : List Deferred} {l : Sl} {ty : TypeId} {pos : String} {af : Array Edge} {dst : Option Nat} {gd : Option (Nat × Bool)}
variable {t t' : TypeId} {x y : Operand} {p q : Prop} [Decidable p] [Decidable q] {a b : Bool}
theorem run_neqB (ht : P.underlying t = some .bool) : (binOp .neq t (.bool a) (.bool b)).run P w = .ok (.bool (!(a == b))) w := by
  simp only [binOp, Op.equal, Op.maxDepth, Sem.run_bind, run_equalIn_bool w 9999 t a b ht, Result.andThen_ok]; rfl
theorem R_neqB (hx : ev n l x = some (.bool a)) (hy : ev n l y = some (.bool b)) (ht : P.underlying t = some .bool) :
    (execOp (Ac n σ ds l).eval ⟨dst, .binOp .neq t x y t', ty, pos, af, gd⟩).run P w = .ok (.value (.bool (!(a == b)))) w := by
  simp only [execOp, ev_eval hx, ev_eval hy]
  refine v_run ?_
  simp [eqGuard, run_neqB ht]
theorem bT' (h : p) : Value.bool (decide p) = .bool true := by simp [h]
theorem bF' (h : ¬ p) : Value.bool (decide p) = .bool false := by simp [h]
theorem R_addS {s r : ByteArray} (hx : ev n l x = some (.string s)) (hy : ev n l y = some (.string r)) (hb : s.size + r.size ≤ 9223372036854775807) :
    (execOp (Ac n σ ds l).eval ⟨dst, .binOp .add t x y t', ty, pos, af, gd⟩).run P w = .ok (.value (.string (s ++ r))) w := by
  have : ¬ (((s.size + r.size : Nat) : Int) > IntKind.i64.max) := by rw [show IntKind.i64.max = 9223372036854775807 from rfl]; omega
  simp only [execOp, ev_eval hx, ev_eval hy]
  refine v_run ?_
  simp only [eqGuard, binOp, Op.stringOp, if_neg this]
  rfl
end
theorem Sli.raw {t lo hi : Nat} {w : World} {A : Option Addr} {vs : List Value} (h : Sli t lo hi w A vs) : Sli 0 0 w.heap.size w A vs := by
  rcases h with h | ⟨g, off, c, fr, hA, h1, h2, ⟨t', h3, ht⟩, h4⟩
  · exact .inl h
  · exact .inr ⟨g, off, c, fr, hA, Nat.zero_le _, (Array.getElem?_eq_some_iff.1 h3).1, ⟨t', h3, .inl rfl⟩, h4⟩
section
variable {P : Program} {Q : Exit → Act → World → Prop} {w w' : World} {ops : Array Oper} {rest : List Oper}
variable {n : Nat} {σ : Nat → Value} {ds : List Deferred} {l : Sl} {d : Nat} {ty : TypeId} {pos : String} {af : Array Edge}
end
/-- A row of bytes as a value: where it begins, its room, its bytes. -/
structure Bys where
  a : Option Addr
  c : Nat
  xs : List UInt8
/-- Rows of bytes within a row, all of them older than the bound. -/
def Deep (hi : Nat) (w : World) (ls : List Bys) : Prop := ∀ y ∈ ls, Sli 0 0 hi w y.a (fl encB y.xs)
section
variable {hi : Nat} {w w' : World} {ls : List Bys}
theorem Deep.gb (h : Deep hi w ls) (hg : w.grownBy w' none) : Deep hi w' ls := fun y hy => (h y hy).gb hg
theorem Deep.old {g : Nat} (h : Deep hi w ls) (hg : w.grownBy w' (some g)) (hr : hi ≤ g) : Deep hi w' ls := fun y hy => (h y hy).old hg hr
theorem Deep.own {base t sz m : Nat} {v : Value} {us : List Value} (h : Deep hi w ls) (ho : w.ownsRow base t sz v m us) (hb : hi ≤ base) (hg : w.grownBy w' v.ownBlock) : Deep hi w' ls :=
  fun y hy => (h y hy).grown hg (fun k hk => .inr (Nat.le_trans hb (World.ownsRow.lt ho k hk).1))
theorem Deep.get (h : Deep hi w ls) {i : Nat} (hi' : i < ls.length) : Sli 0 0 hi w ls[i].a (fl encB ls[i].xs) := h _ (List.getElem_mem _)
theorem Deep.one {t lo hi2 : Nat} {A : Option Addr} {c : Nat} {xs : List UInt8} (h : Sli t lo hi2 w A (fl encB xs)) : Deep w.heap.size w [⟨A, c, xs⟩] := by
  intro y hy
  rw [List.mem_singleton] at hy
  subst hy
  exact h.raw
end
end Go.Proofs.Ytoipncaopdmicaa.Gw
namespace Go.Proofs.Ytoipncaopdmicaa.Pl
/-- an operation on a key -/
structure Opd where
  kind : Int
  key : ByteArray
  val : ByteArray
deriving DecidableEq
def OkOp (k : Int) (key val : ByteArray) : Prop := 1 ≤ key.size ∧ key.size ≤ 24 ∧ (k = 1 ∧ val.size ≤ 128 ∨ k = 2 ∧ val.size = 0)
instance (k : Int) (key val : ByteArray) : Decidable (OkOp k key val) := by unfold OkOp; infer_instance
section
variable {bs : List UInt8} {x : List UInt8} {y : Nat} {z : Int}
end
section
variable {bs : List UInt8}
end
end Go.Proofs.Ytoipncaopdmicaa.Pl
namespace Go.Proofs.Ytoipncaopdmicaa.Pl
theorem ba_app (a b : List UInt8) : (⟨(a ++ b).toArray⟩ : ByteArray) = ⟨a.toArray⟩ ++ ⟨b.toArray⟩ := by
  apply ByteArray.ext
  rw [ByteArray.data_append]
  simp
theorem ba_inj {a b : List UInt8} : (⟨a.toArray⟩ : ByteArray) = ⟨b.toArray⟩ ↔ a = b := by
  constructor
  · intro h; injection h with h; simpa using congrArg Array.toList h
  · rintro rfl; rfl
end Go.Proofs.Ytoipncaopdmicaa.Pl
namespace Go.Proofs.Ytoipncaopdmicaa.Gw
open Go.RowKit Go.Proofs.Ytoipncaopdmicaa.Pl
set_option linter.unusedVariables false
set_option linter.unusedSimpArgs false
def arrB (P : Program) (t e m sz : Nat) : Bool :=
  match P.underlying t with | some (.array m' e') => m == m' && e == e' && szB P e sz | _ => false
section
variable {P : Program} {Q : Exit → Act → World → Prop} {w w' : World} {ops : Array Oper} {rest : List Oper}
variable {n : Nat} {σ : Nat → Value} {ds : List Deferred} {l : Sl} {d : Nat} {ty : TypeId} {pos : String} {af : Array Edge} {dst : Option Nat} {gd : Option (Nat × Bool)}
variable {t e m sz : Nat} {x y y' : Operand} {k k' : IntKind} {a b : Int} {i j g o : Nat} {cs : List UInt8}
theorem arrB_u (h : arrB P t e m sz = true) : P.underlying t = some (.array m e) ∧ szB P e sz = true := by
  unfold arrB at h
  split at h
  · rename_i m' e' hu
    simp only [Bool.and_eq_true, beq_iff_eq] at h
    obtain ⟨⟨rfl, rfl⟩, h2⟩ := h
    exact ⟨hu, h2⟩
  · cases h
theorem ba_get {i : Nat} (hi : i < cs.length) : (⟨cs.toArray⟩ : ByteArray)[i]? = some cs[i] := by
  have h : i < (⟨cs.toArray⟩ : ByteArray).size := by show i < cs.toArray.size; simpa using hi
  rw [getElem?_pos _ i h]
  rfl
theorem ba_extract (i j : Nat) : (⟨cs.toArray⟩ : ByteArray).extract i j = ⟨((cs.drop i).take (j - i)).toArray⟩ := by
  apply ByteArray.ext
  rw [ByteArray.data_extract]
  apply Array.ext'
  simp [List.extract_eq_take_drop]
theorem ba_size : (⟨cs.toArray⟩ : ByteArray).size = cs.length := by show cs.toArray.size = _; simp
theorem R_indexS (hx : ev n l x = some (.string ⟨cs.toArray⟩)) (hy : ev n l y = some (.int k a)) (ha : a = (i : Int)) (hs : strB P t = true) (hi : i < cs.length) :
    (execOp (Ac n σ ds l).eval ⟨dst, .index t x y, ty, pos, af, gd⟩).run P w = .ok (.value (.int .u8 (cs[i].toNat : Int))) w := by
  subst ha
  simp only [execOp, ev_eval hx, ev_eval hy]
  refine v_run ?_
  simp [Instr.index, asIntOf, run_underlying (strB_u hs), ba_get hi]
theorem R_slSL (hx : ev n l x = some (.string ⟨cs.toArray⟩)) (hy : ev n l y = some (.int k a)) (ha : a = (i : Int)) (hs : strB P t = true) (hi : i ≤ cs.length) :
    (execOp (Ac n σ ds l).eval ⟨dst, .slice t x (some y) none none, ty, pos, af, gd⟩).run P w = .ok (.value (.string ⟨(cs.drop i).toArray⟩)) w := by
  subst ha
  simp only [execOp, Option.map_some, Option.map_none, ev_eval hx, ev_eval hy]
  refine v_run ?_
  rw [run_sliceAt_string _ _ _ _ _ _ (strB_u hs), run_slice_string_l w t _ (strB_u hs) k _ (by omega) (by rw [ba_size]; omega), ba_extract, ba_size, show (i : Int).toNat = i from rfl, List.take_of_length_le (by simp)]
theorem R_slSH (hx : ev n l x = some (.string ⟨cs.toArray⟩)) (hy : ev n l y = some (.int k a)) (ha : a = (i : Int)) (hs : strB P t = true) (hi : i ≤ cs.length) :
    (execOp (Ac n σ ds l).eval ⟨dst, .slice t x none (some y) none, ty, pos, af, gd⟩).run P w = .ok (.value (.string ⟨(cs.take i).toArray⟩)) w := by
  subst ha
  simp only [execOp, Option.map_some, Option.map_none, ev_eval hx, ev_eval hy]
  refine v_run ?_
  rw [run_sliceAt_string _ _ _ _ _ _ (strB_u hs), run_slice_string_h w t _ (strB_u hs) k _ (by omega) (by rw [ba_size]; omega), ba_extract, List.drop_zero]
  rfl
theorem R_neg (hx : ev n l x = some (.int k a)) :
    (execOp (Ac n σ ds l).eval ⟨dst, .unOp .neg t x, ty, pos, af, gd⟩).run P w = .ok (.value (.int k (k.wrap (-a)))) w := by simp [execOp, ev_eval hx, Op.unary, Op.intArith]
theorem R_indexArr {r : Nat} (hx : ev n l x = some (.pointer (some ⟨g, o, none⟩))) (hy : ev n l y = some (.int k a)) (ha : a = (i : Int)) (hs : arrB P t e m sz = true) (hi : i < m) (hr : o + i * sz = r) :
    (execOp (Ac n σ ds l).eval ⟨dst, .indexAddr t x y, ty, pos, af, gd⟩).run P w = .ok (.value (.pointer (some ⟨g, r, none⟩))) w := by
  obtain ⟨hu, hz⟩ := arrB_u hs
  subst ha; subst hr
  simp only [execOp, ev_eval hx, ev_eval hy]
  refine v_run ?_
  simp [Instr.indexAt, asIntOf, run_underlying hu, Instr.sureAddr, hi, run_sizeOf hz, Addr.add_lit]
theorem L_st1v {T : TypeId} {v : Value} {cs : List Value} (hx : ev n l x = some (.pointer (some ⟨g, i, none⟩))) (hy : ev n l y = some v) (hv : v.oneCell' = true) (hz : szB P t 1 = true)
    (hb : Blk w g T cs) (hi : i < cs.length)
    (K : ∀ w', Blk w' g T (cs.set i v) → w.grownBy w' (some g) → w'.heap.size = w.heap.size → wpL P ops Q rest (Ac n σ ds l) w') :
    wpL P ops Q (⟨none, .store t x y, ty, pos, af, none⟩ :: rest) (Ac n σ ds l) w :=
  L_st1 hx hy hv hz hb (by rw [Nat.blt_eq]; exact hi) K
theorem fl_setB {bs : List UInt8} {i : Nat} {b : UInt8} (hi : i < bs.length) : (fl encB bs).set i (.int .u8 (b.toNat : Int)) = fl encB (bs.set i b) := by
  rw [← byts_fl, ← byts_fl]
  unfold byts
  rw [List.map_set]
  rfl
theorem T_slArr {bs : List UInt8} (hx : ev n l x = some (.pointer (some ⟨g, 0, none⟩))) (hy : ev n l y = some (.int k a)) (ha : a = (i : Int)) (hs : arrB P t e m 1 = true) (hi : i ≤ m) {T : TypeId} (hb : Blk w g T (fl encB bs)) (hm : bs.length = m) (hn : Nat.blt d n = true)
    (K : ∀ A', Sli 0 g (g + 1) w A' (fl encB (bs.drop i)) → wpL P ops Q rest (Ac n σ ds ((d, .slice A' (bs.drop i).length (m - i)) :: l)) w) :
    wpL P ops Q (⟨some d, .slice t x (some y) none none, ty, pos, af, none⟩ :: rest) (Ac n σ ds l) w := by
  obtain ⟨hu, hz⟩ := arrB_u hs
  subst ha
  refine L_run (v := .slice (some (if m = i then ⟨g, 0, none⟩ else ⟨g, i, none⟩)) (bs.drop i).length (m - i)) ?_ hn (K _ ?_)
  · simp only [execOp, Option.map_some, Option.map_none, ev_eval hx, ev_eval hy]
    refine v_run ?_
    have h1 : ¬ ((m : Int) < (i : Int)) := by omega
    simp [Instr.sliceAt, run_underlying hu, Instr.sureAddr, Instr.sliceBounds, run_sliceBound, run_sizeOf hz, hi, hm, Addr.add_lit]
  · rcases Nat.lt_or_ge i m with h | h
    · rw [if_neg (by omega)]
      refine .inr ⟨g, i, _, _, rfl, Nat.le_refl _, Nat.lt_succ_self _, ⟨T, hb, .inl rfl⟩, fun j v hj => ?_⟩
      have e1 := fl_drop (enc := encB) EncB i bs
      rw [Nat.mul_one] at e1
      rw [← e1, List.getElem?_drop] at hj
      simpa using hj
    · left
      rw [List.drop_of_length_le (by omega)]
      rfl
end
theorem wf64 {n : Int} (h : (Lit.int .i64 n).wf = true) : -9223372036854775808 ≤ n ∧ n ≤ 9223372036854775807 := by
  simp [Lit.wf] at h
  have e1 : IntKind.i64.min = -9223372036854775808 := rfl
  have e2 : IntKind.i64.max = 9223372036854775807 := rfl
  omega
end Go.Proofs.Ytoipncaopdmicaa.Gw
namespace Go.Proofs.Ytoipncaopdmicaa.Gw
open Go.RowKit Go.Proofs.Ytoipncaopdmicaa.Pl
set_option linter.unusedVariables false
set_option linter.unusedSimpArgs false
section
variable {P : Program} {fn : Func} {R : Value → World → Prop} {w : World} {n : Nat} {σ : Nat → Value} {l : Sl}
end
section
variable {P : Program} {w : World} {n : Nat} {σ : Nat → Value} {ds : List Deferred} {l : Sl} {dst : Option Nat} {ty : TypeId} {pos : String} {af : Array Edge} {gd : Option (Nat × Bool)} {ts : Array TypeId}
end
end Go.Proofs.Ytoipncaopdmicaa.Gw
namespace Go.Proofs.Ytoipncaopdmicaa.Gw
open Go.RowKit
set_option linter.unusedVariables false
set_option linter.unusedSimpArgs false
section
variable {P : Program} {f : FuncId} {fn : Func} {c : Code} {vs : List Value} {w : World} {R E : Value → World → Prop} {n : Nat}
end
section
variable {P : Program} {Q : Exit → Act → World → Prop} {w w' : World} {ops : Array Oper} {rest : List Oper}
variable {n : Nat} {σ : Nat → Value} {ds : List Deferred} {l : Sl} {d : Nat} {ty : TypeId} {pos : String} {af : Array Edge} {dst : Option Nat} {gd : Option (Nat × Bool)} {t t' : TypeId} {x y : Operand} {v : Value}
end
/-! ### deferred calls -/
section
variable {P : Program} {f : FuncId} {fn : Func} {c : Code} {vs : List Value} {w : World} {n : Nat}
/-- What a deferred call of these modes comes to. -/
def Defd (P : Program) (f : FuncId) (args : Array Value) (u : FrameMode) (w : World) (R : World → Prop) : Prop :=
  CallsD P f args u w fun e u' w' => (∃ v, e = .returned v) ∧ settle u' = .returning ∧ R w'
variable {Q : Exit → Act → List Frame → World → Prop} {cs : List Frame} {id : Nat} {σ : Nat → Value} {ds : List Deferred} {l : Sl}
theorem Defd.mono {args : Array Value} {u : FrameMode} {R R' : World → Prop} (h : Defd P f args u w R) (hr : ∀ w', R w' → R' w') : Defd P f args u w R' :=
  CallsD.mono h fun e u' w' ⟨a, b, c⟩ => ⟨a, b, hr _ c⟩
end
end Go.Proofs.Ytoipncaopdmicaa.Gw
namespace Go.Proofs.Ytoipncaopdmicaa.Gw
open Go.RowKit
set_option linter.unusedVariables false
set_option linter.unusedSimpArgs false
section
variable {P : Program} {Q : Exit → Act → World → Prop} {w w' W : World} {n : Nat} {σ : Nat → Value} {ds : List Deferred} {l : Sl}
variable {g : Operand} {ps : Array Tmp} {asg body : Code} {gf fn : FuncId} {fs cs : List Value} {T : Array Value} {D L : Nat}
variable {ops : Array Oper} {rest : List Oper} {d : Nat} {ty : TypeId} {pos : String} {af : Array Edge}
end
section
variable {P : Program} {f : FuncId} {fn : Func} {c : Code} {vs : List Value} {w : World} {R : Value → World → Prop} {n : Nat} {σ : Nat → Value} {l : Sl} {D : Nat}
end
end Go.Proofs.Ytoipncaopdmicaa.Gw
namespace Go.Proofs.Ytoipncaopdmicaa.Gw
open Go.RowKit Go.Proofs.Ytoipncaopdmicaa.Pl
set_option linter.unusedVariables false
set_option linter.unusedSimpArgs false
section
variable {P : Program} {Q : Exit → Act → World → Prop} {w w' : World} {ops : Array Oper} {rest : List Oper}
variable {n : Nat} {σ : Nat → Value} {ds : List Deferred} {l : Sl} {d : Nat} {ty : TypeId} {pos : String} {af : Array Edge} {dst : Option Nat} {gd : Option (Nat × Bool)}
variable {α : Type} {enc : α → List Value} {t t' e te sz by_ c lo hi g : Nat} {x y : Operand} {A : Option Addr} {xs ys : List α}
/-- A row that is made. -/
theorem L_make {m : Nat} {k1 k2 : IntKind} {z : Value} {x0 : α} (ht : slcB P t e sz by_ = true) (hz : (P.info? e).bind (·.zero) = some z) (hc : z.cells = (enc x0).toArray) (hx : ev n l x = some (.int k1 (m : Int))) (hy : ev n l y = some (.int k2 (m : Int)))
    (he : Enc enc sz) (hm : by_ * m ≤ 281474976710656) (hm2 : m ≤ 1000000) (hn : Nat.blt d n = true)
    (K : ∀ g w', g = w.heap.size → Blk w' g e (fl enc (List.replicate m x0)) → w.grownBy w' none → w'.heap.size = g + 1 → wpL P ops Q rest (Ac n σ ds ((d, .slice (some ⟨g, 0, none⟩) m m) :: l)) w') :
    wpL P ops Q (⟨some d, .makeSlice t x y, ty, pos, af, none⟩ :: rest) (Ac n σ ds l) w := by
  obtain ⟨hu, inf, z', hinf, hz', e1, e2, e3, e4, e5⟩ := slcB_u ht
  obtain rfl : z' = z := by rw [hinf] at hz; simp [hz'] at hz; exact hz
  have hb' : (inf.bytes : Int) * (m : Int) ≤ 281474976710656 := by
    have h' : ((inf.bytes * m : Nat) : Int) ≤ 281474976710656 := by rw [e2]; omega
    rwa [Int.natCast_mul] at h'
  have hr := run_make (P := P) w t e inf z' hu hinf hz' k1 k2 (m : Int) (m : Int) (by omega) (by omega) hb' (by omega)
  simp only [Int.toNat_natCast] at hr
  have hcells : madeCells z'.cells (m * inf.size) = (fl enc (List.replicate m x0)).toArray := by
    unfold madeCells
    have hsz : (enc x0).length = sz := he.len x0
    rw [hc]
    apply Array.ext
    · simp [fl_len he, e1]
    · intro i h1 h2
      have hi : i < m * sz := by simpa [e1] using h1
      have hpos : 0 < sz := e4
      have hmod : i % sz < sz := Nat.mod_lt _ hpos
      have hq : i / sz < m := Nat.div_lt_of_lt_mul (by rw [Nat.mul_comm]; exact hi)
      have hL : (fl enc (List.replicate m x0))[i]? = (enc x0)[i % sz]? := by
        have h3 := fl_get he (xs := List.replicate m x0) (i := i / sz) (by simpa using hq)
        rw [List.getElem_replicate] at h3
        rw [← h3, List.getElem?_take_of_lt hmod, List.getElem?_drop, show i / sz * sz + i % sz = i by rw [Nat.mul_comm]; exact Nat.div_add_mod i sz]
      simp only [Array.getElem_map, Array.getElem_range, List.getElem_toArray, List.size_toArray, hsz]
      have h4 : (fl enc (List.replicate m x0))[i]'(by simpa using h2) = (enc x0)[i % sz]'(by omega) := by
        have h5 := hL
        rw [List.getElem?_eq_getElem (by simpa using h2), List.getElem?_eq_getElem (by omega)] at h5
        exact Option.some.inj h5
      rw [h4]
      have h6 : i % sz < (enc x0).length := by omega
      simp [h6]
  rw [hcells] at hr
  refine L_run (w' := w.alloc (.cells (fl enc (List.replicate m x0)).toArray e)) ?_ hn (K w.heap.size _ rfl (blk_new w e _) (gb_alloc w _) (by simp))
  simp only [execOp, ev_eval hx, ev_eval hy]
  exact v_run hr
theorem R_min2 {k k' : IntKind} {a b : Int} {ts : Array TypeId} (hx : ev n l x = some (.int k a)) (hy : ev n l y = some (.int k' b)) :
    (execOp (Ac n σ ds l).eval ⟨dst, .call ⟨.builtin .min, #[x, y], ts⟩, ty, pos, af, gd⟩).run P w = .ok (.value (.int k (min a b))) w := by
  have e : (if b < a then b else a) = min a b := by split <;> omega
  simp [execOp, resolve, invoke, builtin, ev_eval hx, ev_eval hy, Builtin.min_, Builtin.min2, e]
theorem R_max2 {k k' : IntKind} {a b : Int} {ts : Array TypeId} (hx : ev n l x = some (.int k a)) (hy : ev n l y = some (.int k' b)) :
    (execOp (Ac n σ ds l).eval ⟨dst, .call ⟨.builtin .max, #[x, y], ts⟩, ty, pos, af, gd⟩).run P w = .ok (.value (.int k (max a b))) w := by
  have e : (if b > a then b else a) = max a b := by split <;> omega
  simp [execOp, resolve, invoke, builtin, ev_eval hx, ev_eval hy, Builtin.max_, Builtin.max2, e]
/-! ### arrays of bytes -/
theorem u8_inj {a b : UInt8} : ((a.toNat : Nat) : Int) = ((b.toNat : Nat) : Int) ↔ a = b := by
  constructor
  · intro h; exact UInt8.toNat_inj.1 (by omega)
  · rintro rfl; rfl
theorem eqi_bytes {dd : Nat} {e : TypeId} (hi : intB P e .u8 = true) (hc : sclB P e = true) : ∀ (us vs pa pb : List UInt8) (k : Nat), us.length = vs.length → pa.length = k → pb.length = k →
    (Op.eqItems (dd + 1) e 1 (fl encB (pa ++ us)).toArray (fl encB (pb ++ vs)).toArray (List.range' k us.length)).run P w = .ok (decide (us = vs)) w
  | [], [], pa, pb, k, _, _, _ => by simp [Op.eqItems]
  | a :: us, b :: vs, pa, pb, k, hl, hpa, hpb => by
    have e1 : (fl encB (pa ++ a :: us)).toArray[k * 1]? = some (.int .u8 (a.toNat : Int)) := by
      rw [← byts_fl]; simp [byts, u8v, ← hpa]
    have e2 : (fl encB (pb ++ b :: vs)).toArray[k * 1]? = some (.int .u8 (b.toNat : Int)) := by
      rw [← byts_fl]; simp [byts, u8v, ← hpb]
    have ih := eqi_bytes (dd := dd) hi hc us vs (pa ++ [a]) (pb ++ [b]) (k + 1) (by simpa using hl) (by simp [hpa]) (by simp [hpb])
    rw [List.append_assoc, List.append_assoc] at ih
    rw [List.length_cons, List.range'_succ]
    unfold Op.eqItems
    simp only [Sem.run_bind, run_part1 hc e1, run_part1 hc e2, Result.andThen_ok, eqs_int hi]
    by_cases h : a = b
    · subst h
      simp only [decide_true, if_true]
      have h2 : decide (a :: us = a :: vs) = decide (us = vs) := by simp
      rw [h2]
      exact ih
    · have h3 : ¬ (((a.toNat : Nat) : Int) = (b.toNat : Int)) := fun q => h (u8_inj.1 q)
      have h2 : decide (a :: us = b :: vs) = false := by simp [h]
      rw [h2]
      simp [h3]
  | [], _ :: _, _, _, _, hl, _, _ => by simp at hl
  | _ :: _, [], _, _, _, hl, _, _ => by simp at hl
theorem eqs_bytes {dd m : Nat} {e : TypeId} {us vs : List UInt8} (ha : arrB P t e m 1 = true) (hi : intB P e .u8 = true) (hc : sclB P e = true) (h1 : us.length = m) (h2 : vs.length = m) :
    (Op.equalIn (dd + 1 + 1) t (.agg (fl encB us).toArray) (.agg (fl encB vs).toArray)).run P w = .ok (decide (us = vs)) w := by
  obtain ⟨hu, hz⟩ := arrB_u ha
  have hc1 : P.cellsOf e = 1 := by
    unfold szB at hz
    split at hz
    · rename_i i hi'
      simp [Program.cellsOf, hi']
      simpa using hz
    · cases hz
  obtain ⟨inf, hinf⟩ : ∃ inf, P.info? e = some inf := by
    unfold szB at hz
    split at hz
    · exact ⟨_, by assumption⟩
    · cases hz
  rw [run_equalIn_array w (dd + 1) _ _ hu hinf, hc1]
  have := eqi_bytes (P := P) (w := w) (dd := dd) hi hc us vs [] [] 0 (by omega) rfl rfl
  rw [h1] at this
  rw [List.range_eq_range']
  exact this
end
section leave
variable {P : Program} {fn : Func} {R : Value → World → Prop} {w : World} {n : Nat} {σ : Nat → Value} {l : Sl} {E : Exit}
end leave
section ptrs
variable {P : Program} {n : Nat} {σ : Nat → Value} {ds : List Deferred} {l : List (Nat × Value)} {w : World} {x y : Operand} {t t' e : TypeId} {dst : Option Tmp} {ty : TypeId} {pos : String} {af : Array Edge} {gd : Option (Nat × Bool)}
theorem eqp_nn {d : Nat} (ht : P.underlying t = some (.pointer e)) : (Op.equalIn (d + 1) t (.pointer none) (.pointer none)).run P w = .ok true w := by
  unfold Op.equalIn
  simp [run_underlying ht]
theorem eqp_pn {d : Nat} {a : Addr} (ht : P.underlying t = some (.pointer e)) : (Op.equalIn (d + 1) t (.pointer (some a)) (.pointer none)).run P w = .ok false w := by
  unfold Op.equalIn
  simp [run_underlying ht]
theorem R_eqlpNN (hx : ev n l x = some (.pointer none)) (hy : ev n l y = some (.pointer none)) (ht : P.underlying t = some (.pointer e)) :
    (execOp (Ac n σ ds l).eval ⟨dst, .binOp .eql t x y t', ty, pos, af, gd⟩).run P w = .ok (.value (.bool true)) w := by
  simp only [execOp, ev_eval hx, ev_eval hy]
  refine v_run ?_
  simp only [eqGuard, binOp, Op.equal, Op.maxDepth]
  simp [eqp_nn (d := 9999) ht]
theorem R_eqlpPN {a : Addr} (hx : ev n l x = some (.pointer (some a))) (hy : ev n l y = some (.pointer none)) (ht : P.underlying t = some (.pointer e)) :
    (execOp (Ac n σ ds l).eval ⟨dst, .binOp .eql t x y t', ty, pos, af, gd⟩).run P w = .ok (.value (.bool false)) w := by
  simp only [execOp, ev_eval hx, ev_eval hy]
  refine v_run ?_
  simp only [eqGuard, binOp, Op.equal, Op.maxDepth]
  simp [eqp_pn (d := 9999) ht]
theorem R_neqpNN (hx : ev n l x = some (.pointer none)) (hy : ev n l y = some (.pointer none)) (ht : P.underlying t = some (.pointer e)) :
    (execOp (Ac n σ ds l).eval ⟨dst, .binOp .neq t x y t', ty, pos, af, gd⟩).run P w = .ok (.value (.bool false)) w := by
  simp only [execOp, ev_eval hx, ev_eval hy]
  refine v_run ?_
  simp only [eqGuard, binOp, Op.equal, Op.maxDepth]
  simp [eqp_nn (d := 9999) ht]
theorem R_neqpPN {a : Addr} (hx : ev n l x = some (.pointer (some a))) (hy : ev n l y = some (.pointer none)) (ht : P.underlying t = some (.pointer e)) :
    (execOp (Ac n σ ds l).eval ⟨dst, .binOp .neq t x y t', ty, pos, af, gd⟩).run P w = .ok (.value (.bool true)) w := by
  simp only [execOp, ev_eval hx, ev_eval hy]
  refine v_run ?_
  simp only [eqGuard, binOp, Op.equal, Op.maxDepth]
  simp [eqp_pn (d := 9999) ht]
end ptrs
end Go.Proofs.Ytoipncaopdmicaa.Gw
namespace Go.Proofs.Ytoipncaopdmicaa.Pl
/-- a right batch -/
def OkL (l : List Opd) : Prop := (∀ o ∈ l, OkOp o.kind o.key o.val) ∧ 1 ≤ l.length ∧ l.length ≤ 8
instance (l : List Opd) : Decidable (OkL l) := by unfold OkL; infer_instance
end Go.Proofs.Ytoipncaopdmicaa.Pl
namespace Go.Proofs.Ytoipncaopdmicaa.Pl
set_option linter.unusedVariables false
set_option linter.unusedSimpArgs false
/-- one text ahead of another -/
def slt (a b : ByteArray) : Prop := a.data.toList < b.data.toList
instance (a b : ByteArray) : Decidable (slt a b) := by unfold slt; infer_instance
theorem slt_irrefl (a : ByteArray) : ¬ slt a a := List.lt_irrefl _
theorem slt_trans {a b c : ByteArray} (h1 : slt a b) (h2 : slt b c) : slt a c := List.lt_trans h1 h2
theorem slt_tri {a b : ByteArray} (h1 : ¬ slt a b) (h2 : ¬ slt b a) : a = b := by
  have e : a.data.toList = b.data.toList := List.le_antisymm (List.not_lt.1 h2) (List.not_lt.1 h1)
  cases a with | mk a => cases b with | mk b => congr 1; exact Array.toList_inj.1 e
theorem slt_asymm {a b : ByteArray} (h : slt a b) : ¬ slt b a := fun q => slt_irrefl a (slt_trans h q)
/-- rising by their keys -/
def Rise (l : List Opd) : Prop := l.Pairwise fun a b => slt a.key b.key
/-- two rising lists of the same elements are one -/
theorem rise_ext : ∀ (a b : List Opd), Rise a → Rise b → (∀ x, x ∈ a ↔ x ∈ b) → a = b
  | [], [], _, _, _ => rfl
  | [], y :: _, _, _, h => by have := (h y).2 List.mem_cons_self; simp at this
  | x :: _, [], _, _, h => by have := (h x).1 List.mem_cons_self; simp at this
  | x :: a, y :: b, ha, hb, h => by
    unfold Rise at ha hb
    rw [List.pairwise_cons] at ha hb
    have hxy : x = y := by
      have h1 := (h x).1 List.mem_cons_self
      have h2 := (h y).2 List.mem_cons_self
      rcases List.mem_cons.1 h1 with h1 | h1
      · exact h1
      · rcases List.mem_cons.1 h2 with h2 | h2
        · exact h2.symm
        · exact absurd (hb.1 x h1) (slt_asymm (ha.1 y h2))
    subst hxy
    rw [rise_ext a b ha.2 hb.2]
    intro z
    constructor
    · intro hz
      rcases List.mem_cons.1 ((h z).1 (List.mem_cons_of_mem _ hz)) with rfl | q
      · exact absurd (ha.1 z hz) (slt_irrefl _)
      · exact q
    · intro hz
      rcases List.mem_cons.1 ((h z).2 (List.mem_cons_of_mem _ hz)) with rfl | q
      · exact absurd (hb.1 z hz) (slt_irrefl _)
      · exact q
/-! ### a map of the last places -/
end Go.Proofs.Ytoipncaopdmicaa.Pl
namespace Go.Proofs.Ytoipncaopdmicaa.Gw
open Go.RowKit Go.MapKept Pl
set_option linter.unusedSectionVars false
set_option linter.unusedVariables false
set_option linter.unusedSimpArgs false
section
variable {P : Program} {w : World} {n : Nat} {σ : Nat → Value} {ds : List Deferred} {l : Sl} {ty : TypeId} {pos : String} {af : Array Edge} {dst : Option Nat} {gd : Option (Nat × Bool)} {t t' : TypeId} {x y : Operand} {s r : ByteArray}
theorem less_slt (s r : ByteArray) : Op.bytesLess s.toList r.toList = decide (slt s r) := by
  rw [Go.Proofs.bytesLess_eq]; unfold slt; simp only [ByteArray.toList_eq]
theorem slt_or (s r : ByteArray) : (decide (slt s r) || decide (s = r)) = decide (¬ slt r s) := by
  by_cases h : slt s r
  · have := slt_asymm h; simp [h, this]
  · by_cases e : s = r
    · subst e; simp [slt_irrefl]
    · have : slt r s := Decidable.not_not.1 fun q => e (slt_tri h q)
      simp [h, e, this]
theorem R_lssS (hx : ev n l x = some (.string s)) (hy : ev n l y = some (.string r)) :
    (execOp (Ac n σ ds l).eval ⟨dst, .binOp .lss t x y t', ty, pos, af, gd⟩).run P w = .ok (.value (.bool (decide (slt s r)))) w := by simp [execOp, ev_eval hx, ev_eval hy, eqGuard, binOp, Op.stringOp, less_slt]
theorem R_geqS (hx : ev n l x = some (.string s)) (hy : ev n l y = some (.string r)) :
    (execOp (Ac n σ ds l).eval ⟨dst, .binOp .geq t x y t', ty, pos, af, gd⟩).run P w = .ok (.value (.bool (decide (¬ slt s r)))) w := by simp [execOp, ev_eval hx, ev_eval hy, eqGuard, binOp, Op.stringOp, less_slt]
theorem R_leqS (hx : ev n l x = some (.string s)) (hy : ev n l y = some (.string r)) :
    (execOp (Ac n σ ds l).eval ⟨dst, .binOp .leq t x y t', ty, pos, af, gd⟩).run P w = .ok (.value (.bool (decide (¬ slt r s)))) w := by
  have h := slt_or s r
  simp [execOp, ev_eval hx, ev_eval hy, eqGuard, binOp, Op.stringOp, less_slt, toList_eq]
  simpa using h
theorem R_gtrS (hx : ev n l x = some (.string s)) (hy : ev n l y = some (.string r)) :
    (execOp (Ac n σ ds l).eval ⟨dst, .binOp .gtr t x y t', ty, pos, af, gd⟩).run P w = .ok (.value (.bool (decide (slt r s)))) w := by
  have h := slt_or s r
  simp [execOp, ev_eval hx, ev_eval hy, eqGuard, binOp, Op.stringOp, less_slt, toList_eq]
  by_cases q : slt r s
  · have h1 := slt_asymm q
    have h2 : s ≠ r := by rintro rfl; exact slt_irrefl _ q
    simp [q, h1, h2]
  · by_cases e : slt s r
    · simp [q, e]
    · have := slt_tri e q; subst this; simp [slt_irrefl]
end
/-! ### maps as lists of pairs -/
section
variable {K V : Type} [DecidableEq K]
def alook (m : List (K × V)) (k : K) : Option V := match m with | [] => none | (k', v) :: r => if k' = k then some v else alook r k
def aput (m : List (K × V)) (k : K) (v : V) : List (K × V) := match m with | [] => [(k, v)] | (k', v') :: r => if k' = k then (k, v) :: r else (k', v') :: aput r k v
def adel (m : List (K × V)) (k : K) : List (K × V) := m.filter fun p => decide (p.1 ≠ k)
def akeys (m : List (K × V)) : List K := m.map (·.1)
theorem alook_none {m : List (K × V)} {k : K} : alook m k = none ↔ k ∉ akeys m := by
  induction m with
  | nil => simp [alook, akeys]
  | cons p r ih =>
    obtain ⟨k', v⟩ := p
    unfold alook
    by_cases h : k' = k
    · simp [h, akeys]
    · rw [if_neg h, ih]; simp only [akeys, List.map_cons, List.mem_cons, not_or]; exact ⟨fun q => ⟨fun e => h e.symm, q⟩, And.right⟩
theorem alook_of_mem {m : List (K × V)} {k : K} {v : V} (hn : (akeys m).Nodup) (h : (k, v) ∈ m) : alook m k = some v := by
  induction m with
  | nil => simp at h
  | cons p r ih =>
    obtain ⟨k', v'⟩ := p
    unfold akeys at hn ih
    rw [List.map_cons, List.nodup_cons] at hn
    unfold alook
    rcases List.mem_cons.1 h with e | hm
    · injection e with e1 e2; subst e1; subst e2; rw [if_pos rfl]
    · rw [if_neg, ih hn.2 hm]
      rintro rfl
      exact hn.1 (List.mem_map.2 ⟨_, hm, rfl⟩)
end
abbrev strK (s : ByteArray) : Value := .string s
theorem strK_inj (a b : ByteArray) (h : strK a = strK b) : a = b := by injection h
/-! ### maps in memory -/
/-- Block g is a map that holds just these entries, whatever their order. -/
def MapF {K V : Type} (w : World) (g : Nat) (kd : TypeDesc) (eK : K → Value) (eV : V → Value) (m : List (K × V)) : Prop :=
  ∃ es c, w.heap[g]? = some (.map es c) ∧ Stamped es c ∧ (∀ x ∈ es.toList, IsKey kd x.key) ∧ es.toList.map (fun e => (e.key, e.val)) = m.map (fun p => (eK p.1, eV p.2))
section
variable {K V : Type} {w w' : World} {g : Nat} {kd : TypeDesc} {eK : K → Value} {eV : V → Value} {m : List (K × V)}
theorem MapF.lt (h : MapF w g kd eK eV m) : g < w.heap.size := by obtain ⟨es, c, h1, _⟩ := h; exact (Array.getElem?_eq_some_iff.1 h1).1
theorem MapF.grown {row : Option Nat} (h : MapF w g kd eK eV m) (hg : w.grownBy w' row) (hr : some g ≠ row) : MapF w' g kd eK eV m := by
  have hl := h.lt
  obtain ⟨es, c, h1, h2⟩ := h
  exact ⟨es, c, (hg.block g hl hr).trans h1, h2⟩
theorem MapF.gb (h : MapF w g kd eK eV m) (hg : w.grownBy w' none) : MapF w' g kd eK eV m := h.grown hg (by simp)
theorem MapF.blk {g' t : Nat} {cs : List Value} (h : MapF w g kd eK eV m) (hb : Blk w g' t cs) (hg : w.grownBy w' (some g')) : MapF w' g kd eK eV m := by
  refine h.grown hg ?_
  rintro e
  injection e with e
  subst e
  obtain ⟨es, c, h1, _⟩ := h
  unfold Blk at hb
  rw [h1] at hb; cases hb
theorem MapF.own {lo t sz n : Nat} {v : Value} {vs : List Value} (h : MapF w g kd eK eV m) (ho : w.ownsRow lo t sz v n vs) (hg : w.grownBy w' v.ownBlock) : MapF w' g kd eK eV m := by
  refine h.grown hg ?_
  intro e
  obtain ⟨es, c, h1, _⟩ := h
  rcases ho with ⟨_, h2 | ⟨g', cap, cc, rfl, _, hh, _⟩⟩
  · rw [h2.1] at e; cases e
  · have : g = g' := by simpa [Value.ownBlock] using e
    subst this
    rw [h1] at hh; cases hh
theorem MapF.nodup (hk : ∀ a b, eK a = eK b → a = b) (h : MapF w g kd eK eV m) : (m.map (·.1)).Nodup := by
  obtain ⟨es, c, h1, ⟨_, _, hn⟩, _, h3⟩ := h
  have e : es.toList.map (·.key) = m.map (fun p => eK p.1) := by
    have := congrArg (List.map (·.1)) h3
    simpa [List.map_map, Function.comp_def] using this
  rw [e] at hn
  have e2 : m.map (fun p => eK p.1) = (m.map (·.1)).map eK := by simp [List.map_map, Function.comp_def]
  rw [e2] at hn
  rw [List.Nodup, List.pairwise_map] at hn
  exact hn.imp (fun h q => h (by rw [q]))
end
/-- Block g holds no cells. -/
def Other (w : World) (g : Nat) : Prop := ∀ c t fr, w.heap[g]? ≠ some (.cells c t fr)
theorem MapF.oth {K V : Type} {w : World} {g : Nat} {kd : TypeDesc} {eK : K → Value} {eV : V → Value} {m : List (K × V)} (h : MapF w g kd eK eV m) : Other w g := by
  obtain ⟨es, c, h1, _⟩ := h
  intro c' t fr q
  rw [h1] at q; cases q
section
variable {w w' : World} {g : Nat}
theorem Blk.oth {g' t : Nat} {cs : List Value} (h : Blk w g' t cs) (ho : Other w g) (hg : w.grownBy w' (some g)) : Blk w' g' t cs := h.grown hg (by
  intro e; injection e with e; subst e; exact ho _ _ _ h)
theorem Sli.oth {t lo hi : Nat} {A : Option Addr} {vs : List Value} (h : Sli t lo hi w A vs) (ho : Other w g) (hg : w.grownBy w' (some g)) : Sli t lo hi w' A vs := by
  rcases h with h | ⟨g', off, c, fr, hA, h1, h2, ⟨t', h3, ht⟩, h4⟩
  · exact .inl h
  · refine .inr ⟨g', off, c, fr, hA, h1, h2, ⟨t', (hg.block g' (Array.getElem?_eq_some_iff.1 h3).1 ?_).trans h3, ht⟩, h4⟩
    intro e; injection e with e; subst e; exact ho _ _ _ h3
theorem own_oth {lo t sz n : Nat} {v : Value} {vs : List Value} (h : w.ownsRow lo t sz v n vs) (ho : Other w g) (hg : w.grownBy w' (some g)) : w'.ownsRow lo t sz v n vs := by
  refine World.ownsRow.kept h hg ?_
  rcases h with ⟨hl, h2 | ⟨g', cap, cc, rfl, _, hh, _⟩⟩
  · exact .inl (by rw [h2.1]; rfl)
  · refine .inr ?_
    intro e
    have : g' = g := by simpa [Value.ownBlock] using e
    subst this
    exact ho _ _ _ hh
end
section
variable {K V : Type} [DecidableEq K] {P : Program} {w w' : World} {g : Nat} {kd : TypeDesc} {eK : K → Value} {eV : V → Value} {m : List (K × V)} {k : K}
theorem find_typed (hk : ∀ a b, eK a = eK b → a = b) : ∀ (es : List MapEntry) (m : List (K × V)), es.map (fun e => (e.key, e.val)) = m.map (fun p => (eK p.1, eV p.2)) →
    ((alook m k = none ∧ ∀ x ∈ es, x.key ≠ eK k) ∨ ∃ (v : V) (j : Nat) (e : MapEntry), alook m k = some v ∧ es[j]? = some e ∧ e.key = eK k ∧ e.val = eV v)
  | [], [], _ => .inl ⟨rfl, by simp⟩
  | [], _ :: _, h => by simp at h
  | _ :: _, [], h => by simp at h
  | e :: es, (k', v') :: r, h => by
    simp only [List.map_cons, List.cons.injEq, Prod.mk.injEq] at h
    obtain ⟨⟨h1, h2⟩, h3⟩ := h
    by_cases q : k' = k
    · subst q
      exact .inr ⟨v', 0, e, by simp [alook], rfl, h1, h2⟩
    · rcases find_typed hk es r h3 with ⟨a, b⟩ | ⟨v, j, e', a, b, c, d⟩
      · refine .inl ⟨by simp [alook, q, a], ?_⟩
        intro x hx
        rcases List.mem_cons.1 hx with rfl | hx
        · rw [h1]; exact fun z => q (hk _ _ z)
        · exact b x hx
      · exact .inr ⟨v, j + 1, e', by simp [alook, q, a], by simpa using b, c, d⟩
theorem findNow_typed (hk : ∀ a b, eK a = eK b → a = b) (hi : IsKey kd (eK k)) {es : Array MapEntry} (h : es.toList.map (fun e => (e.key, e.val)) = m.map (fun p => (eK p.1, eV p.2))) (hx : ∀ x ∈ es.toList, IsKey kd x.key) (hn : (es.toList.map (·.key)).Nodup) :
    (alook m k = none ∧ Instr.findNow kd (eK k) es.toList 0 = some none ∧ ∀ x ∈ es.toList, x.key ≠ eK k) ∨ ∃ (v : V) (j : Nat) (e : MapEntry), alook m k = some v ∧ Instr.findNow kd (eK k) es.toList 0 = some (some (j, eV v)) ∧ es.toList[j]? = some e ∧ e.key = eK k ∧ e.val = eV v := by
  rcases findNow_spec hi es.toList 0 hx with ⟨a, b⟩ | ⟨j, e, a, b, c⟩
  · rcases find_typed (k := k) hk es.toList m h with ⟨p, q⟩ | ⟨v, j, e, p, q, r, s⟩
    · exact .inl ⟨p, a, q⟩
    · exact absurd r (b e (List.mem_of_getElem? q))
  · rcases find_typed (k := k) hk es.toList m h with ⟨p, q⟩ | ⟨v, j', e', p, q, r, s⟩
    · exact absurd c (q e (List.mem_of_getElem? b))
    · have he : e = e' := by
        have h1 : (es.toList.map (·.key))[j]? = some (eK k) := by rw [List.getElem?_map, b]; simp [c]
        have h2 : (es.toList.map (·.key))[j']? = some (eK k) := by rw [List.getElem?_map, q]; simp [r]
        have hj : j < (es.toList.map (·.key)).length := (List.getElem?_eq_some_iff.1 h1).1
        have : j = j' := (List.getElem?_inj hj hn).1 (h1.trans h2.symm)
        subst this
        rw [b] at q; exact Option.some.inj q
      subst he
      exact .inr ⟨v, j, e, p, by rw [a, Nat.zero_add, s], b, c, s⟩
variable {n : Nat} {σ : Nat → Value} {ds : List Deferred} {l : Sl} {ty : TypeId} {pos : String} {af : Array Edge} {dst : Option Nat} {gd : Option (Nat × Bool)} {t kt et : TypeId} {x y : Operand} {z : Value}
/-- what a look-up hands back -/
def looked (ok : Bool) (eV : V → Value) (z : Value) (o : Option V) : Value := if ok then .tuple #[(o.map eV).getD z, .bool o.isSome] else (o.map eV).getD z
theorem R_lookup {ok : Bool} (hx : ev n l x = some (.map (some g))) (hy : ev n l y = some (eK k)) (ht : P.underlying t = some (.map kt et)) (hd : P.underlying kt = some kd) (hz : ∀ w, (zeroValue et).run P w = .ok z w)
    (hk : ∀ a b, eK a = eK b → a = b) (hi : IsKey kd (eK k)) (h : MapF w g kd eK eV m) :
    (execOp (Ac n σ ds l).eval ⟨dst, .lookup t x y ok, ty, pos, af, gd⟩).run P w = .ok (.value (looked ok eV z (alook m k))) w := by
  simp only [execOp, ev_eval hx, ev_eval hy]
  refine v_run ?_
  obtain ⟨es, c, hb, ⟨_, _, hn⟩, hx', hm⟩ := h
  unfold Instr.lookup looked
  rcases findNow_typed (k := k) hk hi hm hx' hn with ⟨p, q, _⟩ | ⟨v, j, e, p, q, _⟩
  · simp only [Sem.run_bind, run_underlying ht, Result.andThen_ok, MapKept.run_getObj_map hb, Sem.run_pure, run_checkKey hd hi, run_findKey hd q, hz, p]
    cases ok <;> rfl
  · simp only [Sem.run_bind, run_underlying ht, Result.andThen_ok, MapKept.run_getObj_map hb, Sem.run_pure, run_checkKey hd hi, run_findKey hd q, p]
    cases ok <;> rfl
end
section
variable {K V : Type} [DecidableEq K]
theorem aput_new {m : List (K × V)} {k : K} {v : V} (h : alook m k = none) : aput m k v = m ++ [(k, v)] := by
  induction m with
  | nil => rfl
  | cons p r ih =>
    obtain ⟨k', v'⟩ := p
    unfold alook at h
    by_cases e : k' = k
    · rw [if_pos e] at h; cases h
    · rw [if_neg e] at h; unfold aput; rw [if_neg e, ih h]; rfl
theorem adel_new {m : List (K × V)} {k : K} (h : alook m k = none) : adel m k = m := by
  unfold adel
  rw [List.filter_eq_self]
  intro p hp
  have : k ∉ akeys m := alook_none.1 h
  simp only [decide_eq_true_eq]
  rintro rfl
  exact this (List.mem_map.2 ⟨p, hp, rfl⟩)
variable {kd : TypeDesc} {eK : K → Value} {eV : V → Value}
abbrev kv (e : MapEntry) : Value × Value := (e.key, e.val)
theorem modify_typed (hk : ∀ a b, eK a = eK b → a = b) {k : K} {v : V} : ∀ (es : List MapEntry) (m : List (K × V)) (j : Nat) (e : MapEntry), es.map kv = m.map (fun p => (eK p.1, eV p.2)) → (es.map (·.key)).Nodup → es[j]? = some e → e.key = eK k →
    (es.modify j (fun e => { e with key := eK k, val := eV v })).map kv = (aput m k v).map (fun p => (eK p.1, eV p.2))
  | [], _, _, _, _, _, h, _ => by simp at h
  | _ :: _, [], _, _, h, _, _, _ => by simp at h
  | e0 :: es, (k', v') :: r, 0, e, h, hn, hj, he => by
    simp only [List.getElem?_cons_zero, Option.some.injEq] at hj
    subst hj
    simp only [List.map_cons, List.cons.injEq, kv, Prod.mk.injEq] at h
    have : k' = k := hk _ _ (h.1.1.symm.trans he)
    subst this
    unfold aput
    rw [if_pos rfl]
    simp [kv, h.2]
  | e0 :: es, (k', v') :: r, j + 1, e, h, hn, hj, he => by
    simp only [List.getElem?_cons_succ] at hj
    simp only [List.map_cons, List.cons.injEq, kv, Prod.mk.injEq] at h
    rw [List.map_cons, List.nodup_cons] at hn
    have : k' ≠ k := by
      rintro rfl
      exact hn.1 (List.mem_map.2 ⟨e, List.mem_of_getElem? hj, by rw [he, h.1.1]⟩)
    unfold aput
    rw [if_neg this]
    have := modify_typed hk (k := k) (v := v) es r j e h.2 hn.2 hj he
    simp only [List.modify_succ_cons, List.map_cons, kv, h.1.1, h.1.2]
    rw [← this]
theorem erase_typed (hk : ∀ a b, eK a = eK b → a = b) {k : K} : ∀ (es : List MapEntry) (m : List (K × V)) (j : Nat) (e : MapEntry), es.map kv = m.map (fun p => (eK p.1, eV p.2)) → (es.map (·.key)).Nodup → es[j]? = some e → e.key = eK k →
    (es.eraseIdx j).map kv = (adel m k).map (fun p => (eK p.1, eV p.2))
  | [], _, _, _, _, _, h, _ => by simp at h
  | _ :: _, [], _, _, h, _, _, _ => by simp at h
  | e0 :: es, (k', v') :: r, 0, e, h, hn, hj, he => by
    simp only [List.getElem?_cons_zero, Option.some.injEq] at hj
    subst hj
    simp only [List.map_cons, List.cons.injEq, kv, Prod.mk.injEq] at h
    have hkk : k' = k := hk _ _ (h.1.1.symm.trans he)
    subst hkk
    rw [List.map_cons, List.nodup_cons] at hn
    have hf : adel ((k', v') :: r) k' = r := by
      unfold adel
      rw [List.filter_cons_of_neg (by simp), List.filter_eq_self]
      intro p hp
      simp only [decide_eq_true_eq]
      intro q
      have h1 : (eK p.1, eV p.2) ∈ es.map kv := by rw [h.2]; exact List.mem_map.2 ⟨p, hp, rfl⟩
      obtain ⟨x, hx, hxe⟩ := List.mem_map.1 h1
      refine hn.1 (List.mem_map.2 ⟨x, hx, ?_⟩)
      have := congrArg Prod.fst hxe
      simp only [kv] at this
      rw [this, q, he]
    rw [hf]
    simpa [kv] using h.2
  | e0 :: es, (k', v') :: r, j + 1, e, h, hn, hj, he => by
    simp only [List.getElem?_cons_succ] at hj
    simp only [List.map_cons, List.cons.injEq, kv, Prod.mk.injEq] at h
    rw [List.map_cons, List.nodup_cons] at hn
    have hne : k' ≠ k := by
      rintro rfl
      exact hn.1 (List.mem_map.2 ⟨e, List.mem_of_getElem? hj, by rw [he, h.1.1]⟩)
    have := erase_typed hk (k := k) es r j e h.2 hn.2 hj he
    unfold adel at this ⊢
    rw [List.filter_cons_of_pos (by simp [hne])]
    simp only [List.eraseIdx_cons_succ, List.map_cons, kv, h.1.1, h.1.2]
    rw [← this]
theorem sameBits_self {v : Value} {n : Nat} (h : IsKey kd v) : Instr.sameBits n v v = true := by
  cases kd <;> cases v <;> simp_all [IsKey, Instr.sameBits]
  exact (bytes_beq _ _).2 rfl
end
section
variable {K V : Type} [DecidableEq K] {P : Program} {Q : Exit → Act → World → Prop} {w w' : World} {ops : Array Oper} {rest : List Oper} {g d : Nat} {kd : TypeDesc} {eK : K → Value} {eV : V → Value} {m : List (K × V)} {k : K} {v : V}
variable {n : Nat} {σ : Nat → Value} {ds : List Deferred} {l : Sl} {ty : TypeId} {pos : String} {af : Array Edge} {dst : Option Nat} {gd : Option (Nat × Bool)} {t kt et : TypeId} {x y z : Operand}
theorem gb_setObj {o : Obj} : w.grownBy { w with heap := w.heap.setIfInBounds g o } (some g) :=
  ⟨rfl, rfl, rfl, by simp, fun i hi hne => by
    have : g ≠ i := fun e => hne (by rw [e])
    simp [this]⟩
theorem L_makeMap (kd : TypeDesc) (eK : K → Value) (eV : V → Value) (hn : Nat.blt d n = true)
    (J : ∀ g w', g = w.heap.size → MapF w' g kd eK eV [] → w.grownBy w' none → w'.heap.size = g + 1 → wpL P ops Q rest (Ac n σ ds ((d, .map (some g)) :: l)) w') :
    wpL P ops Q (⟨some d, .makeMap t none, ty, pos, af, none⟩ :: rest) (Ac n σ ds l) w := by
  refine L_run (w' := w.alloc (.map #[] 0)) ?_ hn (J w.heap.size _ rfl ⟨#[], 0, heap_alloc_new w _, stamped_empty 0, by simp, rfl⟩ (gb_alloc w _) (by simp))
  simp only [execOp]
  exact v_run (run_makeMap t w)
theorem run_put (ht : P.underlying t = some (.map kt et)) (hd : P.underlying kt = some kd) (hk : ∀ a b, eK a = eK b → a = b) (hi : IsKey kd (eK k)) (h : MapF w g kd eK eV m) :
    ∃ w', (Instr.mapUpdate t (.map (some g)) (eK k) (eV v)).run P w = .ok () w' ∧ MapF w' g kd eK eV (aput m k v) ∧ w.grownBy w' (some g) ∧ w'.heap.size = w.heap.size := by
  obtain ⟨es, c, hb, hst, hx', hm⟩ := h
  have hn := hst.2.2
  rcases findNow_typed (k := k) hk hi hm hx' hn with ⟨p, q, hne⟩ | ⟨v', j, e, p, q, hj, hje, _⟩
  · refine ⟨{ w with heap := w.heap.setIfInBounds g (.map (es.push { key := eK k, val := eV v, born := c }) (c + 1)) }, ?_, ?_, gb_setObj, by simp⟩
    · unfold Instr.mapUpdate
      simp only [Sem.run_bind, run_underlying ht, Result.andThen_ok, MapKept.run_getObj_map hb, run_checkKey hd hi, run_findKey hd q, run_setObj_map _ hb]
    · refine ⟨_, _, (heap_set hb).1, stamped_push hst hne, ?_, ?_⟩
      · intro x hx
        simp only [Array.toList_push, List.mem_append, List.mem_singleton] at hx
        rcases hx with hx | rfl
        · exact hx' x hx
        · exact hi
      · rw [aput_new p, Array.toList_push, List.map_append, List.map_append, hm]; rfl
  · have hek : ((es[j]?).map (·.key)).getD (eK k) = eK k := by
      rw [← Array.getElem?_toList, hj]; simp [hje]
    have hstay : (Instr.keyThatStays (((es[j]?).map (·.key)).getD (eK k)) (eK k)).run P w = .ok (eK k) w := by
      rw [hek]; simp [Instr.keyThatStays, sameBits_self hi]
    refine ⟨{ w with heap := w.heap.setIfInBounds g (.map (es.modify j fun e => { e with key := eK k, val := eV v }) c) }, ?_, ?_, gb_setObj, by simp⟩
    · unfold Instr.mapUpdate
      simp only [Sem.run_bind, run_underlying ht, Result.andThen_ok, MapKept.run_getObj_map hb, run_checkKey hd hi, run_findKey hd q, hstay, run_setObj_map _ hb]
    · have hke : ∀ e', es[j]? = some e' → ({ e' with key := eK k, val := eV v } : MapEntry).key = e'.key := by
        intro e' he'
        rw [← Array.getElem?_toList, hj] at he'
        injection he' with he'
        subst he'
        exact hje.symm
      refine ⟨_, _, (heap_set hb).1, stamped_modify hst j _ (fun _ _ => rfl) (fun e' _ he' => hke e' he'), isKey_modify hx' j _ hke, ?_⟩
      rw [Array.toList_modify]
      exact modify_typed hk es.toList m j e hm hn hj hje
theorem L_mapUpdate (hx : ev n l x = some (.map (some g))) (hy : ev n l y = some (eK k)) (hz : ev n l z = some (eV v)) (ht : P.underlying t = some (.map kt et)) (hd : P.underlying kt = some kd) (hk : ∀ a b, eK a = eK b → a = b) (hi : IsKey kd (eK k)) (h : MapF w g kd eK eV m)
    (J : ∀ w', MapF w' g kd eK eV (aput m k v) → w.grownBy w' (some g) → w'.heap.size = w.heap.size → wpL P ops Q rest (Ac n σ ds l) w') :
    wpL P ops Q (⟨none, .mapUpdate t x y z, ty, pos, af, none⟩ :: rest) (Ac n σ ds l) w := by
  obtain ⟨w', hr, h1, h2, h3⟩ := run_put (v := v) ht hd hk hi h
  refine L_run0 (w' := w') ?_ (J w' h1 h2 h3)
  simp only [execOp, ev_eval hx, ev_eval hy, ev_eval hz]
  exact u_run hr
theorem run_del (ht : P.underlying t = some (.map kt et)) (hd : P.underlying kt = some kd) (hk : ∀ a b, eK a = eK b → a = b) (hi : IsKey kd (eK k)) (h : MapF w g kd eK eV m) :
    ∃ w', (Builtin.delete_ #[t, kt] ty #[.map (some g), eK k]).run P w = .ok (.tuple #[]) w' ∧ MapF w' g kd eK eV (adel m k) ∧ w.grownBy w' (some g) ∧ w'.heap.size = w.heap.size := by
  obtain ⟨es, c, hb, hst, hx', hm⟩ := h
  have hn := hst.2.2
  rcases findNow_typed (k := k) hk hi hm hx' hn with ⟨p, q, hne⟩ | ⟨v', j, e, p, q, hj, hje, _⟩
  · refine ⟨{ w with heap := w.heap.setIfInBounds g (.map es c) }, ?_, ?_, gb_setObj, by simp⟩
    · unfold Builtin.delete_
      simp [Sem.run_bind, run_underlying ht, Result.andThen_ok, MapKept.run_getObj_map hb, run_checkKey hd hi, run_findKey hd q, run_setObj_map _ hb]
    · refine ⟨_, _, (heap_set hb).1, hst, hx', ?_⟩
      rw [adel_new p]; exact hm
  · refine ⟨{ w with heap := w.heap.setIfInBounds g (.map (es.eraseIdxIfInBounds j) c) }, ?_, ?_, gb_setObj, by simp⟩
    · unfold Builtin.delete_
      simp [Sem.run_bind, run_underlying ht, Result.andThen_ok, MapKept.run_getObj_map hb, run_checkKey hd hi, run_findKey hd q, run_setObj_map _ hb]
    · have hlt : j < es.size := by simpa using (List.getElem?_eq_some_iff.1 hj).1
      have e1 : (es.eraseIdxIfInBounds j).toList = es.toList.eraseIdx j := by simp [Array.eraseIdxIfInBounds, hlt]
      refine ⟨_, _, (heap_set hb).1, stamped_erase hst j, ?_, ?_⟩
      · intro x hx
        rw [e1] at hx
        exact hx' x ((List.eraseIdx_sublist _ _).subset hx)
      · rw [e1]; exact erase_typed hk es.toList m j e hm hn hj hje
theorem R_lenMap (hx : ev n l x = some (.map (some g))) (ht : P.underlying t = some (.map kt et)) (h : MapF w g kd eK eV m) :
    (execOp (Ac n σ ds l).eval ⟨dst, .call ⟨.builtin .len, #[x], #[t]⟩, ty, pos, af, gd⟩).run P w = .ok (.value (.int .i64 (m.length : Int))) w := by
  obtain ⟨es, c, hb, _, _, hm⟩ := h
  have e : es.size = m.length := by have := congrArg List.length hm; simpa using this
  simp [execOp, resolve, invoke, builtin, ev_eval hx, Builtin.len_, run_underlying ht, MapKept.run_getObj_map hb, goInt, e]
/-! ### ranging over a map -/
/-- Block r goes over the map in block g; so far it has handed out these entries. -/
def IterF {K V : Type} (w : World) (r g : Nat) (kd : TypeDesc) (eK : K → Value) (eV : V → Value) (m dn : List (K × V)) : Prop :=
  ∃ es c since seen left, w.heap[g]? = some (.map es c) ∧ w.heap[r]? = some (.mapIter (some g) since seen c) ∧ Stamped es c ∧ (∀ x ∈ es.toList, IsKey kd x.key) ∧ es.toList.map kv = m.map (fun p => (eK p.1, eV p.2)) ∧
    (∀ x ∈ es.toList, x.born < since) ∧ since ≤ c ∧ (leftOf es seen).toList.map kv = left.map (fun p => (eK p.1, eV p.2)) ∧ (dn ++ left).Perm m ∧
    ∀ p, dn.getLast? = some p → ∃ e ∈ es.toList, ∃ s' : Array Nat, seen = s'.push e.born ∧ kv e = (eK p.1, eV p.2)
end
section
variable {K V : Type} {w w' : World} {r g : Nat} {kd : TypeDesc} {eK : K → Value} {eV : V → Value} {m dn : List (K × V)}
theorem IterF.map (h : IterF w r g kd eK eV m dn) : MapF w g kd eK eV m := by
  obtain ⟨es, c, since, seen, left, h1, h2, h3, h4, h5, _⟩ := h
  exact ⟨es, c, h1, h3, h4, h5⟩
theorem IterF.oth (h : IterF w r g kd eK eV m dn) : Other w r := by
  obtain ⟨es, c, since, seen, left, h1, h2, _⟩ := h
  intro c' t fr q
  rw [h2] at q; cases q
theorem IterF.grown {row : Option Nat} (h : IterF w r g kd eK eV m dn) (hg : w.grownBy w' row) (h1 : some g ≠ row) (h2 : some r ≠ row) : IterF w' r g kd eK eV m dn := by
  obtain ⟨es, c, since, seen, left, a, b, rest⟩ := h
  exact ⟨es, c, since, seen, left, (hg.block g (Array.getElem?_eq_some_iff.1 a).1 h1).trans a, (hg.block r (Array.getElem?_eq_some_iff.1 b).1 h2).trans b, rest⟩
theorem IterF.gb (h : IterF w r g kd eK eV m dn) (hg : w.grownBy w' none) : IterF w' r g kd eK eV m dn := h.grown hg (by simp) (by simp)
theorem IterF.blk {g' t : Nat} {cs : List Value} (h : IterF w r g kd eK eV m dn) (hb : Blk w g' t cs) (hg : w.grownBy w' (some g')) : IterF w' r g kd eK eV m dn := by
  have h' := h
  obtain ⟨es, c, since, seen, left, a, b, _⟩ := h'
  unfold Blk at hb
  refine h.grown hg ?_ ?_
  · rintro e; injection e with e; subst e; rw [a] at hb; cases hb
  · rintro e; injection e with e; subst e; rw [b] at hb; cases hb
theorem IterF.own {lo t sz n : Nat} {v : Value} {vs : List Value} (h : IterF w r g kd eK eV m dn) (ho : w.ownsRow lo t sz v n vs) (hg : w.grownBy w' v.ownBlock) : IterF w' r g kd eK eV m dn := by
  have h' := h
  obtain ⟨es, c, since, seen, left, a, b, _⟩ := h'
  rcases ho with ⟨_, h2 | ⟨g', cap, cc, rfl, _, hh, _⟩⟩
  · refine h.grown hg ?_ ?_ <;> (intro e; rw [h2.1] at e; cases e)
  · refine h.grown hg ?_ ?_
    · intro e
      have : g = g' := by simpa [Value.ownBlock] using e
      subst this; rw [a] at hh; cases hh
    · intro e
      have : r = g' := by simpa [Value.ownBlock] using e
      subst this; rw [b] at hh; cases hh
end
theorem leftOf_push (es : Array MapEntry) (seen : Array Nat) (b : Nat) : (leftOf es (seen.push b)).toList = (leftOf es seen).toList.filter (fun e => decide (e.born ≠ b)) := by
  unfold leftOf
  simp only [Array.toList_filter, List.filter_filter]
  apply List.filter_congr
  intro e _
  by_cases h : e.born = b <;> simp [h, Array.contains_push]
theorem filter_one {l1 l2 : List MapEntry} {e : MapEntry} (hn : ((l1 ++ e :: l2).map (·.born)).Nodup) : (l1 ++ e :: l2).filter (fun x => decide (x.born ≠ e.born)) = l1 ++ l2 := by
  rw [List.map_append, List.map_cons, List.nodup_append] at hn
  obtain ⟨h1, h2, h3⟩ := hn
  rw [List.nodup_cons] at h2
  rw [List.filter_append, List.filter_cons_of_neg (by simp)]
  congr 1
  · rw [List.filter_eq_self]
    intro x hx
    simp only [decide_eq_true_eq]
    exact h3 _ (List.mem_map.2 ⟨x, hx, rfl⟩) _ (by simp)
  · rw [List.filter_eq_self]
    intro x hx
    simp only [decide_eq_true_eq]
    intro q
    exact h2.1 (List.mem_map.2 ⟨x, hx, q⟩)
theorem split_typed {K V : Type} {eK : K → Value} {eV : V → Value} : ∀ (l1 l2 : List MapEntry) (e : MapEntry) (m : List (K × V)), (l1 ++ e :: l2).map kv = m.map (fun p => (eK p.1, eV p.2)) →
    ∃ m1 p m2, m = m1 ++ p :: m2 ∧ l1.map kv = m1.map (fun p => (eK p.1, eV p.2)) ∧ kv e = (eK p.1, eV p.2) ∧ l2.map kv = m2.map (fun p => (eK p.1, eV p.2))
  | [], l2, e, [], h => by simp at h
  | [], l2, e, p :: r, h => by
    simp only [List.nil_append, List.map_cons, List.cons.injEq] at h
    exact ⟨[], p, r, rfl, rfl, h.1, h.2⟩
  | a :: l1, l2, e, [], h => by simp at h
  | a :: l1, l2, e, p :: r, h => by
    simp only [List.cons_append, List.map_cons, List.cons.injEq] at h
    obtain ⟨m1, q, m2, rfl, h1, h2, h3⟩ := split_typed l1 l2 e r h.2
    exact ⟨p :: m1, q, m2, rfl, by simp [h1, h.1], h2, h3⟩
section
variable {K V : Type} {P : Program} {Q : Exit → Act → World → Prop} {w w' : World} {ops : Array Oper} {rest : List Oper} {g d r : Nat} {kd : TypeDesc} {eK : K → Value} {eV : V → Value} {m dn : List (K × V)}
variable {n : Nat} {σ : Nat → Value} {ds : List Deferred} {l : Sl} {ty : TypeId} {pos : String} {af : Array Edge} {t kt et : TypeId} {x : Operand}
theorem L_range (hx : ev n l x = some (.map (some g))) (ht : P.underlying t = some (.map kt et)) (h : MapF w g kd eK eV m) (hn : Nat.blt d n = true)
    (J : ∀ r w', r = w.heap.size → IterF w' r g kd eK eV m [] → w.grownBy w' none → w'.heap.size = r + 1 → wpL P ops Q rest (Ac n σ ds ((d, .pointer (some ⟨r, 0, none⟩)) :: l)) w') :
    wpL P ops Q (⟨some d, .range t x, ty, pos, af, none⟩ :: rest) (Ac n σ ds l) w := by
  have hlt := h.lt
  obtain ⟨es, c, hb, hst, hx', hm⟩ := h
  have hl0 : leftOf es #[] = es := by unfold leftOf; rw [Array.filter_eq_self]; simp
  refine L_run (w' := w.alloc (.mapIter (some g) c #[] c)) ?_ hn (J w.heap.size _ rfl ⟨es, c, c, #[], m, (heap_alloc_old w _ hlt).trans hb, heap_alloc_new w _, hst, hx', hm, hst.1, Nat.le_refl _, by rw [hl0]; exact hm, by simp, by simp⟩ (gb_alloc w _) (by simp))
  simp only [execOp, ev_eval hx]
  exact v_run (run_range_map w t kt et g es c ht hb)
theorem L_next (hx : ev n l x = some (.pointer (some ⟨r, 0, none⟩))) (h : IterF w r g kd eK eV m dn) (hn : Nat.blt d n = true)
    (K0 : dn.Perm m → wpL P ops Q rest (Ac n σ ds ((d, .tuple #[.bool false]) :: l)) w)
    (K1 : ∀ p w', p ∈ m → dn.length < m.length → IterF w' r g kd eK eV m (dn ++ [p]) → w.grownBy w' (some r) → w'.heap.size = w.heap.size → wpL P ops Q rest (Ac n σ ds ((d, .tuple #[.bool true, eK p.1, eV p.2]) :: l)) w') :
    wpL P ops Q (⟨some d, .next x false, ty, pos, af, none⟩ :: rest) (Ac n σ ds l) w := by
  obtain ⟨es, c, since, seen, left, hb, hr, hst, hx', hm, hold, hsc, hl, hp, _⟩ := h
  rcases run_next_at (P := P) w ty r g since c seen es c hr hb hold hsc with ⟨h0, hrun⟩ | ⟨e, he, w1, hw1, hrun⟩
  · have : left = [] := by
      have := congrArg List.length hl
      simp at this
      exact List.eq_nil_of_length_eq_zero (by omega)
    subst this
    refine L_run ?_ hn (K0 (by simpa using hp))
    simp only [execOp, ev_eval hx]
    exact v_run hrun
  · obtain ⟨l1, l2, hsp⟩ := List.append_of_mem he
    rw [hsp] at hl
    obtain ⟨m1, p, m2, rfl, e1, e2, e3⟩ := split_typed l1 l2 e left hl
    have hnb : ((l1 ++ e :: l2).map (·.born)).Nodup := by
      rw [← hsp]
      have hsub : (leftOf es seen).toList.Sublist es.toList := by unfold leftOf; rw [Array.toList_filter]; exact List.filter_sublist
      exact (hsub.map _).nodup hst.2.1
    have hkey : e.key = eK p.1 ∧ e.val = eV p.2 := by simpa [kv] using e2
    have hrw : w1.heap = w.heap := by rcases hw1 with rfl | rfl <;> rfl
    have hgr : g ≠ r := by rintro rfl; rw [hb] at hr; cases hr
    have hlt : r < w.heap.size := (Array.getElem?_eq_some_iff.1 hr).1
    have hrun' : (execOp (Ac n σ ds l).eval ⟨some d, .next x false, ty, pos, af, none⟩).run P w = .ok (.value (.tuple #[.bool true, eK p.1, eV p.2])) (ChangeMaps.setBlock w1 r (.mapIter (some g) since (seen.push e.born) c)) := by
      simp only [execOp, ev_eval hx]
      rw [← hkey.1, ← hkey.2]
      exact v_run hrun
    have hmem : p ∈ m := hp.mem_iff.1 (by simp)
    have hlen := hp.length_eq
    simp only [List.length_append, List.length_cons] at hlen
    refine L_run hrun' hn (K1 p _ hmem (by omega) ⟨es, c, since, seen.push e.born, m1 ++ m2, ?_, ?_, hst, hx', hm, hold, hsc, ?_, ?_, ?_⟩ ?_ ?_)
    · simp only [ChangeMaps.setBlock, hrw]; rw [Array.getElem?_setIfInBounds_ne (fun q => hgr q.symm)]; exact hb
    · simp only [ChangeMaps.setBlock, hrw]; simp [hlt]
    · rw [leftOf_push, hsp, filter_one hnb, List.map_append, List.map_append, e1, e3]
    · refine List.Perm.trans ?_ hp
      rw [List.append_assoc]
      exact List.Perm.append_left dn (by simpa using (List.perm_middle (l₁ := m1) (a := p) (l₂ := m2)).symm)
    · intro q hq
      rw [List.getLast?_concat] at hq
      injection hq with hq
      subst hq
      have hes : e ∈ es.toList := by
        have hsub : (leftOf es seen).toList.Sublist es.toList := by unfold leftOf; rw [Array.toList_filter]; exact List.filter_sublist
        exact hsub.subset he
      exact ⟨e, hes, seen, rfl, e2⟩
    · have hg1 : w.grownBy w1 none := by rcases hw1 with rfl | rfl; exact World.grownBy.refl _ _; exact ⟨rfl, rfl, rfl, Nat.le_refl _, fun _ _ _ => rfl⟩
      exact ⟨hg1.os, hg1.tape, hg1.output, by simp [ChangeMaps.setBlock, hrw], fun i hi hne => by
        have : r ≠ i := fun q => hne (by rw [q])
        simp only [ChangeMaps.setBlock, hrw]
        rw [Array.getElem?_setIfInBounds_ne this]⟩
    · simp [ChangeMaps.setBlock, hrw]
theorem R_entry {p : K × V} (hx : ev n l x = some (.pointer (some ⟨r, 0, none⟩))) (h : IterF w r g kd eK eV m (dn ++ [p])) {dst : Option Nat} {gd : Option (Nat × Bool)} :
    (execOp (Ac n σ ds l).eval ⟨dst, .entry x, ty, pos, af, gd⟩).run P w = .ok (.value (.tuple #[eK p.1, eV p.2])) w := by
  obtain ⟨es, c, since, seen, left, hb, hr, hst, hx', hm, hold, hsc, hl, hp, hlast⟩ := h
  obtain ⟨e, he, s', rfl, hkv⟩ := hlast p (by rw [List.getLast?_concat])
  have hkey : e.key = eK p.1 ∧ e.val = eV p.2 := by simpa [kv] using hkv
  simp only [execOp, ev_eval hx]
  rw [← hkey.1, ← hkey.2]
  exact v_run (run_entry_at w r g since s' es c e hr hb he hst.2.1)
end
end Go.Proofs.Ytoipncaopdmicaa.Gw
namespace Go.Proofs.Ytoipncaopdmicaa.Gw
open Go.RowKit Go.Proofs.Ytoipncaopdmicaa.Pl
set_option linter.unusedVariables false
set_option linter.unusedSimpArgs false
/-- The place of a whole block, as a value. -/
abbrev ptrV (g : Nat) : Value := .pointer (some ⟨g, 0, none⟩)
section maps
variable {P : Program} {n : Nat} {σ : Nat → Value} {ds : List Deferred} {l : List (Nat × Value)} {w : World} {x y : Operand} {t t' e e' : TypeId} {dst : Option Tmp} {ty : TypeId} {pos : String} {af : Array Edge} {gd : Option (Nat × Bool)}
theorem eqm_pn {d g : Nat} (ht : P.underlying t = some (.map e e')) : (Op.equalIn (d + 1) t (.map (some g)) (.map none)).run P w = .ok false w := by
  unfold Op.equalIn
  simp [run_underlying ht]
theorem R_eqlmP {g : Nat} (hx : ev n l x = some (.map (some g))) (hy : ev n l y = some (.map none)) (ht : P.underlying t = some (.map e e')) :
    (execOp (Ac n σ ds l).eval ⟨dst, .binOp .eql t x y t', ty, pos, af, gd⟩).run P w = .ok (.value (.bool false)) w := by
  simp only [execOp, ev_eval hx, ev_eval hy]
  refine v_run ?_
  simp only [eqGuard, binOp, Op.equal, Op.maxDepth]
  simp [eqm_pn (d := 9999) ht]
theorem zero_val {z : Value} (hz : (P.info? t).bind (·.zero) = some z) (w : World) : (zeroValue t).run P w = .ok z w := by
  obtain ⟨i, hi, hz'⟩ := Option.bind_eq_some_iff.1 hz
  simp [zeroValue, typeInfo, hi, hz']
end maps
/-! ### arrays of bytes as lists -/
theorem flB_len (X : List UInt8) : (fl encB X).length = X.length := by rw [fl_len EncB, Nat.mul_one]
theorem flB_lenE {X : List UInt8} {n : Nat} (h : X.length = n) : (fl encB X).length = n := by rw [flB_len]; exact h
theorem flB_one : ∀ X : List UInt8, (fl encB X).all (·.oneCell') = true
  | [] => rfl
  | x :: r => by
    have e : fl encB (x :: r) = .int .u8 (x.toNat : Int) :: fl encB r := rfl
    rw [e, List.all_cons, flB_one r]
    rfl
/-- A sector: 64 bytes. -/
structure Sx where
  b : List UInt8
  h : b.length = 64
def encX (s : Sx) : List Value := fl encB s.b
theorem EncX : Enc encX 64 := ⟨fun s => by unfold encX; rw [flB_len]; exact s.h, fun s => flB_one s.b⟩
section s2arr
variable {P : Program} {ops : Array Oper} {Q : Exit → Act → World → Prop} {rest : List Oper} {n : Nat} {σ : Nat → Value} {ds : List Deferred} {l : List (Nat × Value)} {w : World} {x : Operand} {t e te : TypeId} {d c lo hi : Nat} {A : Option Addr} {ty : TypeId} {pos : String} {af : Array Edge}
end s2arr
end Go.Proofs.Ytoipncaopdmicaa.Gw
namespace Go.Proofs.Ytoipncaopdmicaa.Gw
open Go.RowKit
set_option linter.unusedVariables false
set_option linter.unusedSimpArgs false
/-- Here lies what is no row of cells. -/
def LpF (w : World) (g : Nat) (o : Obj) : Prop := w.heap[g]? = some o ∧ ∀ cs t fz, o ≠ .cells cs t fz
section
variable {w w' : World} {g h L D : Nat} {o : Obj}
theorem LpF.lt (hL : LpF w L o) : L < w.heap.size := (Array.getElem?_eq_some_iff.1 hL.1).1
theorem LpF.grown {row : Option Nat} (hL : LpF w L o) (hs : w.grownBy w' row) (hne : some L ≠ row) : LpF w' L o := ⟨(hs.block L hL.lt hne).trans hL.1, hL.2⟩
theorem LpF.gb (hL : LpF w L o) (hs : w.grownBy w' none) : LpF w' L o := hL.grown hs (by simp)
theorem LpF.blk {t : TypeId} {cs : List Value} (hL : LpF w L o) (hb : Blk w g t cs) (hs : w.grownBy w' (some g)) : LpF w' L o :=
  hL.grown hs (by rintro ⟨rfl⟩; exact hL.2 _ _ _ (Option.some.inj (hL.1.symm.trans hb)))
theorem Blk.lp {t : TypeId} {cs : List Value} (hb : Blk w g t cs) (hL : LpF w L o) (hs : w.grownBy w' (some L)) : Blk w' g t cs :=
  hb.grown hs (by rintro ⟨rfl⟩; exact hL.2 _ _ _ (Option.some.inj (hL.1.symm.trans hb)))
theorem Sli.lp {t lo hi : Nat} {A : Option Addr} {vs : List Value} (hS : Sli t lo hi w A vs) (hL : LpF w L o) (hs : w.grownBy w' (some L)) : Sli t lo hi w' A vs := by
  rcases hS with hS | ⟨g, off, c, fr, hA, h1, h2, ⟨t2, h3, ht⟩, h4⟩
  · exact .inl hS
  · refine .inr ⟨g, off, c, fr, hA, h1, h2, ⟨t2, (hs.block g (Array.getElem?_eq_some_iff.1 h3).1 ?_).trans h3, ht⟩, h4⟩
    rintro ⟨rfl⟩
    exact hL.2 _ _ _ (Option.some.inj (hL.1.symm.trans h3))
theorem ne_ty {t t' : TypeId} {cs cs' : List Value} (h1 : Blk w g t cs) (h2 : Blk w h t' cs') (hne : Nat.beq t t' = false) : some g ≠ some h := by
  rintro ⟨rfl⟩
  have e := Option.some.inj (h1.symm.trans h2)
  injection e with e1 e2
  rw [e2, Nat.beq_refl] at hne
  cases hne
end
section
variable {P : Program} {Q : Exit → Act → World → Prop} {w w' W : World} {n : Nat} {σ : Nat → Value} {ds : List Deferred} {l l' : Sl}
variable {g : Operand} {ps : Array Tmp} {asg body : Code} {gf fn : FuncId} {fs cs : List Value} {T : Array Value} {D L : Nat}
/-- What a piece of code comes to, said once. -/
theorem C_join {c : Code} {ro : Option Nat} {a : Act} (R : Act → World → Prop) (h1 : c.wpIn (wF ro) 0 P (fun e a w => e = .normal ∧ R a w) a w) (h2 : ∀ a w, R a w → Q .normal a w) : c.wpIn (wF ro) 0 P Q a w :=
  wpIn_mono (F := wF ro) h1 fun e a w he => by
    obtain ⟨rfl, h⟩ := he
    exact h2 _ _ h
section
variable {R : Value → World → Prop} {a : Act} {id : Nat}
end
end
end Go.Proofs.Ytoipncaopdmicaa.Gw
namespace Go.Proofs.Ytoipncaopdmicaa.Gw
open Go.RowKit Go.Proofs.Ytoipncaopdmicaa.Pl
set_option linter.unusedVariables false
set_option linter.unusedSimpArgs false
section
variable {P : Program} {ops : Array Oper} {Q : Exit → Act → World → Prop} {rest : List Oper} {n : Nat} {σ : Nat → Value} {ds : List Deferred} {l : Sl} {w : World} {x y : Operand} {t e te : TypeId} {d : Nat} {A : Option Addr} {ty : TypeId} {pos : String} {af : Array Edge}
end
end Go.Proofs.Ytoipncaopdmicaa.Gw
namespace Go.Proofs.Ytoipncaopdmicaa.Gw
open Go.RowKit Go.Proofs.Ytoipncaopdmicaa.Pl
set_option linter.unusedVariables false
set_option linter.unusedSimpArgs false
section
variable {P : Program} {Q : Exit → Act → World → Prop} {w w' W : World} {n : Nat} {σ : Nat → Value} {ds : List Deferred} {l l' : Sl}
variable {asg body : Code} {fn : FuncId} {D L : Nat}
end
theorem LpF.own {w w' : World} {L : Nat} {o : Obj} {lo t sz n : Nat} {v : Value} {vs : List Value} (hL : LpF w L o) (ho : w.ownsRow lo t sz v n vs) (hs : w.grownBy w' v.ownBlock) : LpF w' L o := by
  rcases ho.2 with ⟨rfl, _⟩ | ⟨g, cap, cur, rfl, _, hh, _⟩
  · exact hL.gb hs
  · refine hL.grown hs fun e => ?_
    have e2 : L = g := by injection e
    subst e2
    exact hL.2 _ _ _ (Option.some.inj (hL.1.symm.trans hh))
section ptrs
variable {P : Program} {n : Nat} {σ : Nat → Value} {ds : List Deferred} {l : List (Nat × Value)} {w : World} {x y : Operand} {t t' e : TypeId} {dst : Option Tmp} {ty : TypeId} {pos : String} {af : Array Edge} {gd : Option (Nat × Bool)}
theorem eqs_sn {d m c : Nat} {a : Addr} (ht : P.underlying t = some (.slice e)) : (Op.equalIn (d + 1) t (.slice (some a) m c) (.slice none 0 0)).run P w = .ok false w := by
  unfold Op.equalIn
  simp [run_underlying ht]
theorem R_eqlsSN {m c : Nat} {a : Addr} (hx : ev n l x = some (.slice (some a) m c)) (hy : ev n l y = some (.slice none 0 0)) (ht : P.underlying t = some (.slice e)) :
    (execOp (Ac n σ ds l).eval ⟨dst, .binOp .eql t x y t', ty, pos, af, gd⟩).run P w = .ok (.value (.bool false)) w := by
  simp only [execOp, ev_eval hx, ev_eval hy]
  refine v_run ?_
  simp only [eqGuard, binOp, Op.equal, Op.maxDepth]
  simp [eqs_sn (d := 9999) ht]
end ptrs
section structs
variable {P : Program} {w : World} {xs ys : Array Value}
end structs
end Go.Proofs.Ytoipncaopdmicaa.Gw
