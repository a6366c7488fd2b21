/-
  Step lemmas, ninth part: functions that may panic, deferred calls, and what a deferred call recovers. They hold of every program.
-/
import Derived.Test.YtkjgjejkfjhcjaaDoorGt
import Derived.Recover
namespace Go.Proofs.YtkjgjejkfjhcjaaDoor.Gw
open Go.RowKit
set_option linter.unusedVariables false
set_option linter.unusedSimpArgs false
/-- one panic, not recovered -/
def pe (v : Value) : PanicEntry := { v := v, recovered := false }
/-- The function returns, and what it returns is so, or it panics, and by a value that is so. -/
def RunsP (P : Program) (f : FuncId) (args : Array Value) (w : World) (R E : Value → World → Prop) : Prop :=
  Calls P f args w fun e w' => match e with | .returned v => R v w' | .panicked c => ∃ v, c = [pe v] ∧ E v w' | .outgrown => False
def RetOfP (R E : Value → World → Prop) : Ending → World → Prop := fun e w' => match e with | .returned v => R v w' | .panicked c => ∃ v, c = [pe v] ∧ E v w' | .outgrown => False
theorem enterG {P : Program} {fn : Func} {vs : List Value} {n : Nat} (hn : fn.ntmps = n) (hs : Nat.ble vs.length n = true) :
    ({ tmps := vs.toArray ++ Array.replicate (fn.ntmps - vs.toArray.size) undef, defers := [] } : Act) = Ac n (fun _ => undef) [] (zipA 0 vs) := by
  have hle : vs.length ≤ n := by simpa using hs
  unfold Ac
  congr 1
  apply Array.ext
  · simp [fr, hn]; omega
  · intro i h1 h2
    have hi : i < n := by simpa [fr] using h2
    have hz := lk_zipA vs 0 i
    rw [Nat.zero_add] at hz
    simp only [fr, Array.getElem_map, Array.getElem_range]
    rw [hz]
    by_cases hlt : i < vs.length
    · rw [Array.getElem_append_left (by simpa using hlt)]
      simp [List.getElem?_eq_getElem hlt]
    · rw [Array.getElem_append_right (by simpa using hlt)]
      simp [List.getElem?_eq_none (by omega : vs.length ≤ i)]
section
variable {P : Program} {f : FuncId} {fn : Func} {c : Code} {vs : List Value} {w : World} {R E : Value → World → Prop} {n : Nat}
theorem enterP (hf : P.funcs[f]? = some fn) (hn : fn.ntmps = n) (hs : Nat.ble vs.length n = true) (hb : fn.body = some c)
    (h : c.wpIn (wF none) 0 P (bodyPost P fn (RetOfP R E)) (Ac n (fun _ => undef) [] (zipA 0 vs)) w) : RunsP P f vs.toArray w R E := by
  refine calls_of_wp hf hb (wpIn_wide.1 (?_ : Code.wpIn (wF none) 0 P c _ _ _))
  rw [enterG (P := P) hn hs]
  exact h
theorem enterD (hf : P.funcs[f]? = some fn) (hn : fn.ntmps = n) (hs : Nat.ble vs.length n = true) (hb : fn.body = some c)
    (h : c.wpIn (wF none) 0 P (bodyPostD P fn (RetOf R)) (Ac n (fun _ => undef) [] (zipA 0 vs)) w) : Runs P f vs.toArray w R := by
  refine calls_of_wp_defers hf hb (wpIn_wide.1 (?_ : Code.wpIn (wF none) 0 P c _ _ _))
  rw [enterG (P := P) hn hs]
  exact h
theorem retP {x : Exit} {a : Act} (h : bodyPost P fn (RetOf R) x a w) : bodyPost P fn (RetOfP R E) x a w := by
  cases x with
  | normal => exact h
  | ret => exact h
  | panic ch => exact h.2.elim
  | exit i => exact h
  | goto i => exact h
  | outgrown => exact h.elim
theorem panP {σ : Nat → Value} {l : Sl} {v : Value} (hE : E v w) : bodyPost P fn (RetOfP R E) (.panic [pe v]) (Ac n σ [] l) w := ⟨rfl, v, rfl, hE⟩
end
section
variable {P : Program} {Q : Exit → Act → World → Prop} {w w' : World} {ops : Array Oper} {rest : List Oper}
variable {n : Nat} {σ : Nat → Value} {ds : List Deferred} {l : Sl} {d : Nat} {ty : TypeId} {pos : String} {af : Array Edge} {dst : Option Nat} {gd : Option (Nat × Bool)} {t t' : TypeId} {x y : Operand} {v : Value}
theorem L_enterP {op : Op} {f : FuncId} {vals : Array Value} {R E : Value → World → Prop} (hr : (execOp (Ac n σ ds l).eval ⟨some d, op, ty, pos, af, none⟩).run P w = .ok (.enter f vals) w)
    (h : RunsP P f vals w R E) (hn : Nat.blt d n = true) (K : ∀ v w', R v w' → wpL P ops Q rest (Ac n σ ds ((d, v) :: l)) w') (J : ∀ v w', E v w' → Q (.panic [pe v]) (Ac n σ ds l) w') :
    wpL P ops Q (⟨some d, op, ty, pos, af, none⟩ :: rest) (Ac n σ ds l) w := by
  unfold wpL
  rw [if_pos (by simp [Region.wanted])]
  left
  unfold Oper.wp
  rw [hr]
  simp only [Oper.upon]
  refine Calls.mono h fun e w' he => ?_
  cases e with
  | returned v => simp only []; rw [Ac_put hn]; exact K v w' he
  | panicked c => obtain ⟨v, rfl, hv⟩ := he; exact J v w' hv
  | outgrown => exact he.elim
theorem L_callP {f : FuncId} {xs : List Operand} {ts : Array TypeId} {vals : List Value} {R E : Value → World → Prop} (hv : evL n l xs = some vals) (hf : callB P f = true) (h : RunsP P f vals.toArray w R E) (hn : Nat.blt d n = true)
    (K : ∀ v w', R v w' → wpL P ops Q rest (Ac n σ ds ((d, v) :: l)) w') (J : ∀ v w', E v w' → Q (.panic [pe v]) (Ac n σ ds l) w') :
    wpL P ops Q (⟨some d, .call ⟨.value (.func f), xs.toArray, ts⟩, ty, pos, af, none⟩ :: rest) (Ac n σ ds l) w := by
  refine L_enterP ?_ h hn K J
  have hm := evL_map (σ := σ) (ds := ds) hv
  simp [execOp, resolve, Deferred.ofValue, invoke, Act.eval, run_callFunc hf, ← hm]
theorem L_panic (hx : ev n l x = some (.iface t v)) (h : Q (.panic [pe (.iface t v)]) (Ac n σ ds l) w) : wpL P ops Q (⟨dst, .panic x, ty, pos, af, none⟩ :: rest) (Ac n σ ds l) w := by
  unfold wpL
  rw [if_pos (by simp [Region.wanted])]
  left
  unfold Oper.wp
  have : (execOp (Ac n σ ds l).eval ⟨dst, .panic x, ty, pos, af, none⟩).run P w = .halt (.panic (.iface t v)) w := by
    simp [execOp, ev_eval hx, Instr.panic, goPanic]
  rw [this]
  exact h
theorem R_mkif {fs : Array Field} (hx : ev n l x = some v) (ht : P.underlying t = some (.struct fs)) : (execOp (Ac n σ ds l).eval ⟨dst, .makeInterface t x, ty, pos, af, gd⟩).run P w = .ok (.value (.iface t v)) w := by
  simp only [execOp, ev_eval hx]
  refine v_run ?_
  simp [Instr.makeInterface, run_underlying ht]
theorem L_defer {f : FuncId} {first cap : List Value} {ts : Array TypeId} (hx : ev n l x = some (.func (.func f) first.toArray cap.toArray))
    (K : wpL P ops Q rest (Ac n σ (⟨.fn (.func f) cap.toArray, first.toArray⟩ :: ds) l) w) :
    wpL P ops Q (⟨none, .defer ⟨.value x, #[], ts⟩, ty, pos, af, none⟩ :: rest) (Ac n σ ds l) w := by
  unfold wpL
  rw [if_pos (by simp [Region.wanted])]
  left
  unfold Oper.wp
  have : (execOp (Ac n σ ds l).eval ⟨none, .defer ⟨.value x, #[], ts⟩, ty, pos, af, none⟩).run P w = .ok (.defer ⟨.fn (.func f) cap.toArray, first.toArray⟩) w := by
    simp [execOp, resolve, Deferred.ofValue, ev_eval hx]
  rw [this]
  exact K
theorem run_eqI1 {d : Nat} {ms : Array (String × TypeId)} (ht : P.underlying t = some (.interface ms)) : (Op.equalIn (d + 1) t .nilIface .nilIface).run P w = .ok true w := by
  unfold Op.equalIn
  simp [run_underlying ht]
theorem run_eqI2 {d : Nat} {ms : Array (String × TypeId)} {s : TypeId} (ht : P.underlying t = some (.interface ms)) : (Op.equalIn (d + 1) t (.iface s v) .nilIface).run P w = .ok false w := by
  unfold Op.equalIn
  simp [run_underlying ht]
theorem R_neqI1 {ms : Array (String × TypeId)} (hx : ev n l x = some .nilIface) (ht : P.underlying t = some (.interface ms)) :
    (execOp (Ac n σ ds l).eval ⟨dst, .binOp .neq t x (.const .nilIface) t', ty, pos, af, gd⟩).run P w = .ok (.value (.bool false)) w := by
  simp only [execOp, ev_eval hx]
  refine v_run ?_
  simp only [Act.eval, eqGuard, binOp, Op.equal, Op.maxDepth]
  simp [run_eqI1 (d := 9999) ht]
theorem R_neqI2 {ms : Array (String × TypeId)} {s : TypeId} (hx : ev n l x = some (.iface s v)) (ht : P.underlying t = some (.interface ms)) :
    (execOp (Ac n σ ds l).eval ⟨dst, .binOp .neq t x (.const .nilIface) t', ty, pos, af, gd⟩).run P w = .ok (.value (.bool true)) w := by
  simp only [execOp, ev_eval hx]
  refine v_run ?_
  simp only [Act.eval, eqGuard, binOp, Op.equal, Op.maxDepth]
  simp [run_eqI2 (d := 9999) ht]
theorem R_tassert {fs : Array Field} {s : TypeId} (hx : ev n l x = some (.iface s v)) (ht : P.underlying s = some (.struct fs)) :
    (execOp (Ac n σ ds l).eval ⟨dst, .typeAssert x t s true, ty, pos, af, gd⟩).run P w = .ok (.value (.tuple #[v, .bool true])) w := by
  simp only [execOp, ev_eval hx]
  refine v_run ?_
  simp [Instr.typeAssert, run_underlying ht]
end
/-! ### deferred calls -/
section
variable {P : Program} {f : FuncId} {fn : Func} {c : Code} {vs : List Value} {w : World} {n : Nat}
/-- What a deferred call of these modes comes to. -/
def Defd (P : Program) (f : FuncId) (args : Array Value) (u : FrameMode) (w : World) (R : World → Prop) : Prop :=
  CallsD P f args u w fun e u' w' => (∃ v, e = .returned v) ∧ settle u' = .returning ∧ R w'
theorem enterS {args : Array Value} {u : FrameMode} {R : World → Prop} (ha : args = vs.toArray) (hf : P.funcs[f]? = some fn) (hn : fn.ntmps = n) (hs : Nat.ble vs.length n = true) (hb : fn.body = some c)
    (h : ∀ (c₀ : Frame) (cs : List Frame), c₀.mode = u → c.wpS P (bodyPostS P fn c₀ cs fun e u' w' => (∃ v, e = .returned v) ∧ settle u' = .returning ∧ R w') (Ac n (fun _ => undef) [] (zipA 0 vs)) (c₀ :: cs) w) :
    Defd P f args u w R := by
  refine callsD_of_wpS hf hb ?_
  subst ha
  rw [enterG (P := P) hn hs]
  exact h
variable {Q : Exit → Act → List Frame → World → Prop} {cs : List Frame} {id : Nat} {σ : Nat → Value} {ds : List Deferred} {l : Sl}
/-- The region in which a deferred call asks what it recovers. -/
theorem S_recover {d e : Nat} {ts : Array TypeId} {ty ty' : TypeId} {pos pos' : String} {af af' : Array Edge} {oa : Op} {v : Value} {cs' : List Frame}
    (has : oa = .assign (.tmp d)) (hd : Nat.blt d n = true) (he : Nat.blt e n = true) (hr : recoverD cs = some (v, cs') ∨ recoverD cs = none ∧ v = .nilIface ∧ cs' = cs)
    (h : Q .normal (Ac n σ ds ((e, v) :: (d, v) :: l)) cs' w) :
    (Code.region id #[⟨some d, .call ⟨.builtin .recover, #[], ts⟩, ty, pos, af, none⟩, ⟨some e, oa, ty', pos', af', none⟩] false).wpS P Q (Ac n σ ds l) cs w := by
  subst has
  refine wpS_region ?_
  have h1 : (execOp (Ac n σ ds l).eval ⟨some d, .call ⟨.builtin .recover, #[], ts⟩, ty, pos, af, none⟩).run P w = .ok .recover w := by
    simp [execOp, resolve, invoke, builtin]
  have h2 : (execOp (Ac n σ ds ((d, v) :: l)).eval ⟨some e, .assign (.tmp d), ty', pos', af', none⟩).run P w = .ok (.value v) w := by
    have hv : ev n ((d, v) :: l) (.tmp d) = some v := by simp [ev, lk, hd]
    simp [execOp, ev_eval hv]
  have hrange : List.range (#[(⟨some d, .call ⟨.builtin .recover, #[], ts⟩, ty, pos, af, none⟩ : Oper), ⟨some e, .assign (.tmp d), ty', pos', af', none⟩] : Array Oper).size = [0, 1] := rfl
  rw [hrange]
  have key : wpOpsS P #[⟨some d, .call ⟨.builtin .recover, #[], ts⟩, ty, pos, af, none⟩, ⟨some e, .assign (.tmp d), ty', pos', af', none⟩] Q [1] ((Ac n σ ds l).put (some d) v) cs' w := by
    rw [Ac_put hd]
    simp only [wpOpsS]
    simp only [List.getElem?_toArray, List.getElem?_cons_succ, List.getElem?_cons_zero, Region.wanted, if_true]
    rw [h2]
    simp only [Oper.upon]
    rw [Ac_put he]
    exact h
  simp only [wpOpsS] at key ⊢
  simp only [List.getElem?_toArray, List.getElem?_cons_zero, Region.wanted, if_true]
  rw [h1]
  simp only []
  rcases hr with hr | ⟨hr, rfl, rfl⟩
  · rw [hr]; exact key
  · rw [hr]; exact key
theorem leave0 {R : World → Prop} {c₀ : Frame} {cs : List Frame} {u : FrameMode} {a : Act} (hr : fn.results = #[]) (ha : a.defers = []) (hu : settle u = .returning) (hR : R w) :
    bodyPostS P fn c₀ cs (fun e u' w' => (∃ v, e = .returned v) ∧ settle u' = .returning ∧ R w') .normal a ({ c₀ with mode := u } :: cs) w :=
  ⟨ha, u, rfl, _, results_none hr _ _ _, ⟨_, rfl⟩, hu, hR⟩
theorem invoke_fn {f : FuncId} {first cap : List Value} (hf : callB P f = true) : (invoke (.fn (.func f) cap.toArray) first.toArray).run P w = .ok (.enter f (first ++ cap).toArray) w := by
  simp [invoke, run_callFunc hf]
/-- the two ways out of a function with one deferred call -/
theorem D_ret {R : Value → World → Prop} {first cap : List Value} {tmps : Array Value} (hf : callB P f = true) (h : Defd P f (first ++ cap).toArray .returning w fun w' => ∃ v, (results fn tmps).run P w' = .ok v w' ∧ R v w') :
    Leaves P fn tmps (RetOf R) [⟨.fn (.func f) cap.toArray, first.toArray⟩] .returning w :=
  leaves_cons (by simp) (invoke_fn hf) (CallsD.mono h fun e u' w' ⟨⟨v, he⟩, hu, x, hx, hR⟩ => by subst he; simp only []; rw [hu]; exact ⟨x, hx, hR⟩)
theorem D_pan {R : Value → World → Prop} {first cap : List Value} {tmps : Array Value} {v : Value} (hf : callB P f = true) (h : Defd P f (first ++ cap).toArray (.panicking [pe v]) w fun w' => ∃ v, (results fn tmps).run P w' = .ok v w' ∧ R v w') :
    Leaves P fn tmps (RetOf R) [⟨.fn (.func f) cap.toArray, first.toArray⟩] (.panicking [pe v]) w :=
  leaves_cons (by simp) (invoke_fn hf) (CallsD.mono h fun e u' w' ⟨⟨v, he⟩, hu, x, hx, hR⟩ => by subst he; simp only []; rw [hu]; exact ⟨x, hx, hR⟩)
theorem Defd.mono {args : Array Value} {u : FrameMode} {R R' : World → Prop} (h : Defd P f args u w R) (hr : ∀ w', R w' → R' w') : Defd P f args u w R' :=
  CallsD.mono h fun e u' w' ⟨a, b, c⟩ => ⟨a, b, hr _ c⟩
/-- two results that stand in cells -/
theorem res2c {a b ta tb ga gb : Nat} {x y : Value} (hr : fn.results = #[.cell a ta, .cell b tb]) (ha : ev n l (.tmp a) = some (.pointer (some ⟨ga, 0, none⟩))) (hb : ev n l (.tmp b) = some (.pointer (some ⟨gb, 0, none⟩)))
    (hta : sclB P ta = true) (htb : sclB P tb = true) (hx : w.cell? ⟨ga, 0, none⟩ = some x) (hy : w.cell? ⟨gb, 0, none⟩ = some y) : (results fn (fr n σ l)).run P w = .ok (.tuple #[x, y]) w := by
  have h1 := get_tmp (σ := σ) ha
  have h2 := get_tmp (σ := σ) hb
  simp [results, hr, h1, h2, asAddr, loadVar, run_isAgg_no hta, run_isAgg_no htb, load, hx, hy, Sem.run]
end
end Go.Proofs.YtkjgjejkfjhcjaaDoor.Gw
