/-
  Step lemmas, eleventh part: loops over functions. They hold of every program.
-/
import Derived.Test.YtkjgjejkfjhcjaaDoorGp
import Derived.Test.YtkjgjejkfjhcjaaDoorGb
import Derived.RangeFuncRecord
import Derived.RangeFuncSeq
namespace Go.Proofs.YtkjgjejkfjhcjaaDoor.Gw
open Go.RowKit
set_option linter.unusedVariables false
set_option linter.unusedSimpArgs false
/-- The record of such a loop. -/
def lrec (fn : FuncId) (T : Array Value) (ps : Array Tmp) (asg body : Code) (D : Nat) (st : LoopState) (pe : Option Code) : Obj :=
  .loop { state := st, pending := pe, fn := fn, tmps := T, params := ps, assign := asg, body := body, defers := D }
def lmark (D : Nat) : Deferred := { target := .collected D, args := #[] }
section
variable {P : Program} {Q : Exit → Act → World → Prop} {w w' W : World} {n : Nat} {σ : Nat → Value} {ds : List Deferred} {l : Sl}
variable {g : Operand} {ps : Array Tmp} {asg body : Code} {gf fn : FuncId} {fs cs : List Value} {T : Array Value} {D L : Nat}
/-- The loop: its function is called with a function of its own. -/
theorem C_range (hg : ev n l g = some (.func (.func gf) fs.toArray cs.toArray)) (hc : callB P gf = true)
    (h : ∀ fn, Runs P gf (fs ++ [Value.func (.yield (w.heap.size + 1)) #[] #[]] ++ cs).toArray ((w.alloc (.deferred (some []))).alloc (lrec fn (fr n σ l) ps asg body w.heap.size .ready none))
      (fun _ w3 => ∃ r : Loop, w3.heap[w.heap.size + 1]? = some (.loop r) ∧ r.state ≠ .busy ∧
        ∀ w4, w3.grownBy w4 (some (w.heap.size + 1)) → w4.heap.size = w3.heap.size →
          match r.pending with
          | none => Q .normal (Ac n σ (lmark w.heap.size :: ds) l) w4
          | some c => c.wpIn (wF none) 0 P Q (Ac n σ (lmark w.heap.size :: ds) l) w4)) :
    (Code.rangeFunc g ps asg body).wpIn (wF none) 0 P Q (Ac n σ ds l) w := by
  refine wpIn_rangeFunc fun fn _ => ?_
  have hw := h fn
  generalize hW : (w.alloc (.deferred (some []))).alloc (lrec fn (fr n σ l) ps asg body w.heap.size .ready none) = W1 at hw
  have hen : (Instr.enterLoop fn (Ac n σ ds l).tmps ps asg body (wF none).round).run P w = .ok (w.heap.size + 1, [lmark w.heap.size]) W1 := by
    rw [← hW]; exact run_enterLoop_outer _ _ _ _ _
  refine ⟨w.heap.size + 1, [lmark w.heap.size], W1, { target := .fn (.func gf) cs.toArray, args := (fs ++ [Value.func (.yield (w.heap.size + 1)) #[] #[]]).toArray }, W1, gf,
    (fs ++ [Value.func (.yield (w.heap.size + 1)) #[] #[]] ++ cs).toArray, W1, hen, ?_, fun _ _ => trivial, ?_, (fun e => by cases e), callsIn_wide.2 (hw.calls.mono ?_)⟩
  · have e0 := ev_eval (σ := σ) (ds := ds) hg
    have e1 : (Ac n σ ds l).eval (.const (.func (.yield (w.heap.size + 1)) #[] #[])) = .func (.yield (w.heap.size + 1)) #[] #[] := rfl
    simp [resolve, Deferred.ofValue, e0, e1]
  · simp [invoke, run_callFunc hc]
  · rintro e w3 ⟨v, rfl, r, h1, h2, h3⟩
    refine ⟨r.pending, _, run_endLoop h1 h2, ?_⟩
    have := h3 _ (⟨rfl, rfl, rfl, by simp, fun k _ hk => World.putObj_heap_other (fun e => hk (by rw [e]))⟩ : w3.grownBy (w3.putObj (w.heap.size + 1) (.loop { r with state := .exhausted })) _) (by simp)
    generalize r.pending = pe at *
    cases pe with
    | none => exact this
    | some c => exact this
/-- How a round's body may be left. -/
def rdEnd (L : Nat) (fn : FuncId) (T : Array Value) (ps : Array Tmp) (asg body : Code) (D : Nat) (R : Value → World → Prop) : Exit → Act → World → Prop
  | .normal, _, w' => w'.heap[L]? = some (lrec fn T ps asg body D .busy none) ∧ R (.bool true) (w'.putObj L (lrec fn T ps asg body D .ready none))
  | .ret, _, w' => w'.heap[L]? = some (lrec fn T ps asg body D .busy none) ∧ R (.bool false) (w'.putObj L (lrec fn T ps asg body D .done (some .ret)))
  | .exit id, _, w' => w'.heap[L]? = some (lrec fn T ps asg body D .busy none) ∧ R (.bool false) (w'.putObj L (lrec fn T ps asg body D .done (some (.exit id))))
  | _, _, _ => False
abbrev YieldR (P : Program) (L : Nat) (args : List Value) (w : World) (R : Value → World → Prop) : Prop := YieldAt Fence.wide 0 P L args.toArray w (RetOf R)
/-- One round. -/
theorem yield_round {args : List Value} {R : Value → World → Prop} (hL : W.heap[L]? = some (lrec fn T ps asg body D .ready none)) (hn : args.length = ps.size)
    (h : asg.wpIn (wF (some L)) 0 P (Exit.then (fun a₁ w₁ => w₁.heap[L]? = some (lrec fn T ps asg body D .ready none) ∧ body.wpIn (wF (some L)) 0 P (rdEnd L fn T ps asg body D R) a₁ (w₁.putObj L (lrec fn T ps asg body D .busy none))) (fun _ _ _ => False))
      { tmps := (ps.zip args.toArray).foldl (fun t (p, v) => t.setIfInBounds p v) T, defers := [] } W) : YieldR P L args W R := by
  refine ⟨fn, _, asg, body, run_yield hL (by simpa using hn), roundIn_of_wpIn (F := Fence.wide) trivial (wpIn_mono (F := wF (some L)) h fun e a₁ w₁ he => ?_)⟩
  cases e with
  | normal =>
    obtain ⟨h1, h2⟩ := he
    refine ⟨_, run_beginRound h1 rfl, wpIn_mono (F := wF (some L)) h2 fun e a₂ w₂ he => ?_⟩
    cases e with
    | normal => exact ⟨_, _, run_endRound none he.1, he.2⟩
    | ret => exact ⟨_, _, run_endRound (some .ret) he.1, he.2⟩
    | exit id => exact ⟨_, _, run_endRound (some (.exit id)) he.1, he.2⟩
    | goto t => exact he.elim
    | panic c => exact he.elim
    | outgrown => exact he.elim
  | ret => exact he.elim
  | exit id => exact he.elim
  | goto t => exact he.elim
  | panic c => exact he.elim
  | outgrown => exact he.elim
theorem fr_set {d : Nat} {v : Value} (h : Nat.blt d n = true) : (fr n σ l).setIfInBounds d v = fr n σ ((d, v) :: l) := by
  have := Ac_put (n := n) (σ := σ) (ds := []) (l := l) (v := v) h
  exact congrArg Act.tmps this
theorem fold1 {p : Nat} {v : Value} (h : Nat.blt p n = true) : ((#[p] : Array Tmp).zip [v].toArray).foldl (fun t (p, v) => t.setIfInBounds p v) (fr n σ l) = fr n σ ((p, v) :: l) := by
  rw [← fr_set h]; simp
theorem fold2 {p q : Nat} {v u : Value} (h : Nat.blt p n = true) (h' : Nat.blt q n = true) : ((#[p, q] : Array Tmp).zip [v, u].toArray).foldl (fun t (p, v) => t.setIfInBounds p v) (fr n σ l) = fr n σ ((q, u) :: (p, v) :: l) := by
  rw [← fr_set h', ← fr_set h]; simp
variable {ops : Array Oper} {rest : List Oper} {d : Nat} {ty : TypeId} {pos : String} {af : Array Edge}
/-- A call of that function. -/
theorem L_yield {x : Operand} {xs : List Operand} {ts : Array TypeId} {vals : List Value} {R : Value → World → Prop} (hx : ev n l x = some (.func (.yield L) #[] #[])) (hv : evL n l xs = some vals) (h : YieldR P L vals w R) (hn : Nat.blt d n = true)
    (K : ∀ v w', R v w' → wpL P ops Q rest (Ac n σ ds ((d, v) :: l)) w') : wpL P ops Q (⟨some d, .call ⟨.value x, xs.toArray, ts⟩, ty, pos, af, none⟩ :: rest) (Ac n σ ds l) w := by
  have hm := evL_map (σ := σ) (ds := ds) hv
  obtain ⟨f, tm, a, b, hy, hr⟩ := h
  unfold wpL
  rw [if_pos (by simp [Region.wanted])]
  right
  refine ⟨L, f, tm, a, b, w, ?_, RoundIn.mono hr fun e w'' he => ?_⟩
  · simp [execOp, resolve, Deferred.ofValue, invoke, ev_eval hx, hm, hy]
  · cases e with
    | returned v => show wpL P ops Q rest ((Ac n σ ds l).put (some d) v) w''; rw [Ac_put hn]; exact K v w'' he
    | panicked c => exact he.elim
    | outgrown => exact he.elim
end
section
variable {P : Program} {f : FuncId} {fn : Func} {c : Code} {vs : List Value} {w : World} {R : Value → World → Prop} {n : Nat} {σ : Nat → Value} {l : Sl} {D : Nat}
theorem enterM (hf : P.funcs[f]? = some fn) (hn : fn.ntmps = n) (hs : Nat.ble vs.length n = true) (hb : fn.body = some c)
    (h : c.wpIn (wF none) 0 P (bodyPostM (wF none) 0 P fn (RetOf R)) (Ac n (fun _ => undef) [] (zipA 0 vs)) w) : Runs P f vs.toArray w R := by
  refine callsIn_wide.1 (callsIn_of_wp_marks (F := wF none) (n := 0) hf hb trivial ?_)
  rw [enterG (P := P) hn hs]
  exact h
theorem leaveM0 {e : Exit} (h : bodyPost P fn (RetOf R) e (Ac n σ [] l) w) : bodyPostM (wF none) 0 P fn (RetOf R) e (Ac n σ [] l) w := by
  cases e with
  | normal => exact h.2
  | ret => exact h.2
  | panic c => exact h.2.elim
  | exit i => exact h
  | goto i => exact h
  | outgrown => exact h.elim
theorem leaveM1 {e : Exit} (he : e = .normal ∨ e = .ret) (hD : w.heap[D]? = some (.deferred (some []))) (K : ∀ w', w.grownBy w' (some D) → w'.heap.size = w.heap.size → bodyPost P fn (RetOf R) e (Ac n σ [] l) w') : bodyPostM (wF none) 0 P fn (RetOf R) e (Ac n σ [lmark D] l) w := by
  have h := K (w.putObj D (.deferred none)) ⟨rfl, rfl, rfl, by simp, fun k _ hk => World.putObj_heap_other (fun e => hk (by rw [e]))⟩ (by simp)
  have key : ∀ u, u = FrameMode.returning → LeavesIn (wF none) 0 P fn (fr n σ l) (RetOf R) [] u (w.putObj D (.deferred none)) → LeavesInM (wF none) 0 P fn (fr n σ l) (RetOf R) [lmark D] u w := by
    rintro u rfl h
    exact ⟨(fun e => by cases e), .inl ⟨D, _, rfl, run_takeDeferred hD, h⟩⟩
  rcases he with rfl | rfl
  · exact key _ rfl h.2
  · exact key _ rfl h.2
end
end Go.Proofs.YtkjgjejkfjhcjaaDoor.Gw
