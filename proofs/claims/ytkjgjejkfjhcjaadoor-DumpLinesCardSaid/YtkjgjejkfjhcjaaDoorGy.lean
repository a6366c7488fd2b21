/-
  Step lemmas, tenth part: a result of one cell; the least of two numbers. They hold of every program.
-/
import Derived.Test.YtkjgjejkfjhcjaaDoorGs
namespace Go.Proofs.YtkjgjejkfjhcjaaDoor.Gw
open Go.RowKit Go.Proofs.YtkjgjejkfjhcjaaDoor.Pl
set_option linter.unusedVariables false
set_option linter.unusedSimpArgs false
section
variable {P : Program} {fn : Func} {R : Value → World → Prop} {w : World} {n : Nat} {σ : Nat → Value} {l : Sl}
theorem retCS {a t g : Nat} {v : Value} (hr : fn.results = #[.cell a t]) (ha : ev n l (.tmp a) = some (.pointer (some ⟨g, 0, none⟩))) (ht : sclB P t = true) (hc : w.cell? ⟨g, 0, none⟩ = some v)
    (hR : R v w) : bodyPost P fn (RetOf R) .ret (Ac n σ [] l) w := by
  refine bodyPost_ret (v := v) ?_ rfl hR
  have h1 := get_tmp (σ := σ) ha
  have h2 : (loadVar t ⟨g, 0, none⟩).run P w = .ok v w := by simp [loadVar, run_isAgg_no ht, load, Sem.run, hc]
  simp [results, hr, Ac, h1, asAddr, h2]
end
section
variable {P : Program} {w : World} {n : Nat} {σ : Nat → Value} {ds : List Deferred} {l : Sl} {dst : Option Nat} {ty : TypeId} {pos : String} {af : Array Edge} {gd : Option (Nat × Bool)} {ts : Array TypeId}
theorem R_min {x y : Operand} {a b v : Value} (hx : ev n l x = some a) (hy : ev n l y = some b) (h : ∀ w : World, (Builtin.min2 a b).run P w = .ok v w) :
    (execOp (Ac n σ ds l).eval ⟨dst, .call ⟨.builtin .min, #[x, y], ts⟩, ty, pos, af, gd⟩).run P w = .ok (.value v) w := by
  simp [execOp, resolve, invoke, builtin, ev_eval hx, ev_eval hy, Builtin.min_, h]
end
end Go.Proofs.YtkjgjejkfjhcjaaDoor.Gw
