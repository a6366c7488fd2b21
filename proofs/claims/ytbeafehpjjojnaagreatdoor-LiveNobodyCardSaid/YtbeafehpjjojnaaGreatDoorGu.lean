/-
  Step lemmas, thirteenth part: maps compared with nil, pointers as a map's values. They hold of every program.
-/
import Derived.Test.YtbeafehpjjojnaaGreatDoorGq
import Derived.Test.YtbeafehpjjojnaaGreatDoorGk
namespace Go.Proofs.YtbeafehpjjojnaaGreatDoor.Gw
open Go.RowKit Go.Proofs.YtbeafehpjjojnaaGreatDoor.Pl
set_option linter.unusedVariables false
set_option linter.unusedSimpArgs false
/-- The place of a whole block, as a value. -/
abbrev ptrV (g : Nat) : Value := .pointer (some ⟨g, 0, none⟩)
section maps
variable {P : Program} {n : Nat} {σ : Nat → Value} {ds : List Deferred} {l : List (Nat × Value)} {w : World} {x y : Operand} {t t' e e' : TypeId} {dst : Option Tmp} {ty : TypeId} {pos : String} {af : Array Edge} {gd : Option (Nat × Bool)}
theorem eqm_pn {d g : Nat} (ht : P.underlying t = some (.map e e')) : (Op.equalIn (d + 1) t (.map (some g)) (.map none)).run P w = .ok false w := by
  unfold Op.equalIn
  simp [run_underlying ht]
theorem eqm_nn {d : Nat} (ht : P.underlying t = some (.map e e')) : (Op.equalIn (d + 1) t (.map none) (.map none)).run P w = .ok true w := by
  unfold Op.equalIn
  simp [run_underlying ht]
theorem R_eqlmP {g : Nat} (hx : ev n l x = some (.map (some g))) (hy : ev n l y = some (.map none)) (ht : P.underlying t = some (.map e e')) :
    (execOp (Ac n σ ds l).eval ⟨dst, .binOp .eql t x y t', ty, pos, af, gd⟩).run P w = .ok (.value (.bool false)) w := by
  simp only [execOp, ev_eval hx, ev_eval hy]
  refine v_run ?_
  simp only [eqGuard, binOp, Op.equal, Op.maxDepth]
  simp [eqm_pn (d := 9999) ht]
theorem R_eqlmN (hx : ev n l x = some (.map none)) (hy : ev n l y = some (.map none)) (ht : P.underlying t = some (.map e e')) :
    (execOp (Ac n σ ds l).eval ⟨dst, .binOp .eql t x y t', ty, pos, af, gd⟩).run P w = .ok (.value (.bool true)) w := by
  simp only [execOp, ev_eval hx, ev_eval hy]
  refine v_run ?_
  simp only [eqGuard, binOp, Op.equal, Op.maxDepth]
  simp [eqm_nn (d := 9999) ht]
theorem zero_val {z : Value} (hz : (P.info? t).bind (·.zero) = some z) (w : World) : (zeroValue t).run P w = .ok z w := by
  obtain ⟨i, hi, hz'⟩ := Option.bind_eq_some_iff.1 hz
  simp [zeroValue, typeInfo, hi, hz']
end maps
theorem ptrV_inj (a b : Nat) (h : ptrV a = ptrV b) : a = b := by injection h with h; injection h with h; injection h
end Go.Proofs.YtbeafehpjjojnaaGreatDoor.Gw
