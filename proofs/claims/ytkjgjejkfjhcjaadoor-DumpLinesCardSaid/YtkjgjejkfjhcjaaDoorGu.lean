/-
  Step lemmas, thirteenth part: maps compared with nil, pointers as a map's values. They hold of every program.
-/
import Derived.Test.YtkjgjejkfjhcjaaDoorGq
import Derived.Test.YtkjgjejkfjhcjaaDoorGk
namespace Go.Proofs.YtkjgjejkfjhcjaaDoor.Gw
open Go.RowKit Go.Proofs.YtkjgjejkfjhcjaaDoor.Pl
set_option linter.unusedVariables false
set_option linter.unusedSimpArgs false
/-- The place of a whole block, as a value. -/
abbrev ptrV (g : Nat) : Value := .pointer (some ⟨g, 0, none⟩)
section maps
variable {P : Program} {n : Nat} {σ : Nat → Value} {ds : List Deferred} {l : List (Nat × Value)} {w : World} {x y : Operand} {t t' e e' : TypeId} {dst : Option Tmp} {ty : TypeId} {pos : String} {af : Array Edge} {gd : Option (Nat × Bool)}
theorem eqm_pn {d g : Nat} (ht : P.underlying t = some (.map e e')) : (Op.equalIn (d + 1) t (.map (some g)) (.map none)).run P w = .ok false w := by
  unfold Op.equalIn
  simp [run_underlying ht]
theorem eqm_nn {d : Nat} (ht : P.underlying t = some (.map e e')) : (Op.equalIn (d + 1) t (.map none) (.map none)).run P w = .ok true w := by
  unfold Op.equalIn
  simp [run_underlying ht]
theorem R_eqlmP {g : Nat} (hx : ev n l x = some (.map (some g))) (hy : ev n l y = some (.map none)) (ht : P.underlying t = some (.map e e')) :
    (execOp (Ac n σ ds l).eval ⟨dst, .binOp .eql t x y t', ty, pos, af, gd⟩).run P w = .ok (.value (.bool false)) w := by
  simp only [execOp, ev_eval hx, ev_eval hy]
  refine v_run ?_
  simp only [eqGuard, binOp, Op.equal, Op.maxDepth]
  simp [eqm_pn (d := 9999) ht]
theorem R_eqlmN (hx : ev n l x = some (.map none)) (hy : ev n l y = some (.map none)) (ht : P.underlying t = some (.map e e')) :
    (execOp (Ac n σ ds l).eval ⟨dst, .binOp .eql t x y t', ty, pos, af, gd⟩).run P w = .ok (.value (.bool true)) w := by
  simp only [execOp, ev_eval hx, ev_eval hy]
  refine v_run ?_
  simp only [eqGuard, binOp, Op.equal, Op.maxDepth]
  simp [eqm_nn (d := 9999) ht]
theorem zero_val {z : Value} (hz : (P.info? t).bind (·.zero) = some z) (w : World) : (zeroValue t).run P w = .ok z w := by
  obtain ⟨i, hi, hz'⟩ := Option.bind_eq_some_iff.1 hz
  simp [zeroValue, typeInfo, hi, hz']
end maps
theorem ptrV_inj (a b : Nat) (h : ptrV a = ptrV b) : a = b := by injection h with h; injection h with h; injection h
/-! ### arrays of bytes as lists -/
theorem flB_len (X : List UInt8) : (fl encB X).length = X.length := by rw [fl_len EncB, Nat.mul_one]
theorem flB_lenE {X : List UInt8} {n : Nat} (h : X.length = n) : (fl encB X).length = n := by rw [flB_len]; exact h
theorem flB_one : ∀ X : List UInt8, (fl encB X).all (·.oneCell') = true
  | [] => rfl
  | x :: r => by
    have e : fl encB (x :: r) = .int .u8 (x.toNat : Int) :: fl encB r := rfl
    rw [e, List.all_cons, flB_one r]
    rfl
theorem fl_atB : ∀ {X : List UInt8} {i : Nat} (h : i < X.length), (fl encB X)[i]? = some (.int .u8 (X[i].toNat : Int))
  | x :: r, 0, _ => rfl
  | x :: r, i + 1, h => by
    have e : fl encB (x :: r) = .int .u8 (x.toNat : Int) :: fl encB r := rfl
    rw [e, List.getElem?_cons_succ, fl_atB (by simpa using h)]
    rfl
theorem spl_lenT {α : Type} {xs ys : List α} {o m n : Nat} (hx : xs.length = n) (h : o + m ≤ n) : (spl xs o (ys.take m)).length = n := by
  rw [spl_len (by rw [List.length_take]; omega)]; exact hx
/-- A sector: 64 bytes. -/
structure Sx where
  b : List UInt8
  h : b.length = 64
def encX (s : Sx) : List Value := fl encB s.b
theorem EncX : Enc encX 64 := ⟨fun s => by unfold encX; rw [flB_len]; exact s.h, fun s => flB_one s.b⟩
section s2arr
variable {P : Program} {ops : Array Oper} {Q : Exit → Act → World → Prop} {rest : List Oper} {n : Nat} {σ : Nat → Value} {ds : List Deferred} {l : List (Nat × Value)} {w : World} {x : Operand} {t e te : TypeId} {d c lo hi : Nat} {A : Option Addr} {ty : TypeId} {pos : String} {af : Array Edge}
theorem T_s2arr {m : Nat} {X : List UInt8} (hx : ev n l x = some (.slice A X.length c)) (ht : arrB P t e m 1 = true) (hS : Sli te lo hi w A (fl encB X)) (hm : X.length = m) (h0 : Nat.blt 0 m = true) (hn : Nat.blt d n = true)
    (K : ∀ g o, At w g o (fl encB X) → wpL P ops Q rest (Ac n σ ds ((d, .pointer (some ⟨g, o, none⟩)) :: l)) w) : wpL P ops Q (⟨some d, .sliceToArrayPointer t x, ty, pos, af, none⟩ :: rest) (Ac n σ ds l) w := by
  rcases hS with h | ⟨g, off, cs, fr, hA, h1, h2, ⟨t', h3, ht'⟩, h4⟩
  · have := flB_len X
    rw [h] at this
    simp at this h0
    omega
  · subst hA
    refine L_run (R_s2arr hx ht (by omega)) hn (K g off (fun j v hj => ?_))
    rw [cell_of_row w g (off + j) cs t' fr h3]
    exact h4 j v hj
end s2arr
end Go.Proofs.YtkjgjejkfjhcjaaDoor.Gw
