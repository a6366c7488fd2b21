/-
  An evaluator for closed calls: a call with constants, where one global is known. It holds of every program.
-/
import Derived.Test.YtbmohojdlgedpaaEn
namespace Go.Proofs.Ytbmohojdlgedpaa.Ev
open Go.RowKit Gw
set_option linter.unusedVariables false
set_option linter.unusedSimpArgs false
/-- One block, only to be read. -/
def stG (T : TypeId) (vs : List Value) : St := ⟨.n .e (some (.cells T (vs.map fun v => .b (.k v)) 2)) .e, 1⟩
def rhoG (g : Nat) : Rho := fun b => if b = 0 then some (g, 0) else none
theorem MR.startG {w : World} {g : Nat} {T T' : TypeId} {vs : List Value} {fz : Nat × Nat} (h : w.heap[g]? = some (.cells vs.toArray T' fz)) : MR (Wd.old w) (rhoG g) (stG T vs) w := by
  have hget : ∀ b mb, (stG T vs).mem.get b = some mb → b = 0 ∧ mb = .cells T (vs.map fun v => .b (.k v)) 2 := by
    intro b mb e
    simp only [stG, Tr.get] at e
    cases hb : Nat.beq b 0 with
    | true =>
      rw [hb] at e
      exact ⟨Nat.eq_of_beq_eq_true hb, (Option.some.inj e).symm⟩
    | false =>
      rw [hb] at e
      cases h1 : Nat.beq (b % 2) 1 <;> rw [h1] at e <;> cases e
  refine ⟨Wd.old_refl w, fun b hb => ?_, fun b mb e => ?_, fun b b' mb mb' g1 c c' e e' r r' => ?_⟩
  · have : 1 ≤ b := hb
    simp [rhoG, show b ≠ 0 by omega]
  · obtain ⟨rfl, rfl⟩ := hget b mb e
    exact ⟨g, 0, rfl, ⟨(fun h => by cases h), fun h => h⟩, vs, [], (fz, T'), (by rw [List.append_nil]; exact h), A2_k vs, (fun h => absurd h (by decide)), (fun h => absurd h (by decide)), (fun h => absurd rfl h)⟩
  · rw [(hget b mb e).1, (hget b' mb' e').1]
/-- What the evaluator reckons of a call with constants is so, wherever it is made, if that global is so. -/
theorem closedG {P : Program} {mu : Nat → Bool} {ov : Rec} {fuel d f : Nat} {xs : List Value} {v : Value} {w : World} {g : Nat} {T T' : TypeId} {vs : List Value} {fz : Nat × Nat} (hw : w.heap[g]? = some (.cells vs.toArray T' fz)) (hm : P.follows .mixedOrders = true) (hO : ∀ w0, RecOk P w0 [(g, 0)] ov)
    (h : valOf (evF P (drwA P [(g, 0)]) [(g, 0)] mu ov fuel d f (xs.map vK) (stG T vs)) = some v) : Runs P f xs.toArray w (fun u w' => w.grownBy w' none ∧ u = v) := by
  unfold valOf at h
  split at h
  · rename_i u st1 he
    obtain rfl := Option.some.inj h
    have hA : A2 (R2 (rhoG g)) (xs.map vK) xs := by
      clear he h
      induction xs with
      | nil => trivial
      | cons x r ih => exact ⟨rfl, ih⟩
    refine (evF_ok hO (drwA_ok hm) d (Wd.old w) f _ _ _ st1 he (rhoG g) w xs (fun g' b e => ?_) (MR.startG hw) hA).mono fun u' w' hr => ?_
    · simp only [gl1] at e
      cases hg : Nat.beq g g' with
      | true =>
        rw [hg] at e
        obtain rfl := Option.some.inj e
        obtain rfl := Nat.eq_of_beq_eq_true hg
        exact ⟨0, rfl⟩
      | false => rw [hg] at e; cases e
    · obtain ⟨ρ', _, hM, hx⟩ := hr
      exact ⟨Wd.old_gb hM.gb, hx⟩
  · cases h
/-- The same without globals. -/
theorem closedD {P : Program} {mu : Nat → Bool} {fuel d f : Nat} {xs : List Value} {v : Value} {w : World} (hm : P.follows .mixedOrders = true)
    (h : valOf (evF P (drwA P []) [] mu noov fuel d f (xs.map vK) st0) = some v) : Runs P f xs.toArray w (fun u w' => w.grownBy w' none ∧ u = v) := closed (drwA_ok hm) h
end Go.Proofs.Ytbmohojdlgedpaa.Ev
