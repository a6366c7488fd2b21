/-
  An evaluator for closed calls: calls that have been reckoned already. It holds of every program.
-/
import Derived.Test.YtbeafehpjjojnaaGreatDoorEp
namespace Go.Proofs.YtbeafehpjjojnaaGreatDoor.Ev
open Go.RowKit Gw
set_option linter.unusedVariables false
set_option linter.unusedSimpArgs false
def v2L : List V2 → List V2 → Bool
  | [], [] => true
  | a :: r, b :: q => v2B a b && v2L r q
  | _, _ => false
theorem v2L_eq : ∀ {a b : List V2}, v2L a b = true → a = b
  | [], [], _ => rfl
  | a :: r, b :: q, h => by
    simp only [v2L, Bool.and_eq_true] at h
    rw [v2B_eq h.1, v2L_eq h.2]
  | [], _ :: _, h => by cases h
  | _ :: _, [], h => by cases h
def esB : List (Value × C × Nat) → List (Value × C × Nat) → Bool
  | [], [] => true
  | a :: r, b :: q => vB a.1 b.1 && cB a.2.1 b.2.1 && Nat.beq a.2.2 b.2.2 && esB r q
  | _, _ => false
theorem esB_eq : ∀ {a b : List (Value × C × Nat)}, esB a b = true → a = b
  | [], [], _ => rfl
  | (x, y, z) :: r, (x', y', z') :: q, h => by
    simp only [esB, Bool.and_eq_true] at h
    rw [vB_eq h.1.1.1, cB_eq h.1.1.2, Nat.eq_of_beq_eq_true h.1.2, esB_eq h.2]
  | [], _ :: _, h => by cases h
  | _ :: _, [], h => by cases h
def nlB : List Nat → List Nat → Bool
  | [], [] => true
  | a :: r, b :: q => Nat.beq a b && nlB r q
  | _, _ => false
theorem nlB_eq : ∀ {a b : List Nat}, nlB a b = true → a = b
  | [], [], _ => rfl
  | a :: r, b :: q, h => by
    simp only [nlB, Bool.and_eq_true] at h
    rw [Nat.eq_of_beq_eq_true h.1, nlB_eq h.2]
  | [], _ :: _, h => by cases h
  | _ :: _, [], h => by cases h
def boB : Bool → Bool → Bool
  | true, true => true
  | false, false => true
  | _, _ => false
def mbB : MB → MB → Bool
  | .cells t cs md, .cells t' cs' md' => Nat.beq t t' && Nat.beq md md' && cL cs cs'
  | .map es c r, .map es' c' r' => Nat.beq c c' && boB r r' && esB es es'
  | .dfr, .dfr => true
  | .iter a b l c, .iter a' b' l' c' => Nat.beq a a' && Nat.beq b b' && nlB l l' && Nat.beq c c'
  | _, _ => false
theorem mbB_eq {a b : MB} (h : mbB a b = true) : a = b := by
  unfold mbB at h
  split at h
  · simp only [Bool.and_eq_true] at h
    rw [Nat.eq_of_beq_eq_true h.1.1, Nat.eq_of_beq_eq_true h.1.2, cL_eq h.2]
  · rename_i r _ _ r'
    simp only [Bool.and_eq_true] at h
    have : ∀ r r', boB r r' = true → r = r' := by decide
    rw [Nat.eq_of_beq_eq_true h.1.1, this _ _ h.1.2, esB_eq h.2]
  · rfl
  · simp only [Bool.and_eq_true] at h
    rw [Nat.eq_of_beq_eq_true h.1.1.1, Nat.eq_of_beq_eq_true h.1.1.2, nlB_eq h.1.2, Nat.eq_of_beq_eq_true h.2]
  · cases h
def omB : Option MB → Option MB → Bool
  | none, none => true
  | some a, some b => mbB a b
  | _, _ => false
theorem omB_eq : ∀ {a b : Option MB}, omB a b = true → a = b
  | none, none, _ => rfl
  | some a, some b, h => by rw [mbB_eq h]
  | none, some _, h => by cases h
  | some _, none, h => by cases h
def trB : Tr MB → Tr MB → Bool
  | .e, .e => true
  | .n l x r, .n l' x' r' => omB x x' && trB l l' && trB r r'
  | _, _ => false
theorem trB_eq : ∀ {a b : Tr MB}, trB a b = true → a = b
  | .e, .e, _ => rfl
  | .n l x r, .n l' x' r', h => by
    simp only [trB, Bool.and_eq_true] at h
    rw [omB_eq h.1.1, trB_eq h.1.2, trB_eq h.2]
  | .e, .n _ _ _, h => by cases h
  | .n _ _ _, .e, h => by cases h
def stB (a b : St) : Bool := Nat.beq a.next b.next && trB a.mem b.mem
theorem stB_eq {a b : St} (h : stB a b = true) : a = b := by
  obtain ⟨m, n⟩ := a
  obtain ⟨m', n'⟩ := b
  simp only [stB, Bool.and_eq_true] at h
  rw [trB_eq h.2, Nat.eq_of_beq_eq_true h.1]
def isR (r : Option (V2 × St)) (x : V2) (st : St) : Bool := match r with | some (y, s) => v2B y x && stB s st | none => false
theorem isR_eq {r : Option (V2 × St)} {x : V2} {st : St} (h : isR r x st = true) : r = some (x, st) := by
  unfold isR at h
  split at h
  · simp only [Bool.and_eq_true] at h
    rw [v2B_eq h.1, stB_eq h.2]
  · cases h
/-- A call that has been reckoned. -/
structure Ent where
  f : Nat
  xs : List V2
  st : St
  x : V2
  st' : St
def EntOk (P : Program) (gl : Gl) (e : Ent) : Prop := ∀ w0 ρ w vals, GL ρ gl → MR w0 ρ e.st w → A2 (R2 ρ) e.xs vals → Runs P e.f vals.toArray w (fun u w' => ∃ ρ', Le ρ ρ' ∧ MR w0 ρ' e.st' w' ∧ R2 ρ' e.x u)
def look : List Ent → Rec
  | [], _, _, _ => none
  | e :: r, f, xs, st => bif Nat.beq e.f f && v2L e.xs xs && stB e.st st then some (e.x, e.st') else look r f xs st
theorem all_cons {P : Program} {gl : Gl} {a : Ent} {l : List Ent} (h : EntOk P gl a) (hl : ∀ e ∈ l, EntOk P gl e) : ∀ e ∈ a :: l, EntOk P gl e := fun e he => by
  rcases List.mem_cons.1 he with rfl | he
  · exact h
  · exact hl e he
def orO (a b : Rec) : Rec := fun f xs st => match a f xs st with | some r => some r | none => b f xs st
theorem look_ok {P : Program} {gl : Gl} (w0 : Wd) : ∀ {l : List Ent}, (∀ e ∈ l, EntOk P gl e) → RecOk P w0 gl (look l)
  | [], _ => fun f xs st x st' h => by cases h
  | e :: r, hl => fun f xs st x st' h ρ w vals hG hM hA => by
    simp only [look] at h
    cases hb : (Nat.beq e.f f && v2L e.xs xs && stB e.st st) with
    | false => rw [hb] at h; exact look_ok w0 (fun e he => hl e (by simp [he])) f xs st x st' h ρ w vals hG hM hA
    | true =>
      rw [hb] at h
      obtain ⟨rfl, rfl⟩ := Prod.mk.inj (Option.some.inj h)
      simp only [Bool.and_eq_true] at hb
      obtain ⟨⟨h1, h2⟩, h3⟩ := hb
      obtain rfl := Nat.eq_of_beq_eq_true h1
      obtain rfl := v2L_eq h2
      obtain rfl := stB_eq h3
      exact hl e (by simp) w0 ρ w vals hG hM hA
theorem orO_ok {P : Program} {gl : Gl} {a b : Rec} {w0 : Wd} (ha : RecOk P w0 gl a) (hb : RecOk P w0 gl b) : RecOk P w0 gl (orO a b) := fun f xs st x st' h => by
  unfold orO at h
  split at h
  · rename_i r hr
    rw [Option.some.inj h] at hr
    exact ha f xs st x st' hr
  · exact hb f xs st x st' h
/-- A call is reckoned; calls that have been reckoned are looked up. -/
theorem EntOk.of {P : Program} {gl : Gl} {mu : Nat → Bool} {ov : Rec} {l : List Ent} {fuel d : Nat} {e : Ent} (hm : P.follows .mixedOrders = true) (hO : ∀ w0, RecOk P w0 gl ov) (hl : ∀ e ∈ l, EntOk P gl e)
    (h : isR (evF P (drwA P gl) gl mu (orO ov (look l)) fuel d e.f e.xs e.st) e.x e.st' = true) : EntOk P gl e := fun w0 ρ w vals hG hM hA =>
  evF_ok (fun w0 => orO_ok (hO w0) (look_ok w0 hl)) (drwA_ok hm) d w0 _ _ _ _ _ (isR_eq h) ρ w vals hG hM hA
/-! ### short words for states -/
def rl : List (Nat × C) → List C
  | [] => []
  | (n, c) :: r => rep [c] n ++ rl r
def u8 (n : Nat) : C := .b (.k (.int .u8 (.ofNat n)))
def i64 (n : Nat) : C := .b (.k (.int .i64 (.ofNat n)))
end Go.Proofs.YtbeafehpjjojnaaGreatDoor.Ev
