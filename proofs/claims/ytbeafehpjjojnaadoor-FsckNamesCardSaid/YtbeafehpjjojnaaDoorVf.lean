/-
  Plain maths: findings (a file's name and a code), and whether one of them is corrupt.
-/
import Derived.Test.YtbeafehpjjojnaaDoorVp
import Derived.Test.YtbeafehpjjojnaaDoorGb
namespace Go.Proofs.YtbeafehpjjojnaaDoor.Pl
open Go.Proofs.YtbeafehpjjojnaaDoor.Gw
set_option linter.unusedVariables false
structure Fnd where
  file : ByteArray
  code : Int
deriving DecidableEq
def GoodF (f : Fnd) : Prop := f.file.size ≤ 140737488351232 ∧ (Go.Lit.int .i64 f.code).wf = true
def encF (f : Fnd) : List Go.Value := [.string f.file, .int .i64 f.code]
theorem EncF : Enc encF 2 := ⟨fun _ => rfl, fun _ => rfl⟩
def bad (f : Fnd) : Prop := 1 ≤ f.code ∧ f.code ≤ 8
instance (f : Fnd) : Decidable (bad f) := by unfold bad; infer_instance
def corr (l : List Fnd) : Bool := l.any fun f => decide (bad f)
theorem corr_take {l : List Fnd} {k : Nat} (hk : k < l.length) (h : corr (l.take k) = false) (hb : ¬ bad l[k]) : corr (l.take (k + 1)) = false := by
  unfold corr at *
  rw [List.take_add_one, List.getElem?_eq_getElem hk, List.any_append, h]
  simp [hb]
theorem corr_at {l : List Fnd} {k : Nat} (hk : k < l.length) (hb : bad l[k]) : corr l = true := by
  unfold corr
  rw [List.any_eq_true]
  exact ⟨l[k], List.getElem_mem hk, by simpa using hb⟩
end Go.Proofs.YtbeafehpjjojnaaDoor.Pl
