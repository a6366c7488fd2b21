/-
  Contracts of layer 47's awake; books compared.
-/
import Derived.Test.YtbmohojdlgedpaaKj
import Derived.Test.YtbmohojdlgedpaaEo
namespace Go.Proofs.Ytbmohojdlgedpaa
open Go.RowKit Gw Pl
set_option linter.unusedVariables false
set_option linter.unusedSimpArgs false
theorem cb20 : callB Try.prog 20 = true := by kernel_rfl
theorem cb21 : callB Try.prog 21 = true := by kernel_rfl
theorem cb22 : callB Try.prog 22 = true := by kernel_rfl
theorem cb23 : callB Try.prog 23 = true := by kernel_rfl
theorem cb24 : callB Try.prog 24 = true := by kernel_rfl
theorem cb6 : callB Try.prog 6 = true := by kernel_rfl
theorem eqg34 : Try.prog.eqGuardType Try.prog.depth 34 = false := by kernel_rfl
theorem fld27_0 : fldB Try.prog 27 0 0 = true := by kernel_rfl
theorem fld27_1 : fldB Try.prog 27 1 1 = true := by kernel_rfl
theorem fld28_0 : fldB Try.prog 28 0 0 = true := by kernel_rfl
theorem fld28_1 : fldB Try.prog 28 1 1 = true := by kernel_rfl
theorem fld28_2 : fldB Try.prog 28 2 2 = true := by kernel_rfl
theorem sih34 : Try.prog.stoodInHeld 34 = false := by kernel_rfl
theorem und34 : Try.prog.underlying 34 = some (.struct #[⟨ "Key", 9, 0, false, "", "", 0⟩, ⟨ "Was", 4, 1, false, "", "", 16⟩, ⟨ "Is", 4, 2, false, "", "", 17⟩, ⟨ "Old", 9, 3, false, "", "", 24⟩, ⟨ "New", 9, 4, false, "", "", 40⟩, ⟨ "Next", 3, 5, false, "", "", 56⟩]) := by kernel_rfl
theorem FrzE.getL {w : World} {E : List Ent} (h : FrzE w E) {i : Nat} (hi : i < E.length) : Sli 34 0 w.heap.size w E[i].la (fl encC E[i].ch) := h _ (List.getElem_mem hi)
theorem key_eq {E E2 : List Ent} {B : List (Int × Int × List Chg)} (h : E.map keyE = B) (h2 : E2.map keyE = B) {i : Nat} (hi : i < E.length) (hi2 : i < E2.length) : (E[i]).lsn = (E2[i]).lsn ∧ (E[i]).chain = (E2[i]).chain ∧ (E[i]).ch = (E2[i]).ch := by
  have e : (E.map keyE)[i]? = (E2.map keyE)[i]? := by rw [h, h2]
  rw [List.getElem?_map, List.getElem?_map, List.getElem?_eq_getElem hi, List.getElem?_eq_getElem hi2] at e
  have e2 : keyE (E[i]) = keyE (E2[i]) := by simpa using e
  exact ⟨congrArg (·.1) e2, congrArg (·.2.1) e2, congrArg (·.2.2) e2⟩
theorem key_len {E E2 : List Ent} {B : List (Int × Int × List Chg)} (h : E.map keyE = B) (h2 : E2.map keyE = B) : E.length = E2.length := by have e := congrArg List.length (h.trans h2.symm); simpa using e
theorem book_ch {l : List RecC} : ∀ {i : Nat} (y : Int × Int × List Chg), y ∈ bookR l i → y.2.2.length ≤ i
  | 0, y, h => by cases h
  | i + 1, y, h => by
    unfold bookR at h
    split at h
    · split at h
      · rcases List.mem_append.1 h with h | h
        · exact Nat.le_succ_of_le (book_ch y h)
        · rw [List.mem_singleton.1 h]; exact Nat.le_succ_of_le chgR_len
      · exact Nat.le_succ_of_le (book_ch y h)
    · exact Nat.le_succ_of_le (book_ch y h)
theorem key_ch {l : List RecC} {E : List Ent} {n i : Nat} (h : E.map keyE = bookR l n) (hi : i < E.length) : (E[i]).ch.length ≤ n := book_ch (keyE (E[i])) (h ▸ List.mem_map_of_mem (List.getElem_mem hi))
theorem key_bd {l : List RecC} {E : List Ent} {n : Nat} (h : E.map keyE = bookR l n) : E.length ≤ n := by have h1 := congrArg List.length h; rw [List.length_map] at h1; have h2 := bookR_len (l := l) (i := n); omega
set_option maxRecDepth 100000 in
theorem awake47 {w : World} : Runs Try.prog 6 #[] w (fun v w' => w.grownBy w' none ∧ v = .bool true) :=
  Ev.closedD (mu := Ev.nomu) (fuel := 100000) (d := 60) (xs := []) (by kernel_rfl) (by kernel_rfl)
end Go.Proofs.Ytbmohojdlgedpaa
