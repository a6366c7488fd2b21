/-
  The law's own plain call: it is awake.
-/
import Derived.Test.YtbeafehpjjojnaaGreatDoorWy
namespace Go.Proofs.YtbeafehpjjojnaaGreatDoor
open Go.RowKit Gw Pl
set_option linter.unusedVariables false
theorem halfT {w w' : World} (h : ∃ T fz, w.heap[0]? = some (.cells Gw.tblV.toArray T fz)) (hb : w.grownBy w' none) : ∃ T fz, w'.heap[0]? = some (.cells Gw.tblV.toArray T fz) := by
  obtain ⟨T, fz, h⟩ := h
  exact ⟨T, fz, (hb.block 0 (Array.getElem?_eq_some_iff.1 h).1 (by simp)).trans h⟩
set_option maxRecDepth 100000 in
theorem awakeY {w : World} (hT : ∃ T fz, w.heap[0]? = some (.cells Gw.tblV.toArray T fz)) : Runs Tryz.prog 56 #[] w (fun v w' => w.grownBy w' none ∧ v = .bool true) := by
  obtain ⟨T, fz, hw⟩ := hT
  exact Ev.closedG (mu := fun f => Nat.beq f 60) (ov := Ev.orO Ev.ovC (Ev.look [Ev.en1, Ev.en2, Ev.en3, Ev.en4, Ev.en5, Ev.en6, Ev.en7, Ev.en8, Ev.en9, Ev.en10, Ev.en11])) (fuel := 100000) (d := 60) (xs := []) (T := 0) (vs := Gw.tblV) hw (by kernel_rfl) (fun w0 => Ev.orO_ok (Ev.ovC_ok w0) (Ev.look_ok w0 (Ev.all_cons Ev.en1_ok (Ev.all_cons Ev.en2_ok (Ev.all_cons Ev.en3_ok (Ev.all_cons Ev.en4_ok (Ev.all_cons Ev.en5_ok (Ev.all_cons Ev.en6_ok (Ev.all_cons Ev.en7_ok (Ev.all_cons Ev.en8_ok (Ev.all_cons Ev.en9_ok (Ev.all_cons Ev.en10_ok (Ev.all_cons Ev.en11_ok (fun e he => by cases he)))))))))))))) (by kernel_rfl)

end Go.Proofs.YtbeafehpjjojnaaGreatDoor
