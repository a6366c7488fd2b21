/-
  Contracts of the package frag.
-/
import Derived.Test.YtnggbodilhpohaaDoorSh
namespace Go.Proofs.YtnggbodilhpohaaDoor
open Go.RowKit Gw Pl
set_option linter.unusedVariables false
set_option linter.unusedSimpArgs false
theorem fld43_0 : fldB Tryd.prog 43 0 0 = true := by kernel_rfl
theorem fld43_2 : fldB Tryd.prog 43 2 2 = true := by kernel_rfl
theorem scl25 : sclB Tryd.prog 25 = true := by kernel_rfl
theorem fright {w : World} {k ep : Int} {A : Option Addr} {n c : Nat} :
    Runs Tryd.prog 37 #[.agg #[.int .i64 k, .int .u32 ep, .slice A n c]] w (fun v w' => w.grownBy w' none ∧ v = .bool (decide (1 ≤ k ∧ k ≤ 4 ∧ n ≤ 197))) := by
  have hB := gb_refl w none
  refine enter Tryd.func37 Tryd.ntmps37 rfl rfl ?_
  refine C_seq (C_reg rfl ?_)
  refine L_box (cs := [.int .i64 k, .int .u32 ep, .slice A n c]) rfl rfl rfl ?_
  intro g1 w1 eg1 hb1 hs1 hz1
  have ge1 : w.heap.size ≤ g1 := eg_ge hB eg1
  replace hB := gb_tr hB hs1
  refine L_run (R_assign rfl) rfl ?_
  refine L_nil (N_then (C_seq (C_reg rfl ?_)))
  refine L_run (R_field (r := 0) rfl fld43_0 rfl) rfl ?_
  refine L_run (R_load1 rfl scl3 (hb1.cell (i := 0) rfl)) rfl ?_
  refine L_run (R_geq rfl rfl) rfl ?_
  refine L_run (R_move rfl) rfl ?_
  refine L_splitD (p := 1 ≤ k) (fun h1 => ?_) (fun h1 => ?_)
  · refine L_yes rfl rfl rfl (decide_eq_true h1) ?_
    refine L_run (R_field (r := 0) rfl fld43_0 rfl) rfl ?_
    refine L_yes rfl rfl rfl (decide_eq_true h1) ?_
    refine L_run (R_load1 rfl scl3 (hb1.cell (i := 0) rfl)) rfl ?_
    refine L_yes rfl rfl rfl (decide_eq_true h1) ?_
    refine L_run (R_leq rfl rfl) rfl ?_
    refine L_run (R_pickT rfl (decide_eq_true h1) rfl) rfl ?_
    refine L_run (R_move rfl) rfl ?_
    refine L_splitD (p := k ≤ 4) (fun h2 => ?_) (fun h2 => ?_)
    · refine L_yes rfl rfl rfl (decide_eq_true h2) ?_
      refine L_run (R_field (r := 2) rfl fld43_2 rfl) rfl ?_
      refine L_yes rfl rfl rfl (decide_eq_true h2) ?_
      refine L_run (R_load1 rfl scl25 (hb1.cell (i := 2) rfl)) rfl ?_
      refine L_yes rfl rfl rfl (decide_eq_true h2) ?_
      refine L_run (R_lenSl rfl slc25) rfl ?_
      refine L_yes rfl rfl rfl (decide_eq_true h2) ?_
      refine L_run (R_leq rfl rfl) rfl ?_
      refine L_run (R_pickT rfl (decide_eq_true h2) rfl) rfl ?_
      refine L_run (R_assign rfl) rfl ?_
      refine L_nil (N_then (C_ret ?_))
      refine ret1 Tryd.results37 rfl ?_
      first
        | (exfalso; omega)
        | (exact ⟨hB, by first | (rw [bF' (by omega)]) | (rw [bT' (by omega)]) | exact bD (by omega)⟩)
    · refine L_no rfl rfl rfl (decide_eq_false h2) rfl ?_
      refine L_no rfl rfl rfl (decide_eq_false h2) rfl ?_
      refine L_no rfl rfl rfl (decide_eq_false h2) rfl ?_
      refine L_no rfl rfl rfl (decide_eq_false h2) rfl ?_
      refine L_run (R_pickF rfl (decide_eq_false h2) rfl) rfl ?_
      refine L_run (R_assign rfl) rfl ?_
      refine L_nil (N_then (C_ret ?_))
      refine ret1 Tryd.results37 rfl ?_
      first
        | (exfalso; omega)
        | (exact ⟨hB, by first | (rw [bF' (by omega)]) | (rw [bT' (by omega)]) | exact bD (by omega)⟩)
  · refine L_no rfl rfl rfl (decide_eq_false h1) rfl ?_
    refine L_no rfl rfl rfl (decide_eq_false h1) rfl ?_
    refine L_no rfl rfl rfl (decide_eq_false h1) rfl ?_
    refine L_run (R_pickF rfl (decide_eq_false h1) rfl) rfl ?_
    refine L_run (R_move rfl) rfl ?_
    refine L_no rfl rfl rfl rfl rfl ?_
    refine L_no rfl rfl rfl rfl rfl ?_
    refine L_no rfl rfl rfl rfl rfl ?_
    refine L_no rfl rfl rfl rfl rfl ?_
    refine L_run (R_pickF rfl rfl rfl) rfl ?_
    refine L_run (R_assign rfl) rfl ?_
    refine L_nil (N_then (C_ret ?_))
    refine ret1 Tryd.results37 rfl ?_
    first
      | (exfalso; omega)
      | (exact ⟨hB, by first | (rw [bF' (by omega)]) | (rw [bT' (by omega)]) | exact bD (by omega)⟩)

end Go.Proofs.YtnggbodilhpohaaDoor
