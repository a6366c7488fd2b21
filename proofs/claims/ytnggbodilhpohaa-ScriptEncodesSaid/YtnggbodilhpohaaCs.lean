/-
  Contracts of the package script and of its reference: whether steps are right, few, the same.
-/
import Derived.Test.YtnggbodilhpohaaCn
import Derived.Test.YtnggbodilhpohaaVd
namespace Go.Proofs.Ytnggbodilhpohaa
open Go.RowKit Gw Pl
set_option linter.unusedVariables false
set_option linter.unusedSimpArgs false
theorem agg63 : aggB Try.prog 63 3 = true := by kernel_rfl
theorem agg65 : aggB Try.prog 65 6 = true := by kernel_rfl
theorem cb14 : callB Try.prog 14 = true := by kernel_rfl
theorem cb15 : callB Try.prog 15 = true := by kernel_rfl
theorem cb76 : callB Try.prog 76 = true := by kernel_rfl
theorem fld63_0 : fldB Try.prog 63 0 0 = true := by kernel_rfl
theorem fld63_1 : fldB Try.prog 63 1 1 = true := by kernel_rfl
theorem fld63_2 : fldB Try.prog 63 2 2 = true := by kernel_rfl
theorem fld65_0 : fldB Try.prog 65 0 0 = true := by kernel_rfl
theorem fld65_1 : fldB Try.prog 65 1 1 = true := by kernel_rfl
theorem fld65_2 : fldB Try.prog 65 2 2 = true := by kernel_rfl
theorem fld65_3 : fldB Try.prog 65 3 3 = true := by kernel_rfl
theorem scl22 : sclB Try.prog 22 = true := by kernel_rfl
theorem slc58 : slcB Try.prog 58 65 6 80 = true := by kernel_rfl
theorem sz63 : szB Try.prog 63 3 = true := by kernel_rfl
theorem sz65 : szB Try.prog 65 6 = true := by kernel_rfl
theorem zer63 : (Try.prog.info? 63).bind (·.zero) = some (.agg #[.slice none 0 0, .int .i64 0, .int .i64 0]) := by kernel_rfl
theorem zer65 : (Try.prog.info? 65).bind (·.zero) = some (.agg #[.int .i64 0, .int .i64 0, .slice none 0 0, .slice none 0 0, .int .i64 0, .int .i64 0]) := by kernel_rfl
theorem script_none {w : World} {ka : Option Addr} {kn kc : Nat} {tn ct : Int} :
    Runs Try.prog 76 #[.agg #[.slice ka kn kc, .int .i64 tn, .int .i64 ct]] w (fun v w' => w.grownBy w' none ∧ v = .bool (decide (kn = 0 ∧ tn = 0 ∧ ct = 0))) := by
  have hB := gb_refl w none
  refine enter Try.func76 Try.ntmps76 rfl rfl ?_
  refine C_seq (C_reg ?_)
  refine L_box (cs := [.slice ka kn kc, .int .i64 tn, .int .i64 ct]) rfl rfl rfl ?_
  intro g1 w1 eg1 hb1 hs1 hz1
  have ge1 : w.heap.size ≤ g1 := eg_ge hB eg1
  replace hB := gb_tr hB hs1
  refine L_run (R_assign rfl) rfl ?_
  refine L_nil (N_then (C_seq (C_reg ?_)))
  refine L_run (R_field (r := 0) rfl fld63_0 rfl) rfl ?_
  refine L_run (R_load1 rfl scl42 (hb1.cell (i := 0) rfl)) rfl ?_
  refine L_run (R_lenSl rfl slc42) rfl ?_
  refine L_run (R_eql rfl rfl) rfl ?_
  refine L_run (R_move rfl) rfl ?_
  refine L_splitD (p := (kn : Int) = 0) (fun h1 => ?_) (fun h1 => ?_)
  · refine L_yes rfl rfl rfl (decide_eq_true h1) ?_
    refine L_run (R_field (r := 1) rfl fld63_1 rfl) rfl ?_
    refine L_yes rfl rfl rfl (decide_eq_true h1) ?_
    refine L_run (R_load1 rfl scl3 (hb1.cell (i := 1) rfl)) rfl ?_
    refine L_yes rfl rfl rfl (decide_eq_true h1) ?_
    refine L_run (R_eql rfl rfl) rfl ?_
    refine L_run (R_pickT rfl (decide_eq_true h1) rfl) rfl ?_
    refine L_run (R_move rfl) rfl ?_
    refine L_splitD (p := tn = 0) (fun h2 => ?_) (fun h2 => ?_)
    · refine L_yes rfl rfl rfl (decide_eq_true h2) ?_
      refine L_run (R_field (r := 2) rfl fld63_2 rfl) rfl ?_
      refine L_yes rfl rfl rfl (decide_eq_true h2) ?_
      refine L_run (R_load1 rfl scl3 (hb1.cell (i := 2) rfl)) rfl ?_
      refine L_yes rfl rfl rfl (decide_eq_true h2) ?_
      refine L_run (R_eql rfl rfl) rfl ?_
      refine L_run (R_pickT rfl (decide_eq_true h2) rfl) rfl ?_
      refine L_run (R_assign rfl) rfl ?_
      refine L_nil (N_then (C_ret ?_))
      refine ret1 Try.results76 rfl ?_
      exact ⟨hB, bD (by omega)⟩
    · refine L_no rfl rfl rfl (decide_eq_false h2) rfl ?_
      refine L_no rfl rfl rfl (decide_eq_false h2) rfl ?_
      refine L_no rfl rfl rfl (decide_eq_false h2) rfl ?_
      refine L_run (R_pickF rfl (decide_eq_false h2) rfl) rfl ?_
      refine L_run (R_assign rfl) rfl ?_
      refine L_nil (N_then (C_ret ?_))
      refine ret1 Try.results76 rfl ?_
      exact ⟨hB, bF (by omega)⟩
  · refine L_no rfl rfl rfl (decide_eq_false h1) rfl ?_
    refine L_no rfl rfl rfl (decide_eq_false h1) rfl ?_
    refine L_no rfl rfl rfl (decide_eq_false h1) rfl ?_
    refine L_run (R_pickF rfl (decide_eq_false h1) rfl) rfl ?_
    refine L_run (R_move rfl) rfl ?_
    refine L_no rfl rfl rfl rfl rfl ?_
    refine L_no rfl rfl rfl rfl rfl ?_
    refine L_no rfl rfl rfl rfl rfl ?_
    refine L_run (R_pickF rfl rfl rfl) rfl ?_
    refine L_run (R_assign rfl) rfl ?_
    refine L_nil (N_then (C_ret ?_))
    refine ret1 Try.results76 rfl ?_
    exact ⟨hB, bF (by omega)⟩

theorem script_Right {w : World} {t1 lo hi : Nat} {oa ka : Option Addr} {oc kn kc : Nat} {kd n tn ct : Int} {ops : List Opd} (hS : Sli t1 lo hi w oa (fl encOp ops)) (hb : ops.length ≤ 1000000) :
    Runs Try.prog 53 #[.agg #[.int .i64 kd, .int .i64 n, .slice oa ops.length oc, .slice ka kn kc, .int .i64 tn, .int .i64 ct]] w (fun v w' => w.grownBy w' none ∧ v = .bool (decide (SOk kd n ops kn tn ct))) := by
  have hB := gb_refl w none
  replace hS := hS.top
  refine enter Try.func53 Try.ntmps53 rfl rfl ?_
  refine C_seq (C_reg ?_)
  refine L_box (cs := [.int .i64 kd, .int .i64 n, .slice oa ops.length oc, .slice ka kn kc, .int .i64 tn, .int .i64 ct]) rfl rfl rfl ?_
  intro g1 w1 eg1 hb1 hs1 hz1
  have ge1 : w.heap.size ≤ g1 := eg_ge hB eg1
  replace hB := gb_tr hB hs1
  replace hS := hS.gb hs1
  refine L_run (R_assign rfl) rfl ?_
  refine L_nil (N_then (C_seq (C_seq (C_reg ?_))))
  refine L_run (R_field (r := 0) rfl fld65_0 rfl) rfl ?_
  refine L_run (R_load1 rfl scl3 (hb1.cell (i := 0) rfl)) rfl ?_
  refine L_nil (N_then (C_block (C_seq (C_reg ?_))))
  refine L_run (R_eql rfl rfl) rfl ?_
  refine L_run (R_assign rfl) rfl ?_
  refine L_nil (N_then ?_)
  refine C_if rfl (fun h1 => ?_) (fun h1 => ?_)
  · refine C_seq (C_reg ?_)
    refine L_run (R_field (r := 2) rfl fld65_2 rfl) rfl ?_
    refine L_run (R_load1 rfl scl22 (hb1.cell (i := 2) rfl)) rfl ?_
    refine L_call rfl cb45 (batch_Right (l := ops) hS (by first | omega | (simp; done) | (simp; omega))) rfl ?_
    rintro _ w2 ⟨hs2, rfl⟩
    replace hB := gb_tr hB hs2
    replace hS := hS.gb hs2
    replace hb1 := hb1.gb hs2
    refine L_run (R_move rfl) rfl ?_
    refine L_splitD (p := OkL ops) (fun h2 => ?_) (fun h2 => ?_)
    · refine L_yes rfl rfl rfl (decide_eq_true h2) ?_
      refine L_run (R_field (r := 1) rfl fld65_1 rfl) rfl ?_
      refine L_yes rfl rfl rfl (decide_eq_true h2) ?_
      refine L_run (R_load1 rfl scl3 (hb1.cell (i := 1) rfl)) rfl ?_
      refine L_yes rfl rfl rfl (decide_eq_true h2) ?_
      refine L_run (R_eql rfl rfl) rfl ?_
      refine L_run (R_pickT rfl (decide_eq_true h2) rfl) rfl ?_
      refine L_run (R_move rfl) rfl ?_
      refine L_splitD (p := n = 0) (fun h3 => ?_) (fun h3 => ?_)
      · refine L_yes rfl rfl rfl (decide_eq_true h3) ?_
        refine L_run (R_field (r := 3) rfl fld65_3 rfl) rfl ?_
        refine L_yes rfl rfl rfl (decide_eq_true h3) ?_
        refine L_run (R_loadA (vs := [.slice ka kn kc, .int .i64 tn, .int .i64 ct]) rfl agg63 (At.pre (hb1.at_ 3) rfl) rfl) rfl ?_
        refine L_yes rfl rfl rfl (decide_eq_true h3) ?_
        refine L_call rfl cb76 (script_none) rfl ?_
        rintro _ w3 ⟨hs3, rfl⟩
        replace hB := gb_tr hB hs3
        replace hS := hS.gb hs3
        replace hb1 := hb1.gb hs3
        refine L_run (R_pickT rfl (decide_eq_true h3) rfl) rfl ?_
        refine L_run (R_assign rfl) rfl ?_
        refine L_nil (N_then (C_ret (R_in (R_then ?_))))
        refine ret1 Try.results53 rfl ?_
        first
          | (exfalso; omega)
          | (exact ⟨hB, bD (by unfold SOk; first | omega | (simp_all; omega) | simp_all)⟩)
      · refine L_no rfl rfl rfl (decide_eq_false h3) rfl ?_
        refine L_no rfl rfl rfl (decide_eq_false h3) rfl ?_
        refine L_no rfl rfl rfl (decide_eq_false h3) rfl ?_
        refine L_run (R_pickF rfl (decide_eq_false h3) rfl) rfl ?_
        refine L_run (R_assign rfl) rfl ?_
        refine L_nil (N_then (C_ret (R_in (R_then ?_))))
        refine ret1 Try.results53 rfl ?_
        first
          | (exfalso; omega)
          | (exact ⟨hB, bF (by unfold SOk; first | omega | (simp_all; omega) | simp_all)⟩)
    · refine L_no rfl rfl rfl (decide_eq_false h2) rfl ?_
      refine L_no rfl rfl rfl (decide_eq_false h2) rfl ?_
      refine L_no rfl rfl rfl (decide_eq_false h2) rfl ?_
      refine L_run (R_pickF rfl (decide_eq_false h2) rfl) rfl ?_
      refine L_run (R_move rfl) rfl ?_
      refine L_no rfl rfl rfl rfl rfl ?_
      refine L_no rfl rfl rfl rfl rfl ?_
      refine L_no rfl rfl rfl rfl rfl ?_
      refine L_run (R_pickF rfl rfl rfl) rfl ?_
      refine L_run (R_assign rfl) rfl ?_
      refine L_nil (N_then (C_ret (R_in (R_then ?_))))
      refine ret1 Try.results53 rfl ?_
      first
        | (exfalso; omega)
        | (exact ⟨hB, bF (by unfold SOk; first | omega | (simp_all; omega) | simp_all)⟩)
  · refine C_seq (C_seq (C_reg ?_))
    refine L_run (R_eql rfl rfl) rfl ?_
    refine L_run (R_assign rfl) rfl ?_
    refine L_nil (N_then ?_)
    refine C_if rfl (fun h4 => ?_) (fun h4 => ?_)
    · refine C_skip (N_then (C_condT rfl (decide_eq_true h4) (C_seq (C_reg ?_))))
      refine L_run (R_field (r := 1) rfl fld65_1 rfl) rfl ?_
      refine L_run (R_load1 rfl scl3 (hb1.cell (i := 1) rfl)) rfl ?_
      refine L_run (R_eql rfl rfl) rfl ?_
      refine L_run (R_move rfl) rfl ?_
      refine L_splitD (p := n = 0) (fun h5 => ?_) (fun h5 => ?_)
      · refine L_yes rfl rfl rfl (decide_eq_true h5) ?_
        refine L_run (R_field (r := 2) rfl fld65_2 rfl) rfl ?_
        refine L_yes rfl rfl rfl (decide_eq_true h5) ?_
        refine L_run (R_load1 rfl scl22 (hb1.cell (i := 2) rfl)) rfl ?_
        refine L_yes rfl rfl rfl (decide_eq_true h5) ?_
        refine L_run (R_lenSl rfl slc22) rfl ?_
        refine L_yes rfl rfl rfl (decide_eq_true h5) ?_
        refine L_run (R_eql rfl rfl) rfl ?_
        refine L_run (R_pickT rfl (decide_eq_true h5) rfl) rfl ?_
        refine L_run (R_move rfl) rfl ?_
        refine L_splitD (p := (ops.length : Int) = 0) (fun h6 => ?_) (fun h6 => ?_)
        · refine L_yes rfl rfl rfl (decide_eq_true h6) ?_
          refine L_run (R_field (r := 3) rfl fld65_3 rfl) rfl ?_
          refine L_yes rfl rfl rfl (decide_eq_true h6) ?_
          refine L_run (R_loadA (vs := [.slice ka kn kc, .int .i64 tn, .int .i64 ct]) rfl agg63 (At.pre (hb1.at_ 3) rfl) rfl) rfl ?_
          refine L_yes rfl rfl rfl (decide_eq_true h6) ?_
          refine L_call rfl cb76 (script_none) rfl ?_
          rintro _ w4 ⟨hs4, rfl⟩
          replace hB := gb_tr hB hs4
          replace hS := hS.gb hs4
          replace hb1 := hb1.gb hs4
          refine L_run (R_pickT rfl (decide_eq_true h6) rfl) rfl ?_
          refine L_run (R_assign rfl) rfl ?_
          refine L_nil (N_then (C_ret (R_in (R_then ?_))))
          refine ret1 Try.results53 rfl ?_
          first
            | (exfalso; omega)
            | (exact ⟨hB, bD (by unfold SOk; first | omega | (simp_all; omega) | simp_all)⟩)
        · refine L_no rfl rfl rfl (decide_eq_false h6) rfl ?_
          refine L_no rfl rfl rfl (decide_eq_false h6) rfl ?_
          refine L_no rfl rfl rfl (decide_eq_false h6) rfl ?_
          refine L_run (R_pickF rfl (decide_eq_false h6) rfl) rfl ?_
          refine L_run (R_assign rfl) rfl ?_
          refine L_nil (N_then (C_ret (R_in (R_then ?_))))
          refine ret1 Try.results53 rfl ?_
          first
            | (exfalso; omega)
            | (exact ⟨hB, bF (by unfold SOk; first | omega | (simp_all; omega) | simp_all)⟩)
      · refine L_no rfl rfl rfl (decide_eq_false h5) rfl ?_
        refine L_no rfl rfl rfl (decide_eq_false h5) rfl ?_
        refine L_no rfl rfl rfl (decide_eq_false h5) rfl ?_
        refine L_no rfl rfl rfl (decide_eq_false h5) rfl ?_
        refine L_run (R_pickF rfl (decide_eq_false h5) rfl) rfl ?_
        refine L_run (R_move rfl) rfl ?_
        refine L_no rfl rfl rfl rfl rfl ?_
        refine L_no rfl rfl rfl rfl rfl ?_
        refine L_no rfl rfl rfl rfl rfl ?_
        refine L_run (R_pickF rfl rfl rfl) rfl ?_
        refine L_run (R_assign rfl) rfl ?_
        refine L_nil (N_then (C_ret (R_in (R_then ?_))))
        refine ret1 Try.results53 rfl ?_
        first
          | (exfalso; omega)
          | (exact ⟨hB, bF (by unfold SOk; first | omega | (simp_all; omega) | simp_all)⟩)
    · refine C_seq (C_reg ?_)
      refine L_run (R_eql rfl rfl) rfl ?_
      refine L_run (R_assign rfl) rfl ?_
      refine L_nil (N_then ?_)
      refine C_if rfl (fun h7 => ?_) (fun h7 => ?_)
      · refine C_skip (N_then (C_condT rfl (decide_eq_true h7) (C_seq (C_reg ?_))))
        refine L_run (R_field (r := 1) rfl fld65_1 rfl) rfl ?_
        refine L_run (R_load1 rfl scl3 (hb1.cell (i := 1) rfl)) rfl ?_
        refine L_run (R_eql rfl rfl) rfl ?_
        refine L_run (R_move rfl) rfl ?_
        refine L_splitD (p := n = 0) (fun h8 => ?_) (fun h8 => ?_)
        · refine L_yes rfl rfl rfl (decide_eq_true h8) ?_
          refine L_run (R_field (r := 2) rfl fld65_2 rfl) rfl ?_
          refine L_yes rfl rfl rfl (decide_eq_true h8) ?_
          refine L_run (R_load1 rfl scl22 (hb1.cell (i := 2) rfl)) rfl ?_
          refine L_yes rfl rfl rfl (decide_eq_true h8) ?_
          refine L_run (R_lenSl rfl slc22) rfl ?_
          refine L_yes rfl rfl rfl (decide_eq_true h8) ?_
          refine L_run (R_eql rfl rfl) rfl ?_
          refine L_run (R_pickT rfl (decide_eq_true h8) rfl) rfl ?_
          refine L_run (R_move rfl) rfl ?_
          refine L_splitD (p := (ops.length : Int) = 0) (fun h9 => ?_) (fun h9 => ?_)
          · refine L_yes rfl rfl rfl (decide_eq_true h9) ?_
            refine L_run (R_field (r := 3) rfl fld65_3 rfl) rfl ?_
            refine L_yes rfl rfl rfl (decide_eq_true h9) ?_
            refine L_run (R_loadA (vs := [.slice ka kn kc, .int .i64 tn, .int .i64 ct]) rfl agg63 (At.pre (hb1.at_ 3) rfl) rfl) rfl ?_
            refine L_yes rfl rfl rfl (decide_eq_true h9) ?_
            refine L_call rfl cb76 (script_none) rfl ?_
            rintro _ w5 ⟨hs5, rfl⟩
            replace hB := gb_tr hB hs5
            replace hS := hS.gb hs5
            replace hb1 := hb1.gb hs5
            refine L_run (R_pickT rfl (decide_eq_true h9) rfl) rfl ?_
            refine L_run (R_assign rfl) rfl ?_
            refine L_nil (N_then (C_ret (R_in (R_then ?_))))
            refine ret1 Try.results53 rfl ?_
            first
              | (exfalso; omega)
              | (exact ⟨hB, bD (by unfold SOk; first | omega | (simp_all; omega) | simp_all)⟩)
          · refine L_no rfl rfl rfl (decide_eq_false h9) rfl ?_
            refine L_no rfl rfl rfl (decide_eq_false h9) rfl ?_
            refine L_no rfl rfl rfl (decide_eq_false h9) rfl ?_
            refine L_run (R_pickF rfl (decide_eq_false h9) rfl) rfl ?_
            refine L_run (R_assign rfl) rfl ?_
            refine L_nil (N_then (C_ret (R_in (R_then ?_))))
            refine ret1 Try.results53 rfl ?_
            first
              | (exfalso; omega)
              | (exact ⟨hB, bF (by unfold SOk; first | omega | (simp_all; omega) | simp_all)⟩)
        · refine L_no rfl rfl rfl (decide_eq_false h8) rfl ?_
          refine L_no rfl rfl rfl (decide_eq_false h8) rfl ?_
          refine L_no rfl rfl rfl (decide_eq_false h8) rfl ?_
          refine L_no rfl rfl rfl (decide_eq_false h8) rfl ?_
          refine L_run (R_pickF rfl (decide_eq_false h8) rfl) rfl ?_
          refine L_run (R_move rfl) rfl ?_
          refine L_no rfl rfl rfl rfl rfl ?_
          refine L_no rfl rfl rfl rfl rfl ?_
          refine L_no rfl rfl rfl rfl rfl ?_
          refine L_run (R_pickF rfl rfl rfl) rfl ?_
          refine L_run (R_assign rfl) rfl ?_
          refine L_nil (N_then (C_ret (R_in (R_then ?_))))
          refine ret1 Try.results53 rfl ?_
          first
            | (exfalso; omega)
            | (exact ⟨hB, bF (by unfold SOk; first | omega | (simp_all; omega) | simp_all)⟩)
      · refine C_reg ?_
        refine L_run (R_eql rfl rfl) rfl ?_
        refine L_run (R_assign rfl) rfl ?_
        refine L_nil (N_then ?_)
        refine C_if rfl (fun h10 => ?_) (fun h10 => ?_)
        · refine C_seq (C_reg ?_)
          refine L_run (R_field (r := 1) rfl fld65_1 rfl) rfl ?_
          refine L_run (R_load1 rfl scl3 (hb1.cell (i := 1) rfl)) rfl ?_
          refine L_run (R_eql rfl rfl) rfl ?_
          refine L_run (R_move rfl) rfl ?_
          refine L_splitD (p := n = 0) (fun h11 => ?_) (fun h11 => ?_)
          · refine L_yes rfl rfl rfl (decide_eq_true h11) ?_
            refine L_run (R_field (r := 2) rfl fld65_2 rfl) rfl ?_
            refine L_yes rfl rfl rfl (decide_eq_true h11) ?_
            refine L_run (R_load1 rfl scl22 (hb1.cell (i := 2) rfl)) rfl ?_
            refine L_yes rfl rfl rfl (decide_eq_true h11) ?_
            refine L_run (R_lenSl rfl slc22) rfl ?_
            refine L_yes rfl rfl rfl (decide_eq_true h11) ?_
            refine L_run (R_eql rfl rfl) rfl ?_
            refine L_run (R_pickT rfl (decide_eq_true h11) rfl) rfl ?_
            refine L_run (R_move rfl) rfl ?_
            refine L_splitD (p := (ops.length : Int) = 0) (fun h12 => ?_) (fun h12 => ?_)
            · refine L_yes rfl rfl rfl (decide_eq_true h12) ?_
              refine L_run (R_field (r := 3) rfl fld65_3 rfl) rfl ?_
              refine L_yes rfl rfl rfl (decide_eq_true h12) ?_
              refine L_run (R_loadA (vs := [.slice ka kn kc, .int .i64 tn, .int .i64 ct]) rfl agg63 (At.pre (hb1.at_ 3) rfl) rfl) rfl ?_
              refine L_yes rfl rfl rfl (decide_eq_true h12) ?_
              refine L_call rfl cb76 (script_none) rfl ?_
              rintro _ w6 ⟨hs6, rfl⟩
              replace hB := gb_tr hB hs6
              replace hS := hS.gb hs6
              replace hb1 := hb1.gb hs6
              refine L_run (R_pickT rfl (decide_eq_true h12) rfl) rfl ?_
              refine L_run (R_assign rfl) rfl ?_
              refine L_nil (N_then (C_ret (R_in (R_then ?_))))
              refine ret1 Try.results53 rfl ?_
              first
                | (exfalso; omega)
                | (exact ⟨hB, bD (by unfold SOk; first | omega | (simp_all; omega) | simp_all)⟩)
            · refine L_no rfl rfl rfl (decide_eq_false h12) rfl ?_
              refine L_no rfl rfl rfl (decide_eq_false h12) rfl ?_
              refine L_no rfl rfl rfl (decide_eq_false h12) rfl ?_
              refine L_run (R_pickF rfl (decide_eq_false h12) rfl) rfl ?_
              refine L_run (R_assign rfl) rfl ?_
              refine L_nil (N_then (C_ret (R_in (R_then ?_))))
              refine ret1 Try.results53 rfl ?_
              first
                | (exfalso; omega)
                | (exact ⟨hB, bF (by unfold SOk; first | omega | (simp_all; omega) | simp_all)⟩)
          · refine L_no rfl rfl rfl (decide_eq_false h11) rfl ?_
            refine L_no rfl rfl rfl (decide_eq_false h11) rfl ?_
            refine L_no rfl rfl rfl (decide_eq_false h11) rfl ?_
            refine L_no rfl rfl rfl (decide_eq_false h11) rfl ?_
            refine L_run (R_pickF rfl (decide_eq_false h11) rfl) rfl ?_
            refine L_run (R_move rfl) rfl ?_
            refine L_no rfl rfl rfl rfl rfl ?_
            refine L_no rfl rfl rfl rfl rfl ?_
            refine L_no rfl rfl rfl rfl rfl ?_
            refine L_run (R_pickF rfl rfl rfl) rfl ?_
            refine L_run (R_assign rfl) rfl ?_
            refine L_nil (N_then (C_ret (R_in (R_then ?_))))
            refine ret1 Try.results53 rfl ?_
            first
              | (exfalso; omega)
              | (exact ⟨hB, bF (by unfold SOk; first | omega | (simp_all; omega) | simp_all)⟩)
        · refine C_seq (C_reg ?_)
          refine L_run (R_eql rfl rfl) rfl ?_
          refine L_run (R_assign rfl) rfl ?_
          refine L_nil (N_then ?_)
          refine C_if rfl (fun h13 => ?_) (fun h13 => ?_)
          · refine C_seq (C_reg ?_)
            refine L_run (R_field (r := 1) rfl fld65_1 rfl) rfl ?_
            refine L_run (R_load1 rfl scl3 (hb1.cell (i := 1) rfl)) rfl ?_
            refine L_run (R_geq rfl rfl) rfl ?_
            refine L_run (R_move rfl) rfl ?_
            refine L_splitD (p := 0 ≤ n) (fun h14 => ?_) (fun h14 => ?_)
            · refine L_yes rfl rfl rfl (decide_eq_true h14) ?_
              refine L_run (R_field (r := 1) rfl fld65_1 rfl) rfl ?_
              refine L_yes rfl rfl rfl (decide_eq_true h14) ?_
              refine L_run (R_load1 rfl scl3 (hb1.cell (i := 1) rfl)) rfl ?_
              refine L_yes rfl rfl rfl (decide_eq_true h14) ?_
              refine L_run (R_leq rfl rfl) rfl ?_
              refine L_run (R_pickT rfl (decide_eq_true h14) rfl) rfl ?_
              refine L_run (R_move rfl) rfl ?_
              refine L_splitD (p := n ≤ 255) (fun h15 => ?_) (fun h15 => ?_)
              · refine L_yes rfl rfl rfl (decide_eq_true h15) ?_
                refine L_run (R_field (r := 2) rfl fld65_2 rfl) rfl ?_
                refine L_yes rfl rfl rfl (decide_eq_true h15) ?_
                refine L_run (R_load1 rfl scl22 (hb1.cell (i := 2) rfl)) rfl ?_
                refine L_yes rfl rfl rfl (decide_eq_true h15) ?_
                refine L_run (R_lenSl rfl slc22) rfl ?_
                refine L_yes rfl rfl rfl (decide_eq_true h15) ?_
                refine L_run (R_eql rfl rfl) rfl ?_
                refine L_run (R_pickT rfl (decide_eq_true h15) rfl) rfl ?_
                refine L_run (R_move rfl) rfl ?_
                refine L_splitD (p := (ops.length : Int) = 0) (fun h16 => ?_) (fun h16 => ?_)
                · refine L_yes rfl rfl rfl (decide_eq_true h16) ?_
                  refine L_run (R_field (r := 3) rfl fld65_3 rfl) rfl ?_
                  refine L_yes rfl rfl rfl (decide_eq_true h16) ?_
                  refine L_run (R_loadA (vs := [.slice ka kn kc, .int .i64 tn, .int .i64 ct]) rfl agg63 (At.pre (hb1.at_ 3) rfl) rfl) rfl ?_
                  refine L_yes rfl rfl rfl (decide_eq_true h16) ?_
                  refine L_call rfl cb76 (script_none) rfl ?_
                  rintro _ w7 ⟨hs7, rfl⟩
                  replace hB := gb_tr hB hs7
                  replace hS := hS.gb hs7
                  replace hb1 := hb1.gb hs7
                  refine L_run (R_pickT rfl (decide_eq_true h16) rfl) rfl ?_
                  refine L_run (R_assign rfl) rfl ?_
                  refine L_nil (N_then (C_ret (R_in (R_then ?_))))
                  refine ret1 Try.results53 rfl ?_
                  first
                    | (exfalso; omega)
                    | (exact ⟨hB, bD (by unfold SOk; first | omega | (simp_all; omega) | simp_all)⟩)
                · refine L_no rfl rfl rfl (decide_eq_false h16) rfl ?_
                  refine L_no rfl rfl rfl (decide_eq_false h16) rfl ?_
                  refine L_no rfl rfl rfl (decide_eq_false h16) rfl ?_
                  refine L_run (R_pickF rfl (decide_eq_false h16) rfl) rfl ?_
                  refine L_run (R_assign rfl) rfl ?_
                  refine L_nil (N_then (C_ret (R_in (R_then ?_))))
                  refine ret1 Try.results53 rfl ?_
                  first
                    | (exfalso; omega)
                    | (exact ⟨hB, bF (by unfold SOk; first | omega | (simp_all; omega) | simp_all)⟩)
              · refine L_no rfl rfl rfl (decide_eq_false h15) rfl ?_
                refine L_no rfl rfl rfl (decide_eq_false h15) rfl ?_
                refine L_no rfl rfl rfl (decide_eq_false h15) rfl ?_
                refine L_no rfl rfl rfl (decide_eq_false h15) rfl ?_
                refine L_run (R_pickF rfl (decide_eq_false h15) rfl) rfl ?_
                refine L_run (R_move rfl) rfl ?_
                refine L_no rfl rfl rfl rfl rfl ?_
                refine L_no rfl rfl rfl rfl rfl ?_
                refine L_no rfl rfl rfl rfl rfl ?_
                refine L_run (R_pickF rfl rfl rfl) rfl ?_
                refine L_run (R_assign rfl) rfl ?_
                refine L_nil (N_then (C_ret (R_in (R_then ?_))))
                refine ret1 Try.results53 rfl ?_
                first
                  | (exfalso; omega)
                  | (exact ⟨hB, bF (by unfold SOk; first | omega | (simp_all; omega) | simp_all)⟩)
            · refine L_no rfl rfl rfl (decide_eq_false h14) rfl ?_
              refine L_no rfl rfl rfl (decide_eq_false h14) rfl ?_
              refine L_no rfl rfl rfl (decide_eq_false h14) rfl ?_
              refine L_run (R_pickF rfl (decide_eq_false h14) rfl) rfl ?_
              refine L_run (R_move rfl) rfl ?_
              refine L_no rfl rfl rfl rfl rfl ?_
              refine L_no rfl rfl rfl rfl rfl ?_
              refine L_no rfl rfl rfl rfl rfl ?_
              refine L_no rfl rfl rfl rfl rfl ?_
              refine L_run (R_pickF rfl rfl rfl) rfl ?_
              refine L_run (R_move rfl) rfl ?_
              refine L_no rfl rfl rfl rfl rfl ?_
              refine L_no rfl rfl rfl rfl rfl ?_
              refine L_no rfl rfl rfl rfl rfl ?_
              refine L_run (R_pickF rfl rfl rfl) rfl ?_
              refine L_run (R_assign rfl) rfl ?_
              refine L_nil (N_then (C_ret (R_in (R_then ?_))))
              refine ret1 Try.results53 rfl ?_
              first
                | (exfalso; omega)
                | (exact ⟨hB, bF (by unfold SOk; first | omega | (simp_all; omega) | simp_all)⟩)
          · refine C_seq (C_reg ?_)
            refine L_run (R_eql rfl rfl) rfl ?_
            refine L_run (R_assign rfl) rfl ?_
            refine L_nil (N_then ?_)
            refine C_if rfl (fun h17 => ?_) (fun h17 => ?_)
            · refine C_seq (C_reg ?_)
              refine L_run (R_field (r := 3) rfl fld65_3 rfl) rfl ?_
              refine L_run (R_loadA (vs := [.slice ka kn kc, .int .i64 tn, .int .i64 ct]) rfl agg63 (At.pre (hb1.at_ 3) rfl) rfl) rfl ?_
              refine L_alloc (cs := [.slice none 0 0, .int .i64 0, .int .i64 0]) zer63 rfl rfl ?_
              intro g2 w8 eg2 hb2 hs8 hz2
              have ge2 : w.heap.size ≤ g2 := eg_ge hB eg2
              have lt1 : g1 < g2 := lt_of_eg hb1.lt eg2
              replace hB := gb_tr hB hs8
              replace hS := hS.gb hs8
              replace hb1 := hb1.gb hs8
              refine L_stA (vs := [.slice ka kn kc, .int .i64 tn, .int .i64 ct]) rfl rfl rfl sz63 rfl hb2 rfl ?_
              intro w9 hb3 hs9 hz3
              replace hB := gb_trg hB hs9 ge2
              replace hS := hS.old hs9 ge2
              replace hb1 := hb1.grown hs9 (ne_lt lt1)
              refine L_nil (N_then (C_seq (C_reg ?_)))
              refine L_run (R_field (r := 1) rfl fld65_1 rfl) rfl ?_
              refine L_run (R_load1 rfl scl3 (hb1.cell (i := 1) rfl)) rfl ?_
              refine L_run (R_eql rfl rfl) rfl ?_
              refine L_run (R_move rfl) rfl ?_
              refine L_splitD (p := n = 0) (fun h18 => ?_) (fun h18 => ?_)
              · refine L_yes rfl rfl rfl (decide_eq_true h18) ?_
                refine L_run (R_field (r := 2) rfl fld65_2 rfl) rfl ?_
                refine L_yes rfl rfl rfl (decide_eq_true h18) ?_
                refine L_run (R_load1 rfl scl22 (hb1.cell (i := 2) rfl)) rfl ?_
                refine L_yes rfl rfl rfl (decide_eq_true h18) ?_
                refine L_run (R_lenSl rfl slc22) rfl ?_
                refine L_yes rfl rfl rfl (decide_eq_true h18) ?_
                refine L_run (R_eql rfl rfl) rfl ?_
                refine L_run (R_pickT rfl (decide_eq_true h18) rfl) rfl ?_
                refine L_run (R_move rfl) rfl ?_
                refine L_splitD (p := (ops.length : Int) = 0) (fun h19 => ?_) (fun h19 => ?_)
                · refine L_yes rfl rfl rfl (decide_eq_true h19) ?_
                  refine L_run (R_field (r := 0) rfl fld63_0 rfl) rfl ?_
                  refine L_yes rfl rfl rfl (decide_eq_true h19) ?_
                  refine L_run (R_load1 rfl scl42 (hb3.cell (i := 0) rfl)) rfl ?_
                  refine L_yes rfl rfl rfl (decide_eq_true h19) ?_
                  refine L_run (R_lenSl rfl slc42) rfl ?_
                  refine L_yes rfl rfl rfl (decide_eq_true h19) ?_
                  refine L_run (R_leq rfl rfl) rfl ?_
                  refine L_run (R_pickT rfl (decide_eq_true h19) rfl) rfl ?_
                  refine L_run (R_move rfl) rfl ?_
                  refine L_splitD (p := (kn : Int) ≤ 64) (fun h20 => ?_) (fun h20 => ?_)
                  · refine L_yes rfl rfl rfl (decide_eq_true h20) ?_
                    refine L_run (R_field (r := 1) rfl fld63_1 rfl) rfl ?_
                    refine L_yes rfl rfl rfl (decide_eq_true h20) ?_
                    refine L_run (R_load1 rfl scl3 (hb3.cell (i := 1) rfl)) rfl ?_
                    refine L_yes rfl rfl rfl (decide_eq_true h20) ?_
                    refine L_run (R_geq rfl rfl) rfl ?_
                    refine L_run (R_pickT rfl (decide_eq_true h20) rfl) rfl ?_
                    refine L_run (R_move rfl) rfl ?_
                    refine L_splitD (p := -1 ≤ tn) (fun h21 => ?_) (fun h21 => ?_)
                    · refine L_yes rfl rfl rfl (decide_eq_true h21) ?_
                      refine L_run (R_field (r := 1) rfl fld63_1 rfl) rfl ?_
                      refine L_yes rfl rfl rfl (decide_eq_true h21) ?_
                      refine L_run (R_load1 rfl scl3 (hb3.cell (i := 1) rfl)) rfl ?_
                      refine L_yes rfl rfl rfl (decide_eq_true h21) ?_
                      refine L_run (R_leq rfl rfl) rfl ?_
                      refine L_run (R_pickT rfl (decide_eq_true h21) rfl) rfl ?_
                      refine L_run (R_move rfl) rfl ?_
                      refine L_splitD (p := tn ≤ 254) (fun h22 => ?_) (fun h22 => ?_)
                      · refine L_yes rfl rfl rfl (decide_eq_true h22) ?_
                        refine L_run (R_field (r := 2) rfl fld63_2 rfl) rfl ?_
                        refine L_yes rfl rfl rfl (decide_eq_true h22) ?_
                        refine L_run (R_load1 rfl scl3 (hb3.cell (i := 2) rfl)) rfl ?_
                        refine L_yes rfl rfl rfl (decide_eq_true h22) ?_
                        refine L_run (R_geq rfl rfl) rfl ?_
                        refine L_run (R_pickT rfl (decide_eq_true h22) rfl) rfl ?_
                        refine L_run (R_move rfl) rfl ?_
                        refine L_splitD (p := 0 ≤ ct) (fun h23 => ?_) (fun h23 => ?_)
                        · refine L_yes rfl rfl rfl (decide_eq_true h23) ?_
                          refine L_run (R_field (r := 2) rfl fld63_2 rfl) rfl ?_
                          refine L_yes rfl rfl rfl (decide_eq_true h23) ?_
                          refine L_run (R_load1 rfl scl3 (hb3.cell (i := 2) rfl)) rfl ?_
                          refine L_yes rfl rfl rfl (decide_eq_true h23) ?_
                          refine L_run (R_leq rfl rfl) rfl ?_
                          refine L_run (R_pickT rfl (decide_eq_true h23) rfl) rfl ?_
                          refine L_run (R_assign rfl) rfl ?_
                          refine L_nil (N_then (C_ret (R_in (R_then ?_))))
                          refine ret1 Try.results53 rfl ?_
                          first
                            | (exfalso; omega)
                            | (exact ⟨hB, bD (by unfold SOk; first | omega | (simp_all; omega) | simp_all)⟩)
                        · refine L_no rfl rfl rfl (decide_eq_false h23) rfl ?_
                          refine L_no rfl rfl rfl (decide_eq_false h23) rfl ?_
                          refine L_no rfl rfl rfl (decide_eq_false h23) rfl ?_
                          refine L_run (R_pickF rfl (decide_eq_false h23) rfl) rfl ?_
                          refine L_run (R_assign rfl) rfl ?_
                          refine L_nil (N_then (C_ret (R_in (R_then ?_))))
                          refine ret1 Try.results53 rfl ?_
                          first
                            | (exfalso; omega)
                            | (exact ⟨hB, bF (by unfold SOk; first | omega | (simp_all; omega) | simp_all)⟩)
                      · refine L_no rfl rfl rfl (decide_eq_false h22) rfl ?_
                        refine L_no rfl rfl rfl (decide_eq_false h22) rfl ?_
                        refine L_no rfl rfl rfl (decide_eq_false h22) rfl ?_
                        refine L_run (R_pickF rfl (decide_eq_false h22) rfl) rfl ?_
                        refine L_run (R_move rfl) rfl ?_
                        refine L_no rfl rfl rfl rfl rfl ?_
                        refine L_no rfl rfl rfl rfl rfl ?_
                        refine L_no rfl rfl rfl rfl rfl ?_
                        refine L_run (R_pickF rfl rfl rfl) rfl ?_
                        refine L_run (R_assign rfl) rfl ?_
                        refine L_nil (N_then (C_ret (R_in (R_then ?_))))
                        refine ret1 Try.results53 rfl ?_
                        first
                          | (exfalso; omega)
                          | (exact ⟨hB, bF (by unfold SOk; first | omega | (simp_all; omega) | simp_all)⟩)
                    · refine L_no rfl rfl rfl (decide_eq_false h21) rfl ?_
                      refine L_no rfl rfl rfl (decide_eq_false h21) rfl ?_
                      refine L_no rfl rfl rfl (decide_eq_false h21) rfl ?_
                      refine L_run (R_pickF rfl (decide_eq_false h21) rfl) rfl ?_
                      refine L_run (R_move rfl) rfl ?_
                      refine L_no rfl rfl rfl rfl rfl ?_
                      refine L_no rfl rfl rfl rfl rfl ?_
                      refine L_no rfl rfl rfl rfl rfl ?_
                      refine L_run (R_pickF rfl rfl rfl) rfl ?_
                      refine L_run (R_move rfl) rfl ?_
                      refine L_no rfl rfl rfl rfl rfl ?_
                      refine L_no rfl rfl rfl rfl rfl ?_
                      refine L_no rfl rfl rfl rfl rfl ?_
                      refine L_run (R_pickF rfl rfl rfl) rfl ?_
                      refine L_run (R_assign rfl) rfl ?_
                      refine L_nil (N_then (C_ret (R_in (R_then ?_))))
                      refine ret1 Try.results53 rfl ?_
                      first
                        | (exfalso; omega)
                        | (exact ⟨hB, bF (by unfold SOk; first | omega | (simp_all; omega) | simp_all)⟩)
                  · refine L_no rfl rfl rfl (decide_eq_false h20) rfl ?_
                    refine L_no rfl rfl rfl (decide_eq_false h20) rfl ?_
                    refine L_no rfl rfl rfl (decide_eq_false h20) rfl ?_
                    refine L_run (R_pickF rfl (decide_eq_false h20) rfl) rfl ?_
                    refine L_run (R_move rfl) rfl ?_
                    refine L_no rfl rfl rfl rfl rfl ?_
                    refine L_no rfl rfl rfl rfl rfl ?_
                    refine L_no rfl rfl rfl rfl rfl ?_
                    refine L_run (R_pickF rfl rfl rfl) rfl ?_
                    refine L_run (R_move rfl) rfl ?_
                    refine L_no rfl rfl rfl rfl rfl ?_
                    refine L_no rfl rfl rfl rfl rfl ?_
                    refine L_no rfl rfl rfl rfl rfl ?_
                    refine L_run (R_pickF rfl rfl rfl) rfl ?_
                    refine L_run (R_move rfl) rfl ?_
                    refine L_no rfl rfl rfl rfl rfl ?_
                    refine L_no rfl rfl rfl rfl rfl ?_
                    refine L_no rfl rfl rfl rfl rfl ?_
                    refine L_run (R_pickF rfl rfl rfl) rfl ?_
                    refine L_run (R_assign rfl) rfl ?_
                    refine L_nil (N_then (C_ret (R_in (R_then ?_))))
                    refine ret1 Try.results53 rfl ?_
                    first
                      | (exfalso; omega)
                      | (exact ⟨hB, bF (by unfold SOk; first | omega | (simp_all; omega) | simp_all)⟩)
                · refine L_no rfl rfl rfl (decide_eq_false h19) rfl ?_
                  refine L_no rfl rfl rfl (decide_eq_false h19) rfl ?_
                  refine L_no rfl rfl rfl (decide_eq_false h19) rfl ?_
                  refine L_no rfl rfl rfl (decide_eq_false h19) rfl ?_
                  refine L_run (R_pickF rfl (decide_eq_false h19) rfl) rfl ?_
                  refine L_run (R_move rfl) rfl ?_
                  refine L_no rfl rfl rfl rfl rfl ?_
                  refine L_no rfl rfl rfl rfl rfl ?_
                  refine L_no rfl rfl rfl rfl rfl ?_
                  refine L_run (R_pickF rfl rfl rfl) rfl ?_
                  refine L_run (R_move rfl) rfl ?_
                  refine L_no rfl rfl rfl rfl rfl ?_
                  refine L_no rfl rfl rfl rfl rfl ?_
                  refine L_no rfl rfl rfl rfl rfl ?_
                  refine L_run (R_pickF rfl rfl rfl) rfl ?_
                  refine L_run (R_move rfl) rfl ?_
                  refine L_no rfl rfl rfl rfl rfl ?_
                  refine L_no rfl rfl rfl rfl rfl ?_
                  refine L_no rfl rfl rfl rfl rfl ?_
                  refine L_run (R_pickF rfl rfl rfl) rfl ?_
                  refine L_run (R_move rfl) rfl ?_
                  refine L_no rfl rfl rfl rfl rfl ?_
                  refine L_no rfl rfl rfl rfl rfl ?_
                  refine L_no rfl rfl rfl rfl rfl ?_
                  refine L_run (R_pickF rfl rfl rfl) rfl ?_
                  refine L_run (R_assign rfl) rfl ?_
                  refine L_nil (N_then (C_ret (R_in (R_then ?_))))
                  refine ret1 Try.results53 rfl ?_
                  first
                    | (exfalso; omega)
                    | (exact ⟨hB, bF (by unfold SOk; first | omega | (simp_all; omega) | simp_all)⟩)
              · refine L_no rfl rfl rfl (decide_eq_false h18) rfl ?_
                refine L_no rfl rfl rfl (decide_eq_false h18) rfl ?_
                refine L_no rfl rfl rfl (decide_eq_false h18) rfl ?_
                refine L_no rfl rfl rfl (decide_eq_false h18) rfl ?_
                refine L_run (R_pickF rfl (decide_eq_false h18) rfl) rfl ?_
                refine L_run (R_move rfl) rfl ?_
                refine L_no rfl rfl rfl rfl rfl ?_
                refine L_no rfl rfl rfl rfl rfl ?_
                refine L_no rfl rfl rfl rfl rfl ?_
                refine L_no rfl rfl rfl rfl rfl ?_
                refine L_run (R_pickF rfl rfl rfl) rfl ?_
                refine L_run (R_move rfl) rfl ?_
                refine L_no rfl rfl rfl rfl rfl ?_
                refine L_no rfl rfl rfl rfl rfl ?_
                refine L_no rfl rfl rfl rfl rfl ?_
                refine L_run (R_pickF rfl rfl rfl) rfl ?_
                refine L_run (R_move rfl) rfl ?_
                refine L_no rfl rfl rfl rfl rfl ?_
                refine L_no rfl rfl rfl rfl rfl ?_
                refine L_no rfl rfl rfl rfl rfl ?_
                refine L_run (R_pickF rfl rfl rfl) rfl ?_
                refine L_run (R_move rfl) rfl ?_
                refine L_no rfl rfl rfl rfl rfl ?_
                refine L_no rfl rfl rfl rfl rfl ?_
                refine L_no rfl rfl rfl rfl rfl ?_
                refine L_run (R_pickF rfl rfl rfl) rfl ?_
                refine L_run (R_move rfl) rfl ?_
                refine L_no rfl rfl rfl rfl rfl ?_
                refine L_no rfl rfl rfl rfl rfl ?_
                refine L_no rfl rfl rfl rfl rfl ?_
                refine L_run (R_pickF rfl rfl rfl) rfl ?_
                refine L_run (R_assign rfl) rfl ?_
                refine L_nil (N_then (C_ret (R_in (R_then ?_))))
                refine ret1 Try.results53 rfl ?_
                first
                  | (exfalso; omega)
                  | (exact ⟨hB, bF (by unfold SOk; first | omega | (simp_all; omega) | simp_all)⟩)
            · refine C_skip (N_in (N_then (C_seq (C_reg ?_))))
              refine L_run (R_assign rfl) rfl ?_
              refine L_nil (N_then (C_ret ?_))
              refine ret1 Try.results53 rfl ?_
              first
                | (exfalso; omega)
                | (exact ⟨hB, bF (by unfold SOk; first | omega | (simp_all; omega) | simp_all)⟩)

theorem ref38_Right {w : World} {t1 lo hi : Nat} {oa ka : Option Addr} {oc kn kc : Nat} {kd n tn ct : Int} {ops : List Opd} (hS : Sli t1 lo hi w oa (fl encOp ops)) (hb : ops.length ≤ 1000000) :
    Runs Try.prog 54 #[.agg #[.int .i64 kd, .int .i64 n, .slice oa ops.length oc, .slice ka kn kc, .int .i64 tn, .int .i64 ct]] w (fun v w' => w.grownBy w' none ∧ v = .bool (decide (SOk kd n ops kn tn ct))) := by
  have hB := gb_refl w none
  replace hS := hS.top
  refine enter Try.func54 Try.ntmps54 rfl rfl ?_
  refine C_seq (C_reg ?_)
  refine L_box (cs := [.int .i64 kd, .int .i64 n, .slice oa ops.length oc, .slice ka kn kc, .int .i64 tn, .int .i64 ct]) rfl rfl rfl ?_
  intro g1 w1 eg1 hb1 hs1 hz1
  have ge1 : w.heap.size ≤ g1 := eg_ge hB eg1
  replace hB := gb_tr hB hs1
  replace hS := hS.gb hs1
  refine L_run (R_assign rfl) rfl ?_
  refine L_nil (N_then (C_seq (C_reg ?_)))
  refine L_run (R_field (r := 3) rfl fld65_3 rfl) rfl ?_
  refine L_run (R_field (r := 3) rfl fld63_0 rfl) rfl ?_
  refine L_run (R_load1 rfl scl42 (hb1.cell (i := 3) rfl)) rfl ?_
  refine L_run (R_lenSl rfl slc42) rfl ?_
  refine L_run (R_eql rfl rfl) rfl ?_
  refine L_run (R_move rfl) rfl ?_
  refine L_splitD (p := (kn : Int) = 0) (fun h1 => ?_) (fun h1 => ?_)
  · refine L_yes rfl rfl rfl (decide_eq_true h1) ?_
    refine L_run (R_field (r := 3) rfl fld65_3 rfl) rfl ?_
    refine L_yes rfl rfl rfl (decide_eq_true h1) ?_
    refine L_run (R_field (r := 4) rfl fld63_1 rfl) rfl ?_
    refine L_yes rfl rfl rfl (decide_eq_true h1) ?_
    refine L_run (R_load1 rfl scl3 (hb1.cell (i := 4) rfl)) rfl ?_
    refine L_yes rfl rfl rfl (decide_eq_true h1) ?_
    refine L_run (R_eql rfl rfl) rfl ?_
    refine L_run (R_pickT rfl (decide_eq_true h1) rfl) rfl ?_
    refine L_run (R_move rfl) rfl ?_
    refine L_splitD (p := tn = 0) (fun h2 => ?_) (fun h2 => ?_)
    · refine L_yes rfl rfl rfl (decide_eq_true h2) ?_
      refine L_run (R_field (r := 3) rfl fld65_3 rfl) rfl ?_
      refine L_yes rfl rfl rfl (decide_eq_true h2) ?_
      refine L_run (R_field (r := 5) rfl fld63_2 rfl) rfl ?_
      refine L_yes rfl rfl rfl (decide_eq_true h2) ?_
      refine L_run (R_load1 rfl scl3 (hb1.cell (i := 5) rfl)) rfl ?_
      refine L_yes rfl rfl rfl (decide_eq_true h2) ?_
      refine L_run (R_eql rfl rfl) rfl ?_
      refine L_run (R_pickT rfl (decide_eq_true h2) rfl) rfl ?_
      refine L_run (R_assign rfl) rfl ?_
      refine L_nil (N_then (C_seq (C_seq (C_reg ?_))))
      refine L_run (R_field (r := 0) rfl fld65_0 rfl) rfl ?_
      refine L_run (R_load1 rfl scl3 (hb1.cell (i := 0) rfl)) rfl ?_
      refine L_run (R_eql rfl rfl) rfl ?_
      refine L_nil (N_then ?_)
      refine C_if rfl (fun h3 => ?_) (fun h3 => ?_)
      · refine C_seq (C_reg ?_)
        refine L_run (R_field (r := 2) rfl fld65_2 rfl) rfl ?_
        refine L_run (R_load1 rfl scl22 (hb1.cell (i := 2) rfl)) rfl ?_
        refine L_call rfl cb46 (ref12_Right (l := ops) hS (by first | omega | (simp; done) | (simp; omega))) rfl ?_
        rintro _ w2 ⟨hs2, rfl⟩
        replace hB := gb_tr hB hs2
        replace hS := hS.gb hs2
        replace hb1 := hb1.gb hs2
        refine L_run (R_move rfl) rfl ?_
        refine L_splitD (p := OkL ops) (fun h4 => ?_) (fun h4 => ?_)
        · refine L_yes rfl rfl rfl (decide_eq_true h4) ?_
          refine L_run (R_field (r := 1) rfl fld65_1 rfl) rfl ?_
          refine L_yes rfl rfl rfl (decide_eq_true h4) ?_
          refine L_run (R_load1 rfl scl3 (hb1.cell (i := 1) rfl)) rfl ?_
          refine L_yes rfl rfl rfl (decide_eq_true h4) ?_
          refine L_run (R_eql rfl rfl) rfl ?_
          refine L_run (R_pickT rfl (decide_eq_true h4) rfl) rfl ?_
          refine L_run (R_move rfl) rfl ?_
          refine L_splitD (p := n = 0) (fun h5 => ?_) (fun h5 => ?_)
          · refine L_yes rfl rfl rfl (decide_eq_true h5) ?_
            refine L_run (R_move rfl) rfl ?_
            refine L_run (R_pickT rfl (decide_eq_true h5) rfl) rfl ?_
            refine L_run (R_assign rfl) rfl ?_
            refine L_nil (N_then (C_ret (R_then ?_)))
            refine ret1 Try.results54 rfl ?_
            first
              | (exfalso; omega)
              | (exact ⟨hB, bD (by unfold SOk; first | omega | (simp_all; omega) | simp_all)⟩)
          · refine L_no rfl rfl rfl (decide_eq_false h5) rfl ?_
            refine L_run (R_pickF rfl (decide_eq_false h5) rfl) rfl ?_
            refine L_run (R_assign rfl) rfl ?_
            refine L_nil (N_then (C_ret (R_then ?_)))
            refine ret1 Try.results54 rfl ?_
            first
              | (exfalso; omega)
              | (exact ⟨hB, bF (by unfold SOk; first | omega | (simp_all; omega) | simp_all)⟩)
        · refine L_no rfl rfl rfl (decide_eq_false h4) rfl ?_
          refine L_no rfl rfl rfl (decide_eq_false h4) rfl ?_
          refine L_no rfl rfl rfl (decide_eq_false h4) rfl ?_
          refine L_run (R_pickF rfl (decide_eq_false h4) rfl) rfl ?_
          refine L_run (R_move rfl) rfl ?_
          refine L_no rfl rfl rfl rfl rfl ?_
          refine L_run (R_pickF rfl rfl rfl) rfl ?_
          refine L_run (R_assign rfl) rfl ?_
          refine L_nil (N_then (C_ret (R_then ?_)))
          refine ret1 Try.results54 rfl ?_
          first
            | (exfalso; omega)
            | (exact ⟨hB, bF (by unfold SOk; first | omega | (simp_all; omega) | simp_all)⟩)
      · refine C_skip (N_then (C_seq (C_seq (C_reg ?_))))
        refine L_run (R_field (r := 2) rfl fld65_2 rfl) rfl ?_
        refine L_run (R_load1 rfl scl22 (hb1.cell (i := 2) rfl)) rfl ?_
        refine L_run (R_lenSl rfl slc22) rfl ?_
        refine L_run (R_gtr rfl rfl) rfl ?_
        refine L_nil (N_then ?_)
        refine C_if rfl (fun h6 => ?_) (fun h6 => ?_)
        · refine C_seq (C_reg ?_)
          refine L_run (R_assign rfl) rfl ?_
          refine L_nil (N_then (C_ret (R_then ?_)))
          refine ret1 Try.results54 rfl ?_
          first
            | (exfalso; omega)
            | (exact ⟨hB, bF (by unfold SOk; first | omega | (simp_all; omega) | simp_all)⟩)
        · refine C_skip (N_then (C_seq (C_seq (C_reg ?_))))
          refine L_run (R_field (r := 0) rfl fld65_0 rfl) rfl ?_
          refine L_run (R_load1 rfl scl3 (hb1.cell (i := 0) rfl)) rfl ?_
          refine L_run (R_eql rfl rfl) rfl ?_
          refine L_nil (N_then ?_)
          refine C_if rfl (fun h7 => ?_) (fun h7 => ?_)
          · refine C_seq (C_reg ?_)
            refine L_run (R_field (r := 1) rfl fld65_1 rfl) rfl ?_
            refine L_run (R_load1 rfl scl3 (hb1.cell (i := 1) rfl)) rfl ?_
            refine L_run (R_eql rfl rfl) rfl ?_
            refine L_run (R_move rfl) rfl ?_
            refine L_splitD (p := n = 0) (fun h8 => ?_) (fun h8 => ?_)
            · refine L_yes rfl rfl rfl (decide_eq_true h8) ?_
              refine L_run (R_field (r := 3) rfl fld65_3 rfl) rfl ?_
              refine L_yes rfl rfl rfl (decide_eq_true h8) ?_
              refine L_run (R_field (r := 3) rfl fld63_0 rfl) rfl ?_
              refine L_yes rfl rfl rfl (decide_eq_true h8) ?_
              refine L_run (R_load1 rfl scl42 (hb1.cell (i := 3) rfl)) rfl ?_
              refine L_yes rfl rfl rfl (decide_eq_true h8) ?_
              refine L_run (R_lenSl rfl slc42) rfl ?_
              refine L_yes rfl rfl rfl (decide_eq_true h8) ?_
              refine L_run (R_leq rfl rfl) rfl ?_
              refine L_run (R_pickT rfl (decide_eq_true h8) rfl) rfl ?_
              refine L_run (R_move rfl) rfl ?_
              refine L_splitD (p := (kn : Int) ≤ 64) (fun h9 => ?_) (fun h9 => ?_)
              · refine L_yes rfl rfl rfl (decide_eq_true h9) ?_
                refine L_run (R_field (r := 3) rfl fld65_3 rfl) rfl ?_
                refine L_yes rfl rfl rfl (decide_eq_true h9) ?_
                refine L_run (R_field (r := 4) rfl fld63_1 rfl) rfl ?_
                refine L_yes rfl rfl rfl (decide_eq_true h9) ?_
                refine L_run (R_load1 rfl scl3 (hb1.cell (i := 4) rfl)) rfl ?_
                refine L_yes rfl rfl rfl (decide_eq_true h9) ?_
                refine L_run (R_geq rfl rfl) rfl ?_
                refine L_run (R_pickT rfl (decide_eq_true h9) rfl) rfl ?_
                refine L_run (R_move rfl) rfl ?_
                refine L_splitD (p := -1 ≤ tn) (fun h10 => ?_) (fun h10 => ?_)
                · refine L_yes rfl rfl rfl (decide_eq_true h10) ?_
                  refine L_run (R_field (r := 3) rfl fld65_3 rfl) rfl ?_
                  refine L_yes rfl rfl rfl (decide_eq_true h10) ?_
                  refine L_run (R_field (r := 4) rfl fld63_1 rfl) rfl ?_
                  refine L_yes rfl rfl rfl (decide_eq_true h10) ?_
                  refine L_run (R_load1 rfl scl3 (hb1.cell (i := 4) rfl)) rfl ?_
                  refine L_yes rfl rfl rfl (decide_eq_true h10) ?_
                  refine L_run (R_leq rfl rfl) rfl ?_
                  refine L_run (R_pickT rfl (decide_eq_true h10) rfl) rfl ?_
                  refine L_run (R_move rfl) rfl ?_
                  refine L_splitD (p := tn ≤ 254) (fun h11 => ?_) (fun h11 => ?_)
                  · refine L_yes rfl rfl rfl (decide_eq_true h11) ?_
                    refine L_run (R_field (r := 3) rfl fld65_3 rfl) rfl ?_
                    refine L_yes rfl rfl rfl (decide_eq_true h11) ?_
                    refine L_run (R_field (r := 5) rfl fld63_2 rfl) rfl ?_
                    refine L_yes rfl rfl rfl (decide_eq_true h11) ?_
                    refine L_run (R_load1 rfl scl3 (hb1.cell (i := 5) rfl)) rfl ?_
                    refine L_yes rfl rfl rfl (decide_eq_true h11) ?_
                    refine L_run (R_geq rfl rfl) rfl ?_
                    refine L_run (R_pickT rfl (decide_eq_true h11) rfl) rfl ?_
                    refine L_run (R_move rfl) rfl ?_
                    refine L_splitD (p := 0 ≤ ct) (fun h12 => ?_) (fun h12 => ?_)
                    · refine L_yes rfl rfl rfl (decide_eq_true h12) ?_
                      refine L_run (R_field (r := 3) rfl fld65_3 rfl) rfl ?_
                      refine L_yes rfl rfl rfl (decide_eq_true h12) ?_
                      refine L_run (R_field (r := 5) rfl fld63_2 rfl) rfl ?_
                      refine L_yes rfl rfl rfl (decide_eq_true h12) ?_
                      refine L_run (R_load1 rfl scl3 (hb1.cell (i := 5) rfl)) rfl ?_
                      refine L_yes rfl rfl rfl (decide_eq_true h12) ?_
                      refine L_run (R_leq rfl rfl) rfl ?_
                      refine L_run (R_pickT rfl (decide_eq_true h12) rfl) rfl ?_
                      refine L_run (R_assign rfl) rfl ?_
                      refine L_nil (N_then (C_ret (R_then ?_)))
                      refine ret1 Try.results54 rfl ?_
                      first
                        | (exfalso; omega)
                        | (exact ⟨hB, bD (by unfold SOk; first | omega | (simp_all; omega) | simp_all)⟩)
                    · refine L_no rfl rfl rfl (decide_eq_false h12) rfl ?_
                      refine L_no rfl rfl rfl (decide_eq_false h12) rfl ?_
                      refine L_no rfl rfl rfl (decide_eq_false h12) rfl ?_
                      refine L_no rfl rfl rfl (decide_eq_false h12) rfl ?_
                      refine L_run (R_pickF rfl (decide_eq_false h12) rfl) rfl ?_
                      refine L_run (R_assign rfl) rfl ?_
                      refine L_nil (N_then (C_ret (R_then ?_)))
                      refine ret1 Try.results54 rfl ?_
                      first
                        | (exfalso; omega)
                        | (exact ⟨hB, bF (by unfold SOk; first | omega | (simp_all; omega) | simp_all)⟩)
                  · refine L_no rfl rfl rfl (decide_eq_false h11) rfl ?_
                    refine L_no rfl rfl rfl (decide_eq_false h11) rfl ?_
                    refine L_no rfl rfl rfl (decide_eq_false h11) rfl ?_
                    refine L_no rfl rfl rfl (decide_eq_false h11) rfl ?_
                    refine L_run (R_pickF rfl (decide_eq_false h11) rfl) rfl ?_
                    refine L_run (R_move rfl) rfl ?_
                    refine L_no rfl rfl rfl rfl rfl ?_
                    refine L_no rfl rfl rfl rfl rfl ?_
                    refine L_no rfl rfl rfl rfl rfl ?_
                    refine L_no rfl rfl rfl rfl rfl ?_
                    refine L_run (R_pickF rfl rfl rfl) rfl ?_
                    refine L_run (R_assign rfl) rfl ?_
                    refine L_nil (N_then (C_ret (R_then ?_)))
                    refine ret1 Try.results54 rfl ?_
                    first
                      | (exfalso; omega)
                      | (exact ⟨hB, bF (by unfold SOk; first | omega | (simp_all; omega) | simp_all)⟩)
                · refine L_no rfl rfl rfl (decide_eq_false h10) rfl ?_
                  refine L_no rfl rfl rfl (decide_eq_false h10) rfl ?_
                  refine L_no rfl rfl rfl (decide_eq_false h10) rfl ?_
                  refine L_no rfl rfl rfl (decide_eq_false h10) rfl ?_
                  refine L_run (R_pickF rfl (decide_eq_false h10) rfl) rfl ?_
                  refine L_run (R_move rfl) rfl ?_
                  refine L_no rfl rfl rfl rfl rfl ?_
                  refine L_no rfl rfl rfl rfl rfl ?_
                  refine L_no rfl rfl rfl rfl rfl ?_
                  refine L_no rfl rfl rfl rfl rfl ?_
                  refine L_run (R_pickF rfl rfl rfl) rfl ?_
                  refine L_run (R_move rfl) rfl ?_
                  refine L_no rfl rfl rfl rfl rfl ?_
                  refine L_no rfl rfl rfl rfl rfl ?_
                  refine L_no rfl rfl rfl rfl rfl ?_
                  refine L_no rfl rfl rfl rfl rfl ?_
                  refine L_run (R_pickF rfl rfl rfl) rfl ?_
                  refine L_run (R_assign rfl) rfl ?_
                  refine L_nil (N_then (C_ret (R_then ?_)))
                  refine ret1 Try.results54 rfl ?_
                  first
                    | (exfalso; omega)
                    | (exact ⟨hB, bF (by unfold SOk; first | omega | (simp_all; omega) | simp_all)⟩)
              · refine L_no rfl rfl rfl (decide_eq_false h9) rfl ?_
                refine L_no rfl rfl rfl (decide_eq_false h9) rfl ?_
                refine L_no rfl rfl rfl (decide_eq_false h9) rfl ?_
                refine L_no rfl rfl rfl (decide_eq_false h9) rfl ?_
                refine L_run (R_pickF rfl (decide_eq_false h9) rfl) rfl ?_
                refine L_run (R_move rfl) rfl ?_
                refine L_no rfl rfl rfl rfl rfl ?_
                refine L_no rfl rfl rfl rfl rfl ?_
                refine L_no rfl rfl rfl rfl rfl ?_
                refine L_no rfl rfl rfl rfl rfl ?_
                refine L_run (R_pickF rfl rfl rfl) rfl ?_
                refine L_run (R_move rfl) rfl ?_
                refine L_no rfl rfl rfl rfl rfl ?_
                refine L_no rfl rfl rfl rfl rfl ?_
                refine L_no rfl rfl rfl rfl rfl ?_
                refine L_no rfl rfl rfl rfl rfl ?_
                refine L_run (R_pickF rfl rfl rfl) rfl ?_
                refine L_run (R_move rfl) rfl ?_
                refine L_no rfl rfl rfl rfl rfl ?_
                refine L_no rfl rfl rfl rfl rfl ?_
                refine L_no rfl rfl rfl rfl rfl ?_
                refine L_no rfl rfl rfl rfl rfl ?_
                refine L_run (R_pickF rfl rfl rfl) rfl ?_
                refine L_run (R_assign rfl) rfl ?_
                refine L_nil (N_then (C_ret (R_then ?_)))
                refine ret1 Try.results54 rfl ?_
                first
                  | (exfalso; omega)
                  | (exact ⟨hB, bF (by unfold SOk; first | omega | (simp_all; omega) | simp_all)⟩)
            · refine L_no rfl rfl rfl (decide_eq_false h8) rfl ?_
              refine L_no rfl rfl rfl (decide_eq_false h8) rfl ?_
              refine L_no rfl rfl rfl (decide_eq_false h8) rfl ?_
              refine L_no rfl rfl rfl (decide_eq_false h8) rfl ?_
              refine L_no rfl rfl rfl (decide_eq_false h8) rfl ?_
              refine L_run (R_pickF rfl (decide_eq_false h8) rfl) rfl ?_
              refine L_run (R_move rfl) rfl ?_
              refine L_no rfl rfl rfl rfl rfl ?_
              refine L_no rfl rfl rfl rfl rfl ?_
              refine L_no rfl rfl rfl rfl rfl ?_
              refine L_no rfl rfl rfl rfl rfl ?_
              refine L_run (R_pickF rfl rfl rfl) rfl ?_
              refine L_run (R_move rfl) rfl ?_
              refine L_no rfl rfl rfl rfl rfl ?_
              refine L_no rfl rfl rfl rfl rfl ?_
              refine L_no rfl rfl rfl rfl rfl ?_
              refine L_no rfl rfl rfl rfl rfl ?_
              refine L_run (R_pickF rfl rfl rfl) rfl ?_
              refine L_run (R_move rfl) rfl ?_
              refine L_no rfl rfl rfl rfl rfl ?_
              refine L_no rfl rfl rfl rfl rfl ?_
              refine L_no rfl rfl rfl rfl rfl ?_
              refine L_no rfl rfl rfl rfl rfl ?_
              refine L_run (R_pickF rfl rfl rfl) rfl ?_
              refine L_run (R_move rfl) rfl ?_
              refine L_no rfl rfl rfl rfl rfl ?_
              refine L_no rfl rfl rfl rfl rfl ?_
              refine L_no rfl rfl rfl rfl rfl ?_
              refine L_no rfl rfl rfl rfl rfl ?_
              refine L_run (R_pickF rfl rfl rfl) rfl ?_
              refine L_run (R_assign rfl) rfl ?_
              refine L_nil (N_then (C_ret (R_then ?_)))
              refine ret1 Try.results54 rfl ?_
              first
                | (exfalso; omega)
                | (exact ⟨hB, bF (by unfold SOk; first | omega | (simp_all; omega) | simp_all)⟩)
          · refine C_skip (N_then (C_seq (C_seq (C_reg ?_))))
            refine L_run (R_field (r := 0) rfl fld65_0 rfl) rfl ?_
            refine L_run (R_load1 rfl scl3 (hb1.cell (i := 0) rfl)) rfl ?_
            refine L_run (R_eql rfl rfl) rfl ?_
            refine L_nil (N_then ?_)
            refine C_if rfl (fun h13 => ?_) (fun h13 => ?_)
            · refine C_seq (C_reg ?_)
              refine L_run (R_move rfl) rfl ?_
              refine L_run (R_move rfl) rfl ?_
              refine L_splitD (p := ct = 0) (fun h14 => ?_) (fun h14 => ?_)
              · refine L_yes rfl rfl rfl (decide_eq_true h14) ?_
                refine L_run (R_field (r := 1) rfl fld65_1 rfl) rfl ?_
                refine L_yes rfl rfl rfl (decide_eq_true h14) ?_
                refine L_run (R_load1 rfl scl3 (hb1.cell (i := 1) rfl)) rfl ?_
                refine L_yes rfl rfl rfl (decide_eq_true h14) ?_
                refine L_run (R_geq rfl rfl) rfl ?_
                refine L_run (R_pickT rfl (decide_eq_true h14) rfl) rfl ?_
                refine L_run (R_move rfl) rfl ?_
                refine L_splitD (p := 0 ≤ n) (fun h15 => ?_) (fun h15 => ?_)
                · refine L_yes rfl rfl rfl (decide_eq_true h15) ?_
                  refine L_run (R_field (r := 1) rfl fld65_1 rfl) rfl ?_
                  refine L_yes rfl rfl rfl (decide_eq_true h15) ?_
                  refine L_run (R_load1 rfl scl3 (hb1.cell (i := 1) rfl)) rfl ?_
                  refine L_yes rfl rfl rfl (decide_eq_true h15) ?_
                  refine L_run (R_leq rfl rfl) rfl ?_
                  refine L_run (R_pickT rfl (decide_eq_true h15) rfl) rfl ?_
                  refine L_run (R_assign rfl) rfl ?_
                  refine L_nil (N_then (C_ret (R_then ?_)))
                  refine ret1 Try.results54 rfl ?_
                  first
                    | (exfalso; omega)
                    | (exact ⟨hB, bD (by unfold SOk; first | omega | (simp_all; omega) | simp_all)⟩)
                · refine L_no rfl rfl rfl (decide_eq_false h15) rfl ?_
                  refine L_no rfl rfl rfl (decide_eq_false h15) rfl ?_
                  refine L_no rfl rfl rfl (decide_eq_false h15) rfl ?_
                  refine L_run (R_pickF rfl (decide_eq_false h15) rfl) rfl ?_
                  refine L_run (R_assign rfl) rfl ?_
                  refine L_nil (N_then (C_ret (R_then ?_)))
                  refine ret1 Try.results54 rfl ?_
                  first
                    | (exfalso; omega)
                    | (exact ⟨hB, bF (by unfold SOk; first | omega | (simp_all; omega) | simp_all)⟩)
              · refine L_no rfl rfl rfl (decide_eq_false h14) rfl ?_
                refine L_no rfl rfl rfl (decide_eq_false h14) rfl ?_
                refine L_no rfl rfl rfl (decide_eq_false h14) rfl ?_
                refine L_run (R_pickF rfl (decide_eq_false h14) rfl) rfl ?_
                refine L_run (R_move rfl) rfl ?_
                refine L_no rfl rfl rfl rfl rfl ?_
                refine L_no rfl rfl rfl rfl rfl ?_
                refine L_no rfl rfl rfl rfl rfl ?_
                refine L_run (R_pickF rfl rfl rfl) rfl ?_
                refine L_run (R_assign rfl) rfl ?_
                refine L_nil (N_then (C_ret (R_then ?_)))
                refine ret1 Try.results54 rfl ?_
                first
                  | (exfalso; omega)
                  | (exact ⟨hB, bF (by unfold SOk; first | omega | (simp_all; omega) | simp_all)⟩)
            · refine C_skip (N_then (C_seq (C_reg ?_)))
              refine L_run (R_move rfl) rfl ?_
              refine L_run (R_move rfl) rfl ?_
              refine L_splitD (p := ct = 0) (fun h16 => ?_) (fun h16 => ?_)
              · refine L_yes rfl rfl rfl (decide_eq_true h16) ?_
                refine L_run (R_field (r := 1) rfl fld65_1 rfl) rfl ?_
                refine L_yes rfl rfl rfl (decide_eq_true h16) ?_
                refine L_run (R_load1 rfl scl3 (hb1.cell (i := 1) rfl)) rfl ?_
                refine L_yes rfl rfl rfl (decide_eq_true h16) ?_
                refine L_run (R_eql rfl rfl) rfl ?_
                refine L_run (R_pickT rfl (decide_eq_true h16) rfl) rfl ?_
                refine L_run (R_move rfl) rfl ?_
                refine L_splitD (p := n = 0) (fun h17 => ?_) (fun h17 => ?_)
                · refine L_yes rfl rfl rfl (decide_eq_true h17) ?_
                  refine L_run (R_field (r := 0) rfl fld65_0 rfl) rfl ?_
                  refine L_yes rfl rfl rfl (decide_eq_true h17) ?_
                  refine L_run (R_load1 rfl scl3 (hb1.cell (i := 0) rfl)) rfl ?_
                  refine L_yes rfl rfl rfl (decide_eq_true h17) ?_
                  refine L_run (R_eql rfl rfl) rfl ?_
                  refine L_yes rfl rfl rfl (decide_eq_true h17) ?_
                  refine L_run (R_move rfl) rfl ?_
                  refine L_splitD (p := kd = 2) (fun h18 => ?_) (fun h18 => ?_)
                  · refine L_no rfl rfl rfl (decide_eq_true h18) rfl ?_
                    refine L_no rfl rfl rfl (decide_eq_true h18) rfl ?_
                    refine L_no rfl rfl rfl (decide_eq_true h18) rfl ?_
                    refine L_yes rfl rfl rfl (decide_eq_true h17) ?_
                    refine L_run (R_pickT rfl (decide_eq_true h18) rfl) rfl ?_
                    refine L_yes rfl rfl rfl (decide_eq_true h17) ?_
                    refine L_run (R_move rfl) rfl ?_
                    refine L_no rfl rfl rfl rfl rfl ?_
                    refine L_no rfl rfl rfl rfl rfl ?_
                    refine L_no rfl rfl rfl rfl rfl ?_
                    refine L_yes rfl rfl rfl (decide_eq_true h17) ?_
                    refine L_run (R_pickT rfl rfl rfl) rfl ?_
                    refine L_run (R_pickT rfl (decide_eq_true h17) rfl) rfl ?_
                    refine L_run (R_assign rfl) rfl ?_
                    refine L_nil (N_then (C_ret ?_))
                    refine ret1 Try.results54 rfl ?_
                    first
                      | (exfalso; omega)
                      | (exact ⟨hB, bT (by unfold SOk; first | omega | (simp_all; omega) | simp_all)⟩)
                  · refine L_yes rfl rfl rfl (decide_eq_false h18) ?_
                    refine L_run (R_field (r := 0) rfl fld65_0 rfl) rfl ?_
                    refine L_yes rfl rfl rfl (decide_eq_false h18) ?_
                    refine L_run (R_load1 rfl scl3 (hb1.cell (i := 0) rfl)) rfl ?_
                    refine L_yes rfl rfl rfl (decide_eq_false h18) ?_
                    refine L_run (R_eql rfl rfl) rfl ?_
                    refine L_yes rfl rfl rfl (decide_eq_true h17) ?_
                    refine L_run (R_pickF rfl (decide_eq_false h18) rfl) rfl ?_
                    refine L_yes rfl rfl rfl (decide_eq_true h17) ?_
                    refine L_run (R_move rfl) rfl ?_
                    refine L_splitD (p := kd = 3) (fun h19 => ?_) (fun h19 => ?_)
                    · refine L_no rfl rfl rfl (decide_eq_true h19) rfl ?_
                      refine L_no rfl rfl rfl (decide_eq_true h19) rfl ?_
                      refine L_no rfl rfl rfl (decide_eq_true h19) rfl ?_
                      refine L_yes rfl rfl rfl (decide_eq_true h17) ?_
                      refine L_run (R_pickT rfl (decide_eq_true h19) rfl) rfl ?_
                      refine L_run (R_pickT rfl (decide_eq_true h17) rfl) rfl ?_
                      refine L_run (R_assign rfl) rfl ?_
                      refine L_nil (N_then (C_ret ?_))
                      refine ret1 Try.results54 rfl ?_
                      first
                        | (exfalso; omega)
                        | (exact ⟨hB, bT (by unfold SOk; first | omega | (simp_all; omega) | simp_all)⟩)
                    · refine L_yes rfl rfl rfl (decide_eq_false h19) ?_
                      refine L_run (R_field (r := 0) rfl fld65_0 rfl) rfl ?_
                      refine L_yes rfl rfl rfl (decide_eq_false h19) ?_
                      refine L_run (R_load1 rfl scl3 (hb1.cell (i := 0) rfl)) rfl ?_
                      refine L_yes rfl rfl rfl (decide_eq_false h19) ?_
                      refine L_run (R_eql rfl rfl) rfl ?_
                      refine L_yes rfl rfl rfl (decide_eq_true h17) ?_
                      refine L_run (R_pickF rfl (decide_eq_false h19) rfl) rfl ?_
                      refine L_run (R_pickT rfl (decide_eq_true h17) rfl) rfl ?_
                      refine L_run (R_assign rfl) rfl ?_
                      refine L_nil (N_then (C_ret ?_))
                      refine ret1 Try.results54 rfl ?_
                      first
                        | (exfalso; omega)
                        | (exact ⟨hB, bD (by unfold SOk; first | omega | (simp_all; omega) | simp_all)⟩)
                · refine L_no rfl rfl rfl (decide_eq_false h17) rfl ?_
                  refine L_no rfl rfl rfl (decide_eq_false h17) rfl ?_
                  refine L_no rfl rfl rfl (decide_eq_false h17) rfl ?_
                  refine L_no rfl rfl rfl (decide_eq_false h17) rfl ?_
                  refine L_noU rfl rfl rfl rfl ?_
                  refine L_noU rfl rfl rfl rfl ?_
                  refine L_noU rfl rfl rfl rfl ?_
                  refine L_no rfl rfl rfl (decide_eq_false h17) rfl ?_
                  refine L_no rfl rfl rfl (decide_eq_false h17) rfl ?_
                  refine L_noU rfl rfl rfl rfl ?_
                  refine L_noU rfl rfl rfl rfl ?_
                  refine L_noU rfl rfl rfl rfl ?_
                  refine L_no rfl rfl rfl (decide_eq_false h17) rfl ?_
                  refine L_run (R_pickF rfl (decide_eq_false h17) rfl) rfl ?_
                  refine L_run (R_assign rfl) rfl ?_
                  refine L_nil (N_then (C_ret ?_))
                  refine ret1 Try.results54 rfl ?_
                  first
                    | (exfalso; omega)
                    | (exact ⟨hB, bF (by unfold SOk; first | omega | (simp_all; omega) | simp_all)⟩)
              · refine L_no rfl rfl rfl (decide_eq_false h16) rfl ?_
                refine L_no rfl rfl rfl (decide_eq_false h16) rfl ?_
                refine L_no rfl rfl rfl (decide_eq_false h16) rfl ?_
                refine L_run (R_pickF rfl (decide_eq_false h16) rfl) rfl ?_
                refine L_run (R_move rfl) rfl ?_
                refine L_no rfl rfl rfl rfl rfl ?_
                refine L_no rfl rfl rfl rfl rfl ?_
                refine L_no rfl rfl rfl rfl rfl ?_
                refine L_no rfl rfl rfl rfl rfl ?_
                refine L_noU rfl rfl rfl rfl ?_
                refine L_noU rfl rfl rfl rfl ?_
                refine L_noU rfl rfl rfl rfl ?_
                refine L_no rfl rfl rfl rfl rfl ?_
                refine L_no rfl rfl rfl rfl rfl ?_
                refine L_noU rfl rfl rfl rfl ?_
                refine L_noU rfl rfl rfl rfl ?_
                refine L_noU rfl rfl rfl rfl ?_
                refine L_no rfl rfl rfl rfl rfl ?_
                refine L_run (R_pickF rfl rfl rfl) rfl ?_
                refine L_run (R_assign rfl) rfl ?_
                refine L_nil (N_then (C_ret ?_))
                refine ret1 Try.results54 rfl ?_
                first
                  | (exfalso; omega)
                  | (exact ⟨hB, bF (by unfold SOk; first | omega | (simp_all; omega) | simp_all)⟩)
    · refine L_no rfl rfl rfl (decide_eq_false h2) rfl ?_
      refine L_no rfl rfl rfl (decide_eq_false h2) rfl ?_
      refine L_no rfl rfl rfl (decide_eq_false h2) rfl ?_
      refine L_no rfl rfl rfl (decide_eq_false h2) rfl ?_
      refine L_run (R_pickF rfl (decide_eq_false h2) rfl) rfl ?_
      refine L_run (R_assign rfl) rfl ?_
      refine L_nil (N_then (C_seq (C_seq (C_reg ?_))))
      refine L_run (R_field (r := 0) rfl fld65_0 rfl) rfl ?_
      refine L_run (R_load1 rfl scl3 (hb1.cell (i := 0) rfl)) rfl ?_
      refine L_run (R_eql rfl rfl) rfl ?_
      refine L_nil (N_then ?_)
      refine C_if rfl (fun h20 => ?_) (fun h20 => ?_)
      · refine C_seq (C_reg ?_)
        refine L_run (R_field (r := 2) rfl fld65_2 rfl) rfl ?_
        refine L_run (R_load1 rfl scl22 (hb1.cell (i := 2) rfl)) rfl ?_
        refine L_call rfl cb46 (ref12_Right (l := ops) hS (by first | omega | (simp; done) | (simp; omega))) rfl ?_
        rintro _ w3 ⟨hs3, rfl⟩
        replace hB := gb_tr hB hs3
        replace hS := hS.gb hs3
        replace hb1 := hb1.gb hs3
        refine L_run (R_move rfl) rfl ?_
        refine L_splitD (p := OkL ops) (fun h21 => ?_) (fun h21 => ?_)
        · refine L_yes rfl rfl rfl (decide_eq_true h21) ?_
          refine L_run (R_field (r := 1) rfl fld65_1 rfl) rfl ?_
          refine L_yes rfl rfl rfl (decide_eq_true h21) ?_
          refine L_run (R_load1 rfl scl3 (hb1.cell (i := 1) rfl)) rfl ?_
          refine L_yes rfl rfl rfl (decide_eq_true h21) ?_
          refine L_run (R_eql rfl rfl) rfl ?_
          refine L_run (R_pickT rfl (decide_eq_true h21) rfl) rfl ?_
          refine L_run (R_move rfl) rfl ?_
          refine L_splitD (p := n = 0) (fun h22 => ?_) (fun h22 => ?_)
          · refine L_yes rfl rfl rfl (decide_eq_true h22) ?_
            refine L_run (R_move rfl) rfl ?_
            refine L_run (R_pickT rfl (decide_eq_true h22) rfl) rfl ?_
            refine L_run (R_assign rfl) rfl ?_
            refine L_nil (N_then (C_ret (R_then ?_)))
            refine ret1 Try.results54 rfl ?_
            first
              | (exfalso; omega)
              | (exact ⟨hB, bF (by unfold SOk; first | omega | (simp_all; omega) | simp_all)⟩)
          · refine L_no rfl rfl rfl (decide_eq_false h22) rfl ?_
            refine L_run (R_pickF rfl (decide_eq_false h22) rfl) rfl ?_
            refine L_run (R_assign rfl) rfl ?_
            refine L_nil (N_then (C_ret (R_then ?_)))
            refine ret1 Try.results54 rfl ?_
            first
              | (exfalso; omega)
              | (exact ⟨hB, bF (by unfold SOk; first | omega | (simp_all; omega) | simp_all)⟩)
        · refine L_no rfl rfl rfl (decide_eq_false h21) rfl ?_
          refine L_no rfl rfl rfl (decide_eq_false h21) rfl ?_
          refine L_no rfl rfl rfl (decide_eq_false h21) rfl ?_
          refine L_run (R_pickF rfl (decide_eq_false h21) rfl) rfl ?_
          refine L_run (R_move rfl) rfl ?_
          refine L_no rfl rfl rfl rfl rfl ?_
          refine L_run (R_pickF rfl rfl rfl) rfl ?_
          refine L_run (R_assign rfl) rfl ?_
          refine L_nil (N_then (C_ret (R_then ?_)))
          refine ret1 Try.results54 rfl ?_
          first
            | (exfalso; omega)
            | (exact ⟨hB, bF (by unfold SOk; first | omega | (simp_all; omega) | simp_all)⟩)
      · refine C_skip (N_then (C_seq (C_seq (C_reg ?_))))
        refine L_run (R_field (r := 2) rfl fld65_2 rfl) rfl ?_
        refine L_run (R_load1 rfl scl22 (hb1.cell (i := 2) rfl)) rfl ?_
        refine L_run (R_lenSl rfl slc22) rfl ?_
        refine L_run (R_gtr rfl rfl) rfl ?_
        refine L_nil (N_then ?_)
        refine C_if rfl (fun h23 => ?_) (fun h23 => ?_)
        · refine C_seq (C_reg ?_)
          refine L_run (R_assign rfl) rfl ?_
          refine L_nil (N_then (C_ret (R_then ?_)))
          refine ret1 Try.results54 rfl ?_
          first
            | (exfalso; omega)
            | (exact ⟨hB, bF (by unfold SOk; first | omega | (simp_all; omega) | simp_all)⟩)
        · refine C_skip (N_then (C_seq (C_seq (C_reg ?_))))
          refine L_run (R_field (r := 0) rfl fld65_0 rfl) rfl ?_
          refine L_run (R_load1 rfl scl3 (hb1.cell (i := 0) rfl)) rfl ?_
          refine L_run (R_eql rfl rfl) rfl ?_
          refine L_nil (N_then ?_)
          refine C_if rfl (fun h24 => ?_) (fun h24 => ?_)
          · refine C_seq (C_reg ?_)
            refine L_run (R_field (r := 1) rfl fld65_1 rfl) rfl ?_
            refine L_run (R_load1 rfl scl3 (hb1.cell (i := 1) rfl)) rfl ?_
            refine L_run (R_eql rfl rfl) rfl ?_
            refine L_run (R_move rfl) rfl ?_
            refine L_splitD (p := n = 0) (fun h25 => ?_) (fun h25 => ?_)
            · refine L_yes rfl rfl rfl (decide_eq_true h25) ?_
              refine L_run (R_field (r := 3) rfl fld65_3 rfl) rfl ?_
              refine L_yes rfl rfl rfl (decide_eq_true h25) ?_
              refine L_run (R_field (r := 3) rfl fld63_0 rfl) rfl ?_
              refine L_yes rfl rfl rfl (decide_eq_true h25) ?_
              refine L_run (R_load1 rfl scl42 (hb1.cell (i := 3) rfl)) rfl ?_
              refine L_yes rfl rfl rfl (decide_eq_true h25) ?_
              refine L_run (R_lenSl rfl slc42) rfl ?_
              refine L_yes rfl rfl rfl (decide_eq_true h25) ?_
              refine L_run (R_leq rfl rfl) rfl ?_
              refine L_run (R_pickT rfl (decide_eq_true h25) rfl) rfl ?_
              refine L_run (R_move rfl) rfl ?_
              refine L_splitD (p := (kn : Int) ≤ 64) (fun h26 => ?_) (fun h26 => ?_)
              · refine L_yes rfl rfl rfl (decide_eq_true h26) ?_
                refine L_run (R_field (r := 3) rfl fld65_3 rfl) rfl ?_
                refine L_yes rfl rfl rfl (decide_eq_true h26) ?_
                refine L_run (R_field (r := 4) rfl fld63_1 rfl) rfl ?_
                refine L_yes rfl rfl rfl (decide_eq_true h26) ?_
                refine L_run (R_load1 rfl scl3 (hb1.cell (i := 4) rfl)) rfl ?_
                refine L_yes rfl rfl rfl (decide_eq_true h26) ?_
                refine L_run (R_geq rfl rfl) rfl ?_
                refine L_run (R_pickT rfl (decide_eq_true h26) rfl) rfl ?_
                refine L_run (R_move rfl) rfl ?_
                refine L_splitD (p := -1 ≤ tn) (fun h27 => ?_) (fun h27 => ?_)
                · refine L_yes rfl rfl rfl (decide_eq_true h27) ?_
                  refine L_run (R_field (r := 3) rfl fld65_3 rfl) rfl ?_
                  refine L_yes rfl rfl rfl (decide_eq_true h27) ?_
                  refine L_run (R_field (r := 4) rfl fld63_1 rfl) rfl ?_
                  refine L_yes rfl rfl rfl (decide_eq_true h27) ?_
                  refine L_run (R_load1 rfl scl3 (hb1.cell (i := 4) rfl)) rfl ?_
                  refine L_yes rfl rfl rfl (decide_eq_true h27) ?_
                  refine L_run (R_leq rfl rfl) rfl ?_
                  refine L_run (R_pickT rfl (decide_eq_true h27) rfl) rfl ?_
                  refine L_run (R_move rfl) rfl ?_
                  refine L_splitD (p := tn ≤ 254) (fun h28 => ?_) (fun h28 => ?_)
                  · refine L_yes rfl rfl rfl (decide_eq_true h28) ?_
                    refine L_run (R_field (r := 3) rfl fld65_3 rfl) rfl ?_
                    refine L_yes rfl rfl rfl (decide_eq_true h28) ?_
                    refine L_run (R_field (r := 5) rfl fld63_2 rfl) rfl ?_
                    refine L_yes rfl rfl rfl (decide_eq_true h28) ?_
                    refine L_run (R_load1 rfl scl3 (hb1.cell (i := 5) rfl)) rfl ?_
                    refine L_yes rfl rfl rfl (decide_eq_true h28) ?_
                    refine L_run (R_geq rfl rfl) rfl ?_
                    refine L_run (R_pickT rfl (decide_eq_true h28) rfl) rfl ?_
                    refine L_run (R_move rfl) rfl ?_
                    refine L_splitD (p := 0 ≤ ct) (fun h29 => ?_) (fun h29 => ?_)
                    · refine L_yes rfl rfl rfl (decide_eq_true h29) ?_
                      refine L_run (R_field (r := 3) rfl fld65_3 rfl) rfl ?_
                      refine L_yes rfl rfl rfl (decide_eq_true h29) ?_
                      refine L_run (R_field (r := 5) rfl fld63_2 rfl) rfl ?_
                      refine L_yes rfl rfl rfl (decide_eq_true h29) ?_
                      refine L_run (R_load1 rfl scl3 (hb1.cell (i := 5) rfl)) rfl ?_
                      refine L_yes rfl rfl rfl (decide_eq_true h29) ?_
                      refine L_run (R_leq rfl rfl) rfl ?_
                      refine L_run (R_pickT rfl (decide_eq_true h29) rfl) rfl ?_
                      refine L_run (R_assign rfl) rfl ?_
                      refine L_nil (N_then (C_ret (R_then ?_)))
                      refine ret1 Try.results54 rfl ?_
                      first
                        | (exfalso; omega)
                        | (exact ⟨hB, bD (by unfold SOk; first | omega | (simp_all; omega) | simp_all)⟩)
                    · refine L_no rfl rfl rfl (decide_eq_false h29) rfl ?_
                      refine L_no rfl rfl rfl (decide_eq_false h29) rfl ?_
                      refine L_no rfl rfl rfl (decide_eq_false h29) rfl ?_
                      refine L_no rfl rfl rfl (decide_eq_false h29) rfl ?_
                      refine L_run (R_pickF rfl (decide_eq_false h29) rfl) rfl ?_
                      refine L_run (R_assign rfl) rfl ?_
                      refine L_nil (N_then (C_ret (R_then ?_)))
                      refine ret1 Try.results54 rfl ?_
                      first
                        | (exfalso; omega)
                        | (exact ⟨hB, bF (by unfold SOk; first | omega | (simp_all; omega) | simp_all)⟩)
                  · refine L_no rfl rfl rfl (decide_eq_false h28) rfl ?_
                    refine L_no rfl rfl rfl (decide_eq_false h28) rfl ?_
                    refine L_no rfl rfl rfl (decide_eq_false h28) rfl ?_
                    refine L_no rfl rfl rfl (decide_eq_false h28) rfl ?_
                    refine L_run (R_pickF rfl (decide_eq_false h28) rfl) rfl ?_
                    refine L_run (R_move rfl) rfl ?_
                    refine L_no rfl rfl rfl rfl rfl ?_
                    refine L_no rfl rfl rfl rfl rfl ?_
                    refine L_no rfl rfl rfl rfl rfl ?_
                    refine L_no rfl rfl rfl rfl rfl ?_
                    refine L_run (R_pickF rfl rfl rfl) rfl ?_
                    refine L_run (R_assign rfl) rfl ?_
                    refine L_nil (N_then (C_ret (R_then ?_)))
                    refine ret1 Try.results54 rfl ?_
                    first
                      | (exfalso; omega)
                      | (exact ⟨hB, bF (by unfold SOk; first | omega | (simp_all; omega) | simp_all)⟩)
                · refine L_no rfl rfl rfl (decide_eq_false h27) rfl ?_
                  refine L_no rfl rfl rfl (decide_eq_false h27) rfl ?_
                  refine L_no rfl rfl rfl (decide_eq_false h27) rfl ?_
                  refine L_no rfl rfl rfl (decide_eq_false h27) rfl ?_
                  refine L_run (R_pickF rfl (decide_eq_false h27) rfl) rfl ?_
                  refine L_run (R_move rfl) rfl ?_
                  refine L_no rfl rfl rfl rfl rfl ?_
                  refine L_no rfl rfl rfl rfl rfl ?_
                  refine L_no rfl rfl rfl rfl rfl ?_
                  refine L_no rfl rfl rfl rfl rfl ?_
                  refine L_run (R_pickF rfl rfl rfl) rfl ?_
                  refine L_run (R_move rfl) rfl ?_
                  refine L_no rfl rfl rfl rfl rfl ?_
                  refine L_no rfl rfl rfl rfl rfl ?_
                  refine L_no rfl rfl rfl rfl rfl ?_
                  refine L_no rfl rfl rfl rfl rfl ?_
                  refine L_run (R_pickF rfl rfl rfl) rfl ?_
                  refine L_run (R_assign rfl) rfl ?_
                  refine L_nil (N_then (C_ret (R_then ?_)))
                  refine ret1 Try.results54 rfl ?_
                  first
                    | (exfalso; omega)
                    | (exact ⟨hB, bF (by unfold SOk; first | omega | (simp_all; omega) | simp_all)⟩)
              · refine L_no rfl rfl rfl (decide_eq_false h26) rfl ?_
                refine L_no rfl rfl rfl (decide_eq_false h26) rfl ?_
                refine L_no rfl rfl rfl (decide_eq_false h26) rfl ?_
                refine L_no rfl rfl rfl (decide_eq_false h26) rfl ?_
                refine L_run (R_pickF rfl (decide_eq_false h26) rfl) rfl ?_
                refine L_run (R_move rfl) rfl ?_
                refine L_no rfl rfl rfl rfl rfl ?_
                refine L_no rfl rfl rfl rfl rfl ?_
                refine L_no rfl rfl rfl rfl rfl ?_
                refine L_no rfl rfl rfl rfl rfl ?_
                refine L_run (R_pickF rfl rfl rfl) rfl ?_
                refine L_run (R_move rfl) rfl ?_
                refine L_no rfl rfl rfl rfl rfl ?_
                refine L_no rfl rfl rfl rfl rfl ?_
                refine L_no rfl rfl rfl rfl rfl ?_
                refine L_no rfl rfl rfl rfl rfl ?_
                refine L_run (R_pickF rfl rfl rfl) rfl ?_
                refine L_run (R_move rfl) rfl ?_
                refine L_no rfl rfl rfl rfl rfl ?_
                refine L_no rfl rfl rfl rfl rfl ?_
                refine L_no rfl rfl rfl rfl rfl ?_
                refine L_no rfl rfl rfl rfl rfl ?_
                refine L_run (R_pickF rfl rfl rfl) rfl ?_
                refine L_run (R_assign rfl) rfl ?_
                refine L_nil (N_then (C_ret (R_then ?_)))
                refine ret1 Try.results54 rfl ?_
                first
                  | (exfalso; omega)
                  | (exact ⟨hB, bF (by unfold SOk; first | omega | (simp_all; omega) | simp_all)⟩)
            · refine L_no rfl rfl rfl (decide_eq_false h25) rfl ?_
              refine L_no rfl rfl rfl (decide_eq_false h25) rfl ?_
              refine L_no rfl rfl rfl (decide_eq_false h25) rfl ?_
              refine L_no rfl rfl rfl (decide_eq_false h25) rfl ?_
              refine L_no rfl rfl rfl (decide_eq_false h25) rfl ?_
              refine L_run (R_pickF rfl (decide_eq_false h25) rfl) rfl ?_
              refine L_run (R_move rfl) rfl ?_
              refine L_no rfl rfl rfl rfl rfl ?_
              refine L_no rfl rfl rfl rfl rfl ?_
              refine L_no rfl rfl rfl rfl rfl ?_
              refine L_no rfl rfl rfl rfl rfl ?_
              refine L_run (R_pickF rfl rfl rfl) rfl ?_
              refine L_run (R_move rfl) rfl ?_
              refine L_no rfl rfl rfl rfl rfl ?_
              refine L_no rfl rfl rfl rfl rfl ?_
              refine L_no rfl rfl rfl rfl rfl ?_
              refine L_no rfl rfl rfl rfl rfl ?_
              refine L_run (R_pickF rfl rfl rfl) rfl ?_
              refine L_run (R_move rfl) rfl ?_
              refine L_no rfl rfl rfl rfl rfl ?_
              refine L_no rfl rfl rfl rfl rfl ?_
              refine L_no rfl rfl rfl rfl rfl ?_
              refine L_no rfl rfl rfl rfl rfl ?_
              refine L_run (R_pickF rfl rfl rfl) rfl ?_
              refine L_run (R_move rfl) rfl ?_
              refine L_no rfl rfl rfl rfl rfl ?_
              refine L_no rfl rfl rfl rfl rfl ?_
              refine L_no rfl rfl rfl rfl rfl ?_
              refine L_no rfl rfl rfl rfl rfl ?_
              refine L_run (R_pickF rfl rfl rfl) rfl ?_
              refine L_run (R_assign rfl) rfl ?_
              refine L_nil (N_then (C_ret (R_then ?_)))
              refine ret1 Try.results54 rfl ?_
              first
                | (exfalso; omega)
                | (exact ⟨hB, bF (by unfold SOk; first | omega | (simp_all; omega) | simp_all)⟩)
          · refine C_skip (N_then (C_seq (C_seq (C_reg ?_))))
            refine L_run (R_field (r := 0) rfl fld65_0 rfl) rfl ?_
            refine L_run (R_load1 rfl scl3 (hb1.cell (i := 0) rfl)) rfl ?_
            refine L_run (R_eql rfl rfl) rfl ?_
            refine L_nil (N_then ?_)
            refine C_if rfl (fun h30 => ?_) (fun h30 => ?_)
            · refine C_seq (C_reg ?_)
              refine L_run (R_move rfl) rfl ?_
              refine L_run (R_move rfl) rfl ?_
              refine L_no rfl rfl rfl rfl rfl ?_
              refine L_no rfl rfl rfl rfl rfl ?_
              refine L_no rfl rfl rfl rfl rfl ?_
              refine L_run (R_pickF rfl rfl rfl) rfl ?_
              refine L_run (R_move rfl) rfl ?_
              refine L_no rfl rfl rfl rfl rfl ?_
              refine L_no rfl rfl rfl rfl rfl ?_
              refine L_no rfl rfl rfl rfl rfl ?_
              refine L_run (R_pickF rfl rfl rfl) rfl ?_
              refine L_run (R_assign rfl) rfl ?_
              refine L_nil (N_then (C_ret (R_then ?_)))
              refine ret1 Try.results54 rfl ?_
              first
                | (exfalso; omega)
                | (exact ⟨hB, bF (by unfold SOk; first | omega | (simp_all; omega) | simp_all)⟩)
            · refine C_skip (N_then (C_seq (C_reg ?_)))
              refine L_run (R_move rfl) rfl ?_
              refine L_run (R_move rfl) rfl ?_
              refine L_no rfl rfl rfl rfl rfl ?_
              refine L_no rfl rfl rfl rfl rfl ?_
              refine L_no rfl rfl rfl rfl rfl ?_
              refine L_run (R_pickF rfl rfl rfl) rfl ?_
              refine L_run (R_move rfl) rfl ?_
              refine L_no rfl rfl rfl rfl rfl ?_
              refine L_no rfl rfl rfl rfl rfl ?_
              refine L_no rfl rfl rfl rfl rfl ?_
              refine L_no rfl rfl rfl rfl rfl ?_
              refine L_noU rfl rfl rfl rfl ?_
              refine L_noU rfl rfl rfl rfl ?_
              refine L_noU rfl rfl rfl rfl ?_
              refine L_no rfl rfl rfl rfl rfl ?_
              refine L_no rfl rfl rfl rfl rfl ?_
              refine L_noU rfl rfl rfl rfl ?_
              refine L_noU rfl rfl rfl rfl ?_
              refine L_noU rfl rfl rfl rfl ?_
              refine L_no rfl rfl rfl rfl rfl ?_
              refine L_run (R_pickF rfl rfl rfl) rfl ?_
              refine L_run (R_assign rfl) rfl ?_
              refine L_nil (N_then (C_ret ?_))
              refine ret1 Try.results54 rfl ?_
              first
                | (exfalso; omega)
                | (exact ⟨hB, bF (by unfold SOk; first | omega | (simp_all; omega) | simp_all)⟩)
  · refine L_no rfl rfl rfl (decide_eq_false h1) rfl ?_
    refine L_no rfl rfl rfl (decide_eq_false h1) rfl ?_
    refine L_no rfl rfl rfl (decide_eq_false h1) rfl ?_
    refine L_no rfl rfl rfl (decide_eq_false h1) rfl ?_
    refine L_run (R_pickF rfl (decide_eq_false h1) rfl) rfl ?_
    refine L_run (R_move rfl) rfl ?_
    refine L_no rfl rfl rfl rfl rfl ?_
    refine L_no rfl rfl rfl rfl rfl ?_
    refine L_no rfl rfl rfl rfl rfl ?_
    refine L_no rfl rfl rfl rfl rfl ?_
    refine L_run (R_pickF rfl rfl rfl) rfl ?_
    refine L_run (R_assign rfl) rfl ?_
    refine L_nil (N_then (C_seq (C_seq (C_reg ?_))))
    refine L_run (R_field (r := 0) rfl fld65_0 rfl) rfl ?_
    refine L_run (R_load1 rfl scl3 (hb1.cell (i := 0) rfl)) rfl ?_
    refine L_run (R_eql rfl rfl) rfl ?_
    refine L_nil (N_then ?_)
    refine C_if rfl (fun h31 => ?_) (fun h31 => ?_)
    · refine C_seq (C_reg ?_)
      refine L_run (R_field (r := 2) rfl fld65_2 rfl) rfl ?_
      refine L_run (R_load1 rfl scl22 (hb1.cell (i := 2) rfl)) rfl ?_
      refine L_call rfl cb46 (ref12_Right (l := ops) hS (by first | omega | (simp; done) | (simp; omega))) rfl ?_
      rintro _ w4 ⟨hs4, rfl⟩
      replace hB := gb_tr hB hs4
      replace hS := hS.gb hs4
      replace hb1 := hb1.gb hs4
      refine L_run (R_move rfl) rfl ?_
      refine L_splitD (p := OkL ops) (fun h32 => ?_) (fun h32 => ?_)
      · refine L_yes rfl rfl rfl (decide_eq_true h32) ?_
        refine L_run (R_field (r := 1) rfl fld65_1 rfl) rfl ?_
        refine L_yes rfl rfl rfl (decide_eq_true h32) ?_
        refine L_run (R_load1 rfl scl3 (hb1.cell (i := 1) rfl)) rfl ?_
        refine L_yes rfl rfl rfl (decide_eq_true h32) ?_
        refine L_run (R_eql rfl rfl) rfl ?_
        refine L_run (R_pickT rfl (decide_eq_true h32) rfl) rfl ?_
        refine L_run (R_move rfl) rfl ?_
        refine L_splitD (p := n = 0) (fun h33 => ?_) (fun h33 => ?_)
        · refine L_yes rfl rfl rfl (decide_eq_true h33) ?_
          refine L_run (R_move rfl) rfl ?_
          refine L_run (R_pickT rfl (decide_eq_true h33) rfl) rfl ?_
          refine L_run (R_assign rfl) rfl ?_
          refine L_nil (N_then (C_ret (R_then ?_)))
          refine ret1 Try.results54 rfl ?_
          first
            | (exfalso; omega)
            | (exact ⟨hB, bF (by unfold SOk; first | omega | (simp_all; omega) | simp_all)⟩)
        · refine L_no rfl rfl rfl (decide_eq_false h33) rfl ?_
          refine L_run (R_pickF rfl (decide_eq_false h33) rfl) rfl ?_
          refine L_run (R_assign rfl) rfl ?_
          refine L_nil (N_then (C_ret (R_then ?_)))
          refine ret1 Try.results54 rfl ?_
          first
            | (exfalso; omega)
            | (exact ⟨hB, bF (by unfold SOk; first | omega | (simp_all; omega) | simp_all)⟩)
      · refine L_no rfl rfl rfl (decide_eq_false h32) rfl ?_
        refine L_no rfl rfl rfl (decide_eq_false h32) rfl ?_
        refine L_no rfl rfl rfl (decide_eq_false h32) rfl ?_
        refine L_run (R_pickF rfl (decide_eq_false h32) rfl) rfl ?_
        refine L_run (R_move rfl) rfl ?_
        refine L_no rfl rfl rfl rfl rfl ?_
        refine L_run (R_pickF rfl rfl rfl) rfl ?_
        refine L_run (R_assign rfl) rfl ?_
        refine L_nil (N_then (C_ret (R_then ?_)))
        refine ret1 Try.results54 rfl ?_
        first
          | (exfalso; omega)
          | (exact ⟨hB, bF (by unfold SOk; first | omega | (simp_all; omega) | simp_all)⟩)
    · refine C_skip (N_then (C_seq (C_seq (C_reg ?_))))
      refine L_run (R_field (r := 2) rfl fld65_2 rfl) rfl ?_
      refine L_run (R_load1 rfl scl22 (hb1.cell (i := 2) rfl)) rfl ?_
      refine L_run (R_lenSl rfl slc22) rfl ?_
      refine L_run (R_gtr rfl rfl) rfl ?_
      refine L_nil (N_then ?_)
      refine C_if rfl (fun h34 => ?_) (fun h34 => ?_)
      · refine C_seq (C_reg ?_)
        refine L_run (R_assign rfl) rfl ?_
        refine L_nil (N_then (C_ret (R_then ?_)))
        refine ret1 Try.results54 rfl ?_
        first
          | (exfalso; omega)
          | (exact ⟨hB, bF (by unfold SOk; first | omega | (simp_all; omega) | simp_all)⟩)
      · refine C_skip (N_then (C_seq (C_seq (C_reg ?_))))
        refine L_run (R_field (r := 0) rfl fld65_0 rfl) rfl ?_
        refine L_run (R_load1 rfl scl3 (hb1.cell (i := 0) rfl)) rfl ?_
        refine L_run (R_eql rfl rfl) rfl ?_
        refine L_nil (N_then ?_)
        refine C_if rfl (fun h35 => ?_) (fun h35 => ?_)
        · refine C_seq (C_reg ?_)
          refine L_run (R_field (r := 1) rfl fld65_1 rfl) rfl ?_
          refine L_run (R_load1 rfl scl3 (hb1.cell (i := 1) rfl)) rfl ?_
          refine L_run (R_eql rfl rfl) rfl ?_
          refine L_run (R_move rfl) rfl ?_
          refine L_splitD (p := n = 0) (fun h36 => ?_) (fun h36 => ?_)
          · refine L_yes rfl rfl rfl (decide_eq_true h36) ?_
            refine L_run (R_field (r := 3) rfl fld65_3 rfl) rfl ?_
            refine L_yes rfl rfl rfl (decide_eq_true h36) ?_
            refine L_run (R_field (r := 3) rfl fld63_0 rfl) rfl ?_
            refine L_yes rfl rfl rfl (decide_eq_true h36) ?_
            refine L_run (R_load1 rfl scl42 (hb1.cell (i := 3) rfl)) rfl ?_
            refine L_yes rfl rfl rfl (decide_eq_true h36) ?_
            refine L_run (R_lenSl rfl slc42) rfl ?_
            refine L_yes rfl rfl rfl (decide_eq_true h36) ?_
            refine L_run (R_leq rfl rfl) rfl ?_
            refine L_run (R_pickT rfl (decide_eq_true h36) rfl) rfl ?_
            refine L_run (R_move rfl) rfl ?_
            refine L_splitD (p := (kn : Int) ≤ 64) (fun h37 => ?_) (fun h37 => ?_)
            · refine L_yes rfl rfl rfl (decide_eq_true h37) ?_
              refine L_run (R_field (r := 3) rfl fld65_3 rfl) rfl ?_
              refine L_yes rfl rfl rfl (decide_eq_true h37) ?_
              refine L_run (R_field (r := 4) rfl fld63_1 rfl) rfl ?_
              refine L_yes rfl rfl rfl (decide_eq_true h37) ?_
              refine L_run (R_load1 rfl scl3 (hb1.cell (i := 4) rfl)) rfl ?_
              refine L_yes rfl rfl rfl (decide_eq_true h37) ?_
              refine L_run (R_geq rfl rfl) rfl ?_
              refine L_run (R_pickT rfl (decide_eq_true h37) rfl) rfl ?_
              refine L_run (R_move rfl) rfl ?_
              refine L_splitD (p := -1 ≤ tn) (fun h38 => ?_) (fun h38 => ?_)
              · refine L_yes rfl rfl rfl (decide_eq_true h38) ?_
                refine L_run (R_field (r := 3) rfl fld65_3 rfl) rfl ?_
                refine L_yes rfl rfl rfl (decide_eq_true h38) ?_
                refine L_run (R_field (r := 4) rfl fld63_1 rfl) rfl ?_
                refine L_yes rfl rfl rfl (decide_eq_true h38) ?_
                refine L_run (R_load1 rfl scl3 (hb1.cell (i := 4) rfl)) rfl ?_
                refine L_yes rfl rfl rfl (decide_eq_true h38) ?_
                refine L_run (R_leq rfl rfl) rfl ?_
                refine L_run (R_pickT rfl (decide_eq_true h38) rfl) rfl ?_
                refine L_run (R_move rfl) rfl ?_
                refine L_splitD (p := tn ≤ 254) (fun h39 => ?_) (fun h39 => ?_)
                · refine L_yes rfl rfl rfl (decide_eq_true h39) ?_
                  refine L_run (R_field (r := 3) rfl fld65_3 rfl) rfl ?_
                  refine L_yes rfl rfl rfl (decide_eq_true h39) ?_
                  refine L_run (R_field (r := 5) rfl fld63_2 rfl) rfl ?_
                  refine L_yes rfl rfl rfl (decide_eq_true h39) ?_
                  refine L_run (R_load1 rfl scl3 (hb1.cell (i := 5) rfl)) rfl ?_
                  refine L_yes rfl rfl rfl (decide_eq_true h39) ?_
                  refine L_run (R_geq rfl rfl) rfl ?_
                  refine L_run (R_pickT rfl (decide_eq_true h39) rfl) rfl ?_
                  refine L_run (R_move rfl) rfl ?_
                  refine L_splitD (p := 0 ≤ ct) (fun h40 => ?_) (fun h40 => ?_)
                  · refine L_yes rfl rfl rfl (decide_eq_true h40) ?_
                    refine L_run (R_field (r := 3) rfl fld65_3 rfl) rfl ?_
                    refine L_yes rfl rfl rfl (decide_eq_true h40) ?_
                    refine L_run (R_field (r := 5) rfl fld63_2 rfl) rfl ?_
                    refine L_yes rfl rfl rfl (decide_eq_true h40) ?_
                    refine L_run (R_load1 rfl scl3 (hb1.cell (i := 5) rfl)) rfl ?_
                    refine L_yes rfl rfl rfl (decide_eq_true h40) ?_
                    refine L_run (R_leq rfl rfl) rfl ?_
                    refine L_run (R_pickT rfl (decide_eq_true h40) rfl) rfl ?_
                    refine L_run (R_assign rfl) rfl ?_
                    refine L_nil (N_then (C_ret (R_then ?_)))
                    refine ret1 Try.results54 rfl ?_
                    first
                      | (exfalso; omega)
                      | (exact ⟨hB, bD (by unfold SOk; first | omega | (simp_all; omega) | simp_all)⟩)
                  · refine L_no rfl rfl rfl (decide_eq_false h40) rfl ?_
                    refine L_no rfl rfl rfl (decide_eq_false h40) rfl ?_
                    refine L_no rfl rfl rfl (decide_eq_false h40) rfl ?_
                    refine L_no rfl rfl rfl (decide_eq_false h40) rfl ?_
                    refine L_run (R_pickF rfl (decide_eq_false h40) rfl) rfl ?_
                    refine L_run (R_assign rfl) rfl ?_
                    refine L_nil (N_then (C_ret (R_then ?_)))
                    refine ret1 Try.results54 rfl ?_
                    first
                      | (exfalso; omega)
                      | (exact ⟨hB, bF (by unfold SOk; first | omega | (simp_all; omega) | simp_all)⟩)
                · refine L_no rfl rfl rfl (decide_eq_false h39) rfl ?_
                  refine L_no rfl rfl rfl (decide_eq_false h39) rfl ?_
                  refine L_no rfl rfl rfl (decide_eq_false h39) rfl ?_
                  refine L_no rfl rfl rfl (decide_eq_false h39) rfl ?_
                  refine L_run (R_pickF rfl (decide_eq_false h39) rfl) rfl ?_
                  refine L_run (R_move rfl) rfl ?_
                  refine L_no rfl rfl rfl rfl rfl ?_
                  refine L_no rfl rfl rfl rfl rfl ?_
                  refine L_no rfl rfl rfl rfl rfl ?_
                  refine L_no rfl rfl rfl rfl rfl ?_
                  refine L_run (R_pickF rfl rfl rfl) rfl ?_
                  refine L_run (R_assign rfl) rfl ?_
                  refine L_nil (N_then (C_ret (R_then ?_)))
                  refine ret1 Try.results54 rfl ?_
                  first
                    | (exfalso; omega)
                    | (exact ⟨hB, bF (by unfold SOk; first | omega | (simp_all; omega) | simp_all)⟩)
              · refine L_no rfl rfl rfl (decide_eq_false h38) rfl ?_
                refine L_no rfl rfl rfl (decide_eq_false h38) rfl ?_
                refine L_no rfl rfl rfl (decide_eq_false h38) rfl ?_
                refine L_no rfl rfl rfl (decide_eq_false h38) rfl ?_
                refine L_run (R_pickF rfl (decide_eq_false h38) rfl) rfl ?_
                refine L_run (R_move rfl) rfl ?_
                refine L_no rfl rfl rfl rfl rfl ?_
                refine L_no rfl rfl rfl rfl rfl ?_
                refine L_no rfl rfl rfl rfl rfl ?_
                refine L_no rfl rfl rfl rfl rfl ?_
                refine L_run (R_pickF rfl rfl rfl) rfl ?_
                refine L_run (R_move rfl) rfl ?_
                refine L_no rfl rfl rfl rfl rfl ?_
                refine L_no rfl rfl rfl rfl rfl ?_
                refine L_no rfl rfl rfl rfl rfl ?_
                refine L_no rfl rfl rfl rfl rfl ?_
                refine L_run (R_pickF rfl rfl rfl) rfl ?_
                refine L_run (R_assign rfl) rfl ?_
                refine L_nil (N_then (C_ret (R_then ?_)))
                refine ret1 Try.results54 rfl ?_
                first
                  | (exfalso; omega)
                  | (exact ⟨hB, bF (by unfold SOk; first | omega | (simp_all; omega) | simp_all)⟩)
            · refine L_no rfl rfl rfl (decide_eq_false h37) rfl ?_
              refine L_no rfl rfl rfl (decide_eq_false h37) rfl ?_
              refine L_no rfl rfl rfl (decide_eq_false h37) rfl ?_
              refine L_no rfl rfl rfl (decide_eq_false h37) rfl ?_
              refine L_run (R_pickF rfl (decide_eq_false h37) rfl) rfl ?_
              refine L_run (R_move rfl) rfl ?_
              refine L_no rfl rfl rfl rfl rfl ?_
              refine L_no rfl rfl rfl rfl rfl ?_
              refine L_no rfl rfl rfl rfl rfl ?_
              refine L_no rfl rfl rfl rfl rfl ?_
              refine L_run (R_pickF rfl rfl rfl) rfl ?_
              refine L_run (R_move rfl) rfl ?_
              refine L_no rfl rfl rfl rfl rfl ?_
              refine L_no rfl rfl rfl rfl rfl ?_
              refine L_no rfl rfl rfl rfl rfl ?_
              refine L_no rfl rfl rfl rfl rfl ?_
              refine L_run (R_pickF rfl rfl rfl) rfl ?_
              refine L_run (R_move rfl) rfl ?_
              refine L_no rfl rfl rfl rfl rfl ?_
              refine L_no rfl rfl rfl rfl rfl ?_
              refine L_no rfl rfl rfl rfl rfl ?_
              refine L_no rfl rfl rfl rfl rfl ?_
              refine L_run (R_pickF rfl rfl rfl) rfl ?_
              refine L_run (R_assign rfl) rfl ?_
              refine L_nil (N_then (C_ret (R_then ?_)))
              refine ret1 Try.results54 rfl ?_
              first
                | (exfalso; omega)
                | (exact ⟨hB, bF (by unfold SOk; first | omega | (simp_all; omega) | simp_all)⟩)
          · refine L_no rfl rfl rfl (decide_eq_false h36) rfl ?_
            refine L_no rfl rfl rfl (decide_eq_false h36) rfl ?_
            refine L_no rfl rfl rfl (decide_eq_false h36) rfl ?_
            refine L_no rfl rfl rfl (decide_eq_false h36) rfl ?_
            refine L_no rfl rfl rfl (decide_eq_false h36) rfl ?_
            refine L_run (R_pickF rfl (decide_eq_false h36) rfl) rfl ?_
            refine L_run (R_move rfl) rfl ?_
            refine L_no rfl rfl rfl rfl rfl ?_
            refine L_no rfl rfl rfl rfl rfl ?_
            refine L_no rfl rfl rfl rfl rfl ?_
            refine L_no rfl rfl rfl rfl rfl ?_
            refine L_run (R_pickF rfl rfl rfl) rfl ?_
            refine L_run (R_move rfl) rfl ?_
            refine L_no rfl rfl rfl rfl rfl ?_
            refine L_no rfl rfl rfl rfl rfl ?_
            refine L_no rfl rfl rfl rfl rfl ?_
            refine L_no rfl rfl rfl rfl rfl ?_
            refine L_run (R_pickF rfl rfl rfl) rfl ?_
            refine L_run (R_move rfl) rfl ?_
            refine L_no rfl rfl rfl rfl rfl ?_
            refine L_no rfl rfl rfl rfl rfl ?_
            refine L_no rfl rfl rfl rfl rfl ?_
            refine L_no rfl rfl rfl rfl rfl ?_
            refine L_run (R_pickF rfl rfl rfl) rfl ?_
            refine L_run (R_move rfl) rfl ?_
            refine L_no rfl rfl rfl rfl rfl ?_
            refine L_no rfl rfl rfl rfl rfl ?_
            refine L_no rfl rfl rfl rfl rfl ?_
            refine L_no rfl rfl rfl rfl rfl ?_
            refine L_run (R_pickF rfl rfl rfl) rfl ?_
            refine L_run (R_assign rfl) rfl ?_
            refine L_nil (N_then (C_ret (R_then ?_)))
            refine ret1 Try.results54 rfl ?_
            first
              | (exfalso; omega)
              | (exact ⟨hB, bF (by unfold SOk; first | omega | (simp_all; omega) | simp_all)⟩)
        · refine C_skip (N_then (C_seq (C_seq (C_reg ?_))))
          refine L_run (R_field (r := 0) rfl fld65_0 rfl) rfl ?_
          refine L_run (R_load1 rfl scl3 (hb1.cell (i := 0) rfl)) rfl ?_
          refine L_run (R_eql rfl rfl) rfl ?_
          refine L_nil (N_then ?_)
          refine C_if rfl (fun h41 => ?_) (fun h41 => ?_)
          · refine C_seq (C_reg ?_)
            refine L_run (R_move rfl) rfl ?_
            refine L_run (R_move rfl) rfl ?_
            refine L_no rfl rfl rfl rfl rfl ?_
            refine L_no rfl rfl rfl rfl rfl ?_
            refine L_no rfl rfl rfl rfl rfl ?_
            refine L_run (R_pickF rfl rfl rfl) rfl ?_
            refine L_run (R_move rfl) rfl ?_
            refine L_no rfl rfl rfl rfl rfl ?_
            refine L_no rfl rfl rfl rfl rfl ?_
            refine L_no rfl rfl rfl rfl rfl ?_
            refine L_run (R_pickF rfl rfl rfl) rfl ?_
            refine L_run (R_assign rfl) rfl ?_
            refine L_nil (N_then (C_ret (R_then ?_)))
            refine ret1 Try.results54 rfl ?_
            first
              | (exfalso; omega)
              | (exact ⟨hB, bF (by unfold SOk; first | omega | (simp_all; omega) | simp_all)⟩)
          · refine C_skip (N_then (C_seq (C_reg ?_)))
            refine L_run (R_move rfl) rfl ?_
            refine L_run (R_move rfl) rfl ?_
            refine L_no rfl rfl rfl rfl rfl ?_
            refine L_no rfl rfl rfl rfl rfl ?_
            refine L_no rfl rfl rfl rfl rfl ?_
            refine L_run (R_pickF rfl rfl rfl) rfl ?_
            refine L_run (R_move rfl) rfl ?_
            refine L_no rfl rfl rfl rfl rfl ?_
            refine L_no rfl rfl rfl rfl rfl ?_
            refine L_no rfl rfl rfl rfl rfl ?_
            refine L_no rfl rfl rfl rfl rfl ?_
            refine L_noU rfl rfl rfl rfl ?_
            refine L_noU rfl rfl rfl rfl ?_
            refine L_noU rfl rfl rfl rfl ?_
            refine L_no rfl rfl rfl rfl rfl ?_
            refine L_no rfl rfl rfl rfl rfl ?_
            refine L_noU rfl rfl rfl rfl ?_
            refine L_noU rfl rfl rfl rfl ?_
            refine L_noU rfl rfl rfl rfl ?_
            refine L_no rfl rfl rfl rfl rfl ?_
            refine L_run (R_pickF rfl rfl rfl) rfl ?_
            refine L_run (R_assign rfl) rfl ?_
            refine L_nil (N_then (C_ret ?_))
            refine ret1 Try.results54 rfl ?_
            first
              | (exfalso; omega)
              | (exact ⟨hB, bF (by unfold SOk; first | omega | (simp_all; omega) | simp_all)⟩)

theorem law38_Few {w : World} {t1 lo hi : Nat} {A : Option Addr} {c : Nat} {l : List StepD} (hS : Sli t1 lo hi w A (fl encS l)) (hb : l.length ≤ 140737488355328) :
    Runs Try.prog 50 #[.slice A l.length c] w (fun v w' => w.grownBy w' none ∧ v = .bool (decide (FewSs l))) := by
  have hB := gb_refl w none
  replace hS := hS.top
  refine enter Try.func50 Try.ntmps50 rfl rfl ?_
  refine C_seq (C_reg ?_)
  refine L_run (R_assign rfl) rfl ?_
  refine L_nil (N_then (C_seq (C_seq (C_reg ?_))))
  refine L_run (R_assign rfl) rfl ?_
  refine L_nil (N_then (C_block ?_))
  refine C_loop (fun m_ a_ w_ => ∃ (σ_ : Nat → Value) (k : Nat), a_ = Ac 30 σ_ [] [(0, .slice A l.length c), (2, .bool false), (3, .int .i64 (k : Int))] ∧ w.grownBy w_ none ∧ Sli t1 lo w.heap.size w_ A (fl encS l) ∧ (k ≤ l.length) ∧ (∀ y ∈ l.take k, FewS y) ∧ l.length - k = m_) (l.length - 0) ?_ ?_
  · exact ⟨_, 0, Ac_frg ⟨rfl, rfl, (agr rfl (by first | rfl | (congr 1; omega) | (congr 1; simp; done) | (congr 1; simp only [IntKind.wrap_u64, IntKind.wrap_i64, IntKind.wrap_u8]; omega) | (congr 1 <;> omega))), trivial⟩, hB, hS, (by omega), (by intro y hy; simp at hy), rfl⟩
  · clear hB
    clear hS
    rintro m_ a_ w1 ⟨σ_, k, rfl, hB, hS, hk, hall, rfl⟩
    refine C_seq (C_seq (C_reg ?_))
    refine L_run (R_move rfl) rfl ?_
    refine L_run (R_move rfl) rfl ?_
    refine L_run (R_lenSl rfl slc58) rfl ?_
    refine L_run (R_lss rfl rfl) rfl ?_
    refine L_nil (N_then ?_)
    refine C_if rfl (fun h1 => ?_) (fun h1 => ?_)
    · refine C_skip (N_then (C_seq (C_block (C_seq (C_reg ?_)))))
      refine L_run (R_move rfl) rfl ?_
      refine L_run (R_move rfl) rfl ?_
      have hl1 : k < l.length := by first | omega | (simp; omega)
      refine T_index (xs := l) (i := k) EncS rfl rfl (by first | rfl | omega) slc58 hl1 hS rfl ?_
      intro g1 o1 ha1
      refine L_run (R_field rfl fld65_2 rfl) rfl ?_
      refine L_run (R_load1 rfl scl22 (ha1 2 _ rfl)) rfl ?_
      refine L_run (R_lenSl rfl slc22) rfl ?_
      refine L_run (R_gtr rfl rfl) rfl ?_
      refine L_run (R_move rfl) rfl ?_
      refine L_splitD (p := 30 < ((l[k]).p.ops.length : Int)) (fun h2 => ?_) (fun h2 => ?_)
      · refine L_no rfl rfl rfl (decide_eq_true h2) rfl ?_
        refine L_no rfl rfl rfl (decide_eq_true h2) rfl ?_
        refine L_no rfl rfl rfl (decide_eq_true h2) rfl ?_
        refine L_no rfl rfl rfl (decide_eq_true h2) rfl ?_
        refine L_no rfl rfl rfl (decide_eq_true h2) rfl ?_
        refine L_no rfl rfl rfl (decide_eq_true h2) rfl ?_
        refine L_no rfl rfl rfl (decide_eq_true h2) rfl ?_
        refine L_no rfl rfl rfl (decide_eq_true h2) rfl ?_
        refine L_run (R_pickT rfl (decide_eq_true h2) rfl) rfl ?_
        refine L_nil (N_then (C_condT rfl rfl (C_seq (C_reg ?_))))
        refine L_run (R_assign rfl) rfl ?_
        refine L_nil (N_then (C_ret (R_in (R_then (R_then (R_in (R_then ?_)))))))
        refine ret1 Try.results50 rfl ?_
        exact ⟨hB, bF (fun h => by have q_ := h.1 _ (List.getElem_mem (show k < l.length by omega)); unfold FewS at q_; omega)⟩
      · refine L_yes rfl rfl rfl (decide_eq_false h2) ?_
        refine L_run (R_move rfl) rfl ?_
        refine L_yes rfl rfl rfl (decide_eq_false h2) ?_
        refine L_run (R_move rfl) rfl ?_
        refine L_yes rfl rfl rfl (decide_eq_false h2) ?_
        have hl2 : k < l.length := by first | omega | (simp; omega)
        refine T_index (xs := l) (i := k) EncS rfl rfl (by first | rfl | omega) slc58 hl2 hS rfl ?_
        intro g2 o2 ha2
        refine L_yes rfl rfl rfl (decide_eq_false h2) ?_
        refine L_run (R_field rfl fld65_3 rfl) rfl ?_
        refine L_yes rfl rfl rfl (decide_eq_false h2) ?_
        refine L_run (R_field rfl fld63_0 rfl) rfl ?_
        refine L_yes rfl rfl rfl (decide_eq_false h2) ?_
        refine L_run (R_load1 rfl scl42 (ha2 3 _ rfl)) rfl ?_
        refine L_yes rfl rfl rfl (decide_eq_false h2) ?_
        refine L_run (R_lenSl rfl slc42) rfl ?_
        refine L_yes rfl rfl rfl (decide_eq_false h2) ?_
        refine L_run (R_gtr rfl rfl) rfl ?_
        refine L_run (R_pickF rfl (decide_eq_false h2) rfl) rfl ?_
        refine L_nil (N_then ?_)
        refine C_if rfl (fun h3 => ?_) (fun h3 => ?_)
        · refine C_seq (C_reg ?_)
          refine L_run (R_assign rfl) rfl ?_
          refine L_nil (N_then (C_ret (R_in (R_then (R_then (R_in (R_then ?_)))))))
          refine ret1 Try.results50 rfl ?_
          exact ⟨hB, bF (fun h => by have q_ := h.1 _ (List.getElem_mem (show k < l.length by omega)); unfold FewS at q_; omega)⟩
        · refine C_skip (N_in (N_then (C_reg ?_)))
          refine L_run (R_move rfl) rfl ?_
          refine L_run (R_add64 rfl rfl (by omega)) rfl ?_
          refine L_run (R_assign rfl) rfl ?_
          refine L_nil (N_then ?_)
          exact ⟨l.length - (k + 1), by omega, _, (k + 1), Ac_frg ⟨rfl, rfl, (agr rfl (by first | rfl | (congr 1; omega) | (congr 1; simp; done) | (congr 1; simp only [IntKind.wrap_u64, IntKind.wrap_i64, IntKind.wrap_u8]; omega) | (congr 1 <;> omega))), trivial⟩, hB, hS, (by omega), (few_succ hall (show k < l.length by omega) ⟨by omega, by omega⟩), rfl⟩
    · refine C_exit (X_then (X_then (X_hit (N_then (C_seq (C_reg ?_))))))
      refine L_run (R_move rfl) rfl ?_
      refine L_run (R_lenSl rfl slc58) rfl ?_
      refine L_run (R_leq rfl rfl) rfl ?_
      refine L_run (R_assign rfl) rfl ?_
      refine L_nil (N_then (C_ret ?_))
      refine ret1 Try.results50 rfl ?_
      rw [List.take_of_length_le (by omega)] at hall
      exact ⟨hB, bD ⟨fun h => ⟨hall, by omega⟩, fun h => by have := h.2; omega⟩⟩

set_option maxRecDepth 4000 in
theorem script_Same {w : World} {t1 t2 lo hi lo2 hi2 h1 h2 : Nat} {A A2 : Option Addr} {c c2 : Nat} {a b : List StepD} (hS : Sli t1 lo hi w A (fl encS a)) (hF : Sli t2 lo2 hi2 w A2 (fl encS b)) (hD : DeepS h1 w a) (hE : DeepS h2 w b) (hb : a.length ≤ 1000000) (hfa : ∀ y ∈ a, FewS y) (hfb : ∀ y ∈ b, FewS y) :
    Runs Try.prog 59 #[.slice A a.length c, .slice A2 b.length c2] w (fun v w' => w.grownBy w' none ∧ v = .bool (decide (ps a = ps b))) := by
  have hB := gb_refl w none
  replace hD := hD.top
  replace hE := hE.top
  replace hS := hS.top
  replace hF := hF.top
  refine enter Try.func59 Try.ntmps59 rfl rfl ?_
  refine C_seq (C_reg ?_)
  refine L_run (R_assign rfl) rfl ?_
  refine L_nil (N_then (C_seq (C_seq (C_reg ?_))))
  refine L_run (R_move rfl) rfl ?_
  refine L_run (R_lenSl rfl slc58) rfl ?_
  refine L_run (R_move rfl) rfl ?_
  refine L_run (R_lenSl rfl slc58) rfl ?_
  refine L_run (R_neq rfl rfl) rfl ?_
  refine L_nil (N_then ?_)
  refine C_if rfl (fun h1 => ?_) (fun h1 => ?_)
  · refine C_seq (C_reg ?_)
    refine L_run (R_assign rfl) rfl ?_
    refine L_nil (N_then (C_ret (R_then ?_)))
    refine ret1 Try.results59 rfl ?_
    exact ⟨hB, bF (fun h => by have q_ := congrArg List.length h; rw [ps_len, ps_len] at q_; omega)⟩
  · refine C_skip (N_then (C_seq (C_seq (C_reg ?_))))
    refine L_run (R_move rfl) rfl ?_
    refine L_run (R_lenSl rfl slc58) rfl ?_
    refine L_run (R_move rfl) rfl ?_
    refine L_nil (N_then (C_block ?_))
    refine C_loop (fun m_ a_ w_ => ∃ (σ_ : Nat → Value) (k : Nat), a_ = Ac 74 σ_ [] [(0, .slice A a.length c), (1, .slice A2 b.length c2), (13, .slice A a.length c), (14, .int .i64 (a.length : Int)), (15, .int .i64 (k : Int))] ∧ w.grownBy w_ none ∧ Sli t1 lo w.heap.size w_ A (fl encS a) ∧ Sli t2 lo2 w.heap.size w_ A2 (fl encS b) ∧ DeepS w.heap.size w_ a ∧ DeepS w.heap.size w_ b ∧ (k ≤ a.length) ∧ (ps (a.take k) = ps (b.take k)) ∧ a.length - k = m_) (a.length - 0) ?_ ?_
    · exact ⟨_, 0, Ac_frg ⟨rfl, rfl, rfl, rfl, (agr rfl (by first | rfl | (congr 1; omega) | (congr 1; simp; done) | (congr 1; simp only [IntKind.wrap_u64, IntKind.wrap_i64, IntKind.wrap_u8]; omega) | (congr 1 <;> omega))), trivial⟩, hB, hS, hF, hD, hE, (by omega), rfl, rfl⟩
    · clear hB
      clear hS hF hD hE
      rintro m_ a_ w1 ⟨σ_, k, rfl, hB, hS, hF, hD, hE, hk, hk2, rfl⟩
      refine C_seq (C_reg ?_)
      refine L_run (R_lss rfl rfl) rfl ?_
      refine L_nil (N_then (C_seq ?_))
      refine C_if rfl (fun h2 => ?_) (fun h2 => ?_)
      · refine C_skip (N_then (C_seq (C_block (C_seq (C_reg ?_)))))
        refine L_run (R_move rfl) rfl ?_
        have hl1 : k < a.length := by first | omega | (simp; omega)
        refine T_index (xs := a) (i := k) EncS rfl rfl (by first | rfl | omega) slc58 hl1 hS rfl ?_
        intro g1 o1 ha1
        refine L_run (R_loadA (vs := [.int .i64 ((a[k]).p.kind), .int .i64 ((a[k]).p.n), .slice ((a[k]).oa) ((a[k]).p.ops.length) ((a[k]).oc), .slice ((a[k]).ka) ((a[k]).p.keep.length) ((a[k]).kc), .int .i64 ((a[k]).p.torn), .int .i64 ((a[k]).p.cut)]) rfl agg65 (At.pre ha1 rfl) rfl) rfl ?_
        refine L_alloc (cs := [.int .i64 0, .int .i64 0, .slice none 0 0, .slice none 0 0, .int .i64 0, .int .i64 0]) zer65 rfl rfl ?_
        intro g2 w2 eg1 hb1 hs1 hz1
        have ge1 : w.heap.size ≤ g2 := eg_ge hB eg1
        replace hB := gb_tr hB hs1
        replace hS := hS.gb hs1
        replace hF := hF.gb hs1
        replace hD := hD.gb hs1
        replace hE := hE.gb hs1
        replace ha1 := At.gb ha1 hs1 (by simp)
        refine L_run (R_assign rfl) rfl ?_
        refine L_stA (vs := [.int .i64 ((a[k]).p.kind), .int .i64 ((a[k]).p.n), .slice ((a[k]).oa) ((a[k]).p.ops.length) ((a[k]).oc), .slice ((a[k]).ka) ((a[k]).p.keep.length) ((a[k]).kc), .int .i64 ((a[k]).p.torn), .int .i64 ((a[k]).p.cut)]) rfl rfl rfl sz65 rfl hb1 rfl ?_
        intro w3 hb2 hs2 hz2
        replace hB := gb_trg hB hs2 ge1
        replace hS := hS.old hs2 ge1
        replace hF := hF.old hs2 ge1
        replace hD := hD.old hs2 ge1
        replace hE := hE.old hs2 ge1
        refine L_nil (N_then (C_seq (C_reg ?_)))
        refine L_run (R_move rfl) rfl ?_
        refine L_run (R_move rfl) rfl ?_
        have hl2 : k < b.length := by first | omega | (simp; omega)
        refine T_index (xs := b) (i := k) EncS rfl rfl (by first | rfl | omega) slc58 hl2 hF rfl ?_
        intro g3 o2 ha2
        refine L_run (R_loadA (vs := [.int .i64 ((b[k]).p.kind), .int .i64 ((b[k]).p.n), .slice ((b[k]).oa) ((b[k]).p.ops.length) ((b[k]).oc), .slice ((b[k]).ka) ((b[k]).p.keep.length) ((b[k]).kc), .int .i64 ((b[k]).p.torn), .int .i64 ((b[k]).p.cut)]) rfl agg65 (At.pre ha2 rfl) rfl) rfl ?_
        refine L_alloc (cs := [.int .i64 0, .int .i64 0, .slice none 0 0, .slice none 0 0, .int .i64 0, .int .i64 0]) zer65 rfl rfl ?_
        intro g4 w4 eg2 hb3 hs3 hz3
        have ge2 : w.heap.size ≤ g4 := eg_ge hB eg2
        have lt1 : g2 < g4 := lt_of_eg hb2.lt eg2
        replace hB := gb_tr hB hs3
        replace hS := hS.gb hs3
        replace hF := hF.gb hs3
        replace hD := hD.gb hs3
        replace hE := hE.gb hs3
        replace hb2 := hb2.gb hs3
        replace ha2 := At.gb ha2 hs3 (by simp)
        refine L_stA (vs := [.int .i64 ((b[k]).p.kind), .int .i64 ((b[k]).p.n), .slice ((b[k]).oa) ((b[k]).p.ops.length) ((b[k]).oc), .slice ((b[k]).ka) ((b[k]).p.keep.length) ((b[k]).kc), .int .i64 ((b[k]).p.torn), .int .i64 ((b[k]).p.cut)]) rfl rfl rfl sz65 rfl hb3 rfl ?_
        intro w5 hb4 hs4 hz4
        replace hB := gb_trg hB hs4 ge2
        replace hS := hS.old hs4 ge2
        replace hF := hF.old hs4 ge2
        replace hD := hD.old hs4 ge2
        replace hE := hE.old hs4 ge2
        replace hb2 := hb2.grown hs4 (ne_lt lt1)
        refine L_nil (N_then (C_seq (C_reg ?_)))
        refine L_run (R_field (r := 0) rfl fld65_0 rfl) rfl ?_
        refine L_run (R_load1 rfl scl3 (hb2.cell (i := 0) rfl)) rfl ?_
        refine L_run (R_field (r := 0) rfl fld65_0 rfl) rfl ?_
        refine L_run (R_load1 rfl scl3 (hb4.cell (i := 0) rfl)) rfl ?_
        refine L_run (R_neq rfl rfl) rfl ?_
        refine L_run (R_move rfl) rfl ?_
        refine L_splitD (p := (a[k]).p.kind ≠ (b[k]).p.kind) (fun h3 => ?_) (fun h3 => ?_)
        · refine L_no rfl rfl rfl (decide_eq_true h3) rfl ?_
          refine L_no rfl rfl rfl (decide_eq_true h3) rfl ?_
          refine L_no rfl rfl rfl (decide_eq_true h3) rfl ?_
          refine L_no rfl rfl rfl (decide_eq_true h3) rfl ?_
          refine L_no rfl rfl rfl (decide_eq_true h3) rfl ?_
          refine L_run (R_pickT rfl (decide_eq_true h3) rfl) rfl ?_
          refine L_run (R_move rfl) rfl ?_
          refine L_no rfl rfl rfl rfl rfl ?_
          refine L_no rfl rfl rfl rfl rfl ?_
          refine L_no rfl rfl rfl rfl rfl ?_
          refine L_no rfl rfl rfl rfl rfl ?_
          refine L_no rfl rfl rfl rfl rfl ?_
          refine L_no rfl rfl rfl rfl rfl ?_
          refine L_run (R_pickT rfl rfl rfl) rfl ?_
          refine L_run (R_move rfl) rfl ?_
          refine L_no rfl rfl rfl rfl rfl ?_
          refine L_no rfl rfl rfl rfl rfl ?_
          refine L_no rfl rfl rfl rfl rfl ?_
          refine L_no rfl rfl rfl rfl rfl ?_
          refine L_no rfl rfl rfl rfl rfl ?_
          refine L_no rfl rfl rfl rfl rfl ?_
          refine L_no rfl rfl rfl rfl rfl ?_
          refine L_no rfl rfl rfl rfl rfl ?_
          refine L_no rfl rfl rfl rfl rfl ?_
          refine L_run (R_pickT rfl rfl rfl) rfl ?_
          refine L_run (R_move rfl) rfl ?_
          refine L_no rfl rfl rfl rfl rfl ?_
          refine L_no rfl rfl rfl rfl rfl ?_
          refine L_no rfl rfl rfl rfl rfl ?_
          refine L_no rfl rfl rfl rfl rfl ?_
          refine L_no rfl rfl rfl rfl rfl ?_
          refine L_no rfl rfl rfl rfl rfl ?_
          refine L_no rfl rfl rfl rfl rfl ?_
          refine L_run (R_pickT rfl rfl rfl) rfl ?_
          refine L_run (R_move rfl) rfl ?_
          refine L_no rfl rfl rfl rfl rfl ?_
          refine L_no rfl rfl rfl rfl rfl ?_
          refine L_no rfl rfl rfl rfl rfl ?_
          refine L_no rfl rfl rfl rfl rfl ?_
          refine L_no rfl rfl rfl rfl rfl ?_
          refine L_no rfl rfl rfl rfl rfl ?_
          refine L_no rfl rfl rfl rfl rfl ?_
          refine L_run (R_pickT rfl rfl rfl) rfl ?_
          refine L_nil (N_then (C_condT rfl rfl (C_seq (C_reg ?_))))
          refine L_run (R_assign rfl) rfl ?_
          refine L_nil (N_then (C_ret (R_in (R_then (R_then (R_in (R_then ?_)))))))
          refine ret1 Try.results59 rfl ?_
          exact ⟨hB, bF (ps_ne (k := k) (by omega) (by omega) (fun h => by have q_ := step_eq.1 h; first | omega | simp_all))⟩
        · refine L_yes rfl rfl rfl (decide_eq_false h3) ?_
          refine L_run (R_field (r := 1) rfl fld65_1 rfl) rfl ?_
          refine L_yes rfl rfl rfl (decide_eq_false h3) ?_
          refine L_run (R_load1 rfl scl3 (hb2.cell (i := 1) rfl)) rfl ?_
          refine L_yes rfl rfl rfl (decide_eq_false h3) ?_
          refine L_run (R_field (r := 1) rfl fld65_1 rfl) rfl ?_
          refine L_yes rfl rfl rfl (decide_eq_false h3) ?_
          refine L_run (R_load1 rfl scl3 (hb4.cell (i := 1) rfl)) rfl ?_
          refine L_yes rfl rfl rfl (decide_eq_false h3) ?_
          refine L_run (R_neq rfl rfl) rfl ?_
          refine L_run (R_pickF rfl (decide_eq_false h3) rfl) rfl ?_
          refine L_run (R_move rfl) rfl ?_
          refine L_splitD (p := (a[k]).p.n ≠ (b[k]).p.n) (fun h4 => ?_) (fun h4 => ?_)
          · refine L_no rfl rfl rfl (decide_eq_true h4) rfl ?_
            refine L_no rfl rfl rfl (decide_eq_true h4) rfl ?_
            refine L_no rfl rfl rfl (decide_eq_true h4) rfl ?_
            refine L_no rfl rfl rfl (decide_eq_true h4) rfl ?_
            refine L_no rfl rfl rfl (decide_eq_true h4) rfl ?_
            refine L_no rfl rfl rfl (decide_eq_true h4) rfl ?_
            refine L_run (R_pickT rfl (decide_eq_true h4) rfl) rfl ?_
            refine L_run (R_move rfl) rfl ?_
            refine L_no rfl rfl rfl rfl rfl ?_
            refine L_no rfl rfl rfl rfl rfl ?_
            refine L_no rfl rfl rfl rfl rfl ?_
            refine L_no rfl rfl rfl rfl rfl ?_
            refine L_no rfl rfl rfl rfl rfl ?_
            refine L_no rfl rfl rfl rfl rfl ?_
            refine L_no rfl rfl rfl rfl rfl ?_
            refine L_no rfl rfl rfl rfl rfl ?_
            refine L_no rfl rfl rfl rfl rfl ?_
            refine L_run (R_pickT rfl rfl rfl) rfl ?_
            refine L_run (R_move rfl) rfl ?_
            refine L_no rfl rfl rfl rfl rfl ?_
            refine L_no rfl rfl rfl rfl rfl ?_
            refine L_no rfl rfl rfl rfl rfl ?_
            refine L_no rfl rfl rfl rfl rfl ?_
            refine L_no rfl rfl rfl rfl rfl ?_
            refine L_no rfl rfl rfl rfl rfl ?_
            refine L_no rfl rfl rfl rfl rfl ?_
            refine L_run (R_pickT rfl rfl rfl) rfl ?_
            refine L_run (R_move rfl) rfl ?_
            refine L_no rfl rfl rfl rfl rfl ?_
            refine L_no rfl rfl rfl rfl rfl ?_
            refine L_no rfl rfl rfl rfl rfl ?_
            refine L_no rfl rfl rfl rfl rfl ?_
            refine L_no rfl rfl rfl rfl rfl ?_
            refine L_no rfl rfl rfl rfl rfl ?_
            refine L_no rfl rfl rfl rfl rfl ?_
            refine L_run (R_pickT rfl rfl rfl) rfl ?_
            refine L_nil (N_then (C_condT rfl rfl (C_seq (C_reg ?_))))
            refine L_run (R_assign rfl) rfl ?_
            refine L_nil (N_then (C_ret (R_in (R_then (R_then (R_in (R_then ?_)))))))
            refine ret1 Try.results59 rfl ?_
            exact ⟨hB, bF (ps_ne (k := k) (by omega) (by omega) (fun h => by have q_ := step_eq.1 h; first | omega | simp_all))⟩
          · refine L_yes rfl rfl rfl (decide_eq_false h4) ?_
            refine L_run (R_field (r := 2) rfl fld65_2 rfl) rfl ?_
            refine L_yes rfl rfl rfl (decide_eq_false h4) ?_
            refine L_run (R_load1 rfl scl22 (hb2.cell (i := 2) rfl)) rfl ?_
            refine L_yes rfl rfl rfl (decide_eq_false h4) ?_
            refine L_run (R_field (r := 2) rfl fld65_2 rfl) rfl ?_
            refine L_yes rfl rfl rfl (decide_eq_false h4) ?_
            refine L_run (R_load1 rfl scl22 (hb4.cell (i := 2) rfl)) rfl ?_
            refine L_yes rfl rfl rfl (decide_eq_false h4) ?_
            refine L_call rfl cb14 (op_Same (a := (a[k]).p.ops) (b := (b[k]).p.ops) (hD.getO (i := k) (by first | assumption | omega | (simp; omega))) (hE.getO (i := k) (by first | assumption | omega | (simp; omega))) (by have h_ := (hfa _ (List.getElem_mem (show k < a.length by omega))).1; omega)) rfl ?_
            rintro _ w6 ⟨hs5, rfl⟩
            replace hB := gb_tr hB hs5
            replace hS := hS.gb hs5
            replace hF := hF.gb hs5
            replace hD := hD.gb hs5
            replace hE := hE.gb hs5
            replace hb2 := hb2.gb hs5
            replace hb4 := hb4.gb hs5
            refine L_yes rfl rfl rfl (decide_eq_false h4) ?_
            refine L_run (R_notD rfl) rfl ?_
            refine L_run (R_pickF rfl (decide_eq_false h4) rfl) rfl ?_
            refine L_run (R_move rfl) rfl ?_
            refine L_splitN (p := ((a[k]).p.ops) = ((b[k]).p.ops)) (fun h5 => ?_) (fun h5 => ?_)
            · refine L_no rfl rfl rfl (decide_eq_true h5) rfl ?_
              refine L_no rfl rfl rfl (decide_eq_true h5) rfl ?_
              refine L_no rfl rfl rfl (decide_eq_true h5) rfl ?_
              refine L_no rfl rfl rfl (decide_eq_true h5) rfl ?_
              refine L_no rfl rfl rfl (decide_eq_true h5) rfl ?_
              refine L_no rfl rfl rfl (decide_eq_true h5) rfl ?_
              refine L_no rfl rfl rfl (decide_eq_true h5) rfl ?_
              refine L_no rfl rfl rfl (decide_eq_true h5) rfl ?_
              refine L_no rfl rfl rfl (decide_eq_true h5) rfl ?_
              refine L_run (R_pickT rfl (decide_eq_true h5) rfl) rfl ?_
              refine L_run (R_move rfl) rfl ?_
              refine L_no rfl rfl rfl rfl rfl ?_
              refine L_no rfl rfl rfl rfl rfl ?_
              refine L_no rfl rfl rfl rfl rfl ?_
              refine L_no rfl rfl rfl rfl rfl ?_
              refine L_no rfl rfl rfl rfl rfl ?_
              refine L_no rfl rfl rfl rfl rfl ?_
              refine L_no rfl rfl rfl rfl rfl ?_
              refine L_run (R_pickT rfl rfl rfl) rfl ?_
              refine L_run (R_move rfl) rfl ?_
              refine L_no rfl rfl rfl rfl rfl ?_
              refine L_no rfl rfl rfl rfl rfl ?_
              refine L_no rfl rfl rfl rfl rfl ?_
              refine L_no rfl rfl rfl rfl rfl ?_
              refine L_no rfl rfl rfl rfl rfl ?_
              refine L_no rfl rfl rfl rfl rfl ?_
              refine L_no rfl rfl rfl rfl rfl ?_
              refine L_run (R_pickT rfl rfl rfl) rfl ?_
              refine L_nil (N_then (C_condT rfl rfl (C_seq (C_reg ?_))))
              refine L_run (R_assign rfl) rfl ?_
              refine L_nil (N_then (C_ret (R_in (R_then (R_then (R_in (R_then ?_)))))))
              refine ret1 Try.results59 rfl ?_
              exact ⟨hB, bF (ps_ne (k := k) (by omega) (by omega) (fun h => by have q_ := step_eq.1 h; first | omega | simp_all))⟩
            · refine L_yes rfl rfl rfl (decide_eq_false (fun hn => hn h5)) ?_
              refine L_run (R_field (r := 3) rfl fld65_3 rfl) rfl ?_
              refine L_yes rfl rfl rfl (decide_eq_false (fun hn => hn h5)) ?_
              refine L_run (R_field (r := 3) rfl fld63_0 rfl) rfl ?_
              refine L_yes rfl rfl rfl (decide_eq_false (fun hn => hn h5)) ?_
              refine L_run (R_load1 rfl scl42 (hb2.cell (i := 3) rfl)) rfl ?_
              refine L_yes rfl rfl rfl (decide_eq_false (fun hn => hn h5)) ?_
              refine L_run (R_b2s' (bs := (a[k]).p.keep) rfl slc42 int5 str9 (hD.getK (i := k) (by first | assumption | omega | (simp; omega)))) rfl ?_
              refine L_yes rfl rfl rfl (decide_eq_false (fun hn => hn h5)) ?_
              refine L_run (R_field (r := 3) rfl fld65_3 rfl) rfl ?_
              refine L_yes rfl rfl rfl (decide_eq_false (fun hn => hn h5)) ?_
              refine L_run (R_field (r := 3) rfl fld63_0 rfl) rfl ?_
              refine L_yes rfl rfl rfl (decide_eq_false (fun hn => hn h5)) ?_
              refine L_run (R_load1 rfl scl42 (hb4.cell (i := 3) rfl)) rfl ?_
              refine L_yes rfl rfl rfl (decide_eq_false (fun hn => hn h5)) ?_
              refine L_run (R_b2s' (bs := (b[k]).p.keep) rfl slc42 int5 str9 (hE.getK (i := k) (by first | assumption | omega | (simp; omega)))) rfl ?_
              refine L_yes rfl rfl rfl (decide_eq_false (fun hn => hn h5)) ?_
              refine L_run (R_eqv (R_neqS rfl rfl) (v' := .bool (decide (¬ (((a[k]).p.keep) = ((b[k]).p.keep))))) (bD (not_congr ba_inj))) rfl ?_
              refine L_run (R_pickF rfl (decide_eq_false (fun hn => hn h5)) rfl) rfl ?_
              refine L_run (R_move rfl) rfl ?_
              refine L_splitN (p := ((a[k]).p.keep) = ((b[k]).p.keep)) (fun h6 => ?_) (fun h6 => ?_)
              · refine L_no rfl rfl rfl (decide_eq_true h6) rfl ?_
                refine L_no rfl rfl rfl (decide_eq_true h6) rfl ?_
                refine L_no rfl rfl rfl (decide_eq_true h6) rfl ?_
                refine L_no rfl rfl rfl (decide_eq_true h6) rfl ?_
                refine L_no rfl rfl rfl (decide_eq_true h6) rfl ?_
                refine L_no rfl rfl rfl (decide_eq_true h6) rfl ?_
                refine L_no rfl rfl rfl (decide_eq_true h6) rfl ?_
                refine L_run (R_pickT rfl (decide_eq_true h6) rfl) rfl ?_
                refine L_run (R_move rfl) rfl ?_
                refine L_no rfl rfl rfl rfl rfl ?_
                refine L_no rfl rfl rfl rfl rfl ?_
                refine L_no rfl rfl rfl rfl rfl ?_
                refine L_no rfl rfl rfl rfl rfl ?_
                refine L_no rfl rfl rfl rfl rfl ?_
                refine L_no rfl rfl rfl rfl rfl ?_
                refine L_no rfl rfl rfl rfl rfl ?_
                refine L_run (R_pickT rfl rfl rfl) rfl ?_
                refine L_nil (N_then (C_condT rfl rfl (C_seq (C_reg ?_))))
                refine L_run (R_assign rfl) rfl ?_
                refine L_nil (N_then (C_ret (R_in (R_then (R_then (R_in (R_then ?_)))))))
                refine ret1 Try.results59 rfl ?_
                exact ⟨hB, bF (ps_ne (k := k) (by omega) (by omega) (fun h => by have q_ := step_eq.1 h; first | omega | simp_all))⟩
              · refine L_yes rfl rfl rfl (decide_eq_false (fun hn => hn h6)) ?_
                refine L_run (R_field (r := 3) rfl fld65_3 rfl) rfl ?_
                refine L_yes rfl rfl rfl (decide_eq_false (fun hn => hn h6)) ?_
                refine L_run (R_field (r := 4) rfl fld63_1 rfl) rfl ?_
                refine L_yes rfl rfl rfl (decide_eq_false (fun hn => hn h6)) ?_
                refine L_run (R_load1 rfl scl3 (hb2.cell (i := 4) rfl)) rfl ?_
                refine L_yes rfl rfl rfl (decide_eq_false (fun hn => hn h6)) ?_
                refine L_run (R_field (r := 3) rfl fld65_3 rfl) rfl ?_
                refine L_yes rfl rfl rfl (decide_eq_false (fun hn => hn h6)) ?_
                refine L_run (R_field (r := 4) rfl fld63_1 rfl) rfl ?_
                refine L_yes rfl rfl rfl (decide_eq_false (fun hn => hn h6)) ?_
                refine L_run (R_load1 rfl scl3 (hb4.cell (i := 4) rfl)) rfl ?_
                refine L_yes rfl rfl rfl (decide_eq_false (fun hn => hn h6)) ?_
                refine L_run (R_neq rfl rfl) rfl ?_
                refine L_run (R_pickF rfl (decide_eq_false (fun hn => hn h6)) rfl) rfl ?_
                refine L_run (R_move rfl) rfl ?_
                refine L_splitD (p := (a[k]).p.torn ≠ (b[k]).p.torn) (fun h7 => ?_) (fun h7 => ?_)
                · refine L_no rfl rfl rfl (decide_eq_true h7) rfl ?_
                  refine L_no rfl rfl rfl (decide_eq_true h7) rfl ?_
                  refine L_no rfl rfl rfl (decide_eq_true h7) rfl ?_
                  refine L_no rfl rfl rfl (decide_eq_true h7) rfl ?_
                  refine L_no rfl rfl rfl (decide_eq_true h7) rfl ?_
                  refine L_no rfl rfl rfl (decide_eq_true h7) rfl ?_
                  refine L_no rfl rfl rfl (decide_eq_true h7) rfl ?_
                  refine L_run (R_pickT rfl (decide_eq_true h7) rfl) rfl ?_
                  refine L_nil (N_then (C_condT rfl rfl (C_seq (C_reg ?_))))
                  refine L_run (R_assign rfl) rfl ?_
                  refine L_nil (N_then (C_ret (R_in (R_then (R_then (R_in (R_then ?_)))))))
                  refine ret1 Try.results59 rfl ?_
                  exact ⟨hB, bF (ps_ne (k := k) (by omega) (by omega) (fun h => by have q_ := step_eq.1 h; first | omega | simp_all))⟩
                · refine L_yes rfl rfl rfl (decide_eq_false h7) ?_
                  refine L_run (R_field (r := 3) rfl fld65_3 rfl) rfl ?_
                  refine L_yes rfl rfl rfl (decide_eq_false h7) ?_
                  refine L_run (R_field (r := 5) rfl fld63_2 rfl) rfl ?_
                  refine L_yes rfl rfl rfl (decide_eq_false h7) ?_
                  refine L_run (R_load1 rfl scl3 (hb2.cell (i := 5) rfl)) rfl ?_
                  refine L_yes rfl rfl rfl (decide_eq_false h7) ?_
                  refine L_run (R_field (r := 3) rfl fld65_3 rfl) rfl ?_
                  refine L_yes rfl rfl rfl (decide_eq_false h7) ?_
                  refine L_run (R_field (r := 5) rfl fld63_2 rfl) rfl ?_
                  refine L_yes rfl rfl rfl (decide_eq_false h7) ?_
                  refine L_run (R_load1 rfl scl3 (hb4.cell (i := 5) rfl)) rfl ?_
                  refine L_yes rfl rfl rfl (decide_eq_false h7) ?_
                  refine L_run (R_neq rfl rfl) rfl ?_
                  refine L_run (R_pickF rfl (decide_eq_false h7) rfl) rfl ?_
                  refine L_nil (N_then ?_)
                  refine C_if rfl (fun h8 => ?_) (fun h8 => ?_)
                  · refine C_seq (C_reg ?_)
                    refine L_run (R_assign rfl) rfl ?_
                    refine L_nil (N_then (C_ret (R_in (R_then (R_then (R_in (R_then ?_)))))))
                    refine ret1 Try.results59 rfl ?_
                    exact ⟨hB, bF (ps_ne (k := k) (by omega) (by omega) (fun h => by have q_ := step_eq.1 h; first | omega | simp_all))⟩
                  · refine C_skip (N_in (N_then (C_reg ?_)))
                    refine L_run (R_add64 rfl rfl (by omega)) rfl ?_
                    refine L_run (R_move rfl) rfl ?_
                    refine L_nil (N_then ?_)
                    exact ⟨a.length - (k + 1), by omega, _, (k + 1), Ac_frg ⟨rfl, rfl, rfl, rfl, (agr rfl (by first | rfl | (congr 1; omega) | (congr 1; simp; done) | (congr 1; simp only [IntKind.wrap_u64, IntKind.wrap_i64, IntKind.wrap_u8]; omega) | (congr 1 <;> omega))), trivial⟩, hB, hS, hF, hD, hE, (by omega), (ps_succ hk2 (by omega) (by omega) (step_eq.2 ⟨by omega, by omega, by first | assumption | simp_all, by first | assumption | simp_all, by omega, by omega⟩)), rfl⟩
      · refine C_exit (X_then (X_then (X_hit (N_then (C_seq (C_reg ?_))))))
        refine L_run (R_assign rfl) rfl ?_
        refine L_nil (N_then (C_ret ?_))
        refine ret1 Try.results59 rfl ?_
        exact ⟨hB, bT (by rw [List.take_of_length_le (by omega), List.take_of_length_le (by omega)] at hk2; exact hk2)⟩

set_option maxRecDepth 4000 in
theorem ref38_Same {w : World} {t1 t2 lo hi lo2 hi2 h1 h2 : Nat} {A A2 : Option Addr} {c c2 : Nat} {a b : List StepD} (hS : Sli t1 lo hi w A (fl encS a)) (hF : Sli t2 lo2 hi2 w A2 (fl encS b)) (hD : DeepS h1 w a) (hE : DeepS h2 w b) (hb : a.length ≤ 1000000) (hfa : ∀ y ∈ a, FewS y) (hfb : ∀ y ∈ b, FewS y) :
    Runs Try.prog 57 #[.slice A a.length c, .slice A2 b.length c2] w (fun v w' => w.grownBy w' none ∧ v = .bool (decide (ps a = ps b))) := by
  have hB := gb_refl w none
  replace hD := hD.top
  replace hE := hE.top
  replace hS := hS.top
  replace hF := hF.top
  refine enter Try.func57 Try.ntmps57 rfl rfl ?_
  refine C_seq (C_reg ?_)
  refine L_run (R_assign rfl) rfl ?_
  refine L_nil (N_then (C_seq (C_seq (C_reg ?_))))
  refine L_run (R_move rfl) rfl ?_
  refine L_run (R_lenSl rfl slc58) rfl ?_
  refine L_run (R_move rfl) rfl ?_
  refine L_run (R_lenSl rfl slc58) rfl ?_
  refine L_run (R_neq rfl rfl) rfl ?_
  refine L_nil (N_then ?_)
  refine C_if rfl (fun h1 => ?_) (fun h1 => ?_)
  · refine C_seq (C_reg ?_)
    refine L_run (R_assign rfl) rfl ?_
    refine L_nil (N_then (C_ret (R_then ?_)))
    refine ret1 Try.results57 rfl ?_
    exact ⟨hB, bF (fun h => by have q_ := congrArg List.length h; rw [ps_len, ps_len] at q_; omega)⟩
  · refine C_skip (N_then (C_seq (C_seq (C_reg ?_))))
    refine L_run (R_assign rfl) rfl ?_
    refine L_nil (N_then (C_block ?_))
    refine C_loop (fun m_ a_ w_ => ∃ (σ_ : Nat → Value) (k : Nat), a_ = Ac 90 σ_ [] [(0, .slice A a.length c), (1, .slice A2 b.length c2), (5, .int .i64 (k : Int))] ∧ w.grownBy w_ none ∧ Sli t1 lo w.heap.size w_ A (fl encS a) ∧ Sli t2 lo2 w.heap.size w_ A2 (fl encS b) ∧ DeepS w.heap.size w_ a ∧ DeepS w.heap.size w_ b ∧ (k ≤ a.length) ∧ (ps (a.take k) = ps (b.take k)) ∧ a.length - k = m_) (a.length - 0) ?_ ?_
    · exact ⟨_, 0, Ac_frg ⟨rfl, rfl, (agr rfl (by first | rfl | (congr 1; omega) | (congr 1; simp; done) | (congr 1; simp only [IntKind.wrap_u64, IntKind.wrap_i64, IntKind.wrap_u8]; omega) | (congr 1 <;> omega))), trivial⟩, hB, hS, hF, hD, hE, (by omega), rfl, rfl⟩
    · clear hB
      clear hS hF hD hE
      rintro m_ a_ w1 ⟨σ_, k, rfl, hB, hS, hF, hD, hE, hk, hk2, rfl⟩
      refine C_seq (C_seq (C_reg ?_))
      refine L_run (R_move rfl) rfl ?_
      refine L_run (R_move rfl) rfl ?_
      refine L_run (R_lenSl rfl slc58) rfl ?_
      refine L_run (R_lss rfl rfl) rfl ?_
      refine L_nil (N_then ?_)
      refine C_if rfl (fun h2 => ?_) (fun h2 => ?_)
      · refine C_skip (N_then (C_seq (C_block (C_seq (C_reg ?_)))))
        refine L_run (R_move rfl) rfl ?_
        refine L_run (R_move rfl) rfl ?_
        have hl1 : k < a.length := by first | omega | (simp; omega)
        refine T_index (xs := a) (i := k) EncS rfl rfl (by first | rfl | omega) slc58 hl1 hS rfl ?_
        intro g1 o1 ha1
        refine L_run (R_field rfl fld65_3 rfl) rfl ?_
        refine L_run (R_loadA (vs := [.slice ((a[k]).ka) ((a[k]).p.keep.length) ((a[k]).kc), .int .i64 ((a[k]).p.torn), .int .i64 ((a[k]).p.cut)]) rfl agg63 (At.part (k := 3) ha1 rfl) rfl) rfl ?_
        refine L_alloc (cs := [.slice none 0 0, .int .i64 0, .int .i64 0]) zer63 rfl rfl ?_
        intro g2 w2 eg1 hb1 hs1 hz1
        have ge1 : w.heap.size ≤ g2 := eg_ge hB eg1
        replace hB := gb_tr hB hs1
        replace hS := hS.gb hs1
        replace hF := hF.gb hs1
        replace hD := hD.gb hs1
        replace hE := hE.gb hs1
        replace ha1 := At.gb ha1 hs1 (by simp)
        refine L_stA (vs := [.slice ((a[k]).ka) ((a[k]).p.keep.length) ((a[k]).kc), .int .i64 ((a[k]).p.torn), .int .i64 ((a[k]).p.cut)]) rfl rfl rfl sz63 rfl hb1 rfl ?_
        intro w3 hb2 hs2 hz2
        replace hB := gb_trg hB hs2 ge1
        replace hS := hS.old hs2 ge1
        replace hF := hF.old hs2 ge1
        replace hD := hD.old hs2 ge1
        replace hE := hE.old hs2 ge1
        refine L_nil (N_then (C_seq (C_reg ?_)))
        refine L_run (R_move rfl) rfl ?_
        refine L_run (R_move rfl) rfl ?_
        have hl2 : k < b.length := by first | omega | (simp; omega)
        refine T_index (xs := b) (i := k) EncS rfl rfl (by first | rfl | omega) slc58 hl2 hF rfl ?_
        intro g3 o2 ha2
        refine L_run (R_field rfl fld65_3 rfl) rfl ?_
        refine L_run (R_loadA (vs := [.slice ((b[k]).ka) ((b[k]).p.keep.length) ((b[k]).kc), .int .i64 ((b[k]).p.torn), .int .i64 ((b[k]).p.cut)]) rfl agg63 (At.part (k := 3) ha2 rfl) rfl) rfl ?_
        refine L_alloc (cs := [.slice none 0 0, .int .i64 0, .int .i64 0]) zer63 rfl rfl ?_
        intro g4 w4 eg2 hb3 hs3 hz3
        have ge2 : w.heap.size ≤ g4 := eg_ge hB eg2
        have lt1 : g2 < g4 := lt_of_eg hb2.lt eg2
        replace hB := gb_tr hB hs3
        replace hS := hS.gb hs3
        replace hF := hF.gb hs3
        replace hD := hD.gb hs3
        replace hE := hE.gb hs3
        replace hb2 := hb2.gb hs3
        replace ha2 := At.gb ha2 hs3 (by simp)
        refine L_stA (vs := [.slice ((b[k]).ka) ((b[k]).p.keep.length) ((b[k]).kc), .int .i64 ((b[k]).p.torn), .int .i64 ((b[k]).p.cut)]) rfl rfl rfl sz63 rfl hb3 rfl ?_
        intro w5 hb4 hs4 hz4
        replace hB := gb_trg hB hs4 ge2
        replace hS := hS.old hs4 ge2
        replace hF := hF.old hs4 ge2
        replace hD := hD.old hs4 ge2
        replace hE := hE.old hs4 ge2
        replace hb2 := hb2.grown hs4 (ne_lt lt1)
        refine L_nil (N_then (C_seq ?_))
        refine C_draw2 mix ?_
        intro w6 hs5 hz5
        replace hB := gb_tr hB hs5
        replace hS := hS.gb hs5
        replace hF := hF.gb hs5
        replace hD := hD.gb hs5
        replace hE := hE.gb hs5
        replace hb2 := hb2.gb hs5
        replace hb4 := hb4.gb hs5
        have hl3 : k < a.length := by first | omega | (simp; omega)
        obtain ⟨g5, o3, r1, eA1, er1, ha3⟩ := Sli.place' (xs := a) (i := k) EncS hS hl3 rfl
        have hl4 : k < b.length := by first | omega | (simp; omega)
        obtain ⟨g6, o4, r2, eA2, er2, ha4⟩ := Sli.place' (xs := b) (i := k) EncS hF hl4 rfl
        refine ⟨fun W_ => DeepS w.heap.size W_ a ∧ DeepS w.heap.size W_ b ∧ Blk W_ g2 63 [.slice ((a[k]).ka) ((a[k]).p.keep.length) ((a[k]).kc), .int .i64 ((a[k]).p.torn), .int .i64 ((a[k]).p.cut)] ∧ Blk W_ g4 63 [.slice ((b[k]).ka) ((b[k]).p.keep.length) ((b[k]).kc), .int .i64 ((b[k]).p.torn), .int .i64 ((b[k]).p.cut)] ∧ At W_ g5 r1 [.int .i64 ((a[k]).p.kind), .int .i64 ((a[k]).p.n), .slice ((a[k]).oa) ((a[k]).p.ops.length) ((a[k]).oc), .slice ((a[k]).ka) ((a[k]).p.keep.length) ((a[k]).kc), .int .i64 ((a[k]).p.torn), .int .i64 ((a[k]).p.cut)] ∧ At W_ g6 r2 [.int .i64 ((b[k]).p.kind), .int .i64 ((b[k]).p.n), .slice ((b[k]).oa) ((b[k]).p.ops.length) ((b[k]).oc), .slice ((b[k]).ka) ((b[k]).p.keep.length) ((b[k]).kc), .int .i64 ((b[k]).p.torn), .int .i64 ((b[k]).p.cut)] ∧ True, [0, 1, 2, 3, 4, 5, 6, 7, 8, 9, 10, 11, 12, 13, 14, 15, 16, 17, 18, 19, 20, 21, 22, 23, 24, 25, 26, 27, 28, 29, 30, 31, 32, 33, 34, 36, 37, 38, 39, 40, 41, 42, 43, 44, 45, 46, 47, 48, 49, 50, 51, 52, 53, 54, 55, 56, 57, 58, 59, 60], ?_⟩
        refine T_takeA (i := 0) rfl rfl (by kernel_rfl) (by kernel_rfl) (by kernel_rfl) (Y_of (fun _ ⟨hD, hE, hb2, hb4, ha3, ha4, _⟩ => R_move rfl)) ⟨hD, hE, hb2, hb4, ha3, ha4, trivial⟩ rfl ?_
        refine T_takeA (i := 1) rfl rfl (by kernel_rfl) (by kernel_rfl) (by kernel_rfl) (Y_of (fun _ ⟨hD, hE, hb2, hb4, ha3, ha4, _⟩ => R_move rfl)) ⟨hD, hE, hb2, hb4, ha3, ha4, trivial⟩ rfl ?_
        refine T_takeA (i := 2) rfl rfl (by kernel_rfl) (by kernel_rfl) (by kernel_rfl) (Y_of (fun _ ⟨hD, hE, hb2, hb4, ha3, ha4, _⟩ => R_indexE rfl rfl (by first | rfl | omega) slc58 hl3 eA1 er1)) ⟨hD, hE, hb2, hb4, ha3, ha4, trivial⟩ rfl ?_
        refine T_takeA (i := 3) rfl rfl (by kernel_rfl) (by kernel_rfl) (by kernel_rfl) (Y_of (fun _ ⟨hD, hE, hb2, hb4, ha3, ha4, _⟩ => R_field rfl fld65_0 rfl)) ⟨hD, hE, hb2, hb4, ha3, ha4, trivial⟩ rfl ?_
        refine T_takeA (i := 4) rfl rfl (by kernel_rfl) (by kernel_rfl) (by kernel_rfl) (Y_of (fun _ ⟨hD, hE, hb2, hb4, ha3, ha4, _⟩ => R_load1 rfl scl3 (ha3 0 _ rfl))) ⟨hD, hE, hb2, hb4, ha3, ha4, trivial⟩ rfl ?_
        refine T_takeA (i := 5) rfl rfl (by kernel_rfl) (by kernel_rfl) (by kernel_rfl) (Y_of (fun _ ⟨hD, hE, hb2, hb4, ha3, ha4, _⟩ => R_move rfl)) ⟨hD, hE, hb2, hb4, ha3, ha4, trivial⟩ rfl ?_
        refine T_takeA (i := 6) rfl rfl (by kernel_rfl) (by kernel_rfl) (by kernel_rfl) (Y_of (fun _ ⟨hD, hE, hb2, hb4, ha3, ha4, _⟩ => R_move rfl)) ⟨hD, hE, hb2, hb4, ha3, ha4, trivial⟩ rfl ?_
        refine T_takeA (i := 7) rfl rfl (by kernel_rfl) (by kernel_rfl) (by kernel_rfl) (Y_of (fun _ ⟨hD, hE, hb2, hb4, ha3, ha4, _⟩ => R_indexE rfl rfl (by first | rfl | omega) slc58 hl4 eA2 er2)) ⟨hD, hE, hb2, hb4, ha3, ha4, trivial⟩ rfl ?_
        refine T_takeA (i := 8) rfl rfl (by kernel_rfl) (by kernel_rfl) (by kernel_rfl) (Y_of (fun _ ⟨hD, hE, hb2, hb4, ha3, ha4, _⟩ => R_field rfl fld65_0 rfl)) ⟨hD, hE, hb2, hb4, ha3, ha4, trivial⟩ rfl ?_
        refine T_takeA (i := 9) rfl rfl (by kernel_rfl) (by kernel_rfl) (by kernel_rfl) (Y_of (fun _ ⟨hD, hE, hb2, hb4, ha3, ha4, _⟩ => R_load1 rfl scl3 (ha4 0 _ rfl))) ⟨hD, hE, hb2, hb4, ha3, ha4, trivial⟩ rfl ?_
        refine T_takeA (i := 10) rfl rfl (by kernel_rfl) (by kernel_rfl) (by kernel_rfl) (Y_of (fun _ ⟨hD, hE, hb2, hb4, ha3, ha4, _⟩ => R_neq rfl rfl)) ⟨hD, hE, hb2, hb4, ha3, ha4, trivial⟩ rfl ?_
        refine T_takeA (i := 11) rfl rfl (by kernel_rfl) (by kernel_rfl) (by kernel_rfl) (Y_of (fun _ ⟨hD, hE, hb2, hb4, ha3, ha4, _⟩ => R_move rfl)) ⟨hD, hE, hb2, hb4, ha3, ha4, trivial⟩ rfl ?_
        by_cases h3 : (a[k]).p.kind ≠ (b[k]).p.kind
        · refine T_takeA (i := 12) rfl rfl (by kernel_rfl) (by kernel_rfl) (by kernel_rfl) (Y_no rfl rfl rfl (decide_eq_true h3)) ⟨hD, hE, hb2, hb4, ha3, ha4, trivial⟩ rfl ?_
          refine T_takeA (i := 13) rfl rfl (by kernel_rfl) (by kernel_rfl) (by kernel_rfl) (Y_no rfl rfl rfl (decide_eq_true h3)) ⟨hD, hE, hb2, hb4, ha3, ha4, trivial⟩ rfl ?_
          refine T_takeA (i := 14) rfl rfl (by kernel_rfl) (by kernel_rfl) (by kernel_rfl) (Y_no rfl rfl rfl (decide_eq_true h3)) ⟨hD, hE, hb2, hb4, ha3, ha4, trivial⟩ rfl ?_
          refine T_takeA (i := 15) rfl rfl (by kernel_rfl) (by kernel_rfl) (by kernel_rfl) (Y_no rfl rfl rfl (decide_eq_true h3)) ⟨hD, hE, hb2, hb4, ha3, ha4, trivial⟩ rfl ?_
          refine T_takeA (i := 16) rfl rfl (by kernel_rfl) (by kernel_rfl) (by kernel_rfl) (Y_no rfl rfl rfl (decide_eq_true h3)) ⟨hD, hE, hb2, hb4, ha3, ha4, trivial⟩ rfl ?_
          refine T_takeA (i := 17) rfl rfl (by kernel_rfl) (by kernel_rfl) (by kernel_rfl) (Y_no rfl rfl rfl (decide_eq_true h3)) ⟨hD, hE, hb2, hb4, ha3, ha4, trivial⟩ rfl ?_
          refine T_takeA (i := 18) rfl rfl (by kernel_rfl) (by kernel_rfl) (by kernel_rfl) (Y_no rfl rfl rfl (decide_eq_true h3)) ⟨hD, hE, hb2, hb4, ha3, ha4, trivial⟩ rfl ?_
          refine T_takeA (i := 19) rfl rfl (by kernel_rfl) (by kernel_rfl) (by kernel_rfl) (Y_no rfl rfl rfl (decide_eq_true h3)) ⟨hD, hE, hb2, hb4, ha3, ha4, trivial⟩ rfl ?_
          refine T_takeA (i := 20) rfl rfl (by kernel_rfl) (by kernel_rfl) (by kernel_rfl) (Y_no rfl rfl rfl (decide_eq_true h3)) ⟨hD, hE, hb2, hb4, ha3, ha4, trivial⟩ rfl ?_
          refine T_takeA (i := 21) rfl rfl (by kernel_rfl) (by kernel_rfl) (by kernel_rfl) (Y_no rfl rfl rfl (decide_eq_true h3)) ⟨hD, hE, hb2, hb4, ha3, ha4, trivial⟩ rfl ?_
          refine T_takeA (i := 22) rfl rfl (by kernel_rfl) (by kernel_rfl) (by kernel_rfl) (Y_no rfl rfl rfl (decide_eq_true h3)) ⟨hD, hE, hb2, hb4, ha3, ha4, trivial⟩ rfl ?_
          refine T_takeA (i := 23) rfl rfl (by kernel_rfl) (by kernel_rfl) (by kernel_rfl) (Y_of (fun _ ⟨hD, hE, hb2, hb4, ha3, ha4, _⟩ => R_pickT rfl (decide_eq_true h3) rfl)) ⟨hD, hE, hb2, hb4, ha3, ha4, trivial⟩ rfl ?_
          refine T_takeA (i := 24) rfl rfl (by kernel_rfl) (by kernel_rfl) (by kernel_rfl) (Y_of (fun _ ⟨hD, hE, hb2, hb4, ha3, ha4, _⟩ => R_move rfl)) ⟨hD, hE, hb2, hb4, ha3, ha4, trivial⟩ rfl ?_
          refine T_takeA (i := 25) rfl rfl (by kernel_rfl) (by kernel_rfl) (by kernel_rfl) (Y_no rfl rfl rfl rfl) ⟨hD, hE, hb2, hb4, ha3, ha4, trivial⟩ rfl ?_
          refine T_takeA (i := 26) rfl rfl (by kernel_rfl) (by kernel_rfl) (by kernel_rfl) (Y_no rfl rfl rfl rfl) ⟨hD, hE, hb2, hb4, ha3, ha4, trivial⟩ rfl ?_
          refine T_takeA (i := 27) rfl rfl (by kernel_rfl) (by kernel_rfl) (by kernel_rfl) (Y_no rfl rfl rfl rfl) ⟨hD, hE, hb2, hb4, ha3, ha4, trivial⟩ rfl ?_
          refine T_takeA (i := 28) rfl rfl (by kernel_rfl) (by kernel_rfl) (by kernel_rfl) (Y_no rfl rfl rfl rfl) ⟨hD, hE, hb2, hb4, ha3, ha4, trivial⟩ rfl ?_
          refine T_takeA (i := 29) rfl rfl (by kernel_rfl) (by kernel_rfl) (by kernel_rfl) (Y_no rfl rfl rfl rfl) ⟨hD, hE, hb2, hb4, ha3, ha4, trivial⟩ rfl ?_
          refine T_takeA (i := 30) rfl rfl (by kernel_rfl) (by kernel_rfl) (by kernel_rfl) (Y_no rfl rfl rfl rfl) ⟨hD, hE, hb2, hb4, ha3, ha4, trivial⟩ rfl ?_
          refine T_takeA (i := 31) rfl rfl (by kernel_rfl) (by kernel_rfl) (by kernel_rfl) (Y_no rfl rfl rfl rfl) ⟨hD, hE, hb2, hb4, ha3, ha4, trivial⟩ rfl ?_
          refine T_takeA (i := 32) rfl rfl (by kernel_rfl) (by kernel_rfl) (by kernel_rfl) (Y_no rfl rfl rfl rfl) ⟨hD, hE, hb2, hb4, ha3, ha4, trivial⟩ rfl ?_
          refine T_takeA (i := 33) rfl rfl (by kernel_rfl) (by kernel_rfl) (by kernel_rfl) (Y_no rfl rfl rfl rfl) ⟨hD, hE, hb2, hb4, ha3, ha4, trivial⟩ rfl ?_
          refine T_takeA (i := 34) rfl rfl (by kernel_rfl) (by kernel_rfl) (by kernel_rfl) (Y_no rfl rfl rfl rfl) ⟨hD, hE, hb2, hb4, ha3, ha4, trivial⟩ rfl ?_
          refine T_all (rs := [35]) (by kernel_rfl) rfl (all1 (O_one rfl ?_))
          refine L_no rfl rfl rfl rfl rfl ?_
          refine L_nil (N_then ⟨fun hN_ => ⟨hD, hE, hb2, hb4, ha3, ha4, trivial⟩, ?_⟩)
          refine T_takeA (i := 36) rfl rfl (by kernel_rfl) (by kernel_rfl) (by kernel_rfl) (Y_no rfl rfl rfl rfl) ⟨hD, hE, hb2, hb4, ha3, ha4, trivial⟩ rfl ?_
          refine T_takeA (i := 37) rfl rfl (by kernel_rfl) (by kernel_rfl) (by kernel_rfl) (Y_of (fun _ ⟨hD, hE, hb2, hb4, ha3, ha4, _⟩ => R_pickT rfl rfl rfl)) ⟨hD, hE, hb2, hb4, ha3, ha4, trivial⟩ rfl ?_
          refine T_takeA (i := 38) rfl rfl (by kernel_rfl) (by kernel_rfl) (by kernel_rfl) (Y_of (fun _ ⟨hD, hE, hb2, hb4, ha3, ha4, _⟩ => R_move rfl)) ⟨hD, hE, hb2, hb4, ha3, ha4, trivial⟩ rfl ?_
          refine T_takeA (i := 39) rfl rfl (by kernel_rfl) (by kernel_rfl) (by kernel_rfl) (Y_no rfl rfl rfl rfl) ⟨hD, hE, hb2, hb4, ha3, ha4, trivial⟩ rfl ?_
          refine T_takeA (i := 40) rfl rfl (by kernel_rfl) (by kernel_rfl) (by kernel_rfl) (Y_no rfl rfl rfl rfl) ⟨hD, hE, hb2, hb4, ha3, ha4, trivial⟩ rfl ?_
          refine T_takeA (i := 41) rfl rfl (by kernel_rfl) (by kernel_rfl) (by kernel_rfl) (Y_no rfl rfl rfl rfl) ⟨hD, hE, hb2, hb4, ha3, ha4, trivial⟩ rfl ?_
          refine T_takeA (i := 42) rfl rfl (by kernel_rfl) (by kernel_rfl) (by kernel_rfl) (Y_no rfl rfl rfl rfl) ⟨hD, hE, hb2, hb4, ha3, ha4, trivial⟩ rfl ?_
          refine T_takeA (i := 43) rfl rfl (by kernel_rfl) (by kernel_rfl) (by kernel_rfl) (Y_no rfl rfl rfl rfl) ⟨hD, hE, hb2, hb4, ha3, ha4, trivial⟩ rfl ?_
          refine T_takeA (i := 44) rfl rfl (by kernel_rfl) (by kernel_rfl) (by kernel_rfl) (Y_no rfl rfl rfl rfl) ⟨hD, hE, hb2, hb4, ha3, ha4, trivial⟩ rfl ?_
          refine T_takeA (i := 45) rfl rfl (by kernel_rfl) (by kernel_rfl) (by kernel_rfl) (Y_no rfl rfl rfl rfl) ⟨hD, hE, hb2, hb4, ha3, ha4, trivial⟩ rfl ?_
          refine T_takeA (i := 46) rfl rfl (by kernel_rfl) (by kernel_rfl) (by kernel_rfl) (Y_of (fun _ ⟨hD, hE, hb2, hb4, ha3, ha4, _⟩ => R_pickT rfl rfl rfl)) ⟨hD, hE, hb2, hb4, ha3, ha4, trivial⟩ rfl ?_
          refine T_takeA (i := 47) rfl rfl (by kernel_rfl) (by kernel_rfl) (by kernel_rfl) (Y_of (fun _ ⟨hD, hE, hb2, hb4, ha3, ha4, _⟩ => R_move rfl)) ⟨hD, hE, hb2, hb4, ha3, ha4, trivial⟩ rfl ?_
          refine T_takeA (i := 48) rfl rfl (by kernel_rfl) (by kernel_rfl) (by kernel_rfl) (Y_no rfl rfl rfl rfl) ⟨hD, hE, hb2, hb4, ha3, ha4, trivial⟩ rfl ?_
          refine T_takeA (i := 49) rfl rfl (by kernel_rfl) (by kernel_rfl) (by kernel_rfl) (Y_no rfl rfl rfl rfl) ⟨hD, hE, hb2, hb4, ha3, ha4, trivial⟩ rfl ?_
          refine T_takeA (i := 50) rfl rfl (by kernel_rfl) (by kernel_rfl) (by kernel_rfl) (Y_no rfl rfl rfl rfl) ⟨hD, hE, hb2, hb4, ha3, ha4, trivial⟩ rfl ?_
          refine T_takeA (i := 51) rfl rfl (by kernel_rfl) (by kernel_rfl) (by kernel_rfl) (Y_no rfl rfl rfl rfl) ⟨hD, hE, hb2, hb4, ha3, ha4, trivial⟩ rfl ?_
          refine T_takeA (i := 52) rfl rfl (by kernel_rfl) (by kernel_rfl) (by kernel_rfl) (Y_no rfl rfl rfl rfl) ⟨hD, hE, hb2, hb4, ha3, ha4, trivial⟩ rfl ?_
          refine T_takeA (i := 53) rfl rfl (by kernel_rfl) (by kernel_rfl) (by kernel_rfl) (Y_of (fun _ ⟨hD, hE, hb2, hb4, ha3, ha4, _⟩ => R_pickT rfl rfl rfl)) ⟨hD, hE, hb2, hb4, ha3, ha4, trivial⟩ rfl ?_
          refine T_takeA (i := 54) rfl rfl (by kernel_rfl) (by kernel_rfl) (by kernel_rfl) (Y_of (fun _ ⟨hD, hE, hb2, hb4, ha3, ha4, _⟩ => R_move rfl)) ⟨hD, hE, hb2, hb4, ha3, ha4, trivial⟩ rfl ?_
          refine T_takeA (i := 55) rfl rfl (by kernel_rfl) (by kernel_rfl) (by kernel_rfl) (Y_no rfl rfl rfl rfl) ⟨hD, hE, hb2, hb4, ha3, ha4, trivial⟩ rfl ?_
          refine T_takeA (i := 56) rfl rfl (by kernel_rfl) (by kernel_rfl) (by kernel_rfl) (Y_no rfl rfl rfl rfl) ⟨hD, hE, hb2, hb4, ha3, ha4, trivial⟩ rfl ?_
          refine T_takeA (i := 57) rfl rfl (by kernel_rfl) (by kernel_rfl) (by kernel_rfl) (Y_no rfl rfl rfl rfl) ⟨hD, hE, hb2, hb4, ha3, ha4, trivial⟩ rfl ?_
          refine T_takeA (i := 58) rfl rfl (by kernel_rfl) (by kernel_rfl) (by kernel_rfl) (Y_no rfl rfl rfl rfl) ⟨hD, hE, hb2, hb4, ha3, ha4, trivial⟩ rfl ?_
          refine T_takeA (i := 59) rfl rfl (by kernel_rfl) (by kernel_rfl) (by kernel_rfl) (Y_no rfl rfl rfl rfl) ⟨hD, hE, hb2, hb4, ha3, ha4, trivial⟩ rfl ?_
          refine T_takeA (i := 60) rfl rfl (by kernel_rfl) (by kernel_rfl) (by kernel_rfl) (Y_of (fun _ ⟨hD, hE, hb2, hb4, ha3, ha4, _⟩ => R_pickT rfl rfl rfl)) ⟨hD, hE, hb2, hb4, ha3, ha4, trivial⟩ rfl ?_
          refine T_done (by kernel_rfl) (NoPanic.normal ?_)
          refine N_then (C_condT rfl rfl (C_seq (C_reg ?_)))
          refine L_run (R_assign rfl) rfl ?_
          refine L_nil (N_then (C_ret (R_in (R_then (R_then (R_in (R_then ?_)))))))
          refine ret1 Try.results57 rfl ?_
          exact ⟨hB, bF (ps_ne (k := k) (by omega) (by omega) (fun h => by have q_ := step_eq.1 h; first | omega | simp_all))⟩
        · refine T_takeA (i := 12) rfl rfl (by kernel_rfl) (by kernel_rfl) (by kernel_rfl) (Y_yes rfl rfl rfl (decide_eq_false h3) (fun _ ⟨hD, hE, hb2, hb4, ha3, ha4, _⟩ => R_move rfl)) ⟨hD, hE, hb2, hb4, ha3, ha4, trivial⟩ rfl ?_
          refine T_takeA (i := 13) rfl rfl (by kernel_rfl) (by kernel_rfl) (by kernel_rfl) (Y_yes rfl rfl rfl (decide_eq_false h3) (fun _ ⟨hD, hE, hb2, hb4, ha3, ha4, _⟩ => R_move rfl)) ⟨hD, hE, hb2, hb4, ha3, ha4, trivial⟩ rfl ?_
          refine T_takeA (i := 14) rfl rfl (by kernel_rfl) (by kernel_rfl) (by kernel_rfl) (Y_yes rfl rfl rfl (decide_eq_false h3) (fun _ ⟨hD, hE, hb2, hb4, ha3, ha4, _⟩ => R_indexE rfl rfl (by first | rfl | omega) slc58 hl3 eA1 er1)) ⟨hD, hE, hb2, hb4, ha3, ha4, trivial⟩ rfl ?_
          refine T_takeA (i := 15) rfl rfl (by kernel_rfl) (by kernel_rfl) (by kernel_rfl) (Y_yes rfl rfl rfl (decide_eq_false h3) (fun _ ⟨hD, hE, hb2, hb4, ha3, ha4, _⟩ => R_field rfl fld65_1 rfl)) ⟨hD, hE, hb2, hb4, ha3, ha4, trivial⟩ rfl ?_
          refine T_takeA (i := 16) rfl rfl (by kernel_rfl) (by kernel_rfl) (by kernel_rfl) (Y_yes rfl rfl rfl (decide_eq_false h3) (fun _ ⟨hD, hE, hb2, hb4, ha3, ha4, _⟩ => R_load1 rfl scl3 (ha3 1 _ rfl))) ⟨hD, hE, hb2, hb4, ha3, ha4, trivial⟩ rfl ?_
          refine T_takeA (i := 17) rfl rfl (by kernel_rfl) (by kernel_rfl) (by kernel_rfl) (Y_yes rfl rfl rfl (decide_eq_false h3) (fun _ ⟨hD, hE, hb2, hb4, ha3, ha4, _⟩ => R_move rfl)) ⟨hD, hE, hb2, hb4, ha3, ha4, trivial⟩ rfl ?_
          refine T_takeA (i := 18) rfl rfl (by kernel_rfl) (by kernel_rfl) (by kernel_rfl) (Y_yes rfl rfl rfl (decide_eq_false h3) (fun _ ⟨hD, hE, hb2, hb4, ha3, ha4, _⟩ => R_move rfl)) ⟨hD, hE, hb2, hb4, ha3, ha4, trivial⟩ rfl ?_
          refine T_takeA (i := 19) rfl rfl (by kernel_rfl) (by kernel_rfl) (by kernel_rfl) (Y_yes rfl rfl rfl (decide_eq_false h3) (fun _ ⟨hD, hE, hb2, hb4, ha3, ha4, _⟩ => R_indexE rfl rfl (by first | rfl | omega) slc58 hl4 eA2 er2)) ⟨hD, hE, hb2, hb4, ha3, ha4, trivial⟩ rfl ?_
          refine T_takeA (i := 20) rfl rfl (by kernel_rfl) (by kernel_rfl) (by kernel_rfl) (Y_yes rfl rfl rfl (decide_eq_false h3) (fun _ ⟨hD, hE, hb2, hb4, ha3, ha4, _⟩ => R_field rfl fld65_1 rfl)) ⟨hD, hE, hb2, hb4, ha3, ha4, trivial⟩ rfl ?_
          refine T_takeA (i := 21) rfl rfl (by kernel_rfl) (by kernel_rfl) (by kernel_rfl) (Y_yes rfl rfl rfl (decide_eq_false h3) (fun _ ⟨hD, hE, hb2, hb4, ha3, ha4, _⟩ => R_load1 rfl scl3 (ha4 1 _ rfl))) ⟨hD, hE, hb2, hb4, ha3, ha4, trivial⟩ rfl ?_
          refine T_takeA (i := 22) rfl rfl (by kernel_rfl) (by kernel_rfl) (by kernel_rfl) (Y_yes rfl rfl rfl (decide_eq_false h3) (fun _ ⟨hD, hE, hb2, hb4, ha3, ha4, _⟩ => R_neq rfl rfl)) ⟨hD, hE, hb2, hb4, ha3, ha4, trivial⟩ rfl ?_
          refine T_takeA (i := 23) rfl rfl (by kernel_rfl) (by kernel_rfl) (by kernel_rfl) (Y_of (fun _ ⟨hD, hE, hb2, hb4, ha3, ha4, _⟩ => R_pickF rfl (decide_eq_false h3) rfl)) ⟨hD, hE, hb2, hb4, ha3, ha4, trivial⟩ rfl ?_
          refine T_takeA (i := 24) rfl rfl (by kernel_rfl) (by kernel_rfl) (by kernel_rfl) (Y_of (fun _ ⟨hD, hE, hb2, hb4, ha3, ha4, _⟩ => R_move rfl)) ⟨hD, hE, hb2, hb4, ha3, ha4, trivial⟩ rfl ?_
          by_cases h4 : (a[k]).p.n ≠ (b[k]).p.n
          · refine T_takeA (i := 25) rfl rfl (by kernel_rfl) (by kernel_rfl) (by kernel_rfl) (Y_no rfl rfl rfl (decide_eq_true h4)) ⟨hD, hE, hb2, hb4, ha3, ha4, trivial⟩ rfl ?_
            refine T_takeA (i := 26) rfl rfl (by kernel_rfl) (by kernel_rfl) (by kernel_rfl) (Y_no rfl rfl rfl (decide_eq_true h4)) ⟨hD, hE, hb2, hb4, ha3, ha4, trivial⟩ rfl ?_
            refine T_takeA (i := 27) rfl rfl (by kernel_rfl) (by kernel_rfl) (by kernel_rfl) (Y_no rfl rfl rfl (decide_eq_true h4)) ⟨hD, hE, hb2, hb4, ha3, ha4, trivial⟩ rfl ?_
            refine T_takeA (i := 28) rfl rfl (by kernel_rfl) (by kernel_rfl) (by kernel_rfl) (Y_no rfl rfl rfl (decide_eq_true h4)) ⟨hD, hE, hb2, hb4, ha3, ha4, trivial⟩ rfl ?_
            refine T_takeA (i := 29) rfl rfl (by kernel_rfl) (by kernel_rfl) (by kernel_rfl) (Y_no rfl rfl rfl (decide_eq_true h4)) ⟨hD, hE, hb2, hb4, ha3, ha4, trivial⟩ rfl ?_
            refine T_takeA (i := 30) rfl rfl (by kernel_rfl) (by kernel_rfl) (by kernel_rfl) (Y_no rfl rfl rfl (decide_eq_true h4)) ⟨hD, hE, hb2, hb4, ha3, ha4, trivial⟩ rfl ?_
            refine T_takeA (i := 31) rfl rfl (by kernel_rfl) (by kernel_rfl) (by kernel_rfl) (Y_no rfl rfl rfl (decide_eq_true h4)) ⟨hD, hE, hb2, hb4, ha3, ha4, trivial⟩ rfl ?_
            refine T_takeA (i := 32) rfl rfl (by kernel_rfl) (by kernel_rfl) (by kernel_rfl) (Y_no rfl rfl rfl (decide_eq_true h4)) ⟨hD, hE, hb2, hb4, ha3, ha4, trivial⟩ rfl ?_
            refine T_takeA (i := 33) rfl rfl (by kernel_rfl) (by kernel_rfl) (by kernel_rfl) (Y_no rfl rfl rfl (decide_eq_true h4)) ⟨hD, hE, hb2, hb4, ha3, ha4, trivial⟩ rfl ?_
            refine T_takeA (i := 34) rfl rfl (by kernel_rfl) (by kernel_rfl) (by kernel_rfl) (Y_no rfl rfl rfl (decide_eq_true h4)) ⟨hD, hE, hb2, hb4, ha3, ha4, trivial⟩ rfl ?_
            refine T_all (rs := [35]) (by kernel_rfl) rfl (all1 (O_one rfl ?_))
            refine L_no rfl rfl rfl (decide_eq_true h4) rfl ?_
            refine L_nil (N_then ⟨fun hN_ => ⟨hD, hE, hb2, hb4, ha3, ha4, trivial⟩, ?_⟩)
            refine T_takeA (i := 36) rfl rfl (by kernel_rfl) (by kernel_rfl) (by kernel_rfl) (Y_no rfl rfl rfl (decide_eq_true h4)) ⟨hD, hE, hb2, hb4, ha3, ha4, trivial⟩ rfl ?_
            refine T_takeA (i := 37) rfl rfl (by kernel_rfl) (by kernel_rfl) (by kernel_rfl) (Y_of (fun _ ⟨hD, hE, hb2, hb4, ha3, ha4, _⟩ => R_pickT rfl (decide_eq_true h4) rfl)) ⟨hD, hE, hb2, hb4, ha3, ha4, trivial⟩ rfl ?_
            refine T_takeA (i := 38) rfl rfl (by kernel_rfl) (by kernel_rfl) (by kernel_rfl) (Y_of (fun _ ⟨hD, hE, hb2, hb4, ha3, ha4, _⟩ => R_move rfl)) ⟨hD, hE, hb2, hb4, ha3, ha4, trivial⟩ rfl ?_
            refine T_takeA (i := 39) rfl rfl (by kernel_rfl) (by kernel_rfl) (by kernel_rfl) (Y_no rfl rfl rfl rfl) ⟨hD, hE, hb2, hb4, ha3, ha4, trivial⟩ rfl ?_
            refine T_takeA (i := 40) rfl rfl (by kernel_rfl) (by kernel_rfl) (by kernel_rfl) (Y_no rfl rfl rfl rfl) ⟨hD, hE, hb2, hb4, ha3, ha4, trivial⟩ rfl ?_
            refine T_takeA (i := 41) rfl rfl (by kernel_rfl) (by kernel_rfl) (by kernel_rfl) (Y_no rfl rfl rfl rfl) ⟨hD, hE, hb2, hb4, ha3, ha4, trivial⟩ rfl ?_
            refine T_takeA (i := 42) rfl rfl (by kernel_rfl) (by kernel_rfl) (by kernel_rfl) (Y_no rfl rfl rfl rfl) ⟨hD, hE, hb2, hb4, ha3, ha4, trivial⟩ rfl ?_
            refine T_takeA (i := 43) rfl rfl (by kernel_rfl) (by kernel_rfl) (by kernel_rfl) (Y_no rfl rfl rfl rfl) ⟨hD, hE, hb2, hb4, ha3, ha4, trivial⟩ rfl ?_
            refine T_takeA (i := 44) rfl rfl (by kernel_rfl) (by kernel_rfl) (by kernel_rfl) (Y_no rfl rfl rfl rfl) ⟨hD, hE, hb2, hb4, ha3, ha4, trivial⟩ rfl ?_
            refine T_takeA (i := 45) rfl rfl (by kernel_rfl) (by kernel_rfl) (by kernel_rfl) (Y_no rfl rfl rfl rfl) ⟨hD, hE, hb2, hb4, ha3, ha4, trivial⟩ rfl ?_
            refine T_takeA (i := 46) rfl rfl (by kernel_rfl) (by kernel_rfl) (by kernel_rfl) (Y_of (fun _ ⟨hD, hE, hb2, hb4, ha3, ha4, _⟩ => R_pickT rfl rfl rfl)) ⟨hD, hE, hb2, hb4, ha3, ha4, trivial⟩ rfl ?_
            refine T_takeA (i := 47) rfl rfl (by kernel_rfl) (by kernel_rfl) (by kernel_rfl) (Y_of (fun _ ⟨hD, hE, hb2, hb4, ha3, ha4, _⟩ => R_move rfl)) ⟨hD, hE, hb2, hb4, ha3, ha4, trivial⟩ rfl ?_
            refine T_takeA (i := 48) rfl rfl (by kernel_rfl) (by kernel_rfl) (by kernel_rfl) (Y_no rfl rfl rfl rfl) ⟨hD, hE, hb2, hb4, ha3, ha4, trivial⟩ rfl ?_
            refine T_takeA (i := 49) rfl rfl (by kernel_rfl) (by kernel_rfl) (by kernel_rfl) (Y_no rfl rfl rfl rfl) ⟨hD, hE, hb2, hb4, ha3, ha4, trivial⟩ rfl ?_
            refine T_takeA (i := 50) rfl rfl (by kernel_rfl) (by kernel_rfl) (by kernel_rfl) (Y_no rfl rfl rfl rfl) ⟨hD, hE, hb2, hb4, ha3, ha4, trivial⟩ rfl ?_
            refine T_takeA (i := 51) rfl rfl (by kernel_rfl) (by kernel_rfl) (by kernel_rfl) (Y_no rfl rfl rfl rfl) ⟨hD, hE, hb2, hb4, ha3, ha4, trivial⟩ rfl ?_
            refine T_takeA (i := 52) rfl rfl (by kernel_rfl) (by kernel_rfl) (by kernel_rfl) (Y_no rfl rfl rfl rfl) ⟨hD, hE, hb2, hb4, ha3, ha4, trivial⟩ rfl ?_
            refine T_takeA (i := 53) rfl rfl (by kernel_rfl) (by kernel_rfl) (by kernel_rfl) (Y_of (fun _ ⟨hD, hE, hb2, hb4, ha3, ha4, _⟩ => R_pickT rfl rfl rfl)) ⟨hD, hE, hb2, hb4, ha3, ha4, trivial⟩ rfl ?_
            refine T_takeA (i := 54) rfl rfl (by kernel_rfl) (by kernel_rfl) (by kernel_rfl) (Y_of (fun _ ⟨hD, hE, hb2, hb4, ha3, ha4, _⟩ => R_move rfl)) ⟨hD, hE, hb2, hb4, ha3, ha4, trivial⟩ rfl ?_
            refine T_takeA (i := 55) rfl rfl (by kernel_rfl) (by kernel_rfl) (by kernel_rfl) (Y_no rfl rfl rfl rfl) ⟨hD, hE, hb2, hb4, ha3, ha4, trivial⟩ rfl ?_
            refine T_takeA (i := 56) rfl rfl (by kernel_rfl) (by kernel_rfl) (by kernel_rfl) (Y_no rfl rfl rfl rfl) ⟨hD, hE, hb2, hb4, ha3, ha4, trivial⟩ rfl ?_
            refine T_takeA (i := 57) rfl rfl (by kernel_rfl) (by kernel_rfl) (by kernel_rfl) (Y_no rfl rfl rfl rfl) ⟨hD, hE, hb2, hb4, ha3, ha4, trivial⟩ rfl ?_
            refine T_takeA (i := 58) rfl rfl (by kernel_rfl) (by kernel_rfl) (by kernel_rfl) (Y_no rfl rfl rfl rfl) ⟨hD, hE, hb2, hb4, ha3, ha4, trivial⟩ rfl ?_
            refine T_takeA (i := 59) rfl rfl (by kernel_rfl) (by kernel_rfl) (by kernel_rfl) (Y_no rfl rfl rfl rfl) ⟨hD, hE, hb2, hb4, ha3, ha4, trivial⟩ rfl ?_
            refine T_takeA (i := 60) rfl rfl (by kernel_rfl) (by kernel_rfl) (by kernel_rfl) (Y_of (fun _ ⟨hD, hE, hb2, hb4, ha3, ha4, _⟩ => R_pickT rfl rfl rfl)) ⟨hD, hE, hb2, hb4, ha3, ha4, trivial⟩ rfl ?_
            refine T_done (by kernel_rfl) (NoPanic.normal ?_)
            refine N_then (C_condT rfl rfl (C_seq (C_reg ?_)))
            refine L_run (R_assign rfl) rfl ?_
            refine L_nil (N_then (C_ret (R_in (R_then (R_then (R_in (R_then ?_)))))))
            refine ret1 Try.results57 rfl ?_
            exact ⟨hB, bF (ps_ne (k := k) (by omega) (by omega) (fun h => by have q_ := step_eq.1 h; first | omega | simp_all))⟩
          · refine T_takeA (i := 25) rfl rfl (by kernel_rfl) (by kernel_rfl) (by kernel_rfl) (Y_yes rfl rfl rfl (decide_eq_false h4) (fun _ ⟨hD, hE, hb2, hb4, ha3, ha4, _⟩ => R_move rfl)) ⟨hD, hE, hb2, hb4, ha3, ha4, trivial⟩ rfl ?_
            refine T_takeA (i := 26) rfl rfl (by kernel_rfl) (by kernel_rfl) (by kernel_rfl) (Y_yes rfl rfl rfl (decide_eq_false h4) (fun _ ⟨hD, hE, hb2, hb4, ha3, ha4, _⟩ => R_move rfl)) ⟨hD, hE, hb2, hb4, ha3, ha4, trivial⟩ rfl ?_
            refine T_takeA (i := 27) rfl rfl (by kernel_rfl) (by kernel_rfl) (by kernel_rfl) (Y_yes rfl rfl rfl (decide_eq_false h4) (fun _ ⟨hD, hE, hb2, hb4, ha3, ha4, _⟩ => R_indexE rfl rfl (by first | rfl | omega) slc58 hl3 eA1 er1)) ⟨hD, hE, hb2, hb4, ha3, ha4, trivial⟩ rfl ?_
            refine T_takeA (i := 28) rfl rfl (by kernel_rfl) (by kernel_rfl) (by kernel_rfl) (Y_yes rfl rfl rfl (decide_eq_false h4) (fun _ ⟨hD, hE, hb2, hb4, ha3, ha4, _⟩ => R_field rfl fld65_2 rfl)) ⟨hD, hE, hb2, hb4, ha3, ha4, trivial⟩ rfl ?_
            refine T_takeA (i := 29) rfl rfl (by kernel_rfl) (by kernel_rfl) (by kernel_rfl) (Y_yes rfl rfl rfl (decide_eq_false h4) (fun _ ⟨hD, hE, hb2, hb4, ha3, ha4, _⟩ => R_load1 rfl scl22 (ha3 2 _ rfl))) ⟨hD, hE, hb2, hb4, ha3, ha4, trivial⟩ rfl ?_
            refine T_takeA (i := 30) rfl rfl (by kernel_rfl) (by kernel_rfl) (by kernel_rfl) (Y_yes rfl rfl rfl (decide_eq_false h4) (fun _ ⟨hD, hE, hb2, hb4, ha3, ha4, _⟩ => R_move rfl)) ⟨hD, hE, hb2, hb4, ha3, ha4, trivial⟩ rfl ?_
            refine T_takeA (i := 31) rfl rfl (by kernel_rfl) (by kernel_rfl) (by kernel_rfl) (Y_yes rfl rfl rfl (decide_eq_false h4) (fun _ ⟨hD, hE, hb2, hb4, ha3, ha4, _⟩ => R_move rfl)) ⟨hD, hE, hb2, hb4, ha3, ha4, trivial⟩ rfl ?_
            refine T_takeA (i := 32) rfl rfl (by kernel_rfl) (by kernel_rfl) (by kernel_rfl) (Y_yes rfl rfl rfl (decide_eq_false h4) (fun _ ⟨hD, hE, hb2, hb4, ha3, ha4, _⟩ => R_indexE rfl rfl (by first | rfl | omega) slc58 hl4 eA2 er2)) ⟨hD, hE, hb2, hb4, ha3, ha4, trivial⟩ rfl ?_
            refine T_takeA (i := 33) rfl rfl (by kernel_rfl) (by kernel_rfl) (by kernel_rfl) (Y_yes rfl rfl rfl (decide_eq_false h4) (fun _ ⟨hD, hE, hb2, hb4, ha3, ha4, _⟩ => R_field rfl fld65_2 rfl)) ⟨hD, hE, hb2, hb4, ha3, ha4, trivial⟩ rfl ?_
            refine T_takeA (i := 34) rfl rfl (by kernel_rfl) (by kernel_rfl) (by kernel_rfl) (Y_yes rfl rfl rfl (decide_eq_false h4) (fun _ ⟨hD, hE, hb2, hb4, ha3, ha4, _⟩ => R_load1 rfl scl22 (ha4 2 _ rfl))) ⟨hD, hE, hb2, hb4, ha3, ha4, trivial⟩ rfl ?_
            refine T_all (rs := [35]) (by kernel_rfl) rfl (all1 (O_one rfl ?_))
            refine L_yes rfl rfl rfl (decide_eq_false h4) ?_
            refine L_call rfl cb15 (ref10_Same (a := (a[k]).p.ops) (b := (b[k]).p.ops) (hD.getO (i := k) (by first | assumption | omega | (simp; omega))) (hE.getO (i := k) (by first | assumption | omega | (simp; omega))) (by have h_ := (hfa _ (List.getElem_mem (show k < a.length by omega))).1; omega)) rfl ?_
            rintro _ w7 ⟨hs6, rfl⟩
            replace hB := gb_tr hB hs6
            replace hS := hS.gb hs6
            replace hF := hF.gb hs6
            replace hD := hD.gb hs6
            replace hE := hE.gb hs6
            replace hb2 := hb2.gb hs6
            replace hb4 := hb4.gb hs6
            replace ha3 := At.gb ha3 hs6 (by simp)
            replace ha4 := At.gb ha4 hs6 (by simp)
            refine L_nil (N_then ⟨fun hN_ => ⟨hD, hE, hb2, hb4, ha3, ha4, trivial⟩, ?_⟩)
            refine T_takeA (i := 36) rfl rfl (by kernel_rfl) (by kernel_rfl) (by kernel_rfl) (Y_yes rfl rfl rfl (decide_eq_false h4) (fun _ ⟨hD, hE, hb2, hb4, ha3, ha4, _⟩ => R_notD rfl)) ⟨hD, hE, hb2, hb4, ha3, ha4, trivial⟩ rfl ?_
            refine T_takeA (i := 37) rfl rfl (by kernel_rfl) (by kernel_rfl) (by kernel_rfl) (Y_of (fun _ ⟨hD, hE, hb2, hb4, ha3, ha4, _⟩ => R_pickF rfl (decide_eq_false h4) rfl)) ⟨hD, hE, hb2, hb4, ha3, ha4, trivial⟩ rfl ?_
            refine T_takeA (i := 38) rfl rfl (by kernel_rfl) (by kernel_rfl) (by kernel_rfl) (Y_of (fun _ ⟨hD, hE, hb2, hb4, ha3, ha4, _⟩ => R_move rfl)) ⟨hD, hE, hb2, hb4, ha3, ha4, trivial⟩ rfl ?_
            by_cases h5 : ¬ (((a[k]).p.ops) = ((b[k]).p.ops))
            · refine T_takeA (i := 39) rfl rfl (by kernel_rfl) (by kernel_rfl) (by kernel_rfl) (Y_no rfl rfl rfl (decide_eq_true h5)) ⟨hD, hE, hb2, hb4, ha3, ha4, trivial⟩ rfl ?_
              refine T_takeA (i := 40) rfl rfl (by kernel_rfl) (by kernel_rfl) (by kernel_rfl) (Y_no rfl rfl rfl (decide_eq_true h5)) ⟨hD, hE, hb2, hb4, ha3, ha4, trivial⟩ rfl ?_
              refine T_takeA (i := 41) rfl rfl (by kernel_rfl) (by kernel_rfl) (by kernel_rfl) (Y_no rfl rfl rfl (decide_eq_true h5)) ⟨hD, hE, hb2, hb4, ha3, ha4, trivial⟩ rfl ?_
              refine T_takeA (i := 42) rfl rfl (by kernel_rfl) (by kernel_rfl) (by kernel_rfl) (Y_no rfl rfl rfl (decide_eq_true h5)) ⟨hD, hE, hb2, hb4, ha3, ha4, trivial⟩ rfl ?_
              refine T_takeA (i := 43) rfl rfl (by kernel_rfl) (by kernel_rfl) (by kernel_rfl) (Y_no rfl rfl rfl (decide_eq_true h5)) ⟨hD, hE, hb2, hb4, ha3, ha4, trivial⟩ rfl ?_
              refine T_takeA (i := 44) rfl rfl (by kernel_rfl) (by kernel_rfl) (by kernel_rfl) (Y_no rfl rfl rfl (decide_eq_true h5)) ⟨hD, hE, hb2, hb4, ha3, ha4, trivial⟩ rfl ?_
              refine T_takeA (i := 45) rfl rfl (by kernel_rfl) (by kernel_rfl) (by kernel_rfl) (Y_no rfl rfl rfl (decide_eq_true h5)) ⟨hD, hE, hb2, hb4, ha3, ha4, trivial⟩ rfl ?_
              refine T_takeA (i := 46) rfl rfl (by kernel_rfl) (by kernel_rfl) (by kernel_rfl) (Y_of (fun _ ⟨hD, hE, hb2, hb4, ha3, ha4, _⟩ => R_pickT rfl (decide_eq_true h5) rfl)) ⟨hD, hE, hb2, hb4, ha3, ha4, trivial⟩ rfl ?_
              refine T_takeA (i := 47) rfl rfl (by kernel_rfl) (by kernel_rfl) (by kernel_rfl) (Y_of (fun _ ⟨hD, hE, hb2, hb4, ha3, ha4, _⟩ => R_move rfl)) ⟨hD, hE, hb2, hb4, ha3, ha4, trivial⟩ rfl ?_
              refine T_takeA (i := 48) rfl rfl (by kernel_rfl) (by kernel_rfl) (by kernel_rfl) (Y_no rfl rfl rfl rfl) ⟨hD, hE, hb2, hb4, ha3, ha4, trivial⟩ rfl ?_
              refine T_takeA (i := 49) rfl rfl (by kernel_rfl) (by kernel_rfl) (by kernel_rfl) (Y_no rfl rfl rfl rfl) ⟨hD, hE, hb2, hb4, ha3, ha4, trivial⟩ rfl ?_
              refine T_takeA (i := 50) rfl rfl (by kernel_rfl) (by kernel_rfl) (by kernel_rfl) (Y_no rfl rfl rfl rfl) ⟨hD, hE, hb2, hb4, ha3, ha4, trivial⟩ rfl ?_
              refine T_takeA (i := 51) rfl rfl (by kernel_rfl) (by kernel_rfl) (by kernel_rfl) (Y_no rfl rfl rfl rfl) ⟨hD, hE, hb2, hb4, ha3, ha4, trivial⟩ rfl ?_
              refine T_takeA (i := 52) rfl rfl (by kernel_rfl) (by kernel_rfl) (by kernel_rfl) (Y_no rfl rfl rfl rfl) ⟨hD, hE, hb2, hb4, ha3, ha4, trivial⟩ rfl ?_
              refine T_takeA (i := 53) rfl rfl (by kernel_rfl) (by kernel_rfl) (by kernel_rfl) (Y_of (fun _ ⟨hD, hE, hb2, hb4, ha3, ha4, _⟩ => R_pickT rfl rfl rfl)) ⟨hD, hE, hb2, hb4, ha3, ha4, trivial⟩ rfl ?_
              refine T_takeA (i := 54) rfl rfl (by kernel_rfl) (by kernel_rfl) (by kernel_rfl) (Y_of (fun _ ⟨hD, hE, hb2, hb4, ha3, ha4, _⟩ => R_move rfl)) ⟨hD, hE, hb2, hb4, ha3, ha4, trivial⟩ rfl ?_
              refine T_takeA (i := 55) rfl rfl (by kernel_rfl) (by kernel_rfl) (by kernel_rfl) (Y_no rfl rfl rfl rfl) ⟨hD, hE, hb2, hb4, ha3, ha4, trivial⟩ rfl ?_
              refine T_takeA (i := 56) rfl rfl (by kernel_rfl) (by kernel_rfl) (by kernel_rfl) (Y_no rfl rfl rfl rfl) ⟨hD, hE, hb2, hb4, ha3, ha4, trivial⟩ rfl ?_
              refine T_takeA (i := 57) rfl rfl (by kernel_rfl) (by kernel_rfl) (by kernel_rfl) (Y_no rfl rfl rfl rfl) ⟨hD, hE, hb2, hb4, ha3, ha4, trivial⟩ rfl ?_
              refine T_takeA (i := 58) rfl rfl (by kernel_rfl) (by kernel_rfl) (by kernel_rfl) (Y_no rfl rfl rfl rfl) ⟨hD, hE, hb2, hb4, ha3, ha4, trivial⟩ rfl ?_
              refine T_takeA (i := 59) rfl rfl (by kernel_rfl) (by kernel_rfl) (by kernel_rfl) (Y_no rfl rfl rfl rfl) ⟨hD, hE, hb2, hb4, ha3, ha4, trivial⟩ rfl ?_
              refine T_takeA (i := 60) rfl rfl (by kernel_rfl) (by kernel_rfl) (by kernel_rfl) (Y_of (fun _ ⟨hD, hE, hb2, hb4, ha3, ha4, _⟩ => R_pickT rfl rfl rfl)) ⟨hD, hE, hb2, hb4, ha3, ha4, trivial⟩ rfl ?_
              refine T_done (by kernel_rfl) (NoPanic.normal ?_)
              refine N_then (C_condT rfl rfl (C_seq (C_reg ?_)))
              refine L_run (R_assign rfl) rfl ?_
              refine L_nil (N_then (C_ret (R_in (R_then (R_then (R_in (R_then ?_)))))))
              refine ret1 Try.results57 rfl ?_
              exact ⟨hB, bF (ps_ne (k := k) (by omega) (by omega) (fun h => by have q_ := step_eq.1 h; first | omega | simp_all))⟩
            · refine T_takeA (i := 39) rfl rfl (by kernel_rfl) (by kernel_rfl) (by kernel_rfl) (Y_yes rfl rfl rfl (decide_eq_false h5) (fun _ ⟨hD, hE, hb2, hb4, ha3, ha4, _⟩ => R_field (r := 0) rfl fld63_0 rfl)) ⟨hD, hE, hb2, hb4, ha3, ha4, trivial⟩ rfl ?_
              refine T_takeA (i := 40) rfl rfl (by kernel_rfl) (by kernel_rfl) (by kernel_rfl) (Y_yes rfl rfl rfl (decide_eq_false h5) (fun _ ⟨hD, hE, hb2, hb4, ha3, ha4, _⟩ => R_load1 rfl scl42 (hb2.cell (i := 0) rfl))) ⟨hD, hE, hb2, hb4, ha3, ha4, trivial⟩ rfl ?_
              refine T_takeA (i := 41) rfl rfl (by kernel_rfl) (by kernel_rfl) (by kernel_rfl) (Y_yes rfl rfl rfl (decide_eq_false h5) (fun _ ⟨hD, hE, hb2, hb4, ha3, ha4, _⟩ => R_b2s' (bs := (a[k]).p.keep) rfl slc42 int5 str9 (hD.getK (i := k) (by first | assumption | omega | (simp; omega))))) ⟨hD, hE, hb2, hb4, ha3, ha4, trivial⟩ rfl ?_
              refine T_takeA (i := 42) rfl rfl (by kernel_rfl) (by kernel_rfl) (by kernel_rfl) (Y_yes rfl rfl rfl (decide_eq_false h5) (fun _ ⟨hD, hE, hb2, hb4, ha3, ha4, _⟩ => R_field (r := 0) rfl fld63_0 rfl)) ⟨hD, hE, hb2, hb4, ha3, ha4, trivial⟩ rfl ?_
              refine T_takeA (i := 43) rfl rfl (by kernel_rfl) (by kernel_rfl) (by kernel_rfl) (Y_yes rfl rfl rfl (decide_eq_false h5) (fun _ ⟨hD, hE, hb2, hb4, ha3, ha4, _⟩ => R_load1 rfl scl42 (hb4.cell (i := 0) rfl))) ⟨hD, hE, hb2, hb4, ha3, ha4, trivial⟩ rfl ?_
              refine T_takeA (i := 44) rfl rfl (by kernel_rfl) (by kernel_rfl) (by kernel_rfl) (Y_yes rfl rfl rfl (decide_eq_false h5) (fun _ ⟨hD, hE, hb2, hb4, ha3, ha4, _⟩ => R_b2s' (bs := (b[k]).p.keep) rfl slc42 int5 str9 (hE.getK (i := k) (by first | assumption | omega | (simp; omega))))) ⟨hD, hE, hb2, hb4, ha3, ha4, trivial⟩ rfl ?_
              refine T_takeA (i := 45) rfl rfl (by kernel_rfl) (by kernel_rfl) (by kernel_rfl) (Y_yes rfl rfl rfl (decide_eq_false h5) (fun _ ⟨hD, hE, hb2, hb4, ha3, ha4, _⟩ => R_eqv (R_neqS rfl rfl) (v' := .bool (decide (¬ (((a[k]).p.keep) = ((b[k]).p.keep))))) (bD (not_congr ba_inj)))) ⟨hD, hE, hb2, hb4, ha3, ha4, trivial⟩ rfl ?_
              refine T_takeA (i := 46) rfl rfl (by kernel_rfl) (by kernel_rfl) (by kernel_rfl) (Y_of (fun _ ⟨hD, hE, hb2, hb4, ha3, ha4, _⟩ => R_pickF rfl (decide_eq_false h5) rfl)) ⟨hD, hE, hb2, hb4, ha3, ha4, trivial⟩ rfl ?_
              refine T_takeA (i := 47) rfl rfl (by kernel_rfl) (by kernel_rfl) (by kernel_rfl) (Y_of (fun _ ⟨hD, hE, hb2, hb4, ha3, ha4, _⟩ => R_move rfl)) ⟨hD, hE, hb2, hb4, ha3, ha4, trivial⟩ rfl ?_
              by_cases h6 : ¬ (((a[k]).p.keep) = ((b[k]).p.keep))
              · refine T_takeA (i := 48) rfl rfl (by kernel_rfl) (by kernel_rfl) (by kernel_rfl) (Y_no rfl rfl rfl (decide_eq_true h6)) ⟨hD, hE, hb2, hb4, ha3, ha4, trivial⟩ rfl ?_
                refine T_takeA (i := 49) rfl rfl (by kernel_rfl) (by kernel_rfl) (by kernel_rfl) (Y_no rfl rfl rfl (decide_eq_true h6)) ⟨hD, hE, hb2, hb4, ha3, ha4, trivial⟩ rfl ?_
                refine T_takeA (i := 50) rfl rfl (by kernel_rfl) (by kernel_rfl) (by kernel_rfl) (Y_no rfl rfl rfl (decide_eq_true h6)) ⟨hD, hE, hb2, hb4, ha3, ha4, trivial⟩ rfl ?_
                refine T_takeA (i := 51) rfl rfl (by kernel_rfl) (by kernel_rfl) (by kernel_rfl) (Y_no rfl rfl rfl (decide_eq_true h6)) ⟨hD, hE, hb2, hb4, ha3, ha4, trivial⟩ rfl ?_
                refine T_takeA (i := 52) rfl rfl (by kernel_rfl) (by kernel_rfl) (by kernel_rfl) (Y_no rfl rfl rfl (decide_eq_true h6)) ⟨hD, hE, hb2, hb4, ha3, ha4, trivial⟩ rfl ?_
                refine T_takeA (i := 53) rfl rfl (by kernel_rfl) (by kernel_rfl) (by kernel_rfl) (Y_of (fun _ ⟨hD, hE, hb2, hb4, ha3, ha4, _⟩ => R_pickT rfl (decide_eq_true h6) rfl)) ⟨hD, hE, hb2, hb4, ha3, ha4, trivial⟩ rfl ?_
                refine T_takeA (i := 54) rfl rfl (by kernel_rfl) (by kernel_rfl) (by kernel_rfl) (Y_of (fun _ ⟨hD, hE, hb2, hb4, ha3, ha4, _⟩ => R_move rfl)) ⟨hD, hE, hb2, hb4, ha3, ha4, trivial⟩ rfl ?_
                refine T_takeA (i := 55) rfl rfl (by kernel_rfl) (by kernel_rfl) (by kernel_rfl) (Y_no rfl rfl rfl rfl) ⟨hD, hE, hb2, hb4, ha3, ha4, trivial⟩ rfl ?_
                refine T_takeA (i := 56) rfl rfl (by kernel_rfl) (by kernel_rfl) (by kernel_rfl) (Y_no rfl rfl rfl rfl) ⟨hD, hE, hb2, hb4, ha3, ha4, trivial⟩ rfl ?_
                refine T_takeA (i := 57) rfl rfl (by kernel_rfl) (by kernel_rfl) (by kernel_rfl) (Y_no rfl rfl rfl rfl) ⟨hD, hE, hb2, hb4, ha3, ha4, trivial⟩ rfl ?_
                refine T_takeA (i := 58) rfl rfl (by kernel_rfl) (by kernel_rfl) (by kernel_rfl) (Y_no rfl rfl rfl rfl) ⟨hD, hE, hb2, hb4, ha3, ha4, trivial⟩ rfl ?_
                refine T_takeA (i := 59) rfl rfl (by kernel_rfl) (by kernel_rfl) (by kernel_rfl) (Y_no rfl rfl rfl rfl) ⟨hD, hE, hb2, hb4, ha3, ha4, trivial⟩ rfl ?_
                refine T_takeA (i := 60) rfl rfl (by kernel_rfl) (by kernel_rfl) (by kernel_rfl) (Y_of (fun _ ⟨hD, hE, hb2, hb4, ha3, ha4, _⟩ => R_pickT rfl rfl rfl)) ⟨hD, hE, hb2, hb4, ha3, ha4, trivial⟩ rfl ?_
                refine T_done (by kernel_rfl) (NoPanic.normal ?_)
                refine N_then (C_condT rfl rfl (C_seq (C_reg ?_)))
                refine L_run (R_assign rfl) rfl ?_
                refine L_nil (N_then (C_ret (R_in (R_then (R_then (R_in (R_then ?_)))))))
                refine ret1 Try.results57 rfl ?_
                exact ⟨hB, bF (ps_ne (k := k) (by omega) (by omega) (fun h => by have q_ := step_eq.1 h; first | omega | simp_all))⟩
              · refine T_takeA (i := 48) rfl rfl (by kernel_rfl) (by kernel_rfl) (by kernel_rfl) (Y_yes rfl rfl rfl (decide_eq_false h6) (fun _ ⟨hD, hE, hb2, hb4, ha3, ha4, _⟩ => R_field (r := 1) rfl fld63_1 rfl)) ⟨hD, hE, hb2, hb4, ha3, ha4, trivial⟩ rfl ?_
                refine T_takeA (i := 49) rfl rfl (by kernel_rfl) (by kernel_rfl) (by kernel_rfl) (Y_yes rfl rfl rfl (decide_eq_false h6) (fun _ ⟨hD, hE, hb2, hb4, ha3, ha4, _⟩ => R_load1 rfl scl3 (hb2.cell (i := 1) rfl))) ⟨hD, hE, hb2, hb4, ha3, ha4, trivial⟩ rfl ?_
                refine T_takeA (i := 50) rfl rfl (by kernel_rfl) (by kernel_rfl) (by kernel_rfl) (Y_yes rfl rfl rfl (decide_eq_false h6) (fun _ ⟨hD, hE, hb2, hb4, ha3, ha4, _⟩ => R_field (r := 1) rfl fld63_1 rfl)) ⟨hD, hE, hb2, hb4, ha3, ha4, trivial⟩ rfl ?_
                refine T_takeA (i := 51) rfl rfl (by kernel_rfl) (by kernel_rfl) (by kernel_rfl) (Y_yes rfl rfl rfl (decide_eq_false h6) (fun _ ⟨hD, hE, hb2, hb4, ha3, ha4, _⟩ => R_load1 rfl scl3 (hb4.cell (i := 1) rfl))) ⟨hD, hE, hb2, hb4, ha3, ha4, trivial⟩ rfl ?_
                refine T_takeA (i := 52) rfl rfl (by kernel_rfl) (by kernel_rfl) (by kernel_rfl) (Y_yes rfl rfl rfl (decide_eq_false h6) (fun _ ⟨hD, hE, hb2, hb4, ha3, ha4, _⟩ => R_neq rfl rfl)) ⟨hD, hE, hb2, hb4, ha3, ha4, trivial⟩ rfl ?_
                refine T_takeA (i := 53) rfl rfl (by kernel_rfl) (by kernel_rfl) (by kernel_rfl) (Y_of (fun _ ⟨hD, hE, hb2, hb4, ha3, ha4, _⟩ => R_pickF rfl (decide_eq_false h6) rfl)) ⟨hD, hE, hb2, hb4, ha3, ha4, trivial⟩ rfl ?_
                refine T_takeA (i := 54) rfl rfl (by kernel_rfl) (by kernel_rfl) (by kernel_rfl) (Y_of (fun _ ⟨hD, hE, hb2, hb4, ha3, ha4, _⟩ => R_move rfl)) ⟨hD, hE, hb2, hb4, ha3, ha4, trivial⟩ rfl ?_
                by_cases h7 : (a[k]).p.torn ≠ (b[k]).p.torn
                · refine T_takeA (i := 55) rfl rfl (by kernel_rfl) (by kernel_rfl) (by kernel_rfl) (Y_no rfl rfl rfl (decide_eq_true h7)) ⟨hD, hE, hb2, hb4, ha3, ha4, trivial⟩ rfl ?_
                  refine T_takeA (i := 56) rfl rfl (by kernel_rfl) (by kernel_rfl) (by kernel_rfl) (Y_no rfl rfl rfl (decide_eq_true h7)) ⟨hD, hE, hb2, hb4, ha3, ha4, trivial⟩ rfl ?_
                  refine T_takeA (i := 57) rfl rfl (by kernel_rfl) (by kernel_rfl) (by kernel_rfl) (Y_no rfl rfl rfl (decide_eq_true h7)) ⟨hD, hE, hb2, hb4, ha3, ha4, trivial⟩ rfl ?_
                  refine T_takeA (i := 58) rfl rfl (by kernel_rfl) (by kernel_rfl) (by kernel_rfl) (Y_no rfl rfl rfl (decide_eq_true h7)) ⟨hD, hE, hb2, hb4, ha3, ha4, trivial⟩ rfl ?_
                  refine T_takeA (i := 59) rfl rfl (by kernel_rfl) (by kernel_rfl) (by kernel_rfl) (Y_no rfl rfl rfl (decide_eq_true h7)) ⟨hD, hE, hb2, hb4, ha3, ha4, trivial⟩ rfl ?_
                  refine T_takeA (i := 60) rfl rfl (by kernel_rfl) (by kernel_rfl) (by kernel_rfl) (Y_of (fun _ ⟨hD, hE, hb2, hb4, ha3, ha4, _⟩ => R_pickT rfl (decide_eq_true h7) rfl)) ⟨hD, hE, hb2, hb4, ha3, ha4, trivial⟩ rfl ?_
                  refine T_done (by kernel_rfl) (NoPanic.normal ?_)
                  refine N_then (C_condT rfl rfl (C_seq (C_reg ?_)))
                  refine L_run (R_assign rfl) rfl ?_
                  refine L_nil (N_then (C_ret (R_in (R_then (R_then (R_in (R_then ?_)))))))
                  refine ret1 Try.results57 rfl ?_
                  exact ⟨hB, bF (ps_ne (k := k) (by omega) (by omega) (fun h => by have q_ := step_eq.1 h; first | omega | simp_all))⟩
                · refine T_takeA (i := 55) rfl rfl (by kernel_rfl) (by kernel_rfl) (by kernel_rfl) (Y_yes rfl rfl rfl (decide_eq_false h7) (fun _ ⟨hD, hE, hb2, hb4, ha3, ha4, _⟩ => R_field (r := 2) rfl fld63_2 rfl)) ⟨hD, hE, hb2, hb4, ha3, ha4, trivial⟩ rfl ?_
                  refine T_takeA (i := 56) rfl rfl (by kernel_rfl) (by kernel_rfl) (by kernel_rfl) (Y_yes rfl rfl rfl (decide_eq_false h7) (fun _ ⟨hD, hE, hb2, hb4, ha3, ha4, _⟩ => R_load1 rfl scl3 (hb2.cell (i := 2) rfl))) ⟨hD, hE, hb2, hb4, ha3, ha4, trivial⟩ rfl ?_
                  refine T_takeA (i := 57) rfl rfl (by kernel_rfl) (by kernel_rfl) (by kernel_rfl) (Y_yes rfl rfl rfl (decide_eq_false h7) (fun _ ⟨hD, hE, hb2, hb4, ha3, ha4, _⟩ => R_field (r := 2) rfl fld63_2 rfl)) ⟨hD, hE, hb2, hb4, ha3, ha4, trivial⟩ rfl ?_
                  refine T_takeA (i := 58) rfl rfl (by kernel_rfl) (by kernel_rfl) (by kernel_rfl) (Y_yes rfl rfl rfl (decide_eq_false h7) (fun _ ⟨hD, hE, hb2, hb4, ha3, ha4, _⟩ => R_load1 rfl scl3 (hb4.cell (i := 2) rfl))) ⟨hD, hE, hb2, hb4, ha3, ha4, trivial⟩ rfl ?_
                  refine T_takeA (i := 59) rfl rfl (by kernel_rfl) (by kernel_rfl) (by kernel_rfl) (Y_yes rfl rfl rfl (decide_eq_false h7) (fun _ ⟨hD, hE, hb2, hb4, ha3, ha4, _⟩ => R_neq rfl rfl)) ⟨hD, hE, hb2, hb4, ha3, ha4, trivial⟩ rfl ?_
                  refine T_takeA (i := 60) rfl rfl (by kernel_rfl) (by kernel_rfl) (by kernel_rfl) (Y_of (fun _ ⟨hD, hE, hb2, hb4, ha3, ha4, _⟩ => R_pickF rfl (decide_eq_false h7) rfl)) ⟨hD, hE, hb2, hb4, ha3, ha4, trivial⟩ rfl ?_
                  refine T_done (by kernel_rfl) (NoPanic.normal ?_)
                  refine N_then ?_
                  refine C_if rfl (fun h8 => ?_) (fun h8 => ?_)
                  · refine C_seq (C_reg ?_)
                    refine L_run (R_assign rfl) rfl ?_
                    refine L_nil (N_then (C_ret (R_in (R_then (R_then (R_in (R_then ?_)))))))
                    refine ret1 Try.results57 rfl ?_
                    exact ⟨hB, bF (ps_ne (k := k) (by omega) (by omega) (fun h => by have q_ := step_eq.1 h; first | omega | simp_all))⟩
                  · refine C_skip (N_in (N_then (C_reg ?_)))
                    refine L_run (R_move rfl) rfl ?_
                    refine L_run (R_add64 rfl rfl (by omega)) rfl ?_
                    refine L_run (R_assign rfl) rfl ?_
                    refine L_nil (N_then ?_)
                    exact ⟨a.length - (k + 1), by omega, _, (k + 1), Ac_frg ⟨rfl, rfl, (agr rfl (by first | rfl | (congr 1; omega) | (congr 1; simp; done) | (congr 1; simp only [IntKind.wrap_u64, IntKind.wrap_i64, IntKind.wrap_u8]; omega) | (congr 1 <;> omega))), trivial⟩, hB, hS, hF, hD, hE, (by omega), (ps_succ hk2 (by omega) (by omega) (step_eq.2 ⟨by omega, by omega, by first | assumption | simp_all, by first | assumption | simp_all, by omega, by omega⟩)), rfl⟩
      · refine C_exit (X_then (X_then (X_hit (N_then (C_seq (C_reg ?_))))))
        refine L_run (R_assign rfl) rfl ?_
        refine L_nil (N_then (C_ret ?_))
        refine ret1 Try.results57 rfl ?_
        exact ⟨hB, bT (by rw [List.take_of_length_le (by omega), List.take_of_length_le (by omega)] at hk2; exact hk2)⟩

end Go.Proofs.Ytnggbodilhpohaa
