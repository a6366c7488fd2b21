/-
  For every number the law NameMakes returns true, and changes nothing that was there.
-/
import Derived.Test.YtnggbodilhpohaaCn
import Derived.WalkKit
import Derived.ProofKit
import Derived.OpenShut
import Derived.ShutString
import Derived.ChangeOld
import Derived.Below
import Derived.SizedLaws
namespace Go.Proofs.Ytnggbodilhpohaa.LNameMakes
open Go.RowKit Gw Pl
set_option linter.unusedVariables false
set_option linter.unusedSimpArgs false
theorem boo4 : Try.prog.underlying 4 = some .bool := by kernel_rfl
theorem cb27 : callB Try.prog 27 = true := by kernel_rfl
theorem cb28 : callB Try.prog 28 = true := by kernel_rfl
theorem cb29 : callB Try.prog 29 = true := by kernel_rfl
theorem cb30 : callB Try.prog 30 = true := by kernel_rfl
theorem walkyy {w : World} {n : Int} (hg1 : -9223372036854775808 ≤ n ∧ n ≤ 9223372036854775807) (hw : (1 ≤ n ∧ n ≤ 2147483647)) (hp : (0 ≤ n ∧ n ≤ 2)) :
    Runs Try.prog 6 #[.int .i64 n] w (fun v w' => w.grownBy w' none ∧ v = .bool true) := by
  have hB := gb_refl w none
  have hb : -9223372036854775808 ≤ n ∧ n ≤ 9223372036854775807 := hg1
  have hwl := wname_len n
  have hpl := pname_len n
  have hwn := wname_cons hw
  have hwo := okName_w hw
  have hW := nparse_w hw
  have hpn := pname_cons hp
  have hpo := okName_p hp
  have hP := nparse_p hp
  refine enter Try.func6 Try.ntmps6 rfl rfl ?_
  refine C_seq (C_reg ?_)
  refine L_run (R_assign rfl) rfl ?_
  refine L_nil (N_then (C_seq (C_reg ?_)))
  refine L_run (R_move rfl) rfl ?_
  refine L_call rfl cb31 (name_Wal (n := n) (by omega)) rfl ?_
  rintro _ w1 ⟨hs1, rfl⟩
  replace hB := gb_tr hB hs1
  refine L_run (R_move rfl) rfl ?_
  refine L_call rfl cb32 (name_Pool (n := n) (by omega)) rfl ?_
  rintro _ w2 ⟨hs2, rfl⟩
  replace hB := gb_tr hB hs2
  refine L_run (R_assign rfl) rfl ?_
  refine L_run (R_assign rfl) rfl ?_
  refine L_nil (N_then (C_seq (C_seq (C_reg ?_))))
  refine L_run (R_move rfl) rfl ?_
  refine L_run (R_move rfl) rfl ?_
  refine L_call rfl cb33 (ref05_Wal (n := n) (by omega)) rfl ?_
  rintro _ w3 ⟨hs3, rfl⟩
  replace hB := gb_tr hB hs3
  refine L_run (R_eqv (R_neqS rfl rfl) (v' := .bool false) (bF' (fun h => h rfl))) rfl ?_
  refine L_run (R_move rfl) rfl ?_
  refine L_yes rfl rfl rfl rfl ?_
  refine L_run (R_move rfl) rfl ?_
  refine L_yes rfl rfl rfl rfl ?_
  refine L_run (R_move rfl) rfl ?_
  refine L_yes rfl rfl rfl rfl ?_
  refine L_call rfl cb34 (ref05_Pool (n := n) (by omega)) rfl ?_
  rintro _ w4 ⟨hs4, rfl⟩
  replace hB := gb_tr hB hs4
  refine L_yes rfl rfl rfl rfl ?_
  refine L_run (R_eqv (R_neqS rfl rfl) (v' := .bool false) (bF' (fun h => h rfl))) rfl ?_
  refine L_run (R_pickF rfl rfl rfl) rfl ?_
  refine L_run (R_move rfl) rfl ?_
  refine L_yes rfl rfl rfl rfl ?_
  refine L_run (R_move rfl) rfl ?_
  refine L_yes rfl rfl rfl rfl ?_
  refine L_call rfl cb35 (name_Digits (n := n) (by omega)) rfl ?_
  rintro _ w5 ⟨hs5, rfl⟩
  replace hB := gb_tr hB hs5
  refine L_yes rfl rfl rfl rfl ?_
  refine L_run (R_move rfl) rfl ?_
  refine L_yes rfl rfl rfl rfl ?_
  refine L_call rfl cb36 (ref05_Digits (n := n) (by omega) _) rfl ?_
  rintro _ w6 ⟨hs6, rfl⟩
  replace hB := gb_tr hB hs6
  refine L_yes rfl rfl rfl rfl ?_
  refine L_run (R_eqv (R_neqS rfl rfl) (v' := .bool false) (bF' (fun h => h rfl))) rfl ?_
  refine L_run (R_pickF rfl rfl rfl) rfl ?_
  refine L_nil (N_then (C_condF rfl rfl (C_skip (N_then (C_seq (C_reg ?_))))))
  refine L_run (R_move rfl) rfl ?_
  refine L_call rfl cb26 (name_Parse (cs := (wname n)) (by first | omega | (simp; done) | (simp; omega))) rfl ?_
  rintro _ w7 ⟨hs7, rfl⟩
  replace hB := gb_tr hB hs7
  refine L_run (R_move rfl) rfl ?_
  refine L_run (R_extract rfl rfl) rfl ?_
  refine L_run (R_extract rfl rfl) rfl ?_
  refine L_run (R_assign rfl) rfl ?_
  refine L_run (R_assign rfl) rfl ?_
  refine L_nil (N_then (C_seq (C_reg ?_)))
  refine L_run (R_move rfl) rfl ?_
  refine L_call rfl cb26 (name_Parse (cs := (pname n)) (by first | omega | (simp; done) | (simp; omega))) rfl ?_
  rintro _ w8 ⟨hs8, rfl⟩
  replace hB := gb_tr hB hs8
  refine L_run (R_move rfl) rfl ?_
  refine L_run (R_extract rfl rfl) rfl ?_
  refine L_run (R_extract rfl rfl) rfl ?_
  refine L_run (R_assign rfl) rfl ?_
  refine L_run (R_assign rfl) rfl ?_
  refine L_nil (N_then (C_seq (C_reg ?_)))
  refine L_run (R_move rfl) rfl ?_
  refine L_run (R_eqv (R_eqlS rfl rfl) (v' := .bool (decide ((wname n) = []))) (bD ba_inj)) rfl ?_
  refine L_run (R_move rfl) rfl ?_
  refine L_yes rfl rfl rfl (decide_eq_false hwn) ?_
  refine L_run (R_move rfl) rfl ?_
  refine L_yes rfl rfl rfl (decide_eq_false hwn) ?_
  refine L_run (R_eqv (R_eql rfl rfl) (v' := .bool true) (bT' (by rw [hW]))) rfl ?_
  refine L_yes rfl rfl rfl (decide_eq_false hwn) ?_
  refine L_run (R_move rfl) rfl ?_
  refine L_yes rfl rfl rfl rfl ?_
  refine L_run (R_move rfl) rfl ?_
  refine L_yes rfl rfl rfl rfl ?_
  refine L_run (R_move rfl) rfl ?_
  refine L_yes rfl rfl rfl rfl ?_
  refine L_run (R_eqv (R_eql rfl rfl) (v' := .bool true) (bT' (by rw [hW]))) rfl ?_
  refine L_yes rfl rfl rfl (decide_eq_false hwn) ?_
  refine L_run (R_pickT rfl rfl rfl) rfl ?_
  refine L_yes rfl rfl rfl (decide_eq_false hwn) ?_
  refine L_run (R_move rfl) rfl ?_
  refine L_yes rfl rfl rfl rfl ?_
  refine L_run (R_move rfl) rfl ?_
  refine L_yes rfl rfl rfl rfl ?_
  refine L_call rfl cb28 (name_Right (cs := (wname n)) (by first | omega | (simp; done) | (simp; omega))) rfl ?_
  rintro _ w9 ⟨hs9, rfl⟩
  replace hB := gb_tr hB hs9
  refine L_yes rfl rfl rfl (decide_eq_false hwn) ?_
  refine L_run (R_pickT rfl rfl rfl) rfl ?_
  refine L_run (R_pickF rfl (decide_eq_false hwn) rfl) rfl ?_
  refine L_run (R_move rfl) rfl ?_
  refine L_yes rfl rfl rfl (decide_eq_true hwo) ?_
  refine L_run (R_move rfl) rfl ?_
  refine L_yes rfl rfl rfl (decide_eq_true hwo) ?_
  refine L_run (R_eqv (R_eqlS rfl rfl) (v' := .bool (decide ((pname n) = []))) (bD ba_inj)) rfl ?_
  refine L_yes rfl rfl rfl (decide_eq_true hwo) ?_
  refine L_run (R_move rfl) rfl ?_
  refine L_yes rfl rfl rfl (decide_eq_false hpn) ?_
  refine L_run (R_move rfl) rfl ?_
  refine L_yes rfl rfl rfl (decide_eq_false hpn) ?_
  refine L_run (R_eqv (R_eql rfl rfl) (v' := .bool true) (bT' (by rw [hP]))) rfl ?_
  refine L_yes rfl rfl rfl (decide_eq_false hpn) ?_
  refine L_run (R_move rfl) rfl ?_
  refine L_yes rfl rfl rfl rfl ?_
  refine L_run (R_move rfl) rfl ?_
  refine L_yes rfl rfl rfl rfl ?_
  refine L_run (R_move rfl) rfl ?_
  refine L_yes rfl rfl rfl rfl ?_
  refine L_run (R_eqv (R_eql rfl rfl) (v' := .bool true) (bT' (by rw [hP]))) rfl ?_
  refine L_yes rfl rfl rfl (decide_eq_false hpn) ?_
  refine L_run (R_pickT rfl rfl rfl) rfl ?_
  refine L_yes rfl rfl rfl (decide_eq_false hpn) ?_
  refine L_run (R_move rfl) rfl ?_
  refine L_yes rfl rfl rfl rfl ?_
  refine L_run (R_move rfl) rfl ?_
  refine L_yes rfl rfl rfl rfl ?_
  refine L_call rfl cb28 (name_Right (cs := (pname n)) (by first | omega | (simp; done) | (simp; omega))) rfl ?_
  rintro _ w10 ⟨hs10, rfl⟩
  replace hB := gb_tr hB hs10
  refine L_yes rfl rfl rfl (decide_eq_false hpn) ?_
  refine L_run (R_pickT rfl rfl rfl) rfl ?_
  refine L_yes rfl rfl rfl (decide_eq_true hwo) ?_
  refine L_run (R_pickF rfl (decide_eq_false hpn) rfl) rfl ?_
  refine L_run (R_pickT rfl (decide_eq_true hwo) rfl) rfl ?_
  refine L_run (R_move rfl) rfl ?_
  refine L_yes rfl rfl rfl (decide_eq_true hpo) ?_
  refine L_call rfl cb30 (awake05) rfl ?_
  rintro _ w11 ⟨hs11, rfl⟩
  replace hB := gb_tr hB hs11
  refine L_run (R_pickT rfl (decide_eq_true hpo) rfl) rfl ?_
  refine L_run (R_assign rfl) rfl ?_
  refine L_nil (N_then (C_ret ?_))
  refine ret1 Try.results6 rfl ?_
  exact ⟨hB, rfl⟩

theorem walkyn {w : World} {n : Int} (hg1 : -9223372036854775808 ≤ n ∧ n ≤ 9223372036854775807) (hw : (1 ≤ n ∧ n ≤ 2147483647)) (hp : ¬ (0 ≤ n ∧ n ≤ 2)) :
    Runs Try.prog 6 #[.int .i64 n] w (fun v w' => w.grownBy w' none ∧ v = .bool true) := by
  have hB := gb_refl w none
  have hb : -9223372036854775808 ≤ n ∧ n ≤ 9223372036854775807 := hg1
  have hwl := wname_len n
  have hpl := pname_len n
  have hwn := wname_cons hw
  have hwo := okName_w hw
  have hW := nparse_w hw
  have hpn := pname_nil hp
  refine enter Try.func6 Try.ntmps6 rfl rfl ?_
  refine C_seq (C_reg ?_)
  refine L_run (R_assign rfl) rfl ?_
  refine L_nil (N_then (C_seq (C_reg ?_)))
  refine L_run (R_move rfl) rfl ?_
  refine L_call rfl cb31 (name_Wal (n := n) (by omega)) rfl ?_
  rintro _ w1 ⟨hs1, rfl⟩
  replace hB := gb_tr hB hs1
  refine L_run (R_move rfl) rfl ?_
  refine L_call rfl cb32 (name_Pool (n := n) (by omega)) rfl ?_
  rintro _ w2 ⟨hs2, rfl⟩
  replace hB := gb_tr hB hs2
  refine L_run (R_assign rfl) rfl ?_
  refine L_run (R_assign rfl) rfl ?_
  refine L_nil (N_then (C_seq (C_seq (C_reg ?_))))
  refine L_run (R_move rfl) rfl ?_
  refine L_run (R_move rfl) rfl ?_
  refine L_call rfl cb33 (ref05_Wal (n := n) (by omega)) rfl ?_
  rintro _ w3 ⟨hs3, rfl⟩
  replace hB := gb_tr hB hs3
  refine L_run (R_eqv (R_neqS rfl rfl) (v' := .bool false) (bF' (fun h => h rfl))) rfl ?_
  refine L_run (R_move rfl) rfl ?_
  refine L_yes rfl rfl rfl rfl ?_
  refine L_run (R_move rfl) rfl ?_
  refine L_yes rfl rfl rfl rfl ?_
  refine L_run (R_move rfl) rfl ?_
  refine L_yes rfl rfl rfl rfl ?_
  refine L_call rfl cb34 (ref05_Pool (n := n) (by omega)) rfl ?_
  rintro _ w4 ⟨hs4, rfl⟩
  replace hB := gb_tr hB hs4
  refine L_yes rfl rfl rfl rfl ?_
  refine L_run (R_eqv (R_neqS rfl rfl) (v' := .bool false) (bF' (fun h => h rfl))) rfl ?_
  refine L_run (R_pickF rfl rfl rfl) rfl ?_
  refine L_run (R_move rfl) rfl ?_
  refine L_yes rfl rfl rfl rfl ?_
  refine L_run (R_move rfl) rfl ?_
  refine L_yes rfl rfl rfl rfl ?_
  refine L_call rfl cb35 (name_Digits (n := n) (by omega)) rfl ?_
  rintro _ w5 ⟨hs5, rfl⟩
  replace hB := gb_tr hB hs5
  refine L_yes rfl rfl rfl rfl ?_
  refine L_run (R_move rfl) rfl ?_
  refine L_yes rfl rfl rfl rfl ?_
  refine L_call rfl cb36 (ref05_Digits (n := n) (by omega) _) rfl ?_
  rintro _ w6 ⟨hs6, rfl⟩
  replace hB := gb_tr hB hs6
  refine L_yes rfl rfl rfl rfl ?_
  refine L_run (R_eqv (R_neqS rfl rfl) (v' := .bool false) (bF' (fun h => h rfl))) rfl ?_
  refine L_run (R_pickF rfl rfl rfl) rfl ?_
  refine L_nil (N_then (C_condF rfl rfl (C_skip (N_then (C_seq (C_reg ?_))))))
  refine L_run (R_move rfl) rfl ?_
  refine L_call rfl cb26 (name_Parse (cs := (wname n)) (by first | omega | (simp; done) | (simp; omega))) rfl ?_
  rintro _ w7 ⟨hs7, rfl⟩
  replace hB := gb_tr hB hs7
  refine L_run (R_move rfl) rfl ?_
  refine L_run (R_extract rfl rfl) rfl ?_
  refine L_run (R_extract rfl rfl) rfl ?_
  refine L_run (R_assign rfl) rfl ?_
  refine L_run (R_assign rfl) rfl ?_
  refine L_nil (N_then (C_seq (C_reg ?_)))
  refine L_run (R_move rfl) rfl ?_
  refine L_call rfl cb26 (name_Parse (cs := (pname n)) (by first | omega | (simp; done) | (simp; omega))) rfl ?_
  rintro _ w8 ⟨hs8, rfl⟩
  replace hB := gb_tr hB hs8
  refine L_run (R_move rfl) rfl ?_
  refine L_run (R_extract rfl rfl) rfl ?_
  refine L_run (R_extract rfl rfl) rfl ?_
  refine L_run (R_assign rfl) rfl ?_
  refine L_run (R_assign rfl) rfl ?_
  refine L_nil (N_then (C_seq (C_reg ?_)))
  refine L_run (R_move rfl) rfl ?_
  refine L_run (R_eqv (R_eqlS rfl rfl) (v' := .bool (decide ((wname n) = []))) (bD ba_inj)) rfl ?_
  refine L_run (R_move rfl) rfl ?_
  refine L_yes rfl rfl rfl (decide_eq_false hwn) ?_
  refine L_run (R_move rfl) rfl ?_
  refine L_yes rfl rfl rfl (decide_eq_false hwn) ?_
  refine L_run (R_eqv (R_eql rfl rfl) (v' := .bool true) (bT' (by rw [hW]))) rfl ?_
  refine L_yes rfl rfl rfl (decide_eq_false hwn) ?_
  refine L_run (R_move rfl) rfl ?_
  refine L_yes rfl rfl rfl rfl ?_
  refine L_run (R_move rfl) rfl ?_
  refine L_yes rfl rfl rfl rfl ?_
  refine L_run (R_move rfl) rfl ?_
  refine L_yes rfl rfl rfl rfl ?_
  refine L_run (R_eqv (R_eql rfl rfl) (v' := .bool true) (bT' (by rw [hW]))) rfl ?_
  refine L_yes rfl rfl rfl (decide_eq_false hwn) ?_
  refine L_run (R_pickT rfl rfl rfl) rfl ?_
  refine L_yes rfl rfl rfl (decide_eq_false hwn) ?_
  refine L_run (R_move rfl) rfl ?_
  refine L_yes rfl rfl rfl rfl ?_
  refine L_run (R_move rfl) rfl ?_
  refine L_yes rfl rfl rfl rfl ?_
  refine L_call rfl cb28 (name_Right (cs := (wname n)) (by first | omega | (simp; done) | (simp; omega))) rfl ?_
  rintro _ w9 ⟨hs9, rfl⟩
  replace hB := gb_tr hB hs9
  refine L_yes rfl rfl rfl (decide_eq_false hwn) ?_
  refine L_run (R_pickT rfl rfl rfl) rfl ?_
  refine L_run (R_pickF rfl (decide_eq_false hwn) rfl) rfl ?_
  refine L_run (R_move rfl) rfl ?_
  refine L_yes rfl rfl rfl (decide_eq_true hwo) ?_
  refine L_run (R_move rfl) rfl ?_
  refine L_yes rfl rfl rfl (decide_eq_true hwo) ?_
  refine L_run (R_eqv (R_eqlS rfl rfl) (v' := .bool (decide ((pname n) = []))) (bD ba_inj)) rfl ?_
  refine L_yes rfl rfl rfl (decide_eq_true hwo) ?_
  refine L_run (R_move rfl) rfl ?_
  refine L_no rfl rfl rfl (decide_eq_true hpn) rfl ?_
  refine L_no rfl rfl rfl (decide_eq_true hpn) rfl ?_
  refine L_no rfl rfl rfl (decide_eq_true hpn) rfl ?_
  refine L_noU rfl rfl rfl rfl ?_
  refine L_noU rfl rfl rfl rfl ?_
  refine L_noU rfl rfl rfl rfl ?_
  refine L_no rfl rfl rfl (decide_eq_true hpn) rfl ?_
  refine L_no rfl rfl rfl (decide_eq_true hpn) rfl ?_
  refine L_noU rfl rfl rfl rfl ?_
  refine L_noU rfl rfl rfl rfl ?_
  refine L_no rfl rfl rfl (decide_eq_true hpn) rfl ?_
  refine L_yes rfl rfl rfl (decide_eq_true hwo) ?_
  refine L_run (R_pickT rfl (decide_eq_true hpn) rfl) rfl ?_
  refine L_run (R_pickT rfl (decide_eq_true hwo) rfl) rfl ?_
  refine L_run (R_move rfl) rfl ?_
  refine L_yes rfl rfl rfl rfl ?_
  refine L_call rfl cb30 (awake05) rfl ?_
  rintro _ w10 ⟨hs10, rfl⟩
  replace hB := gb_tr hB hs10
  refine L_run (R_pickT rfl rfl rfl) rfl ?_
  refine L_run (R_assign rfl) rfl ?_
  refine L_nil (N_then (C_ret ?_))
  refine ret1 Try.results6 rfl ?_
  exact ⟨hB, rfl⟩

theorem walkny {w : World} {n : Int} (hg1 : -9223372036854775808 ≤ n ∧ n ≤ 9223372036854775807) (hw : ¬ (1 ≤ n ∧ n ≤ 2147483647)) (hp : (0 ≤ n ∧ n ≤ 2)) :
    Runs Try.prog 6 #[.int .i64 n] w (fun v w' => w.grownBy w' none ∧ v = .bool true) := by
  have hB := gb_refl w none
  have hb : -9223372036854775808 ≤ n ∧ n ≤ 9223372036854775807 := hg1
  have hwl := wname_len n
  have hpl := pname_len n
  have hwn := wname_nil hw
  have hpn := pname_cons hp
  have hpo := okName_p hp
  have hP := nparse_p hp
  refine enter Try.func6 Try.ntmps6 rfl rfl ?_
  refine C_seq (C_reg ?_)
  refine L_run (R_assign rfl) rfl ?_
  refine L_nil (N_then (C_seq (C_reg ?_)))
  refine L_run (R_move rfl) rfl ?_
  refine L_call rfl cb31 (name_Wal (n := n) (by omega)) rfl ?_
  rintro _ w1 ⟨hs1, rfl⟩
  replace hB := gb_tr hB hs1
  refine L_run (R_move rfl) rfl ?_
  refine L_call rfl cb32 (name_Pool (n := n) (by omega)) rfl ?_
  rintro _ w2 ⟨hs2, rfl⟩
  replace hB := gb_tr hB hs2
  refine L_run (R_assign rfl) rfl ?_
  refine L_run (R_assign rfl) rfl ?_
  refine L_nil (N_then (C_seq (C_seq (C_reg ?_))))
  refine L_run (R_move rfl) rfl ?_
  refine L_run (R_move rfl) rfl ?_
  refine L_call rfl cb33 (ref05_Wal (n := n) (by omega)) rfl ?_
  rintro _ w3 ⟨hs3, rfl⟩
  replace hB := gb_tr hB hs3
  refine L_run (R_eqv (R_neqS rfl rfl) (v' := .bool false) (bF' (fun h => h rfl))) rfl ?_
  refine L_run (R_move rfl) rfl ?_
  refine L_yes rfl rfl rfl rfl ?_
  refine L_run (R_move rfl) rfl ?_
  refine L_yes rfl rfl rfl rfl ?_
  refine L_run (R_move rfl) rfl ?_
  refine L_yes rfl rfl rfl rfl ?_
  refine L_call rfl cb34 (ref05_Pool (n := n) (by omega)) rfl ?_
  rintro _ w4 ⟨hs4, rfl⟩
  replace hB := gb_tr hB hs4
  refine L_yes rfl rfl rfl rfl ?_
  refine L_run (R_eqv (R_neqS rfl rfl) (v' := .bool false) (bF' (fun h => h rfl))) rfl ?_
  refine L_run (R_pickF rfl rfl rfl) rfl ?_
  refine L_run (R_move rfl) rfl ?_
  refine L_yes rfl rfl rfl rfl ?_
  refine L_run (R_move rfl) rfl ?_
  refine L_yes rfl rfl rfl rfl ?_
  refine L_call rfl cb35 (name_Digits (n := n) (by omega)) rfl ?_
  rintro _ w5 ⟨hs5, rfl⟩
  replace hB := gb_tr hB hs5
  refine L_yes rfl rfl rfl rfl ?_
  refine L_run (R_move rfl) rfl ?_
  refine L_yes rfl rfl rfl rfl ?_
  refine L_call rfl cb36 (ref05_Digits (n := n) (by omega) _) rfl ?_
  rintro _ w6 ⟨hs6, rfl⟩
  replace hB := gb_tr hB hs6
  refine L_yes rfl rfl rfl rfl ?_
  refine L_run (R_eqv (R_neqS rfl rfl) (v' := .bool false) (bF' (fun h => h rfl))) rfl ?_
  refine L_run (R_pickF rfl rfl rfl) rfl ?_
  refine L_nil (N_then (C_condF rfl rfl (C_skip (N_then (C_seq (C_reg ?_))))))
  refine L_run (R_move rfl) rfl ?_
  refine L_call rfl cb26 (name_Parse (cs := (wname n)) (by first | omega | (simp; done) | (simp; omega))) rfl ?_
  rintro _ w7 ⟨hs7, rfl⟩
  replace hB := gb_tr hB hs7
  refine L_run (R_move rfl) rfl ?_
  refine L_run (R_extract rfl rfl) rfl ?_
  refine L_run (R_extract rfl rfl) rfl ?_
  refine L_run (R_assign rfl) rfl ?_
  refine L_run (R_assign rfl) rfl ?_
  refine L_nil (N_then (C_seq (C_reg ?_)))
  refine L_run (R_move rfl) rfl ?_
  refine L_call rfl cb26 (name_Parse (cs := (pname n)) (by first | omega | (simp; done) | (simp; omega))) rfl ?_
  rintro _ w8 ⟨hs8, rfl⟩
  replace hB := gb_tr hB hs8
  refine L_run (R_move rfl) rfl ?_
  refine L_run (R_extract rfl rfl) rfl ?_
  refine L_run (R_extract rfl rfl) rfl ?_
  refine L_run (R_assign rfl) rfl ?_
  refine L_run (R_assign rfl) rfl ?_
  refine L_nil (N_then (C_seq (C_reg ?_)))
  refine L_run (R_move rfl) rfl ?_
  refine L_run (R_eqv (R_eqlS rfl rfl) (v' := .bool (decide ((wname n) = []))) (bD ba_inj)) rfl ?_
  refine L_run (R_move rfl) rfl ?_
  refine L_no rfl rfl rfl (decide_eq_true hwn) rfl ?_
  refine L_no rfl rfl rfl (decide_eq_true hwn) rfl ?_
  refine L_no rfl rfl rfl (decide_eq_true hwn) rfl ?_
  refine L_noU rfl rfl rfl rfl ?_
  refine L_noU rfl rfl rfl rfl ?_
  refine L_noU rfl rfl rfl rfl ?_
  refine L_no rfl rfl rfl (decide_eq_true hwn) rfl ?_
  refine L_no rfl rfl rfl (decide_eq_true hwn) rfl ?_
  refine L_noU rfl rfl rfl rfl ?_
  refine L_noU rfl rfl rfl rfl ?_
  refine L_no rfl rfl rfl (decide_eq_true hwn) rfl ?_
  refine L_run (R_pickT rfl (decide_eq_true hwn) rfl) rfl ?_
  refine L_run (R_move rfl) rfl ?_
  refine L_yes rfl rfl rfl rfl ?_
  refine L_run (R_move rfl) rfl ?_
  refine L_yes rfl rfl rfl rfl ?_
  refine L_run (R_eqv (R_eqlS rfl rfl) (v' := .bool (decide ((pname n) = []))) (bD ba_inj)) rfl ?_
  refine L_yes rfl rfl rfl rfl ?_
  refine L_run (R_move rfl) rfl ?_
  refine L_yes rfl rfl rfl (decide_eq_false hpn) ?_
  refine L_run (R_move rfl) rfl ?_
  refine L_yes rfl rfl rfl (decide_eq_false hpn) ?_
  refine L_run (R_eqv (R_eql rfl rfl) (v' := .bool true) (bT' (by rw [hP]))) rfl ?_
  refine L_yes rfl rfl rfl (decide_eq_false hpn) ?_
  refine L_run (R_move rfl) rfl ?_
  refine L_yes rfl rfl rfl rfl ?_
  refine L_run (R_move rfl) rfl ?_
  refine L_yes rfl rfl rfl rfl ?_
  refine L_run (R_move rfl) rfl ?_
  refine L_yes rfl rfl rfl rfl ?_
  refine L_run (R_eqv (R_eql rfl rfl) (v' := .bool true) (bT' (by rw [hP]))) rfl ?_
  refine L_yes rfl rfl rfl (decide_eq_false hpn) ?_
  refine L_run (R_pickT rfl rfl rfl) rfl ?_
  refine L_yes rfl rfl rfl (decide_eq_false hpn) ?_
  refine L_run (R_move rfl) rfl ?_
  refine L_yes rfl rfl rfl rfl ?_
  refine L_run (R_move rfl) rfl ?_
  refine L_yes rfl rfl rfl rfl ?_
  refine L_call rfl cb28 (name_Right (cs := (pname n)) (by first | omega | (simp; done) | (simp; omega))) rfl ?_
  rintro _ w9 ⟨hs9, rfl⟩
  replace hB := gb_tr hB hs9
  refine L_yes rfl rfl rfl (decide_eq_false hpn) ?_
  refine L_run (R_pickT rfl rfl rfl) rfl ?_
  refine L_yes rfl rfl rfl rfl ?_
  refine L_run (R_pickF rfl (decide_eq_false hpn) rfl) rfl ?_
  refine L_run (R_pickT rfl rfl rfl) rfl ?_
  refine L_run (R_move rfl) rfl ?_
  refine L_yes rfl rfl rfl (decide_eq_true hpo) ?_
  refine L_call rfl cb30 (awake05) rfl ?_
  rintro _ w10 ⟨hs10, rfl⟩
  replace hB := gb_tr hB hs10
  refine L_run (R_pickT rfl (decide_eq_true hpo) rfl) rfl ?_
  refine L_run (R_assign rfl) rfl ?_
  refine L_nil (N_then (C_ret ?_))
  refine ret1 Try.results6 rfl ?_
  exact ⟨hB, rfl⟩

theorem walknn {w : World} {n : Int} (hg1 : -9223372036854775808 ≤ n ∧ n ≤ 9223372036854775807) (hw : ¬ (1 ≤ n ∧ n ≤ 2147483647)) (hp : ¬ (0 ≤ n ∧ n ≤ 2)) :
    Runs Try.prog 6 #[.int .i64 n] w (fun v w' => w.grownBy w' none ∧ v = .bool true) := by
  have hB := gb_refl w none
  have hb : -9223372036854775808 ≤ n ∧ n ≤ 9223372036854775807 := hg1
  have hwl := wname_len n
  have hpl := pname_len n
  have hwn := wname_nil hw
  have hpn := pname_nil hp
  refine enter Try.func6 Try.ntmps6 rfl rfl ?_
  refine C_seq (C_reg ?_)
  refine L_run (R_assign rfl) rfl ?_
  refine L_nil (N_then (C_seq (C_reg ?_)))
  refine L_run (R_move rfl) rfl ?_
  refine L_call rfl cb31 (name_Wal (n := n) (by omega)) rfl ?_
  rintro _ w1 ⟨hs1, rfl⟩
  replace hB := gb_tr hB hs1
  refine L_run (R_move rfl) rfl ?_
  refine L_call rfl cb32 (name_Pool (n := n) (by omega)) rfl ?_
  rintro _ w2 ⟨hs2, rfl⟩
  replace hB := gb_tr hB hs2
  refine L_run (R_assign rfl) rfl ?_
  refine L_run (R_assign rfl) rfl ?_
  refine L_nil (N_then (C_seq (C_seq (C_reg ?_))))
  refine L_run (R_move rfl) rfl ?_
  refine L_run (R_move rfl) rfl ?_
  refine L_call rfl cb33 (ref05_Wal (n := n) (by omega)) rfl ?_
  rintro _ w3 ⟨hs3, rfl⟩
  replace hB := gb_tr hB hs3
  refine L_run (R_eqv (R_neqS rfl rfl) (v' := .bool false) (bF' (fun h => h rfl))) rfl ?_
  refine L_run (R_move rfl) rfl ?_
  refine L_yes rfl rfl rfl rfl ?_
  refine L_run (R_move rfl) rfl ?_
  refine L_yes rfl rfl rfl rfl ?_
  refine L_run (R_move rfl) rfl ?_
  refine L_yes rfl rfl rfl rfl ?_
  refine L_call rfl cb34 (ref05_Pool (n := n) (by omega)) rfl ?_
  rintro _ w4 ⟨hs4, rfl⟩
  replace hB := gb_tr hB hs4
  refine L_yes rfl rfl rfl rfl ?_
  refine L_run (R_eqv (R_neqS rfl rfl) (v' := .bool false) (bF' (fun h => h rfl))) rfl ?_
  refine L_run (R_pickF rfl rfl rfl) rfl ?_
  refine L_run (R_move rfl) rfl ?_
  refine L_yes rfl rfl rfl rfl ?_
  refine L_run (R_move rfl) rfl ?_
  refine L_yes rfl rfl rfl rfl ?_
  refine L_call rfl cb35 (name_Digits (n := n) (by omega)) rfl ?_
  rintro _ w5 ⟨hs5, rfl⟩
  replace hB := gb_tr hB hs5
  refine L_yes rfl rfl rfl rfl ?_
  refine L_run (R_move rfl) rfl ?_
  refine L_yes rfl rfl rfl rfl ?_
  refine L_call rfl cb36 (ref05_Digits (n := n) (by omega) _) rfl ?_
  rintro _ w6 ⟨hs6, rfl⟩
  replace hB := gb_tr hB hs6
  refine L_yes rfl rfl rfl rfl ?_
  refine L_run (R_eqv (R_neqS rfl rfl) (v' := .bool false) (bF' (fun h => h rfl))) rfl ?_
  refine L_run (R_pickF rfl rfl rfl) rfl ?_
  refine L_nil (N_then (C_condF rfl rfl (C_skip (N_then (C_seq (C_reg ?_))))))
  refine L_run (R_move rfl) rfl ?_
  refine L_call rfl cb26 (name_Parse (cs := (wname n)) (by first | omega | (simp; done) | (simp; omega))) rfl ?_
  rintro _ w7 ⟨hs7, rfl⟩
  replace hB := gb_tr hB hs7
  refine L_run (R_move rfl) rfl ?_
  refine L_run (R_extract rfl rfl) rfl ?_
  refine L_run (R_extract rfl rfl) rfl ?_
  refine L_run (R_assign rfl) rfl ?_
  refine L_run (R_assign rfl) rfl ?_
  refine L_nil (N_then (C_seq (C_reg ?_)))
  refine L_run (R_move rfl) rfl ?_
  refine L_call rfl cb26 (name_Parse (cs := (pname n)) (by first | omega | (simp; done) | (simp; omega))) rfl ?_
  rintro _ w8 ⟨hs8, rfl⟩
  replace hB := gb_tr hB hs8
  refine L_run (R_move rfl) rfl ?_
  refine L_run (R_extract rfl rfl) rfl ?_
  refine L_run (R_extract rfl rfl) rfl ?_
  refine L_run (R_assign rfl) rfl ?_
  refine L_run (R_assign rfl) rfl ?_
  refine L_nil (N_then (C_seq (C_reg ?_)))
  refine L_run (R_move rfl) rfl ?_
  refine L_run (R_eqv (R_eqlS rfl rfl) (v' := .bool (decide ((wname n) = []))) (bD ba_inj)) rfl ?_
  refine L_run (R_move rfl) rfl ?_
  refine L_no rfl rfl rfl (decide_eq_true hwn) rfl ?_
  refine L_no rfl rfl rfl (decide_eq_true hwn) rfl ?_
  refine L_no rfl rfl rfl (decide_eq_true hwn) rfl ?_
  refine L_noU rfl rfl rfl rfl ?_
  refine L_noU rfl rfl rfl rfl ?_
  refine L_noU rfl rfl rfl rfl ?_
  refine L_no rfl rfl rfl (decide_eq_true hwn) rfl ?_
  refine L_no rfl rfl rfl (decide_eq_true hwn) rfl ?_
  refine L_noU rfl rfl rfl rfl ?_
  refine L_noU rfl rfl rfl rfl ?_
  refine L_no rfl rfl rfl (decide_eq_true hwn) rfl ?_
  refine L_run (R_pickT rfl (decide_eq_true hwn) rfl) rfl ?_
  refine L_run (R_move rfl) rfl ?_
  refine L_yes rfl rfl rfl rfl ?_
  refine L_run (R_move rfl) rfl ?_
  refine L_yes rfl rfl rfl rfl ?_
  refine L_run (R_eqv (R_eqlS rfl rfl) (v' := .bool (decide ((pname n) = []))) (bD ba_inj)) rfl ?_
  refine L_yes rfl rfl rfl rfl ?_
  refine L_run (R_move rfl) rfl ?_
  refine L_no rfl rfl rfl (decide_eq_true hpn) rfl ?_
  refine L_no rfl rfl rfl (decide_eq_true hpn) rfl ?_
  refine L_no rfl rfl rfl (decide_eq_true hpn) rfl ?_
  refine L_noU rfl rfl rfl rfl ?_
  refine L_noU rfl rfl rfl rfl ?_
  refine L_noU rfl rfl rfl rfl ?_
  refine L_no rfl rfl rfl (decide_eq_true hpn) rfl ?_
  refine L_no rfl rfl rfl (decide_eq_true hpn) rfl ?_
  refine L_noU rfl rfl rfl rfl ?_
  refine L_noU rfl rfl rfl rfl ?_
  refine L_no rfl rfl rfl (decide_eq_true hpn) rfl ?_
  refine L_yes rfl rfl rfl rfl ?_
  refine L_run (R_pickT rfl (decide_eq_true hpn) rfl) rfl ?_
  refine L_run (R_pickT rfl rfl rfl) rfl ?_
  refine L_run (R_move rfl) rfl ?_
  refine L_yes rfl rfl rfl rfl ?_
  refine L_call rfl cb30 (awake05) rfl ?_
  rintro _ w9 ⟨hs9, rfl⟩
  replace hB := gb_tr hB hs9
  refine L_run (R_pickT rfl rfl rfl) rfl ?_
  refine L_run (R_assign rfl) rfl ?_
  refine L_nil (N_then (C_ret ?_))
  refine ret1 Try.results6 rfl ?_
  exact ⟨hB, rfl⟩

theorem walk {w : World} {n : Int} (hg0 : (Lit.int .i64 n).wf = true) : Runs Try.prog 6 #[.int .i64 n] w (fun v w' => w.grownBy w' none ∧ v = .bool true) := by
  have hg1 : -9223372036854775808 ≤ n ∧ n ≤ 9223372036854775807 := wf64 hg0
  by_cases hw : 1 ≤ n ∧ n ≤ 2147483647 <;> by_cases hp : 0 ≤ n ∧ n ≤ 2
  · exact walkyy hg1 hw hp
  · exact walkyn hg1 hw hp
  · exact walkny hg1 hw hp
  · exact walknn hg1 hw hp

open Go.ChangeShapes Go.WideShapes Go.ChangeAt
theorem own : ownKnob Try.prog.godebug = none := by kernel_rfl
theorem laidOut : laidOutB Try.prog = true := by kernel_rfl
set_option maxRecDepth 100000 in
theorem lifted (os : Os) (started : os.Started) (H : Type) (enc : TypeId × Value → H) :
    ReturnsInHanded {} Try.checked os 6 .any (Rows.nameMakesSpec.pre6 enc Try.prog Try.f6 Rows.nameMakesRow.domain false) (Rows.nameMakesSpec.post enc Try.prog Try.f6 false true false false) := by
  refine returnsInHanded_of_change_sized (C := Try.checked) own started (by kernel_rfl) Try.func6
    (ChangeSpec.witness6 (enc := enc) (C := Try.checked) false ⟨#[], #[.int .i64 0], []⟩ 8 (by kernel_rfl) (by kernel_rfl) (by kernel_rfl) (by kernel_rfl)) ?_
  intro W base args ds gs before hval0 hW hcnd hsz0 _
  have hsz : (DataW.weightsEach Try.prog (Try.f6.params.toList ++ Rows.nameMakesSpec.plain.varTypes Try.prog) (ds ++ gs)).all (· ≤ reachBytes) = true := hsz0
  have hval : ∀ (j : Nat) t v, Try.f6.params[j]? = some t → args[j]? = some v → Value.okWide Try.prog W .any base t v := hval0
  have hW' := hW
  obtain ⟨p, q, hA0, hV, rfl, hfz, hnd⟩ := hW
  have hA : DataW.TrodAll enc Try.prog W 0 (fun _ => true) true Try.f6.params.toList args.toList ds p := hA0
  rw [Try.params6] at hA hval hsz
  obtain ⟨v0, vs0, d0, ds0, p0, q0, hargs, rfl, rfl, h0, r0⟩ := trodAll_cons hA
  obtain ⟨rfl, rfl, rfl⟩ := trodAll_nil r0
  obtain rfl : args = #[v0] := by cases args; simp_all
  obtain ⟨rfl, rfl⟩ := trodVars_none hV
  have lt0 : ∀ x ∈ p0, x.block < W.heap.size := by obtain ⟨m, hm⟩ := h0; exact DataW.trod_lt m _ _ _ hm
  obtain ⟨n, e0, hg0⟩ := Rdr.arg (enc := enc) (P := Try.prog) (W := W) (Rdr.int Try.underlying3) hsz (j := 0) rfl rfl h0
  obtain rfl := of_cell e0 (by intro cs e_; obtain ⟨a_, e2_⟩ := okWide_int Try.underlying3 (hval 0 3 v0 rfl rfl); rw [e2_] at e_; cases e_)
  refine (walk (w := W) hg0).calls.mono fun e W' ⟨v_, he, hgb, hv_⟩ => ?_
  subst he
  subst hv_
  have bel := gb_below hgb
  exact ⟨_, rfl, _, _, _, [], _, [], hW', trodAll_mk1 (shut_bool Try.underlying4 _), (trodAll_cons_mk (Below.trod laidOut (by kernel_rfl) (of_decide_eq_true (by kernel_rfl)) h0 bel lt0) trodAll_mk0), rfl, bel.frame _, fun h => by cases h⟩
theorem over : Rows.nameMakesRow.holds Try.pinned (OpenSpec.ofChange Rows.nameMakesSpec) :=
  OpenClaim.holds_of_wide 6 Try.f6 rfl rfl rfl rfl rfl rfl rfl ⟨rfl, rfl, rfl, rfl, rfl⟩ rfl rfl rfl rfl rfl (by kernel_rfl) Try.func6 (by kernel_rfl)
    (of_decide_eq_true (by kernel_rfl)) (by unfold Func.isWrapper; first | (rw [if_pos (by decide +kernel)]; kernel_rfl) | (rw [if_neg (by decide +kernel)]; exact ⟨rfl, rfl⟩))
    (fun os started H enc _ => lifted os started H enc)
/-- The given statement. -/
theorem proved : Rows.NameMakesSaid := over
#print axioms proved

end Go.Proofs.Ytnggbodilhpohaa.LNameMakes
