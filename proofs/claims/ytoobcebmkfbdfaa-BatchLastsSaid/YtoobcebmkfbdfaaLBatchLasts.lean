/-
  For every list of operations the law BatchLasts returns true, and changes nothing that was there.
-/
import Derived.Test.YtoobcebmkfbdfaaDb
import Derived.WalkKit
import Derived.ProofKit
import Derived.OpenShut
import Derived.ShutString
import Derived.ChangeOld
import Derived.Below
import Derived.SizedLaws
namespace Go.Proofs.Ytoobcebmkfbdfaa.LBatchLasts
open Go.RowKit Gw Pl
set_option linter.unusedVariables false
set_option linter.unusedSimpArgs false
theorem cb12 : callB Try.prog 12 = true := by kernel_rfl
theorem cb13 : callB Try.prog 13 = true := by kernel_rfl
theorem cb14 : callB Try.prog 14 = true := by kernel_rfl
theorem cb15 : callB Try.prog 15 = true := by kernel_rfl
theorem walk {w : World} {A0 : Option Addr} {c0 : Nat} {xs0 : List Opd} (hS0 : Sli 0 0 w.heap.size w A0 (fl encOp xs0)) (hl0 : xs0.length ≤ c0) (hm0 : c0 * 40 ≤ 140737488351232) (hg0 : ∀ x ∈ xs0, GoodOp x) :
    Runs Try.prog 3 #[.slice A0 xs0.length c0] w (fun v w' => w.grownBy w' none ∧ v = .bool true) := by
  have hB := gb_refl w none
  refine enter Try.func3 Try.ntmps3 rfl rfl ?_
  refine C_seq (C_reg ?_)
  refine L_run (R_assign rfl) rfl ?_
  refine L_nil (N_then (C_seq (C_seq (C_reg ?_))))
  refine L_run (R_move rfl) rfl ?_
  refine L_run (R_lenSl rfl slc22) rfl ?_
  refine L_run (R_gtr rfl rfl) rfl ?_
  refine L_nil (N_then ?_)
  refine C_if rfl (fun h1 => ?_) (fun h1 => ?_)
  · refine C_seq (C_reg ?_)
    refine L_call rfl cb12 (awake12) rfl ?_
    rintro _ w1 ⟨hs1, rfl⟩
    replace hB := gb_tr hB hs1
    replace hS0 := hS0.gb hs1
    refine L_run (R_assign rfl) rfl ?_
    refine L_nil (N_then (C_ret (R_then ?_)))
    refine ret1 Try.results3 rfl ?_
    exact ⟨hB, rfl⟩
  · refine C_skip (N_then (C_seq (C_reg ?_)))
    refine L_run (R_move rfl) rfl ?_
    have ge1 : w.heap.size ≤ w.heap.size := hB.size
    refine L_call rfl cb13 (batch_Last (l := xs0) hS0 (by have h_ := lastOf_len xs0; omega)) rfl ?_
    rintro _ w2 ⟨hs2, A_1, c_1, rfl, ho1⟩
    replace hB := gb_tr hB hs2
    replace hS0 := hS0.gb hs2
    have hlo1 : w.heap.size ≤ w2.heap.size := hs2.size
    refine L_run (R_assign rfl) rfl ?_
    refine L_nil (N_then (C_seq (C_reg ?_)))
    refine L_run (R_move rfl) rfl ?_
    refine L_run (R_move rfl) rfl ?_
    have ge2 : w.heap.size ≤ w2.heap.size := hB.size
    refine L_call rfl cb15 (ref12_Last (l := xs0) hS0 (by have h_ := lastOf_len xs0; omega)) rfl ?_
    rintro _ w3 ⟨hs3, A_2, c_2, rfl, ho2⟩
    replace hB := gb_tr hB hs3
    replace hS0 := hS0.gb hs3
    replace ho1 := own_gb ho1 hs3
    replace hlo1 := Nat.le_trans hlo1 hs3.size
    have hlo2 : w2.heap.size ≤ w3.heap.size := hs3.size
    refine L_call rfl cb14 (ref10_Same (a := lastOf xs0) (b := lastOf xs0) (own_of ho1).2.2 (own_of ho2).2.2 (by have h_ := lastOf_len xs0; have h2_ := lastOf_len (lastOf xs0); omega)) rfl ?_
    rintro _ w4 ⟨hs4, rfl⟩
    replace hB := gb_tr hB hs4
    replace hS0 := hS0.gb hs4
    replace ho1 := own_gb ho1 hs4
    replace hlo1 := Nat.le_trans hlo1 hs4.size
    replace ho2 := own_gb ho2 hs4
    replace hlo2 := Nat.le_trans hlo2 hs4.size
    refine L_run (R_move rfl) rfl ?_
    refine L_yes rfl rfl rfl (decide_eq_true rfl) ?_
    refine L_run (R_move rfl) rfl ?_
    refine L_yes rfl rfl rfl (decide_eq_true rfl) ?_
    have ge3 : w.heap.size ≤ w4.heap.size := hB.size
    refine L_call rfl cb13 (batch_Last (l := lastOf xs0) (own_of ho1).2.2 (by have h_ := lastOf_len xs0; omega)) rfl ?_
    rintro _ w5 ⟨hs5, A_3, c_3, rfl, ho3⟩
    replace hB := gb_tr hB hs5
    replace hS0 := hS0.gb hs5
    replace ho1 := own_gb ho1 hs5
    replace hlo1 := Nat.le_trans hlo1 hs5.size
    replace ho2 := own_gb ho2 hs5
    replace hlo2 := Nat.le_trans hlo2 hs5.size
    have hlo3 : w4.heap.size ≤ w5.heap.size := hs5.size
    refine L_yes rfl rfl rfl (decide_eq_true rfl) ?_
    refine L_run (R_move rfl) rfl ?_
    refine L_yes rfl rfl rfl (decide_eq_true rfl) ?_
    refine L_call rfl cb14 (ref10_Same (a := lastOf (lastOf xs0)) (b := lastOf xs0) (own_of ho3).2.2 (own_of ho1).2.2 (by have h_ := lastOf_len xs0; have h2_ := lastOf_len (lastOf xs0); omega)) rfl ?_
    rintro _ w6 ⟨hs6, rfl⟩
    replace hB := gb_tr hB hs6
    replace hS0 := hS0.gb hs6
    replace ho1 := own_gb ho1 hs6
    replace hlo1 := Nat.le_trans hlo1 hs6.size
    replace ho2 := own_gb ho2 hs6
    replace hlo2 := Nat.le_trans hlo2 hs6.size
    replace ho3 := own_gb ho3 hs6
    replace hlo3 := Nat.le_trans hlo3 hs6.size
    refine L_run (R_pickT rfl (decide_eq_true rfl) rfl) rfl ?_
    refine L_run (R_move rfl) rfl ?_
    refine L_yes rfl rfl rfl (decide_eq_true (lastOf_idem xs0)) ?_
    refine L_call rfl cb12 (awake12) rfl ?_
    rintro _ w7 ⟨hs7, rfl⟩
    replace hB := gb_tr hB hs7
    replace hS0 := hS0.gb hs7
    replace ho1 := own_gb ho1 hs7
    replace hlo1 := Nat.le_trans hlo1 hs7.size
    replace ho2 := own_gb ho2 hs7
    replace hlo2 := Nat.le_trans hlo2 hs7.size
    replace ho3 := own_gb ho3 hs7
    replace hlo3 := Nat.le_trans hlo3 hs7.size
    refine L_run (R_pickT rfl (decide_eq_true (lastOf_idem xs0)) rfl) rfl ?_
    refine L_run (R_assign rfl) rfl ?_
    refine L_nil (N_then (C_ret ?_))
    refine ret1 Try.results3 rfl ?_
    exact ⟨hB, rfl⟩

open Go.ChangeShapes Go.WideShapes Go.ChangeAt
theorem own : ownKnob Try.prog.godebug = none := by kernel_rfl
theorem laidOut : laidOutB Try.prog = true := by kernel_rfl
set_option maxRecDepth 100000 in
theorem lifted (os : Os) (started : os.Started) (H : Type) (enc : TypeId × Value → H) :
    ReturnsInHanded {} Try.checked os 3 .any (Rows.batchLastsSpec.pre6 enc Try.prog Try.f3 Rows.batchLastsRow.domain false) (Rows.batchLastsSpec.post enc Try.prog Try.f3 false true false false) := by
  refine returnsInHanded_of_change_sized (C := Try.checked) own started (by kernel_rfl) Try.func3
    (ChangeSpec.witness6 (enc := enc) (C := Try.checked) false ⟨#[], #[.slice none 0 0], []⟩ 8 (by kernel_rfl) (by kernel_rfl) (by kernel_rfl) (by kernel_rfl)) ?_
  intro W base args ds gs before hval0 hW hcnd hsz0 _
  have hsz : (DataW.weightsEach Try.prog (Try.f3.params.toList ++ Rows.batchLastsSpec.plain.varTypes Try.prog) (ds ++ gs)).all (· ≤ reachBytes) = true := hsz0
  have hval : ∀ (j : Nat) t v, Try.f3.params[j]? = some t → args[j]? = some v → Value.okWide Try.prog W .any base t v := hval0
  have hW' := hW
  obtain ⟨p, q, hA0, hV, rfl, hfz, hnd⟩ := hW
  have hA : DataW.TrodAll enc Try.prog W 0 (fun _ => true) true Try.f3.params.toList args.toList ds p := hA0
  rw [Try.params3] at hA hval hsz
  obtain ⟨v0, vs0, d0, ds0, p0, q0, hargs, rfl, rfl, h0, r0⟩ := trodAll_cons hA
  obtain ⟨rfl, rfl, rfl⟩ := trodAll_nil r0
  obtain rfl : args = #[v0] := by cases args; simp_all
  obtain ⟨rfl, rfl⟩ := trodVars_none hV
  have lt0 : ∀ x ∈ p0, x.block < W.heap.size := by obtain ⟨m, hm⟩ := h0; exact DataW.trod_lt m _ _ _ hm
  obtain ⟨⟨A0, c0, xs0⟩, e0, hS0, hl0, hm0, hg0⟩ := Rdr.arg (enc := enc) (P := Try.prog) (W := W) (Rdr.slice (ec := encOp) (sz := 3) (by_ := 40) ((Rdr.struct Try.underlying128 rfl (by kernel_rfl) (Rds.cons (off := 0) (sz := 1) (Rdr.int Try.underlying3) (by kernel_rfl) rfl (by decide) (Rds.cons (off := 1) (sz := 1) (Rdr.str Try.underlying9) (by kernel_rfl) rfl (by decide) (Rds.cons (off := 2) (sz := 1) (Rdr.str Try.underlying9) (by kernel_rfl) rfl (by decide) (Rds.nil))))).map (fun y => (⟨y.1, y.2.1, y.2.2.1⟩ : Opd)) (e' := encOp) (fun _ _ => rfl) (good' := GoodOp) (fun _ h => ⟨h.1, h.2.1, h.2.2.1⟩)) EncOp Try.underlying22 (by kernel_rfl) (by kernel_rfl)) hsz (j := 0) rfl rfl h0
  obtain rfl := of_cell e0 (by intro cs e_; obtain ⟨a_, l_, k_, e2_⟩ := okWide_slice Try.underlying22 (hval 0 22 v0 rfl rfl); rw [e2_] at e_; cases e_)
  refine (walk (w := W) hS0 hl0 hm0 hg0).calls.mono fun e W' ⟨v_, he, hgb, hv_⟩ => ?_
  subst he
  subst hv_
  have bel := gb_below hgb
  exact ⟨_, rfl, _, _, _, [], _, [], hW', trodAll_mk1 (shut_bool Try.underlying4 _), (trodAll_cons_mk (Below.trod laidOut (by kernel_rfl) (of_decide_eq_true (by kernel_rfl)) h0 bel lt0) trodAll_mk0), rfl, bel.frame _, fun h => by cases h⟩
theorem over : Rows.batchLastsRow.holds Try.pinned (OpenSpec.ofChange Rows.batchLastsSpec) :=
  OpenClaim.holds_of_wide 3 Try.f3 rfl rfl rfl rfl rfl rfl rfl ⟨rfl, rfl, rfl, rfl, rfl⟩ rfl rfl rfl rfl rfl (by kernel_rfl) Try.func3 (by kernel_rfl)
    (of_decide_eq_true (by kernel_rfl)) (by unfold Func.isWrapper; first | (rw [if_pos (by decide +kernel)]; kernel_rfl) | (rw [if_neg (by decide +kernel)]; exact ⟨rfl, rfl⟩))
    (fun os started H enc _ => lifted os started H enc)
/-- The given statement. -/
theorem proved : Rows.BatchLastsSaid := over
#print axioms proved

end Go.Proofs.Ytoobcebmkfbdfaa.LBatchLasts
