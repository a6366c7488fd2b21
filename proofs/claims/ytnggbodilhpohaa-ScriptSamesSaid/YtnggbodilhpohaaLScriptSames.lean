/-
  For every two lists of steps the law ScriptSames returns true, and changes nothing that was there.
-/
import Derived.Test.YtnggbodilhpohaaCw
import Derived.WalkKit
import Derived.ProofKit
import Derived.OpenShut
import Derived.ShutString
import Derived.ChangeOld
import Derived.Below
import Derived.SizedLaws
namespace Go.Proofs.Ytnggbodilhpohaa.LScriptSames
open Go.RowKit Gw Pl
set_option linter.unusedVariables false
set_option linter.unusedSimpArgs false
theorem boo4 : Try.prog.underlying 4 = some .bool := by kernel_rfl
theorem cb50 : callB Try.prog 50 = true := by kernel_rfl
theorem cb51 : callB Try.prog 51 = true := by kernel_rfl
theorem cb57 : callB Try.prog 57 = true := by kernel_rfl
theorem cb59 : callB Try.prog 59 = true := by kernel_rfl
theorem walkyy {w : World} {A0 : Option Addr} {c0 : Nat} {xs0 : List StepD} (hS0 : Sli 0 0 w.heap.size w A0 (fl encS xs0)) (hl0 : xs0.length ≤ c0) (hm0 : c0 * 80 ≤ 140737488351232) (hg0 : ∀ x ∈ xs0, GoodS w x) {A1 : Option Addr} {c1 : Nat} {xs1 : List StepD} (hS1 : Sli 0 0 w.heap.size w A1 (fl encS xs1)) (hl1 : xs1.length ≤ c1) (hm1 : c1 * 80 ≤ 140737488351232) (hg1 : ∀ x ∈ xs1, GoodS w x) (hk0 : FewSs xs0) (hk1 : FewSs xs1) :
    Runs Try.prog 13 #[.slice A0 xs0.length c0, .slice A1 xs1.length c1] w (fun v w' => w.grownBy w' none ∧ v = .bool true) := by
  have hB := gb_refl w none
  have hD0 : DeepS w.heap.size w xs0 := fun y hy => hg0 y hy
  have hD1 : DeepS w.heap.size w xs1 := fun y hy => hg1 y hy
  refine enter Try.func13 Try.ntmps13 rfl rfl ?_
  refine C_seq (C_reg ?_)
  refine L_run (R_assign rfl) rfl ?_
  refine L_nil (N_then (C_seq (C_reg ?_)))
  refine L_run (R_move rfl) rfl ?_
  refine L_call rfl cb50 (law38_Few (l := xs0) hS0 (by omega)) rfl ?_
  rintro _ w1 ⟨hs1, rfl⟩
  replace hB := gb_tr hB hs1
  replace hS0 := hS0.gb hs1
  replace hS1 := hS1.gb hs1
  replace hD0 := hD0.gb hs1
  replace hD1 := hD1.gb hs1
  refine L_run (R_notD rfl) rfl ?_
  refine L_run (R_move rfl) rfl ?_
  refine L_no rfl rfl rfl (decide_eq_false (fun hn => hn hk0)) rfl ?_
  refine L_run (R_pickF rfl (decide_eq_false (fun hn => hn hk0)) rfl) rfl ?_
  refine L_run (R_move rfl) rfl ?_
  refine L_yes rfl rfl rfl rfl ?_
  refine L_run (R_move rfl) rfl ?_
  refine L_yes rfl rfl rfl rfl ?_
  refine L_call rfl cb50 (law38_Few (l := xs1) hS1 (by omega)) rfl ?_
  rintro _ w2 ⟨hs2, rfl⟩
  replace hB := gb_tr hB hs2
  replace hS0 := hS0.gb hs2
  replace hS1 := hS1.gb hs2
  replace hD0 := hD0.gb hs2
  replace hD1 := hD1.gb hs2
  refine L_yes rfl rfl rfl rfl ?_
  refine L_run (R_notD rfl) rfl ?_
  refine L_yes rfl rfl rfl rfl ?_
  refine L_run (R_move rfl) rfl ?_
  refine L_no rfl rfl rfl (decide_eq_false (fun hn => hn hk1)) rfl ?_
  refine L_yes rfl rfl rfl rfl ?_
  refine L_run (R_pickF rfl (decide_eq_false (fun hn => hn hk1)) rfl) rfl ?_
  refine L_run (R_pickF rfl rfl rfl) rfl ?_
  refine L_run (R_move rfl) rfl ?_
  refine L_yes rfl rfl rfl rfl ?_
  refine L_run (R_move rfl) rfl ?_
  refine L_yes rfl rfl rfl rfl ?_
  refine L_run (R_move rfl) rfl ?_
  refine L_yes rfl rfl rfl rfl ?_
  refine L_call rfl cb59 (script_Same (a := xs0) (b := xs1) hS0 hS1 hD0 hD1 (by have h_ := hk0.2; omega) hk0.1 hk1.1) rfl ?_
  rintro _ w3 ⟨hs3, rfl⟩
  replace hB := gb_tr hB hs3
  replace hS0 := hS0.gb hs3
  replace hS1 := hS1.gb hs3
  replace hD0 := hD0.gb hs3
  replace hD1 := hD1.gb hs3
  refine L_yes rfl rfl rfl rfl ?_
  refine L_run (R_move rfl) rfl ?_
  refine L_yes rfl rfl rfl rfl ?_
  refine L_run (R_move rfl) rfl ?_
  refine L_yes rfl rfl rfl rfl ?_
  refine L_call rfl cb57 (ref38_Same (a := xs0) (b := xs1) hS0 hS1 hD0 hD1 (by have h_ := hk0.2; omega) hk0.1 hk1.1) rfl ?_
  rintro _ w4 ⟨hs4, rfl⟩
  replace hB := gb_tr hB hs4
  replace hS0 := hS0.gb hs4
  replace hS1 := hS1.gb hs4
  replace hD0 := hD0.gb hs4
  replace hD1 := hD1.gb hs4
  refine L_yes rfl rfl rfl rfl ?_
  refine L_run (R_eqv (R_eqlB rfl rfl boo4) (v' := .bool true) (by simp)) rfl ?_
  refine L_yes rfl rfl rfl rfl ?_
  refine L_run (R_move rfl) rfl ?_
  refine L_yes rfl rfl rfl rfl ?_
  refine L_run (R_move rfl) rfl ?_
  refine L_yes rfl rfl rfl rfl ?_
  refine L_run (R_move rfl) rfl ?_
  refine L_yes rfl rfl rfl rfl ?_
  refine L_call rfl cb59 (script_Same (a := xs0) (b := xs0) hS0 hS0 hD0 hD0 (by have h_ := hk0.2; omega) hk0.1 hk0.1) rfl ?_
  rintro _ w5 ⟨hs5, rfl⟩
  replace hB := gb_tr hB hs5
  replace hS0 := hS0.gb hs5
  replace hS1 := hS1.gb hs5
  replace hD0 := hD0.gb hs5
  replace hD1 := hD1.gb hs5
  refine L_yes rfl rfl rfl rfl ?_
  refine L_run (R_pickT rfl rfl rfl) rfl ?_
  refine L_yes rfl rfl rfl rfl ?_
  refine L_run (R_move rfl) rfl ?_
  refine L_yes rfl rfl rfl (decide_eq_true rfl) ?_
  refine L_call rfl cb51 (awake38) rfl ?_
  rintro _ w6 ⟨hs6, rfl⟩
  replace hB := gb_tr hB hs6
  replace hS0 := hS0.gb hs6
  replace hS1 := hS1.gb hs6
  replace hD0 := hD0.gb hs6
  replace hD1 := hD1.gb hs6
  refine L_yes rfl rfl rfl rfl ?_
  refine L_run (R_pickT rfl (decide_eq_true rfl) rfl) rfl ?_
  refine L_run (R_pickF rfl rfl rfl) rfl ?_
  refine L_run (R_assign rfl) rfl ?_
  refine L_nil (N_then (C_ret ?_))
  refine ret1 Try.results13 rfl ?_
  exact ⟨hB, rfl⟩

theorem walkyn {w : World} {A0 : Option Addr} {c0 : Nat} {xs0 : List StepD} (hS0 : Sli 0 0 w.heap.size w A0 (fl encS xs0)) (hl0 : xs0.length ≤ c0) (hm0 : c0 * 80 ≤ 140737488351232) (hg0 : ∀ x ∈ xs0, GoodS w x) {A1 : Option Addr} {c1 : Nat} {xs1 : List StepD} (hS1 : Sli 0 0 w.heap.size w A1 (fl encS xs1)) (hl1 : xs1.length ≤ c1) (hm1 : c1 * 80 ≤ 140737488351232) (hg1 : ∀ x ∈ xs1, GoodS w x) (hk0 : FewSs xs0) (hk1 : ¬ FewSs xs1) :
    Runs Try.prog 13 #[.slice A0 xs0.length c0, .slice A1 xs1.length c1] w (fun v w' => w.grownBy w' none ∧ v = .bool true) := by
  have hB := gb_refl w none
  have hD0 : DeepS w.heap.size w xs0 := fun y hy => hg0 y hy
  have hD1 : DeepS w.heap.size w xs1 := fun y hy => hg1 y hy
  refine enter Try.func13 Try.ntmps13 rfl rfl ?_
  refine C_seq (C_reg ?_)
  refine L_run (R_assign rfl) rfl ?_
  refine L_nil (N_then (C_seq (C_reg ?_)))
  refine L_run (R_move rfl) rfl ?_
  refine L_call rfl cb50 (law38_Few (l := xs0) hS0 (by omega)) rfl ?_
  rintro _ w1 ⟨hs1, rfl⟩
  replace hB := gb_tr hB hs1
  replace hS0 := hS0.gb hs1
  replace hS1 := hS1.gb hs1
  replace hD0 := hD0.gb hs1
  replace hD1 := hD1.gb hs1
  refine L_run (R_notD rfl) rfl ?_
  refine L_run (R_move rfl) rfl ?_
  refine L_no rfl rfl rfl (decide_eq_false (fun hn => hn hk0)) rfl ?_
  refine L_run (R_pickF rfl (decide_eq_false (fun hn => hn hk0)) rfl) rfl ?_
  refine L_run (R_move rfl) rfl ?_
  refine L_yes rfl rfl rfl rfl ?_
  refine L_run (R_move rfl) rfl ?_
  refine L_yes rfl rfl rfl rfl ?_
  refine L_call rfl cb50 (law38_Few (l := xs1) hS1 (by omega)) rfl ?_
  rintro _ w2 ⟨hs2, rfl⟩
  replace hB := gb_tr hB hs2
  replace hS0 := hS0.gb hs2
  replace hS1 := hS1.gb hs2
  replace hD0 := hD0.gb hs2
  replace hD1 := hD1.gb hs2
  refine L_yes rfl rfl rfl rfl ?_
  refine L_run (R_notD rfl) rfl ?_
  refine L_yes rfl rfl rfl rfl ?_
  refine L_run (R_move rfl) rfl ?_
  refine L_yes rfl rfl rfl (decide_eq_true hk1) ?_
  refine L_call rfl cb51 (awake38) rfl ?_
  rintro _ w3 ⟨hs3, rfl⟩
  replace hB := gb_tr hB hs3
  replace hS0 := hS0.gb hs3
  replace hS1 := hS1.gb hs3
  replace hD0 := hD0.gb hs3
  replace hD1 := hD1.gb hs3
  refine L_yes rfl rfl rfl rfl ?_
  refine L_run (R_pickT rfl (decide_eq_true hk1) rfl) rfl ?_
  refine L_run (R_pickF rfl rfl rfl) rfl ?_
  refine L_run (R_move rfl) rfl ?_
  refine L_no rfl rfl rfl rfl rfl ?_
  refine L_no rfl rfl rfl rfl rfl ?_
  refine L_no rfl rfl rfl rfl rfl ?_
  refine L_no rfl rfl rfl rfl rfl ?_
  refine L_no rfl rfl rfl rfl rfl ?_
  refine L_no rfl rfl rfl rfl rfl ?_
  refine L_no rfl rfl rfl rfl rfl ?_
  refine L_no rfl rfl rfl rfl rfl ?_
  refine L_noU rfl rfl rfl rfl ?_
  refine L_noU rfl rfl rfl rfl ?_
  refine L_noU rfl rfl rfl rfl ?_
  refine L_no rfl rfl rfl rfl rfl ?_
  refine L_no rfl rfl rfl rfl rfl ?_
  refine L_noU rfl rfl rfl rfl ?_
  refine L_no rfl rfl rfl rfl rfl ?_
  refine L_run (R_pickT rfl rfl rfl) rfl ?_
  refine L_run (R_assign rfl) rfl ?_
  refine L_nil (N_then (C_ret ?_))
  refine ret1 Try.results13 rfl ?_
  exact ⟨hB, rfl⟩

theorem walkny {w : World} {A0 : Option Addr} {c0 : Nat} {xs0 : List StepD} (hS0 : Sli 0 0 w.heap.size w A0 (fl encS xs0)) (hl0 : xs0.length ≤ c0) (hm0 : c0 * 80 ≤ 140737488351232) (hg0 : ∀ x ∈ xs0, GoodS w x) {A1 : Option Addr} {c1 : Nat} {xs1 : List StepD} (hS1 : Sli 0 0 w.heap.size w A1 (fl encS xs1)) (hl1 : xs1.length ≤ c1) (hm1 : c1 * 80 ≤ 140737488351232) (hg1 : ∀ x ∈ xs1, GoodS w x) (hk0 : ¬ FewSs xs0) (hk1 : FewSs xs1) :
    Runs Try.prog 13 #[.slice A0 xs0.length c0, .slice A1 xs1.length c1] w (fun v w' => w.grownBy w' none ∧ v = .bool true) := by
  have hB := gb_refl w none
  have hD0 : DeepS w.heap.size w xs0 := fun y hy => hg0 y hy
  have hD1 : DeepS w.heap.size w xs1 := fun y hy => hg1 y hy
  refine enter Try.func13 Try.ntmps13 rfl rfl ?_
  refine C_seq (C_reg ?_)
  refine L_run (R_assign rfl) rfl ?_
  refine L_nil (N_then (C_seq (C_reg ?_)))
  refine L_run (R_move rfl) rfl ?_
  refine L_call rfl cb50 (law38_Few (l := xs0) hS0 (by omega)) rfl ?_
  rintro _ w1 ⟨hs1, rfl⟩
  replace hB := gb_tr hB hs1
  replace hS0 := hS0.gb hs1
  replace hS1 := hS1.gb hs1
  replace hD0 := hD0.gb hs1
  replace hD1 := hD1.gb hs1
  refine L_run (R_notD rfl) rfl ?_
  refine L_run (R_move rfl) rfl ?_
  refine L_yes rfl rfl rfl (decide_eq_true hk0) ?_
  refine L_call rfl cb51 (awake38) rfl ?_
  rintro _ w2 ⟨hs2, rfl⟩
  replace hB := gb_tr hB hs2
  replace hS0 := hS0.gb hs2
  replace hS1 := hS1.gb hs2
  replace hD0 := hD0.gb hs2
  replace hD1 := hD1.gb hs2
  refine L_run (R_pickT rfl (decide_eq_true hk0) rfl) rfl ?_
  refine L_run (R_move rfl) rfl ?_
  refine L_no rfl rfl rfl rfl rfl ?_
  refine L_no rfl rfl rfl rfl rfl ?_
  refine L_no rfl rfl rfl rfl rfl ?_
  refine L_no rfl rfl rfl rfl rfl ?_
  refine L_noU rfl rfl rfl rfl ?_
  refine L_no rfl rfl rfl rfl rfl ?_
  refine L_run (R_pickT rfl rfl rfl) rfl ?_
  refine L_run (R_move rfl) rfl ?_
  refine L_no rfl rfl rfl rfl rfl ?_
  refine L_no rfl rfl rfl rfl rfl ?_
  refine L_no rfl rfl rfl rfl rfl ?_
  refine L_no rfl rfl rfl rfl rfl ?_
  refine L_no rfl rfl rfl rfl rfl ?_
  refine L_no rfl rfl rfl rfl rfl ?_
  refine L_no rfl rfl rfl rfl rfl ?_
  refine L_no rfl rfl rfl rfl rfl ?_
  refine L_noU rfl rfl rfl rfl ?_
  refine L_noU rfl rfl rfl rfl ?_
  refine L_noU rfl rfl rfl rfl ?_
  refine L_no rfl rfl rfl rfl rfl ?_
  refine L_no rfl rfl rfl rfl rfl ?_
  refine L_noU rfl rfl rfl rfl ?_
  refine L_no rfl rfl rfl rfl rfl ?_
  refine L_run (R_pickT rfl rfl rfl) rfl ?_
  refine L_run (R_assign rfl) rfl ?_
  refine L_nil (N_then (C_ret ?_))
  refine ret1 Try.results13 rfl ?_
  exact ⟨hB, rfl⟩

theorem walknn {w : World} {A0 : Option Addr} {c0 : Nat} {xs0 : List StepD} (hS0 : Sli 0 0 w.heap.size w A0 (fl encS xs0)) (hl0 : xs0.length ≤ c0) (hm0 : c0 * 80 ≤ 140737488351232) (hg0 : ∀ x ∈ xs0, GoodS w x) {A1 : Option Addr} {c1 : Nat} {xs1 : List StepD} (hS1 : Sli 0 0 w.heap.size w A1 (fl encS xs1)) (hl1 : xs1.length ≤ c1) (hm1 : c1 * 80 ≤ 140737488351232) (hg1 : ∀ x ∈ xs1, GoodS w x) (hk0 : ¬ FewSs xs0) (hk1 : ¬ FewSs xs1) :
    Runs Try.prog 13 #[.slice A0 xs0.length c0, .slice A1 xs1.length c1] w (fun v w' => w.grownBy w' none ∧ v = .bool true) := by
  have hB := gb_refl w none
  have hD0 : DeepS w.heap.size w xs0 := fun y hy => hg0 y hy
  have hD1 : DeepS w.heap.size w xs1 := fun y hy => hg1 y hy
  refine enter Try.func13 Try.ntmps13 rfl rfl ?_
  refine C_seq (C_reg ?_)
  refine L_run (R_assign rfl) rfl ?_
  refine L_nil (N_then (C_seq (C_reg ?_)))
  refine L_run (R_move rfl) rfl ?_
  refine L_call rfl cb50 (law38_Few (l := xs0) hS0 (by omega)) rfl ?_
  rintro _ w1 ⟨hs1, rfl⟩
  replace hB := gb_tr hB hs1
  replace hS0 := hS0.gb hs1
  replace hS1 := hS1.gb hs1
  replace hD0 := hD0.gb hs1
  replace hD1 := hD1.gb hs1
  refine L_run (R_notD rfl) rfl ?_
  refine L_run (R_move rfl) rfl ?_
  refine L_yes rfl rfl rfl (decide_eq_true hk0) ?_
  refine L_call rfl cb51 (awake38) rfl ?_
  rintro _ w2 ⟨hs2, rfl⟩
  replace hB := gb_tr hB hs2
  replace hS0 := hS0.gb hs2
  replace hS1 := hS1.gb hs2
  replace hD0 := hD0.gb hs2
  replace hD1 := hD1.gb hs2
  refine L_run (R_pickT rfl (decide_eq_true hk0) rfl) rfl ?_
  refine L_run (R_move rfl) rfl ?_
  refine L_no rfl rfl rfl rfl rfl ?_
  refine L_no rfl rfl rfl rfl rfl ?_
  refine L_no rfl rfl rfl rfl rfl ?_
  refine L_no rfl rfl rfl rfl rfl ?_
  refine L_noU rfl rfl rfl rfl ?_
  refine L_no rfl rfl rfl rfl rfl ?_
  refine L_run (R_pickT rfl rfl rfl) rfl ?_
  refine L_run (R_move rfl) rfl ?_
  refine L_no rfl rfl rfl rfl rfl ?_
  refine L_no rfl rfl rfl rfl rfl ?_
  refine L_no rfl rfl rfl rfl rfl ?_
  refine L_no rfl rfl rfl rfl rfl ?_
  refine L_no rfl rfl rfl rfl rfl ?_
  refine L_no rfl rfl rfl rfl rfl ?_
  refine L_no rfl rfl rfl rfl rfl ?_
  refine L_no rfl rfl rfl rfl rfl ?_
  refine L_noU rfl rfl rfl rfl ?_
  refine L_noU rfl rfl rfl rfl ?_
  refine L_noU rfl rfl rfl rfl ?_
  refine L_no rfl rfl rfl rfl rfl ?_
  refine L_no rfl rfl rfl rfl rfl ?_
  refine L_noU rfl rfl rfl rfl ?_
  refine L_no rfl rfl rfl rfl rfl ?_
  refine L_run (R_pickT rfl rfl rfl) rfl ?_
  refine L_run (R_assign rfl) rfl ?_
  refine L_nil (N_then (C_ret ?_))
  refine ret1 Try.results13 rfl ?_
  exact ⟨hB, rfl⟩

theorem walk {w : World} {A0 : Option Addr} {c0 : Nat} {xs0 : List StepD} (hS0 : Sli 0 0 w.heap.size w A0 (fl encS xs0)) (hl0 : xs0.length ≤ c0) (hm0 : c0 * 80 ≤ 140737488351232) (hg0 : ∀ x ∈ xs0, GoodS w x) {A1 : Option Addr} {c1 : Nat} {xs1 : List StepD} (hS1 : Sli 0 0 w.heap.size w A1 (fl encS xs1)) (hl1 : xs1.length ≤ c1) (hm1 : c1 * 80 ≤ 140737488351232) (hg1 : ∀ x ∈ xs1, GoodS w x) : Runs Try.prog 13 #[.slice A0 xs0.length c0, .slice A1 xs1.length c1] w (fun v w' => w.grownBy w' none ∧ v = .bool true) := by
  by_cases h0 : FewSs xs0 <;> by_cases h1 : FewSs xs1
  · exact walkyy hS0 hl0 hm0 hg0 hS1 hl1 hm1 hg1 h0 h1
  · exact walkyn hS0 hl0 hm0 hg0 hS1 hl1 hm1 hg1 h0 h1
  · exact walkny hS0 hl0 hm0 hg0 hS1 hl1 hm1 hg1 h0 h1
  · exact walknn hS0 hl0 hm0 hg0 hS1 hl1 hm1 hg1 h0 h1

open Go.ChangeShapes Go.WideShapes Go.ChangeAt
theorem own : ownKnob Try.prog.godebug = none := by kernel_rfl
theorem laidOut : laidOutB Try.prog = true := by kernel_rfl
set_option maxRecDepth 100000 in
theorem lifted (os : Os) (started : os.Started) (H : Type) (enc : TypeId × Value → H) :
    ReturnsInHanded {} Try.checked os 13 .any (Rows.scriptSamesSpec.pre6 enc Try.prog Try.f13 Rows.scriptSamesRow.domain false) (Rows.scriptSamesSpec.post enc Try.prog Try.f13 false true false false) := by
  refine returnsInHanded_of_change_sized (C := Try.checked) own started (by kernel_rfl) Try.func13
    (ChangeSpec.witness6 (enc := enc) (C := Try.checked) false ⟨#[], #[.slice none 0 0, .slice none 0 0], []⟩ 8 (by kernel_rfl) (by kernel_rfl) (by kernel_rfl) (by kernel_rfl)) ?_
  intro W base args ds gs before hval0 hW hcnd hsz0 _
  have hsz : (DataW.weightsEach Try.prog (Try.f13.params.toList ++ Rows.scriptSamesSpec.plain.varTypes Try.prog) (ds ++ gs)).all (· ≤ reachBytes) = true := hsz0
  have hval : ∀ (j : Nat) t v, Try.f13.params[j]? = some t → args[j]? = some v → Value.okWide Try.prog W .any base t v := hval0
  have hW' := hW
  obtain ⟨p, q, hA0, hV, rfl, hfz, hnd⟩ := hW
  have hA : DataW.TrodAll enc Try.prog W 0 (fun _ => true) true Try.f13.params.toList args.toList ds p := hA0
  rw [Try.params13] at hA hval hsz
  obtain ⟨v0, vs0, d0, ds0, p0, q0, hargs, rfl, rfl, h0, r0⟩ := trodAll_cons hA
  obtain ⟨v1, vs1, d1, ds1, p1, q1, rfl, rfl, rfl, h1, r1⟩ := trodAll_cons r0
  obtain ⟨rfl, rfl, rfl⟩ := trodAll_nil r1
  obtain rfl : args = #[v0, v1] := by cases args; simp_all
  obtain ⟨rfl, rfl⟩ := trodVars_none hV
  have lt0 : ∀ x ∈ p0, x.block < W.heap.size := by obtain ⟨m, hm⟩ := h0; exact DataW.trod_lt m _ _ _ hm
  obtain ⟨⟨A0, c0, xs0⟩, e0, hS0, hl0, hm0, hg0⟩ := Rdr.arg (enc := enc) (P := Try.prog) (W := W) (Rdr.slice (ec := encS) (sz := 6) (by_ := 80) ((Rdr.struct Try.underlying65 rfl (by kernel_rfl) (Rds.cons (off := 0) (sz := 1) (Rdr.int Try.underlying3) (by kernel_rfl) rfl (by decide) (Rds.cons (off := 1) (sz := 1) (Rdr.int Try.underlying3) (by kernel_rfl) rfl (by decide) (Rds.cons (off := 2) (sz := 1) (Rdr.slice (ec := encOp) (sz := 3) (by_ := 40) ((Rdr.struct Try.underlying44 rfl (by kernel_rfl) (Rds.cons (off := 0) (sz := 1) (Rdr.int Try.underlying3) (by kernel_rfl) rfl (by decide) (Rds.cons (off := 1) (sz := 1) (Rdr.str Try.underlying9) (by kernel_rfl) rfl (by decide) (Rds.cons (off := 2) (sz := 1) (Rdr.str Try.underlying9) (by kernel_rfl) rfl (by decide) (Rds.nil))))).map (fun y => (⟨y.1, y.2.1, y.2.2.1⟩ : Opd)) (e' := encOp) (fun _ _ => rfl) (good' := GoodOp) (fun _ h => ⟨h.1, h.2.1, h.2.2.1⟩)) EncOp Try.underlying22 (by kernel_rfl) (by kernel_rfl)) (by kernel_rfl) rfl (by decide) (Rds.cons (off := 3) (sz := 3) (Rdr.struct Try.underlying63 rfl (by kernel_rfl) (Rds.cons (off := 0) (sz := 1) (Rdr.slice (ec := encB) (sz := 1) (by_ := 1) ((Rdr.int Try.underlying5).map (fun n => UInt8.ofNat n.toNat) byte_of (good' := fun _ => True) (fun _ _ => trivial)) EncB Try.underlying42 (by kernel_rfl) (by kernel_rfl)) (by kernel_rfl) rfl (by decide) (Rds.cons (off := 1) (sz := 1) (Rdr.int Try.underlying3) (by kernel_rfl) rfl (by decide) (Rds.cons (off := 2) (sz := 1) (Rdr.int Try.underlying3) (by kernel_rfl) rfl (by decide) (Rds.nil))))) (by kernel_rfl) rfl (by decide) (Rds.nil)))))).map (fun y => (⟨y.2.2.1.1, y.2.2.1.2.1, y.2.2.2.1.1.1, y.2.2.2.1.1.2.1, ⟨y.1, y.2.1, y.2.2.1.2.2, y.2.2.2.1.1.2.2, y.2.2.2.1.2.1, y.2.2.2.1.2.2.1⟩⟩ : StepD)) (e' := encS) (fun _ _ => rfl) (good' := GoodS W) (fun _ h => ⟨h.2.2.1.1, h.2.2.2.1.1.1⟩)) EncS Try.underlying58 (by kernel_rfl) (by kernel_rfl)) hsz (j := 0) rfl rfl h0
  obtain rfl := of_cell e0 (by intro cs e_; obtain ⟨a_, l_, k_, e2_⟩ := okWide_slice Try.underlying58 (hval 0 58 v0 rfl rfl); rw [e2_] at e_; cases e_)
  have lt1 : ∀ x ∈ p1, x.block < W.heap.size := by obtain ⟨m, hm⟩ := h1; exact DataW.trod_lt m _ _ _ hm
  obtain ⟨⟨A1, c1, xs1⟩, e1, hS1, hl1, hm1, hg1⟩ := Rdr.arg (enc := enc) (P := Try.prog) (W := W) (Rdr.slice (ec := encS) (sz := 6) (by_ := 80) ((Rdr.struct Try.underlying65 rfl (by kernel_rfl) (Rds.cons (off := 0) (sz := 1) (Rdr.int Try.underlying3) (by kernel_rfl) rfl (by decide) (Rds.cons (off := 1) (sz := 1) (Rdr.int Try.underlying3) (by kernel_rfl) rfl (by decide) (Rds.cons (off := 2) (sz := 1) (Rdr.slice (ec := encOp) (sz := 3) (by_ := 40) ((Rdr.struct Try.underlying44 rfl (by kernel_rfl) (Rds.cons (off := 0) (sz := 1) (Rdr.int Try.underlying3) (by kernel_rfl) rfl (by decide) (Rds.cons (off := 1) (sz := 1) (Rdr.str Try.underlying9) (by kernel_rfl) rfl (by decide) (Rds.cons (off := 2) (sz := 1) (Rdr.str Try.underlying9) (by kernel_rfl) rfl (by decide) (Rds.nil))))).map (fun y => (⟨y.1, y.2.1, y.2.2.1⟩ : Opd)) (e' := encOp) (fun _ _ => rfl) (good' := GoodOp) (fun _ h => ⟨h.1, h.2.1, h.2.2.1⟩)) EncOp Try.underlying22 (by kernel_rfl) (by kernel_rfl)) (by kernel_rfl) rfl (by decide) (Rds.cons (off := 3) (sz := 3) (Rdr.struct Try.underlying63 rfl (by kernel_rfl) (Rds.cons (off := 0) (sz := 1) (Rdr.slice (ec := encB) (sz := 1) (by_ := 1) ((Rdr.int Try.underlying5).map (fun n => UInt8.ofNat n.toNat) byte_of (good' := fun _ => True) (fun _ _ => trivial)) EncB Try.underlying42 (by kernel_rfl) (by kernel_rfl)) (by kernel_rfl) rfl (by decide) (Rds.cons (off := 1) (sz := 1) (Rdr.int Try.underlying3) (by kernel_rfl) rfl (by decide) (Rds.cons (off := 2) (sz := 1) (Rdr.int Try.underlying3) (by kernel_rfl) rfl (by decide) (Rds.nil))))) (by kernel_rfl) rfl (by decide) (Rds.nil)))))).map (fun y => (⟨y.2.2.1.1, y.2.2.1.2.1, y.2.2.2.1.1.1, y.2.2.2.1.1.2.1, ⟨y.1, y.2.1, y.2.2.1.2.2, y.2.2.2.1.1.2.2, y.2.2.2.1.2.1, y.2.2.2.1.2.2.1⟩⟩ : StepD)) (e' := encS) (fun _ _ => rfl) (good' := GoodS W) (fun _ h => ⟨h.2.2.1.1, h.2.2.2.1.1.1⟩)) EncS Try.underlying58 (by kernel_rfl) (by kernel_rfl)) hsz (j := 1) rfl rfl h1
  obtain rfl := of_cell e1 (by intro cs e_; obtain ⟨a_, l_, k_, e2_⟩ := okWide_slice Try.underlying58 (hval 1 58 v1 rfl rfl); rw [e2_] at e_; cases e_)
  refine (walk (w := W) hS0 hl0 hm0 hg0 hS1 hl1 hm1 hg1).calls.mono fun e W' ⟨v_, he, hgb, hv_⟩ => ?_
  subst he
  subst hv_
  have bel := gb_below hgb
  exact ⟨_, rfl, _, _, _, [], _, [], hW', trodAll_mk1 (shut_bool Try.underlying4 _), (trodAll_cons_mk (Below.trod laidOut (by kernel_rfl) (of_decide_eq_true (by kernel_rfl)) h0 bel lt0) (trodAll_cons_mk (Below.trod laidOut (by kernel_rfl) (of_decide_eq_true (by kernel_rfl)) h1 bel lt1) trodAll_mk0)), rfl, bel.frame _, fun h => by cases h⟩
theorem over : Rows.scriptSamesRow.holds Try.pinned (OpenSpec.ofChange Rows.scriptSamesSpec) :=
  OpenClaim.holds_of_wide 13 Try.f13 rfl rfl rfl rfl rfl rfl rfl ⟨rfl, rfl, rfl, rfl, rfl⟩ rfl rfl rfl rfl rfl (by kernel_rfl) Try.func13 (by kernel_rfl)
    (of_decide_eq_true (by kernel_rfl)) (by unfold Func.isWrapper; first | (rw [if_pos (by decide +kernel)]; kernel_rfl) | (rw [if_neg (by decide +kernel)]; exact ⟨rfl, rfl⟩))
    (fun os started H enc _ => lifted os started H enc)
/-- The given statement. -/
theorem proved : Rows.ScriptSamesSaid := over
#print axioms proved

end Go.Proofs.Ytnggbodilhpohaa.LScriptSames
