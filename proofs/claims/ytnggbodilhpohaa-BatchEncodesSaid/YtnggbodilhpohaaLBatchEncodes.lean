/-
  For every list of operations the law BatchEncodes returns true, and changes nothing that was there.
-/
import Derived.Test.YtnggbodilhpohaaCc
import Derived.WalkKit
import Derived.ProofKit
import Derived.OpenShut
import Derived.ShutString
import Derived.ChangeOld
import Derived.Below
import Derived.SizedLaws
namespace Go.Proofs.Ytnggbodilhpohaa.LBatchEncodes
open Go.RowKit Gw Pl
set_option linter.unusedVariables false
set_option linter.unusedSimpArgs false
theorem boo4 : Try.prog.underlying 4 = some .bool := by kernel_rfl
theorem cb15 : callB Try.prog 15 = true := by kernel_rfl
theorem cb43 : callB Try.prog 43 = true := by kernel_rfl
theorem cb44 : callB Try.prog 44 = true := by kernel_rfl
theorem cb48 : callB Try.prog 48 = true := by kernel_rfl
theorem walk1 {w : World} {A0 : Option Addr} {c0 : Nat} {xs0 : List Opd} (hS0 : Sli 0 0 w.heap.size w A0 (fl encOp xs0)) (hl0 : xs0.length ≤ c0) (hm0 : c0 * 40 ≤ 140737488351232) (hg0 : ∀ x ∈ xs0, GoodOp x) (hok : OkL xs0) :
    Runs Try.prog 9 #[.slice A0 xs0.length c0] w (fun v w' => w.grownBy w' none ∧ v = .bool true) := by
  have hB := gb_refl w none
  have hE := encs_len hok.1
  have hl8 := hok.2.2
  have hG := bget_encs hok
  have hG1 : (bget (encs xs0)).1 = xs0 := by rw [hG]
  refine enter Try.func9 Try.ntmps9 rfl rfl ?_
  refine C_seq (C_reg ?_)
  refine L_run (R_assign rfl) rfl ?_
  refine L_nil (N_then (C_seq (C_seq (C_reg ?_))))
  refine L_run (R_move rfl) rfl ?_
  refine L_run (R_lenSl rfl slc22) rfl ?_
  refine L_run (R_gtr rfl rfl) rfl ?_
  refine L_nil (N_then ?_)
  refine C_if rfl (fun h1 => ?_) (fun h1 => ?_)
  · refine C_seq (C_reg ?_)
    refine L_call rfl cb43 (awake12) rfl ?_
    rintro _ w1 ⟨hs1, rfl⟩
    replace hB := gb_tr hB hs1
    replace hS0 := hS0.gb hs1
    refine L_run (R_assign rfl) rfl ?_
    refine L_nil (N_then (C_ret (R_then ?_)))
    refine ret1 Try.results9 rfl ?_
    exact ⟨hB, rfl⟩
  · refine C_skip (N_then (C_seq (C_reg ?_)))
    refine L_run (R_move rfl) rfl ?_
    have ge1 : w.heap.size ≤ w.heap.size := hB.size
    refine L_call rfl cb44 (batch_Encode_ok (l := xs0) hS0 (by first | omega | (simp; done) | (simp; omega)) hok) rfl ?_
    rintro _ w2 ⟨hs2, A_1, c_1, rfl, ho1⟩
    replace hB := gb_tr hB hs2
    replace hS0 := hS0.gb hs2
    have hlo1 : w.heap.size ≤ w2.heap.size := hs2.size
    refine L_run (R_move rfl) rfl ?_
    refine L_run (R_extract rfl rfl) rfl ?_
    refine L_run (R_extract rfl rfl) rfl ?_
    refine L_run (R_assign rfl) rfl ?_
    refine L_run (R_assign rfl) rfl ?_
    refine L_nil (N_then (C_seq (C_seq (C_reg ?_))))
    refine L_run (R_move rfl) rfl ?_
    refine L_call rfl cb45 (batch_Right (l := xs0) hS0 (by first | omega | (simp; done) | (simp; omega))) rfl ?_
    rintro _ w3 ⟨hs3, rfl⟩
    replace hB := gb_tr hB hs3
    replace hS0 := hS0.gb hs3
    replace ho1 := own_gb ho1 hs3
    replace hlo1 := Nat.le_trans hlo1 hs3.size
    refine L_run (R_move rfl) rfl ?_
    refine L_call rfl cb46 (ref12_Right (l := xs0) hS0 (by first | omega | (simp; done) | (simp; omega))) rfl ?_
    rintro _ w4 ⟨hs4, rfl⟩
    replace hB := gb_tr hB hs4
    replace hS0 := hS0.gb hs4
    replace ho1 := own_gb ho1 hs4
    replace hlo1 := Nat.le_trans hlo1 hs4.size
    refine L_run (R_eqv (R_neqB rfl rfl boo4) (v' := .bool false) (by simp)) rfl ?_
    refine L_nil (N_then (C_condF rfl rfl (C_skip (N_then (C_seq (C_seq (C_reg ?_)))))))
    refine L_run (R_move rfl) rfl ?_
    refine L_call rfl cb46 (ref12_Right (l := xs0) hS0 (by first | omega | (simp; done) | (simp; omega))) rfl ?_
    rintro _ w5 ⟨hs5, rfl⟩
    replace hB := gb_tr hB hs5
    replace hS0 := hS0.gb hs5
    replace ho1 := own_gb ho1 hs5
    replace hlo1 := Nat.le_trans hlo1 hs5.size
    refine L_run (R_notD rfl) rfl ?_
    refine L_nil (N_then (C_condF rfl (decide_eq_false (fun hn => hn hok)) (C_skip (N_then (C_seq (C_reg ?_))))))
    refine L_run (R_move rfl) rfl ?_
    have ge2 : w.heap.size ≤ w5.heap.size := hB.size
    refine L_call rfl cb47 (batch_Decode (bs := (encs xs0)) (own_of ho1).2.2 (by first | omega | (simp; done) | (simp; omega)) (own_cap ho1)) rfl ?_
    rintro _ w6 ⟨hs6, A_2, c_2, rfl, ho2⟩
    replace hB := gb_tr hB hs6
    replace hS0 := hS0.gb hs6
    replace ho1 := own_gb ho1 hs6
    replace hlo1 := Nat.le_trans hlo1 hs6.size
    have hlo2 : w5.heap.size ≤ w6.heap.size := hs6.size
    refine L_run (R_move rfl) rfl ?_
    refine L_run (R_extract rfl rfl) rfl ?_
    refine L_run (R_extract rfl rfl) rfl ?_
    refine L_run (R_assign rfl) rfl ?_
    refine L_run (R_assign rfl) rfl ?_
    refine L_nil (N_then (C_seq ?_))
    refine C_draw2 mix ?_
    intro w7 hs7 hz1
    replace hB := gb_tr hB hs7
    replace hS0 := hS0.gb hs7
    replace ho1 := own_gb ho1 hs7
    replace hlo1 := Nat.le_trans hlo1 hs7.size
    replace ho2 := own_gb ho2 hs7
    replace hlo2 := Nat.le_trans hlo2 hs7.size
    refine ⟨fun W_ => Sli 0 0 w.heap.size W_ A0 (fl encOp xs0) ∧ World.ownsRow W_ w.heap.size 5 1 (.slice A_1 (encs xs0).length c_1) (encs xs0).length (fl encB (encs xs0)) ∧ World.ownsRow W_ w5.heap.size 44 3 (.slice A_2 ((bget (encs xs0)).1).length c_2) ((bget (encs xs0)).1).length (fl encOp ((bget (encs xs0)).1)) ∧ True, [0, 1, 2, 3, 4, 5, 8, 9, 10, 11, 12, 13, 14, 15, 16, 18, 19, 21, 22], ?_⟩
    refine T_takeA (i := 0) rfl rfl (by kernel_rfl) (by kernel_rfl) (by kernel_rfl) (Y_of (fun _ ⟨hS0, ho1, ho2, _⟩ => R_move rfl)) ⟨hS0, ho1, ho2, trivial⟩ rfl ?_
    refine T_takeA (i := 1) rfl rfl (by kernel_rfl) (by kernel_rfl) (by kernel_rfl) (Y_of (fun _ ⟨hS0, ho1, ho2, _⟩ => R_eqv (R_eql rfl rfl) (v' := .bool true) rfl)) ⟨hS0, ho1, ho2, trivial⟩ rfl ?_
    refine T_takeA (i := 2) rfl rfl (by kernel_rfl) (by kernel_rfl) (by kernel_rfl) (Y_of (fun _ ⟨hS0, ho1, ho2, _⟩ => R_move rfl)) ⟨hS0, ho1, ho2, trivial⟩ rfl ?_
    refine T_takeA (i := 3) rfl rfl (by kernel_rfl) (by kernel_rfl) (by kernel_rfl) (Y_yes rfl rfl rfl rfl (fun _ ⟨hS0, ho1, ho2, _⟩ => R_move rfl)) ⟨hS0, ho1, ho2, trivial⟩ rfl ?_
    refine T_takeA (i := 4) rfl rfl (by kernel_rfl) (by kernel_rfl) (by kernel_rfl) (Y_yes rfl rfl rfl rfl (fun _ ⟨hS0, ho1, ho2, _⟩ => R_b2s' (bs := encs xs0) rfl slc42 int5 str9 (own_of ho1).2.2)) ⟨hS0, ho1, ho2, trivial⟩ rfl ?_
    refine T_takeA (i := 5) rfl rfl (by kernel_rfl) (by kernel_rfl) (by kernel_rfl) (Y_yes rfl rfl rfl rfl (fun _ ⟨hS0, ho1, ho2, _⟩ => R_move rfl)) ⟨hS0, ho1, ho2, trivial⟩ rfl ?_
    refine T_all (rs := [6]) (by kernel_rfl) rfl (all1 (O_one rfl ?_))
    refine L_yes rfl rfl rfl rfl ?_
    have ge3 : w.heap.size ≤ w7.heap.size := hB.size
    refine L_call rfl cb48 (ref12_Bytes (l := xs0) hS0 (by first | omega | (simp; done) | (simp; omega)) hok.1) rfl ?_
    rintro _ w8 ⟨hs8, A_3, c_3, rfl, ho3⟩
    replace hB := gb_tr hB hs8
    replace hS0 := hS0.gb hs8
    replace ho1 := own_gb ho1 hs8
    replace hlo1 := Nat.le_trans hlo1 hs8.size
    replace ho2 := own_gb ho2 hs8
    replace hlo2 := Nat.le_trans hlo2 hs8.size
    have hlo3 : w7.heap.size ≤ w8.heap.size := hs8.size
    refine L_nil (N_then ⟨fun hN_ => ⟨hS0, ho1, ho2, trivial⟩, ?_⟩)
    refine T_all (rs := [7]) (by kernel_rfl) rfl (all1 (O_one rfl ?_))
    refine L_yes rfl rfl rfl rfl ?_
    refine L_run (R_b2s' (bs := encs xs0) rfl slc42 int5 str9 (own_of ho3).2.2) rfl ?_
    refine L_nil (N_then ⟨fun hN_ => ⟨hS0, ho1, ho2, trivial⟩, ?_⟩)
    refine T_takeA (i := 8) rfl rfl (by kernel_rfl) (by kernel_rfl) (by kernel_rfl) (Y_yes rfl rfl rfl rfl (fun _ ⟨hS0, ho1, ho2, _⟩ => R_eqv (R_eqlS rfl rfl) (v' := .bool true) (bT' rfl))) ⟨hS0, ho1, ho2, trivial⟩ rfl ?_
    refine T_takeA (i := 9) rfl rfl (by kernel_rfl) (by kernel_rfl) (by kernel_rfl) (Y_of (fun _ ⟨hS0, ho1, ho2, _⟩ => R_pickT rfl rfl rfl)) ⟨hS0, ho1, ho2, trivial⟩ rfl ?_
    refine T_takeA (i := 10) rfl rfl (by kernel_rfl) (by kernel_rfl) (by kernel_rfl) (Y_of (fun _ ⟨hS0, ho1, ho2, _⟩ => R_move rfl)) ⟨hS0, ho1, ho2, trivial⟩ rfl ?_
    refine T_takeA (i := 11) rfl rfl (by kernel_rfl) (by kernel_rfl) (by kernel_rfl) (Y_yes rfl rfl rfl rfl (fun _ ⟨hS0, ho1, ho2, _⟩ => R_move rfl)) ⟨hS0, ho1, ho2, trivial⟩ rfl ?_
    refine T_takeA (i := 12) rfl rfl (by kernel_rfl) (by kernel_rfl) (by kernel_rfl) (Y_yes rfl rfl rfl rfl (fun _ ⟨hS0, ho1, ho2, _⟩ => R_eqv (R_eql rfl rfl) (v' := .bool true) (bT' (by rw [hG])))) ⟨hS0, ho1, ho2, trivial⟩ rfl ?_
    refine T_takeA (i := 13) rfl rfl (by kernel_rfl) (by kernel_rfl) (by kernel_rfl) (Y_of (fun _ ⟨hS0, ho1, ho2, _⟩ => R_pickT rfl rfl rfl)) ⟨hS0, ho1, ho2, trivial⟩ rfl ?_
    refine T_takeA (i := 14) rfl rfl (by kernel_rfl) (by kernel_rfl) (by kernel_rfl) (Y_of (fun _ ⟨hS0, ho1, ho2, _⟩ => R_move rfl)) ⟨hS0, ho1, ho2, trivial⟩ rfl ?_
    refine T_takeA (i := 15) rfl rfl (by kernel_rfl) (by kernel_rfl) (by kernel_rfl) (Y_yes rfl rfl rfl rfl (fun _ ⟨hS0, ho1, ho2, _⟩ => R_move rfl)) ⟨hS0, ho1, ho2, trivial⟩ rfl ?_
    refine T_takeA (i := 16) rfl rfl (by kernel_rfl) (by kernel_rfl) (by kernel_rfl) (Y_yes rfl rfl rfl rfl (fun _ ⟨hS0, ho1, ho2, _⟩ => R_move rfl)) ⟨hS0, ho1, ho2, trivial⟩ rfl ?_
    refine T_all (rs := [17]) (by kernel_rfl) rfl (all1 (O_one rfl ?_))
    refine L_yes rfl rfl rfl rfl ?_
    refine L_call rfl cb15 (ref10_Same (a := (bget (encs xs0)).1) (b := xs0) (own_of ho2).2.2 hS0 (by rw [hG1]; omega)) rfl ?_
    rintro _ w9 ⟨hs9, rfl⟩
    replace hB := gb_tr hB hs9
    replace hS0 := hS0.gb hs9
    replace ho1 := own_gb ho1 hs9
    replace hlo1 := Nat.le_trans hlo1 hs9.size
    replace ho2 := own_gb ho2 hs9
    replace hlo2 := Nat.le_trans hlo2 hs9.size
    replace ho3 := own_gb ho3 hs9
    replace hlo3 := Nat.le_trans hlo3 hs9.size
    refine L_nil (N_then ⟨fun hN_ => ⟨hS0, ho1, ho2, trivial⟩, ?_⟩)
    refine T_takeA (i := 18) rfl rfl (by kernel_rfl) (by kernel_rfl) (by kernel_rfl) (Y_of (fun _ ⟨hS0, ho1, ho2, _⟩ => R_pickT rfl rfl rfl)) ⟨hS0, ho1, ho2, trivial⟩ rfl ?_
    refine T_takeA (i := 19) rfl rfl (by kernel_rfl) (by kernel_rfl) (by kernel_rfl) (Y_of (fun _ ⟨hS0, ho1, ho2, _⟩ => R_move rfl)) ⟨hS0, ho1, ho2, trivial⟩ rfl ?_
    refine T_all (rs := [20]) (by kernel_rfl) rfl (all1 (O_one rfl ?_))
    refine L_yes rfl rfl rfl (decide_eq_true hG1) ?_
    refine L_call rfl cb43 (awake12) rfl ?_
    rintro _ w10 ⟨hs10, rfl⟩
    replace hB := gb_tr hB hs10
    replace hS0 := hS0.gb hs10
    replace ho1 := own_gb ho1 hs10
    replace hlo1 := Nat.le_trans hlo1 hs10.size
    replace ho2 := own_gb ho2 hs10
    replace hlo2 := Nat.le_trans hlo2 hs10.size
    replace ho3 := own_gb ho3 hs10
    replace hlo3 := Nat.le_trans hlo3 hs10.size
    refine L_nil (N_then ⟨fun hN_ => ⟨hS0, ho1, ho2, trivial⟩, ?_⟩)
    refine T_takeA (i := 21) rfl rfl (by kernel_rfl) (by kernel_rfl) (by kernel_rfl) (Y_of (fun _ ⟨hS0, ho1, ho2, _⟩ => R_pickT rfl (decide_eq_true hG1) rfl)) ⟨hS0, ho1, ho2, trivial⟩ rfl ?_
    refine T_takeA (i := 22) rfl rfl (by kernel_rfl) (by kernel_rfl) (by kernel_rfl) (Y_of (fun _ ⟨hS0, ho1, ho2, _⟩ => R_assign rfl)) ⟨hS0, ho1, ho2, trivial⟩ rfl ?_
    refine T_done (by kernel_rfl) (NoPanic.normal ?_)
    refine N_then (C_ret ?_)
    refine ret1 Try.results9 rfl ?_
    exact ⟨hB, rfl⟩

theorem walk2 {w : World} {A0 : Option Addr} {c0 : Nat} {xs0 : List Opd} (hS0 : Sli 0 0 w.heap.size w A0 (fl encOp xs0)) (hl0 : xs0.length ≤ c0) (hm0 : c0 * 40 ≤ 140737488351232) (hg0 : ∀ x ∈ xs0, GoodOp x) (hok : ¬ OkL xs0) :
    Runs Try.prog 9 #[.slice A0 xs0.length c0] w (fun v w' => w.grownBy w' none ∧ v = .bool true) := by
  have hB := gb_refl w none
  refine enter Try.func9 Try.ntmps9 rfl rfl ?_
  refine C_seq (C_reg ?_)
  refine L_run (R_assign rfl) rfl ?_
  refine L_nil (N_then (C_seq (C_seq (C_reg ?_))))
  refine L_run (R_move rfl) rfl ?_
  refine L_run (R_lenSl rfl slc22) rfl ?_
  refine L_run (R_gtr rfl rfl) rfl ?_
  refine L_nil (N_then ?_)
  refine C_if rfl (fun h1 => ?_) (fun h1 => ?_)
  · refine C_seq (C_reg ?_)
    refine L_call rfl cb43 (awake12) rfl ?_
    rintro _ w1 ⟨hs1, rfl⟩
    replace hB := gb_tr hB hs1
    replace hS0 := hS0.gb hs1
    refine L_run (R_assign rfl) rfl ?_
    refine L_nil (N_then (C_ret (R_then ?_)))
    refine ret1 Try.results9 rfl ?_
    exact ⟨hB, rfl⟩
  · refine C_skip (N_then (C_seq (C_reg ?_)))
    refine L_run (R_move rfl) rfl ?_
    have ge1 : w.heap.size ≤ w.heap.size := hB.size
    refine L_call rfl cb44 (batch_Encode_no (l := xs0) hS0 (by first | omega | (simp; done) | (simp; omega)) hok) rfl ?_
    rintro _ w2 ⟨hs2, A_1, c_1, rfl, ho1⟩
    replace hB := gb_tr hB hs2
    replace hS0 := hS0.gb hs2
    have hlo1 : w.heap.size ≤ w2.heap.size := hs2.size
    refine L_run (R_move rfl) rfl ?_
    refine L_run (R_extract rfl rfl) rfl ?_
    refine L_run (R_extract rfl rfl) rfl ?_
    refine L_run (R_assign rfl) rfl ?_
    refine L_run (R_assign rfl) rfl ?_
    refine L_nil (N_then (C_seq (C_seq (C_reg ?_))))
    refine L_run (R_move rfl) rfl ?_
    refine L_call rfl cb45 (batch_Right (l := xs0) hS0 (by first | omega | (simp; done) | (simp; omega))) rfl ?_
    rintro _ w3 ⟨hs3, rfl⟩
    replace hB := gb_tr hB hs3
    replace hS0 := hS0.gb hs3
    replace hlo1 := Nat.le_trans hlo1 hs3.size
    refine L_run (R_move rfl) rfl ?_
    refine L_call rfl cb46 (ref12_Right (l := xs0) hS0 (by first | omega | (simp; done) | (simp; omega))) rfl ?_
    rintro _ w4 ⟨hs4, rfl⟩
    replace hB := gb_tr hB hs4
    replace hS0 := hS0.gb hs4
    replace hlo1 := Nat.le_trans hlo1 hs4.size
    refine L_run (R_eqv (R_neqB rfl rfl boo4) (v' := .bool false) (by simp)) rfl ?_
    refine L_nil (N_then (C_condF rfl rfl (C_skip (N_then (C_seq (C_seq (C_reg ?_)))))))
    refine L_run (R_move rfl) rfl ?_
    refine L_call rfl cb46 (ref12_Right (l := xs0) hS0 (by first | omega | (simp; done) | (simp; omega))) rfl ?_
    rintro _ w5 ⟨hs5, rfl⟩
    replace hB := gb_tr hB hs5
    replace hS0 := hS0.gb hs5
    replace hlo1 := Nat.le_trans hlo1 hs5.size
    refine L_run (R_notD rfl) rfl ?_
    refine L_nil (N_then (C_condT rfl (decide_eq_true hok) (C_seq (C_reg ?_))))
    refine L_run (R_move rfl) rfl ?_
    refine L_run (R_eqv (R_eql rfl rfl) (v' := .bool true) rfl) rfl ?_
    refine L_run (R_move rfl) rfl ?_
    refine L_yes rfl rfl rfl rfl ?_
    refine L_run (R_move rfl) rfl ?_
    refine L_yes rfl rfl rfl rfl ?_
    refine L_run (R_eqv (R_lenSl rfl slc42) (v' := .int .i64 0) rfl) rfl ?_
    refine L_yes rfl rfl rfl rfl ?_
    refine L_run (R_eqv (R_eql rfl rfl) (v' := .bool true) rfl) rfl ?_
    refine L_run (R_pickT rfl rfl rfl) rfl ?_
    refine L_run (R_move rfl) rfl ?_
    refine L_yes rfl rfl rfl rfl ?_
    refine L_call rfl cb43 (awake12) rfl ?_
    rintro _ w6 ⟨hs6, rfl⟩
    replace hB := gb_tr hB hs6
    replace hS0 := hS0.gb hs6
    replace hlo1 := Nat.le_trans hlo1 hs6.size
    refine L_run (R_pickT rfl rfl rfl) rfl ?_
    refine L_run (R_assign rfl) rfl ?_
    refine L_nil (N_then (C_ret (R_then ?_)))
    refine ret1 Try.results9 rfl ?_
    exact ⟨hB, rfl⟩

theorem walk {w : World} {A0 : Option Addr} {c0 : Nat} {xs0 : List Opd} (hS0 : Sli 0 0 w.heap.size w A0 (fl encOp xs0)) (hl0 : xs0.length ≤ c0) (hm0 : c0 * 40 ≤ 140737488351232) (hg0 : ∀ x ∈ xs0, GoodOp x) : Runs Try.prog 9 #[.slice A0 xs0.length c0] w (fun v w' => w.grownBy w' none ∧ v = .bool true) := by
  by_cases hok : OkL xs0
  · exact walk1 hS0 hl0 hm0 hg0 hok
  · exact walk2 hS0 hl0 hm0 hg0 hok

open Go.ChangeShapes Go.WideShapes Go.ChangeAt
theorem own : ownKnob Try.prog.godebug = none := by kernel_rfl
theorem laidOut : laidOutB Try.prog = true := by kernel_rfl
set_option maxRecDepth 100000 in
theorem lifted (os : Os) (started : os.Started) (H : Type) (enc : TypeId × Value → H) :
    ReturnsInHanded {} Try.checked os 9 .any (Rows.batchEncodesSpec.pre6 enc Try.prog Try.f9 Rows.batchEncodesRow.domain false) (Rows.batchEncodesSpec.post enc Try.prog Try.f9 false true false false) := by
  refine returnsInHanded_of_change_sized (C := Try.checked) own started (by kernel_rfl) Try.func9
    (ChangeSpec.witness6 (enc := enc) (C := Try.checked) false ⟨#[], #[.slice none 0 0], []⟩ 8 (by kernel_rfl) (by kernel_rfl) (by kernel_rfl) (by kernel_rfl)) ?_
  intro W base args ds gs before hval0 hW hcnd hsz0 _
  have hsz : (DataW.weightsEach Try.prog (Try.f9.params.toList ++ Rows.batchEncodesSpec.plain.varTypes Try.prog) (ds ++ gs)).all (· ≤ reachBytes) = true := hsz0
  have hval : ∀ (j : Nat) t v, Try.f9.params[j]? = some t → args[j]? = some v → Value.okWide Try.prog W .any base t v := hval0
  have hW' := hW
  obtain ⟨p, q, hA0, hV, rfl, hfz, hnd⟩ := hW
  have hA : DataW.TrodAll enc Try.prog W 0 (fun _ => true) true Try.f9.params.toList args.toList ds p := hA0
  rw [Try.params9] at hA hval hsz
  obtain ⟨v0, vs0, d0, ds0, p0, q0, hargs, rfl, rfl, h0, r0⟩ := trodAll_cons hA
  obtain ⟨rfl, rfl, rfl⟩ := trodAll_nil r0
  obtain rfl : args = #[v0] := by cases args; simp_all
  obtain ⟨rfl, rfl⟩ := trodVars_none hV
  have lt0 : ∀ x ∈ p0, x.block < W.heap.size := by obtain ⟨m, hm⟩ := h0; exact DataW.trod_lt m _ _ _ hm
  obtain ⟨⟨A0, c0, xs0⟩, e0, hS0, hl0, hm0, hg0⟩ := Rdr.arg (enc := enc) (P := Try.prog) (W := W) (Rdr.slice (ec := encOp) (sz := 3) (by_ := 40) ((Rdr.struct Try.underlying44 rfl (by kernel_rfl) (Rds.cons (off := 0) (sz := 1) (Rdr.int Try.underlying3) (by kernel_rfl) rfl (by decide) (Rds.cons (off := 1) (sz := 1) (Rdr.str Try.underlying9) (by kernel_rfl) rfl (by decide) (Rds.cons (off := 2) (sz := 1) (Rdr.str Try.underlying9) (by kernel_rfl) rfl (by decide) (Rds.nil))))).map (fun y => (⟨y.1, y.2.1, y.2.2.1⟩ : Opd)) (e' := encOp) (fun _ _ => rfl) (good' := GoodOp) (fun _ h => ⟨h.1, h.2.1, h.2.2.1⟩)) EncOp Try.underlying22 (by kernel_rfl) (by kernel_rfl)) hsz (j := 0) rfl rfl h0
  obtain rfl := of_cell e0 (by intro cs e_; obtain ⟨a_, l_, k_, e2_⟩ := okWide_slice Try.underlying22 (hval 0 22 v0 rfl rfl); rw [e2_] at e_; cases e_)
  refine (walk (w := W) hS0 hl0 hm0 hg0).calls.mono fun e W' ⟨v_, he, hgb, hv_⟩ => ?_
  subst he
  subst hv_
  have bel := gb_below hgb
  exact ⟨_, rfl, _, _, _, [], _, [], hW', trodAll_mk1 (shut_bool Try.underlying4 _), (trodAll_cons_mk (Below.trod laidOut (by kernel_rfl) (of_decide_eq_true (by kernel_rfl)) h0 bel lt0) trodAll_mk0), rfl, bel.frame _, fun h => by cases h⟩
theorem over : Rows.batchEncodesRow.holds Try.pinned (OpenSpec.ofChange Rows.batchEncodesSpec) :=
  OpenClaim.holds_of_wide 9 Try.f9 rfl rfl rfl rfl rfl rfl rfl ⟨rfl, rfl, rfl, rfl, rfl⟩ rfl rfl rfl rfl rfl (by kernel_rfl) Try.func9 (by kernel_rfl)
    (of_decide_eq_true (by kernel_rfl)) (by unfold Func.isWrapper; first | (rw [if_pos (by decide +kernel)]; kernel_rfl) | (rw [if_neg (by decide +kernel)]; exact ⟨rfl, rfl⟩))
    (fun os started H enc _ => lifted os started H enc)
/-- The given statement. -/
theorem proved : Rows.BatchEncodesSaid := over
#print axioms proved

end Go.Proofs.Ytnggbodilhpohaa.LBatchEncodes
