/-
  For every list of segments the law LiveChecks returns true, and changes nothing that was there.
-/
import Derived.Test.YtnggbodilhpohaaCm
import Derived.WalkKit
import Derived.ProofKit
import Derived.OpenShut
import Derived.ShutString
import Derived.ChangeOld
import Derived.Below
import Derived.SizedLaws
namespace Go.Proofs.Ytnggbodilhpohaa.LLiveChecks
open Go.RowKit Gw Pl
set_option linter.unusedVariables false
set_option linter.unusedSimpArgs false
theorem cb17 : callB Try.prog 17 = true := by kernel_rfl
theorem cb18 : callB Try.prog 18 = true := by kernel_rfl
theorem cb19 : callB Try.prog 19 = true := by kernel_rfl
theorem cb21 : callB Try.prog 21 = true := by kernel_rfl
theorem cb23 : callB Try.prog 23 = true := by kernel_rfl
theorem cb25 : callB Try.prog 25 = true := by kernel_rfl
theorem walk1 {w : World} {A0 : Option Addr} {c0 : Nat} {xs0 : List SegD} (hS0 : Sli 0 0 w.heap.size w A0 (fl encG xs0)) (hl0 : xs0.length ≤ c0) (hm0 : c0 * 120 ≤ 140737488351232) (hg0 : ∀ x ∈ xs0, GoodG w x) (hok : FewL xs0) :
    Runs Try.prog 4 #[.slice A0 xs0.length c0] w (fun v w' => w.grownBy w' none ∧ v = .bool true) := by
  have hB := gb_refl w none
  have hD : DeepG w.heap.size w xs0 := fun y hy => (hg0 y hy).2
  have hlb : xs0.length ≤ 1000000 := Nat.le_trans hok.2.1 (by decide)
  have hr : ∀ g ∈ xs0, g.recs.length ≤ 1000000 := fun g hg => Nat.le_trans (hok.1 g hg).1 (by decide)
  have hep : ∀ g ∈ xs0, 0 ≤ g.ep := fun g hg => (hg0 g hg).1
  refine enter Try.func4 Try.ntmps4 rfl rfl ?_
  refine C_seq (C_reg ?_)
  refine L_run (R_assign rfl) rfl ?_
  refine L_nil (N_then (C_seq (C_seq (C_reg ?_))))
  refine L_run (R_move rfl) rfl ?_
  refine L_call rfl cb17 (law25_Few (l := xs0) hS0 hD (by omega)) rfl ?_
  rintro _ w1 ⟨hs1, rfl⟩
  replace hB := gb_tr hB hs1
  replace hS0 := hS0.gb hs1
  replace hD := hD.gb hs1
  refine L_run (R_notD rfl) rfl ?_
  refine L_nil (N_then (C_condF rfl (decide_eq_false (fun hn => hn hok)) (C_skip (N_then (C_seq (C_reg ?_))))))
  refine L_run (R_move rfl) rfl ?_
  have ge1 : w.heap.size ≤ w1.heap.size := hB.size
  refine L_call rfl cb19 (law25_Own (l := xs0) hS0 hlb) rfl ?_
  rintro _ w2 ⟨hs2, A_1, c_1, rfl, ho1⟩
  replace hB := gb_tr hB hs2
  replace hS0 := hS0.gb hs2
  replace hD := hD.gb hs2
  have hlo1 : w1.heap.size ≤ w2.heap.size := hs2.size
  refine L_run (R_assign rfl) rfl ?_
  refine L_nil (N_then (C_seq (C_reg ?_)))
  refine L_run (R_move rfl) rfl ?_
  refine L_call rfl cb20 (live_Check (l := xs0) (own_of ho1).2.2 hD hlb hr) rfl ?_
  rintro _ w3 ⟨hs3, rfl⟩
  replace hB := gb_tr hB hs3
  replace hS0 := hS0.gb hs3
  replace hD := hD.gb hs3
  replace ho1 := own_gb ho1 hs3
  replace hlo1 := Nat.le_trans hlo1 hs3.size
  refine L_run (R_move rfl) rfl ?_
  refine L_call rfl cb21 (ref25_Check (l := xs0) hS0 hD hlb hr hep) rfl ?_
  rintro _ w4 ⟨hs4, rfl⟩
  replace hB := gb_tr hB hs4
  replace hS0 := hS0.gb hs4
  replace hD := hD.gb hs4
  replace ho1 := own_gb ho1 hs4
  replace hlo1 := Nat.le_trans hlo1 hs4.size
  refine L_run (R_eqv (R_eql rfl rfl) (v' := .bool true) (bT' rfl)) rfl ?_
  refine L_run (R_move rfl) rfl ?_
  refine L_yes rfl rfl rfl rfl ?_
  refine L_run (R_move rfl) rfl ?_
  refine L_yes rfl rfl rfl rfl ?_
  refine L_call rfl cb22 (live_Next (l := xs0) (own_of ho1).2.2 hD hlb hr) rfl ?_
  rintro _ w5 ⟨hs5, rfl⟩
  replace hB := gb_tr hB hs5
  replace hS0 := hS0.gb hs5
  replace hD := hD.gb hs5
  replace ho1 := own_gb ho1 hs5
  replace hlo1 := Nat.le_trans hlo1 hs5.size
  refine L_yes rfl rfl rfl rfl ?_
  refine L_run (R_move rfl) rfl ?_
  refine L_yes rfl rfl rfl rfl ?_
  refine L_call rfl cb23 (ref25_Next (l := xs0) hS0 hD hlb hr) rfl ?_
  rintro _ w6 ⟨hs6, rfl⟩
  replace hB := gb_tr hB hs6
  replace hS0 := hS0.gb hs6
  replace hD := hD.gb hs6
  replace ho1 := own_gb ho1 hs6
  replace hlo1 := Nat.le_trans hlo1 hs6.size
  refine L_yes rfl rfl rfl rfl ?_
  refine L_run (R_eqv (R_eql rfl rfl) (v' := .bool true) (bT' rfl)) rfl ?_
  refine L_run (R_pickT rfl rfl rfl) rfl ?_
  refine L_run (R_move rfl) rfl ?_
  refine L_yes rfl rfl rfl rfl ?_
  refine L_run (R_move rfl) rfl ?_
  refine L_yes rfl rfl rfl rfl ?_
  refine L_call rfl cb24 (live_Heads (l := xs0) (own_of ho1).2.2 hD hlb hr) rfl ?_
  rintro _ w7 ⟨hs7, rfl⟩
  replace hB := gb_tr hB hs7
  replace hS0 := hS0.gb hs7
  replace hD := hD.gb hs7
  replace ho1 := own_gb ho1 hs7
  replace hlo1 := Nat.le_trans hlo1 hs7.size
  refine L_yes rfl rfl rfl rfl ?_
  refine L_run (R_move rfl) rfl ?_
  refine L_yes rfl rfl rfl rfl ?_
  refine L_call rfl cb25 (ref25_Heads (l := xs0) hS0 hD hlb hr) rfl ?_
  rintro _ w8 ⟨hs8, rfl⟩
  replace hB := gb_tr hB hs8
  replace hS0 := hS0.gb hs8
  replace hD := hD.gb hs8
  replace ho1 := own_gb ho1 hs8
  replace hlo1 := Nat.le_trans hlo1 hs8.size
  refine L_yes rfl rfl rfl rfl ?_
  refine L_run (R_eqv (R_eqlA rfl rfl eqg34 (eqs_arr4 arr34 int3 scl3)) (v' := .bool true) (bT' ⟨rfl, rfl, rfl, rfl, trivial⟩)) rfl ?_
  refine L_run (R_pickT rfl rfl rfl) rfl ?_
  refine L_run (R_move rfl) rfl ?_
  refine L_yes rfl rfl rfl rfl ?_
  refine L_call rfl cb18 (awake25) rfl ?_
  rintro _ w9 ⟨hs9, rfl⟩
  replace hB := gb_tr hB hs9
  replace hS0 := hS0.gb hs9
  replace hD := hD.gb hs9
  replace ho1 := own_gb ho1 hs9
  replace hlo1 := Nat.le_trans hlo1 hs9.size
  refine L_run (R_pickT rfl rfl rfl) rfl ?_
  refine L_run (R_assign rfl) rfl ?_
  refine L_nil (N_then (C_ret ?_))
  refine ret1 Try.results4 rfl ?_
  exact ⟨hB, rfl⟩

theorem walk2 {w : World} {A0 : Option Addr} {c0 : Nat} {xs0 : List SegD} (hS0 : Sli 0 0 w.heap.size w A0 (fl encG xs0)) (hl0 : xs0.length ≤ c0) (hm0 : c0 * 120 ≤ 140737488351232) (hg0 : ∀ x ∈ xs0, GoodG w x) (hok : ¬ FewL xs0) :
    Runs Try.prog 4 #[.slice A0 xs0.length c0] w (fun v w' => w.grownBy w' none ∧ v = .bool true) := by
  have hB := gb_refl w none
  have hD : DeepG w.heap.size w xs0 := fun y hy => (hg0 y hy).2
  refine enter Try.func4 Try.ntmps4 rfl rfl ?_
  refine C_seq (C_reg ?_)
  refine L_run (R_assign rfl) rfl ?_
  refine L_nil (N_then (C_seq (C_seq (C_reg ?_))))
  refine L_run (R_move rfl) rfl ?_
  refine L_call rfl cb17 (law25_Few (l := xs0) hS0 hD (by omega)) rfl ?_
  rintro _ w1 ⟨hs1, rfl⟩
  replace hB := gb_tr hB hs1
  replace hS0 := hS0.gb hs1
  replace hD := hD.gb hs1
  refine L_run (R_notD rfl) rfl ?_
  refine L_nil (N_then (C_condT rfl (decide_eq_true hok) (C_seq (C_reg ?_))))
  refine L_call rfl cb18 (awake25) rfl ?_
  rintro _ w2 ⟨hs2, rfl⟩
  replace hB := gb_tr hB hs2
  replace hS0 := hS0.gb hs2
  replace hD := hD.gb hs2
  refine L_run (R_assign rfl) rfl ?_
  refine L_nil (N_then (C_ret (R_then ?_)))
  refine ret1 Try.results4 rfl ?_
  exact ⟨hB, rfl⟩

theorem walk {w : World} {A0 : Option Addr} {c0 : Nat} {xs0 : List SegD} (hS0 : Sli 0 0 w.heap.size w A0 (fl encG xs0)) (hl0 : xs0.length ≤ c0) (hm0 : c0 * 120 ≤ 140737488351232) (hg0 : ∀ x ∈ xs0, GoodG w x) : Runs Try.prog 4 #[.slice A0 xs0.length c0] w (fun v w' => w.grownBy w' none ∧ v = .bool true) := by
  by_cases hok : FewL xs0
  · exact walk1 hS0 hl0 hm0 hg0 hok
  · exact walk2 hS0 hl0 hm0 hg0 hok

open Go.ChangeShapes Go.WideShapes Go.ChangeAt
theorem own : ownKnob Try.prog.godebug = none := by kernel_rfl
theorem laidOut : laidOutB Try.prog = true := by kernel_rfl
set_option maxRecDepth 100000 in
theorem lifted (os : Os) (started : os.Started) (H : Type) (enc : TypeId × Value → H) :
    ReturnsInHanded {} Try.checked os 4 .any (Rows.liveChecksSpec.pre6 enc Try.prog Try.f4 Rows.liveChecksRow.domain false) (Rows.liveChecksSpec.post enc Try.prog Try.f4 false true false false) := by
  refine returnsInHanded_of_change_sized (C := Try.checked) own started (by kernel_rfl) Try.func4
    (ChangeSpec.witness6 (enc := enc) (C := Try.checked) false ⟨#[], #[.slice none 0 0], []⟩ 8 (by kernel_rfl) (by kernel_rfl) (by kernel_rfl) (by kernel_rfl)) ?_
  intro W base args ds gs before hval0 hW hcnd hsz0 _
  have hsz : (DataW.weightsEach Try.prog (Try.f4.params.toList ++ Rows.liveChecksSpec.plain.varTypes Try.prog) (ds ++ gs)).all (· ≤ reachBytes) = true := hsz0
  have hval : ∀ (j : Nat) t v, Try.f4.params[j]? = some t → args[j]? = some v → Value.okWide Try.prog W .any base t v := hval0
  have hW' := hW
  obtain ⟨p, q, hA0, hV, rfl, hfz, hnd⟩ := hW
  have hA : DataW.TrodAll enc Try.prog W 0 (fun _ => true) true Try.f4.params.toList args.toList ds p := hA0
  rw [Try.params4] at hA hval hsz
  obtain ⟨v0, vs0, d0, ds0, p0, q0, hargs, rfl, rfl, h0, r0⟩ := trodAll_cons hA
  obtain ⟨rfl, rfl, rfl⟩ := trodAll_nil r0
  obtain rfl : args = #[v0] := by cases args; simp_all
  obtain ⟨rfl, rfl⟩ := trodVars_none hV
  have lt0 : ∀ x ∈ p0, x.block < W.heap.size := by obtain ⟨m, hm⟩ := h0; exact DataW.trod_lt m _ _ _ hm
  obtain ⟨⟨A0, c0, xs0⟩, e0, hS0, hl0, hm0, hg0⟩ := Rdr.arg (enc := enc) (P := Try.prog) (W := W) (Rdr.slice (ec := encG) (sz := 11) (by_ := 120) ((Rdr.struct Try.underlying76 rfl (by kernel_rfl) (Rds.cons (off := 0) (sz := 7) (Rdr.struct Try.underlying72 rfl (by kernel_rfl) (Rds.cons (off := 0) (sz := 1) (Rdr.int Try.underlying70) (by kernel_rfl) rfl (by decide) (Rds.cons (off := 1) (sz := 1) (Rdr.int Try.underlying3) (by kernel_rfl) rfl (by decide) (Rds.cons (off := 2) (sz := 1) (Rdr.int Try.underlying3) (by kernel_rfl) rfl (by decide) (Rds.cons (off := 3) (sz := 4) (Rdr.arrf Try.underlying34 Try.underlying3 (by kernel_rfl) (by kernel_rfl)) (by kernel_rfl) rfl (by decide) (Rds.nil)))))) (by kernel_rfl) rfl (by decide) (Rds.cons (off := 7) (sz := 1) (Rdr.slice (ec := encR) (sz := 5) (by_ := 56) ((Rdr.struct Try.underlying78 rfl (by kernel_rfl) (Rds.cons (off := 0) (sz := 1) (Rdr.int Try.underlying3) (by kernel_rfl) rfl (by decide) (Rds.cons (off := 1) (sz := 1) (Rdr.int Try.underlying3) (by kernel_rfl) rfl (by decide) (Rds.cons (off := 2) (sz := 1) (Rdr.int Try.underlying3) (by kernel_rfl) rfl (by decide) (Rds.cons (off := 3) (sz := 1) (Rdr.int Try.underlying3) (by kernel_rfl) rfl (by decide) (Rds.cons (off := 4) (sz := 1) (Rdr.slice (ec := encB) (sz := 1) (by_ := 1) ((Rdr.int Try.underlying5).map (fun n => UInt8.ofNat n.toNat) byte_of (good' := fun _ => True) (fun _ _ => trivial)) EncB Try.underlying42 (by kernel_rfl) (by kernel_rfl)) (by kernel_rfl) rfl (by decide) (Rds.nil))))))).map (fun y => (⟨y.1, y.2.1, y.2.2.1, y.2.2.2.1, y.2.2.2.2.1.1, y.2.2.2.2.1.2.2.length, y.2.2.2.2.1.2.1⟩ : RecD)) (e' := encR) (fun _ _ => rfl) (good' := fun _ => True) (fun _ _ => trivial)) EncR Try.underlying73 (by kernel_rfl) (by kernel_rfl)) (by kernel_rfl) rfl (by decide) (Rds.cons (off := 8) (sz := 1) (Rdr.slice (ec := encI) (sz := 1) (by_ := 8) (Rdr.int Try.underlying3) EncI Try.underlying74 (by kernel_rfl) (by kernel_rfl)) (by kernel_rfl) rfl (by decide) (Rds.cons (off := 9) (sz := 1) (Rdr.int Try.underlying3) (by kernel_rfl) rfl (by decide) (Rds.cons (off := 10) (sz := 1) (Rdr.int Try.underlying3) (by kernel_rfl) rfl (by decide) (Rds.nil))))))).map (fun y => (⟨y.1.1, y.1.2.1, y.1.2.2.1, y.1.2.2.2.1, y.2.1.1, y.2.1.2.1, y.2.1.2.2, y.2.2.1.1, y.2.2.1.2.2.length, y.2.2.1.2.1, y.2.2.2.1, y.2.2.2.2.1⟩ : SegD)) (e' := encG) (fun _ _ => rfl) (good' := GoodG W) (fun _ h => ⟨wfu64 h.1.1, h.2.1.1⟩)) EncG Try.underlying25 (by kernel_rfl) (by kernel_rfl)) hsz (j := 0) rfl rfl h0
  obtain rfl := of_cell e0 (by intro cs e_; obtain ⟨a_, l_, k_, e2_⟩ := okWide_slice Try.underlying25 (hval 0 25 v0 rfl rfl); rw [e2_] at e_; cases e_)
  refine (walk (w := W) hS0 hl0 hm0 hg0).calls.mono fun e W' ⟨v_, he, hgb, hv_⟩ => ?_
  subst he
  subst hv_
  have bel := gb_below hgb
  exact ⟨_, rfl, _, _, _, [], _, [], hW', trodAll_mk1 (shut_bool Try.underlying4 _), (trodAll_cons_mk (Below.trod laidOut (by kernel_rfl) (of_decide_eq_true (by kernel_rfl)) h0 bel lt0) trodAll_mk0), rfl, bel.frame _, fun h => by cases h⟩
theorem over : Rows.liveChecksRow.holds Try.pinned (OpenSpec.ofChange Rows.liveChecksSpec) :=
  OpenClaim.holds_of_wide 4 Try.f4 rfl rfl rfl rfl rfl rfl rfl ⟨rfl, rfl, rfl, rfl, rfl⟩ rfl rfl rfl rfl rfl (by kernel_rfl) Try.func4 (by kernel_rfl)
    (of_decide_eq_true (by kernel_rfl)) (by unfold Func.isWrapper; first | (rw [if_pos (by decide +kernel)]; kernel_rfl) | (rw [if_neg (by decide +kernel)]; exact ⟨rfl, rfl⟩))
    (fun os started H enc _ => lifted os started H enc)
/-- The given statement. -/
theorem proved : Rows.LiveChecksSaid := over
#print axioms proved

end Go.Proofs.Ytnggbodilhpohaa.LLiveChecks
