/-
  For every bytes the law ScriptDecodes returns true, and changes nothing that was there.
-/
import Derived.Test.YtnggbodilhpohaaCw
import Derived.WalkKit
import Derived.ProofKit
import Derived.OpenShut
import Derived.ShutString
import Derived.ChangeOld
import Derived.Below
import Derived.SizedLaws
namespace Go.Proofs.Ytnggbodilhpohaa.LScriptDecodes
open Go.RowKit Gw Pl
set_option linter.unusedVariables false
set_option linter.unusedSimpArgs false
theorem boo4 : Try.prog.underlying 4 = some .bool := by kernel_rfl
theorem cb50 : callB Try.prog 50 = true := by kernel_rfl
theorem cb51 : callB Try.prog 51 = true := by kernel_rfl
theorem cb56 : callB Try.prog 56 = true := by kernel_rfl
theorem cb57 : callB Try.prog 57 = true := by kernel_rfl
theorem cb58 : callB Try.prog 58 = true := by kernel_rfl
theorem cb59 : callB Try.prog 59 = true := by kernel_rfl
theorem walk1 {w : World} {A0 : Option Addr} {c0 : Nat} {xs0 : List UInt8} (hS0 : Sli 0 0 w.heap.size w A0 (fl encB xs0)) (hl0 : xs0.length ≤ c0) (hm0 : c0 * 1 ≤ 140737488351232) (hg0 : ∀ x ∈ xs0, True) (he : (sdec xs0).2 = 0) :
    Runs Try.prog 12 #[.slice A0 xs0.length c0] w (fun v w' => w.grownBy w' none ∧ v = .bool true) := by
  have hB := gb_refl w none
  refine enter Try.func12 Try.ntmps12 rfl rfl ?_
  refine C_seq (C_reg ?_)
  refine L_run (R_assign rfl) rfl ?_
  refine L_nil (N_then (C_seq (C_seq (C_reg ?_))))
  refine L_run (R_move rfl) rfl ?_
  refine L_run (R_lenSl rfl slc42) rfl ?_
  refine L_run (R_gtr rfl rfl) rfl ?_
  refine L_nil (N_then ?_)
  refine C_if rfl (fun h1 => ?_) (fun h1 => ?_)
  · refine C_seq (C_reg ?_)
    refine L_call rfl cb51 (awake38) rfl ?_
    rintro _ w1 ⟨hs1, rfl⟩
    replace hB := gb_tr hB hs1
    replace hS0 := hS0.gb hs1
    refine L_run (R_assign rfl) rfl ?_
    refine L_nil (N_then (C_ret (R_then ?_)))
    refine ret1 Try.results12 rfl ?_
    exact ⟨hB, rfl⟩
  · refine C_skip (N_then (C_seq (C_reg ?_)))
    refine L_run (R_move rfl) rfl ?_
    have ge1 : w.heap.size ≤ w.heap.size := hB.size
    refine L_call rfl cb55 (script_Decode (bs := xs0) hS0 (by omega) (by first | omega | (simp; done) | (simp; omega))) rfl ?_
    rintro _ w2 ⟨hs2, A_1, c_1, ls1, rfl, hps1, hS_1, hDT1, hlc1⟩
    replace hB := gb_tr hB hs2
    replace hS0 := hS0.gb hs2
    refine L_run (R_move rfl) rfl ?_
    refine L_run (R_extract rfl rfl) rfl ?_
    refine L_run (R_extract rfl rfl) rfl ?_
    refine L_run (R_assign rfl) rfl ?_
    refine L_run (R_assign rfl) rfl ?_
    refine L_nil (N_then (C_seq (C_reg ?_)))
    refine L_run (R_move rfl) rfl ?_
    have ge2 : w.heap.size ≤ w2.heap.size := hB.size
    refine L_call rfl cb58 (ref38_Decode (bs := xs0) hS0 (by omega) (by first | omega | (simp; done) | (simp; omega))) rfl ?_
    rintro _ w3 ⟨hs3, A_2, c_2, ls2, rfl, hps2, hS_2, hDT2, hlc2⟩
    replace hB := gb_tr hB hs3
    replace hS0 := hS0.gb hs3
    replace hS_1 := hS_1.gb hs3
    replace hDT1 := hDT1.gb hs3
    refine L_run (R_move rfl) rfl ?_
    refine L_run (R_extract rfl rfl) rfl ?_
    refine L_run (R_extract rfl rfl) rfl ?_
    refine L_run (R_assign rfl) rfl ?_
    refine L_run (R_assign rfl) rfl ?_
    refine L_nil (N_then (C_seq (C_seq (C_reg ?_))))
    refine L_run (R_move rfl) rfl ?_
    refine L_run (R_move rfl) rfl ?_
    refine L_call rfl cb57 (ref38_Same (a := ls1) (b := ls2) hS_1 hS_2 hDT1.bare hDT2.bare (by have h_ := (sdec_ok xs0).2; rw [← hps1, ps_len] at h_; omega) (ps_few (by rw [hps1]; exact (sdec_ok xs0).1)) (ps_few (by rw [hps2]; exact (sdec_ok xs0).1))) rfl ?_
    rintro _ w4 ⟨hs4, rfl⟩
    replace hB := gb_tr hB hs4
    replace hS0 := hS0.gb hs4
    replace hS_1 := hS_1.gb hs4
    replace hDT1 := hDT1.gb hs4
    replace hS_2 := hS_2.gb hs4
    replace hDT2 := hDT2.gb hs4
    refine L_run (R_notD rfl) rfl ?_
    refine L_run (R_move rfl) rfl ?_
    refine L_yes rfl rfl rfl (decide_eq_false (fun hn => hn (by rw [hps1, hps2]))) ?_
    refine L_run (R_move rfl) rfl ?_
    refine L_yes rfl rfl rfl (decide_eq_false (fun hn => hn (by rw [hps1, hps2]))) ?_
    refine L_run (R_move rfl) rfl ?_
    refine L_yes rfl rfl rfl (decide_eq_false (fun hn => hn (by rw [hps1, hps2]))) ?_
    refine L_run (R_eqv (R_neq rfl rfl) (v' := .bool false) (bF' (fun h => h rfl))) rfl ?_
    refine L_run (R_pickF rfl (decide_eq_false (fun hn => hn (by rw [hps1, hps2]))) rfl) rfl ?_
    refine L_nil (N_then (C_condF rfl rfl (C_skip (N_then (C_seq (C_reg ?_))))))
    refine L_run (R_move rfl) rfl ?_
    have ge3 : w.heap.size ≤ w4.heap.size := hB.size
    refine L_call rfl cb52 (script_Encode_ok (l := ls1) hS_1 hDT1.bare (ps_few (by rw [hps1]; exact (sdec_ok xs0).1)) (by have h_ := (sdec_ok xs0).2; rw [← hps1, ps_len] at h_; omega) (by rw [hps1]; exact (sdec_ok xs0).1)) rfl ?_
    rintro _ w5 ⟨hs5, A_3, c_3, rfl, ho1⟩
    replace hB := gb_tr hB hs5
    replace hS0 := hS0.gb hs5
    replace hS_1 := hS_1.gb hs5
    replace hDT1 := hDT1.gb hs5
    replace hS_2 := hS_2.gb hs5
    replace hDT2 := hDT2.gb hs5
    have hlo1 : w4.heap.size ≤ w5.heap.size := hs5.size
    refine L_run (R_move rfl) rfl ?_
    refine L_run (R_extract rfl rfl) rfl ?_
    refine L_run (R_extract rfl rfl) rfl ?_
    refine L_run (R_assign rfl) rfl ?_
    refine L_run (R_assign rfl) rfl ?_
    refine L_nil (N_then (C_seq (C_reg ?_)))
    refine L_run (R_move rfl) rfl ?_
    refine L_run (R_neq rfl rfl) rfl ?_
    refine L_run (R_move rfl) rfl ?_
    refine L_yes rfl rfl rfl (decide_eq_false (fun hn => hn he)) ?_
    refine L_run (R_move rfl) rfl ?_
    refine L_yes rfl rfl rfl (decide_eq_false (fun hn => hn he)) ?_
    refine L_run (R_eqv (R_eql rfl rfl) (v' := .bool true) rfl) rfl ?_
    refine L_yes rfl rfl rfl (decide_eq_false (fun hn => hn he)) ?_
    refine L_run (R_move rfl) rfl ?_
    refine L_yes rfl rfl rfl rfl ?_
    refine L_run (R_move rfl) rfl ?_
    refine L_yes rfl rfl rfl rfl ?_
    refine L_run (R_b2s' (bs := sencs (ps ls1)) rfl slc42 int5 str9 (own_of ho1).2.2) rfl ?_
    refine L_yes rfl rfl rfl rfl ?_
    refine L_run (R_move rfl) rfl ?_
    refine L_yes rfl rfl rfl rfl ?_
    refine L_run (R_b2s' (bs := xs0) rfl slc42 int5 str9 hS0) rfl ?_
    refine L_yes rfl rfl rfl rfl ?_
    refine L_run (R_eqv (R_eqv (R_eqlS rfl rfl) (v' := .bool (decide ((sencs (ps ls1)) = xs0))) (bD ba_inj)) (v' := .bool true) (bT' (by rw [hps1]; exact (sencs_sdec he).1))) rfl ?_
    refine L_yes rfl rfl rfl (decide_eq_false (fun hn => hn he)) ?_
    refine L_run (R_pickT rfl rfl rfl) rfl ?_
    refine L_run (R_pickF rfl (decide_eq_false (fun hn => hn he)) rfl) rfl ?_
    refine L_run (R_move rfl) rfl ?_
    refine L_yes rfl rfl rfl rfl ?_
    refine L_call rfl cb51 (awake38) rfl ?_
    rintro _ w6 ⟨hs6, rfl⟩
    replace hB := gb_tr hB hs6
    replace hS0 := hS0.gb hs6
    replace hS_1 := hS_1.gb hs6
    replace hDT1 := hDT1.gb hs6
    replace hS_2 := hS_2.gb hs6
    replace hDT2 := hDT2.gb hs6
    replace ho1 := own_gb ho1 hs6
    replace hlo1 := Nat.le_trans hlo1 hs6.size
    refine L_run (R_pickT rfl rfl rfl) rfl ?_
    refine L_run (R_assign rfl) rfl ?_
    refine L_nil (N_then (C_ret ?_))
    refine ret1 Try.results12 rfl ?_
    exact ⟨hB, rfl⟩

theorem walk2 {w : World} {A0 : Option Addr} {c0 : Nat} {xs0 : List UInt8} (hS0 : Sli 0 0 w.heap.size w A0 (fl encB xs0)) (hl0 : xs0.length ≤ c0) (hm0 : c0 * 1 ≤ 140737488351232) (hg0 : ∀ x ∈ xs0, True) (he : ¬ (sdec xs0).2 = 0) :
    Runs Try.prog 12 #[.slice A0 xs0.length c0] w (fun v w' => w.grownBy w' none ∧ v = .bool true) := by
  have hB := gb_refl w none
  refine enter Try.func12 Try.ntmps12 rfl rfl ?_
  refine C_seq (C_reg ?_)
  refine L_run (R_assign rfl) rfl ?_
  refine L_nil (N_then (C_seq (C_seq (C_reg ?_))))
  refine L_run (R_move rfl) rfl ?_
  refine L_run (R_lenSl rfl slc42) rfl ?_
  refine L_run (R_gtr rfl rfl) rfl ?_
  refine L_nil (N_then ?_)
  refine C_if rfl (fun h1 => ?_) (fun h1 => ?_)
  · refine C_seq (C_reg ?_)
    refine L_call rfl cb51 (awake38) rfl ?_
    rintro _ w1 ⟨hs1, rfl⟩
    replace hB := gb_tr hB hs1
    replace hS0 := hS0.gb hs1
    refine L_run (R_assign rfl) rfl ?_
    refine L_nil (N_then (C_ret (R_then ?_)))
    refine ret1 Try.results12 rfl ?_
    exact ⟨hB, rfl⟩
  · refine C_skip (N_then (C_seq (C_reg ?_)))
    refine L_run (R_move rfl) rfl ?_
    have ge1 : w.heap.size ≤ w.heap.size := hB.size
    refine L_call rfl cb55 (script_Decode (bs := xs0) hS0 (by omega) (by first | omega | (simp; done) | (simp; omega))) rfl ?_
    rintro _ w2 ⟨hs2, A_1, c_1, ls1, rfl, hps1, hS_1, hDT1, hlc1⟩
    replace hB := gb_tr hB hs2
    replace hS0 := hS0.gb hs2
    refine L_run (R_move rfl) rfl ?_
    refine L_run (R_extract rfl rfl) rfl ?_
    refine L_run (R_extract rfl rfl) rfl ?_
    refine L_run (R_assign rfl) rfl ?_
    refine L_run (R_assign rfl) rfl ?_
    refine L_nil (N_then (C_seq (C_reg ?_)))
    refine L_run (R_move rfl) rfl ?_
    have ge2 : w.heap.size ≤ w2.heap.size := hB.size
    refine L_call rfl cb58 (ref38_Decode (bs := xs0) hS0 (by omega) (by first | omega | (simp; done) | (simp; omega))) rfl ?_
    rintro _ w3 ⟨hs3, A_2, c_2, ls2, rfl, hps2, hS_2, hDT2, hlc2⟩
    replace hB := gb_tr hB hs3
    replace hS0 := hS0.gb hs3
    replace hS_1 := hS_1.gb hs3
    replace hDT1 := hDT1.gb hs3
    refine L_run (R_move rfl) rfl ?_
    refine L_run (R_extract rfl rfl) rfl ?_
    refine L_run (R_extract rfl rfl) rfl ?_
    refine L_run (R_assign rfl) rfl ?_
    refine L_run (R_assign rfl) rfl ?_
    refine L_nil (N_then (C_seq (C_seq (C_reg ?_))))
    refine L_run (R_move rfl) rfl ?_
    refine L_run (R_move rfl) rfl ?_
    refine L_call rfl cb57 (ref38_Same (a := ls1) (b := ls2) hS_1 hS_2 hDT1.bare hDT2.bare (by have h_ := (sdec_ok xs0).2; rw [← hps1, ps_len] at h_; omega) (ps_few (by rw [hps1]; exact (sdec_ok xs0).1)) (ps_few (by rw [hps2]; exact (sdec_ok xs0).1))) rfl ?_
    rintro _ w4 ⟨hs4, rfl⟩
    replace hB := gb_tr hB hs4
    replace hS0 := hS0.gb hs4
    replace hS_1 := hS_1.gb hs4
    replace hDT1 := hDT1.gb hs4
    replace hS_2 := hS_2.gb hs4
    replace hDT2 := hDT2.gb hs4
    refine L_run (R_notD rfl) rfl ?_
    refine L_run (R_move rfl) rfl ?_
    refine L_yes rfl rfl rfl (decide_eq_false (fun hn => hn (by rw [hps1, hps2]))) ?_
    refine L_run (R_move rfl) rfl ?_
    refine L_yes rfl rfl rfl (decide_eq_false (fun hn => hn (by rw [hps1, hps2]))) ?_
    refine L_run (R_move rfl) rfl ?_
    refine L_yes rfl rfl rfl (decide_eq_false (fun hn => hn (by rw [hps1, hps2]))) ?_
    refine L_run (R_eqv (R_neq rfl rfl) (v' := .bool false) (bF' (fun h => h rfl))) rfl ?_
    refine L_run (R_pickF rfl (decide_eq_false (fun hn => hn (by rw [hps1, hps2]))) rfl) rfl ?_
    refine L_nil (N_then (C_condF rfl rfl (C_skip (N_then (C_seq (C_reg ?_))))))
    refine L_run (R_move rfl) rfl ?_
    have ge3 : w.heap.size ≤ w4.heap.size := hB.size
    refine L_call rfl cb52 (script_Encode_ok (l := ls1) hS_1 hDT1.bare (ps_few (by rw [hps1]; exact (sdec_ok xs0).1)) (by have h_ := (sdec_ok xs0).2; rw [← hps1, ps_len] at h_; omega) (by rw [hps1]; exact (sdec_ok xs0).1)) rfl ?_
    rintro _ w5 ⟨hs5, A_3, c_3, rfl, ho1⟩
    replace hB := gb_tr hB hs5
    replace hS0 := hS0.gb hs5
    replace hS_1 := hS_1.gb hs5
    replace hDT1 := hDT1.gb hs5
    replace hS_2 := hS_2.gb hs5
    replace hDT2 := hDT2.gb hs5
    have hlo1 : w4.heap.size ≤ w5.heap.size := hs5.size
    refine L_run (R_move rfl) rfl ?_
    refine L_run (R_extract rfl rfl) rfl ?_
    refine L_run (R_extract rfl rfl) rfl ?_
    refine L_run (R_assign rfl) rfl ?_
    refine L_run (R_assign rfl) rfl ?_
    refine L_nil (N_then (C_seq (C_reg ?_)))
    refine L_run (R_move rfl) rfl ?_
    refine L_run (R_neq rfl rfl) rfl ?_
    refine L_run (R_move rfl) rfl ?_
    refine L_no rfl rfl rfl (decide_eq_true he) rfl ?_
    refine L_no rfl rfl rfl (decide_eq_true he) rfl ?_
    refine L_no rfl rfl rfl (decide_eq_true he) rfl ?_
    refine L_noU rfl rfl rfl rfl ?_
    refine L_noU rfl rfl rfl rfl ?_
    refine L_noU rfl rfl rfl rfl ?_
    refine L_noU rfl rfl rfl rfl ?_
    refine L_noU rfl rfl rfl rfl ?_
    refine L_no rfl rfl rfl (decide_eq_true he) rfl ?_
    refine L_run (R_pickT rfl (decide_eq_true he) rfl) rfl ?_
    refine L_run (R_move rfl) rfl ?_
    refine L_yes rfl rfl rfl rfl ?_
    refine L_call rfl cb51 (awake38) rfl ?_
    rintro _ w6 ⟨hs6, rfl⟩
    replace hB := gb_tr hB hs6
    replace hS0 := hS0.gb hs6
    replace hS_1 := hS_1.gb hs6
    replace hDT1 := hDT1.gb hs6
    replace hS_2 := hS_2.gb hs6
    replace hDT2 := hDT2.gb hs6
    replace ho1 := own_gb ho1 hs6
    replace hlo1 := Nat.le_trans hlo1 hs6.size
    refine L_run (R_pickT rfl rfl rfl) rfl ?_
    refine L_run (R_assign rfl) rfl ?_
    refine L_nil (N_then (C_ret ?_))
    refine ret1 Try.results12 rfl ?_
    exact ⟨hB, rfl⟩

theorem walk {w : World} {A0 : Option Addr} {c0 : Nat} {xs0 : List UInt8} (hS0 : Sli 0 0 w.heap.size w A0 (fl encB xs0)) (hl0 : xs0.length ≤ c0) (hm0 : c0 * 1 ≤ 140737488351232) (hg0 : ∀ x ∈ xs0, True) : Runs Try.prog 12 #[.slice A0 xs0.length c0] w (fun v w' => w.grownBy w' none ∧ v = .bool true) := by
  by_cases he : (sdec xs0).2 = 0
  · exact walk1 hS0 hl0 hm0 hg0 he
  · exact walk2 hS0 hl0 hm0 hg0 he

open Go.ChangeShapes Go.WideShapes Go.ChangeAt
theorem own : ownKnob Try.prog.godebug = none := by kernel_rfl
theorem laidOut : laidOutB Try.prog = true := by kernel_rfl
set_option maxRecDepth 100000 in
theorem lifted (os : Os) (started : os.Started) (H : Type) (enc : TypeId × Value → H) :
    ReturnsInHanded {} Try.checked os 12 .any (Rows.scriptDecodesSpec.pre6 enc Try.prog Try.f12 Rows.scriptDecodesRow.domain false) (Rows.scriptDecodesSpec.post enc Try.prog Try.f12 false true false false) := by
  refine returnsInHanded_of_change_sized (C := Try.checked) own started (by kernel_rfl) Try.func12
    (ChangeSpec.witness6 (enc := enc) (C := Try.checked) false ⟨#[], #[.slice none 0 0], []⟩ 8 (by kernel_rfl) (by kernel_rfl) (by kernel_rfl) (by kernel_rfl)) ?_
  intro W base args ds gs before hval0 hW hcnd hsz0 _
  have hsz : (DataW.weightsEach Try.prog (Try.f12.params.toList ++ Rows.scriptDecodesSpec.plain.varTypes Try.prog) (ds ++ gs)).all (· ≤ reachBytes) = true := hsz0
  have hval : ∀ (j : Nat) t v, Try.f12.params[j]? = some t → args[j]? = some v → Value.okWide Try.prog W .any base t v := hval0
  have hW' := hW
  obtain ⟨p, q, hA0, hV, rfl, hfz, hnd⟩ := hW
  have hA : DataW.TrodAll enc Try.prog W 0 (fun _ => true) true Try.f12.params.toList args.toList ds p := hA0
  rw [Try.params12] at hA hval hsz
  obtain ⟨v0, vs0, d0, ds0, p0, q0, hargs, rfl, rfl, h0, r0⟩ := trodAll_cons hA
  obtain ⟨rfl, rfl, rfl⟩ := trodAll_nil r0
  obtain rfl : args = #[v0] := by cases args; simp_all
  obtain ⟨rfl, rfl⟩ := trodVars_none hV
  have lt0 : ∀ x ∈ p0, x.block < W.heap.size := by obtain ⟨m, hm⟩ := h0; exact DataW.trod_lt m _ _ _ hm
  obtain ⟨⟨A0, c0, xs0⟩, e0, hS0, hl0, hm0, hg0⟩ := Rdr.arg (enc := enc) (P := Try.prog) (W := W) (Rdr.slice (ec := encB) (sz := 1) (by_ := 1) ((Rdr.int Try.underlying5).map (fun n => UInt8.ofNat n.toNat) byte_of (good' := fun _ => True) (fun _ _ => trivial)) EncB Try.underlying42 (by kernel_rfl) (by kernel_rfl)) hsz (j := 0) rfl rfl h0
  obtain rfl := of_cell e0 (by intro cs e_; obtain ⟨a_, l_, k_, e2_⟩ := okWide_slice Try.underlying42 (hval 0 42 v0 rfl rfl); rw [e2_] at e_; cases e_)
  refine (walk (w := W) hS0 hl0 hm0 hg0).calls.mono fun e W' ⟨v_, he, hgb, hv_⟩ => ?_
  subst he
  subst hv_
  have bel := gb_below hgb
  exact ⟨_, rfl, _, _, _, [], _, [], hW', trodAll_mk1 (shut_bool Try.underlying4 _), (trodAll_cons_mk (Below.trod laidOut (by kernel_rfl) (of_decide_eq_true (by kernel_rfl)) h0 bel lt0) trodAll_mk0), rfl, bel.frame _, fun h => by cases h⟩
theorem over : Rows.scriptDecodesRow.holds Try.pinned (OpenSpec.ofChange Rows.scriptDecodesSpec) :=
  OpenClaim.holds_of_wide 12 Try.f12 rfl rfl rfl rfl rfl rfl rfl ⟨rfl, rfl, rfl, rfl, rfl⟩ rfl rfl rfl rfl rfl (by kernel_rfl) Try.func12 (by kernel_rfl)
    (of_decide_eq_true (by kernel_rfl)) (by unfold Func.isWrapper; first | (rw [if_pos (by decide +kernel)]; kernel_rfl) | (rw [if_neg (by decide +kernel)]; exact ⟨rfl, rfl⟩))
    (fun os started H enc _ => lifted os started H enc)
/-- The given statement. -/
theorem proved : Rows.ScriptDecodesSaid := over
#print axioms proved

end Go.Proofs.Ytnggbodilhpohaa.LScriptDecodes
