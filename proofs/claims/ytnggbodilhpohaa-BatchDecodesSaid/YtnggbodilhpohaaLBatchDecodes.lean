/-
  For every bytes the law BatchDecodes returns true, and changes nothing that was there.
-/
import Derived.Test.YtnggbodilhpohaaCc
import Derived.WalkKit
import Derived.ProofKit
import Derived.OpenShut
import Derived.ShutString
import Derived.ChangeOld
import Derived.Below
import Derived.SizedLaws
namespace Go.Proofs.Ytnggbodilhpohaa.LBatchDecodes
open Go.RowKit Gw Pl
set_option linter.unusedVariables false
set_option linter.unusedSimpArgs false
theorem boo4 : Try.prog.underlying 4 = some .bool := by kernel_rfl
theorem cb15 : callB Try.prog 15 = true := by kernel_rfl
theorem cb43 : callB Try.prog 43 = true := by kernel_rfl
theorem cb44 : callB Try.prog 44 = true := by kernel_rfl
theorem cb48 : callB Try.prog 48 = true := by kernel_rfl
theorem cb49 : callB Try.prog 49 = true := by kernel_rfl
theorem walk1 {w : World} {A0 : Option Addr} {c0 : Nat} {xs0 : List UInt8} (hS0 : Sli 0 0 w.heap.size w A0 (fl encB xs0)) (hl0 : xs0.length ≤ c0) (hm0 : c0 * 1 ≤ 140737488351232) (hg0 : ∀ x ∈ xs0, True) (he : (bget xs0).2 = 0) :
    Runs Try.prog 10 #[.slice A0 xs0.length c0] w (fun v w' => w.grownBy w' none ∧ v = .bool true) := by
  have hB := gb_refl w none
  obtain ⟨hok, henc⟩ := encs_bget he
  refine enter Try.func10 Try.ntmps10 rfl rfl ?_
  refine C_seq (C_reg ?_)
  refine L_run (R_assign rfl) rfl ?_
  refine L_nil (N_then (C_seq (C_seq (C_reg ?_))))
  refine L_run (R_move rfl) rfl ?_
  refine L_run (R_lenSl rfl slc42) rfl ?_
  refine L_run (R_gtr rfl rfl) rfl ?_
  refine L_nil (N_then ?_)
  refine C_if rfl (fun h1 => ?_) (fun h1 => ?_)
  · refine C_seq (C_reg ?_)
    refine L_call rfl cb43 (awake12) rfl ?_
    rintro _ w1 ⟨hs1, rfl⟩
    replace hB := gb_tr hB hs1
    replace hS0 := hS0.gb hs1
    refine L_run (R_assign rfl) rfl ?_
    refine L_nil (N_then (C_ret (R_then ?_)))
    refine ret1 Try.results10 rfl ?_
    exact ⟨hB, rfl⟩
  · refine C_skip (N_then (C_seq (C_reg ?_)))
    refine L_run (R_move rfl) rfl ?_
    have ge1 : w.heap.size ≤ w.heap.size := hB.size
    refine L_call rfl cb47 (batch_Decode (bs := xs0) hS0 (by first | omega | (simp; done) | (simp; omega)) (by first | omega | (simp; done) | (simp; omega))) rfl ?_
    rintro _ w2 ⟨hs2, A_1, c_1, rfl, ho1⟩
    replace hB := gb_tr hB hs2
    replace hS0 := hS0.gb hs2
    have hlo1 : w.heap.size ≤ w2.heap.size := hs2.size
    refine L_run (R_move rfl) rfl ?_
    refine L_run (R_extract rfl rfl) rfl ?_
    refine L_run (R_extract rfl rfl) rfl ?_
    refine L_run (R_assign rfl) rfl ?_
    refine L_run (R_assign rfl) rfl ?_
    refine L_nil (N_then (C_seq (C_reg ?_)))
    refine L_run (R_move rfl) rfl ?_
    have ge2 : w.heap.size ≤ w2.heap.size := hB.size
    refine L_call rfl cb49 (ref12_Decode (bs := xs0) hS0 (by first | omega | (simp; done) | (simp; omega)) (by first | omega | (simp; done) | (simp; omega))) rfl ?_
    rintro _ w3 ⟨hs3, A_2, c_2, rfl, ho2⟩
    replace hB := gb_tr hB hs3
    replace hS0 := hS0.gb hs3
    replace ho1 := own_gb ho1 hs3
    replace hlo1 := Nat.le_trans hlo1 hs3.size
    have hlo2 : w2.heap.size ≤ w3.heap.size := hs3.size
    refine L_run (R_move rfl) rfl ?_
    refine L_run (R_extract rfl rfl) rfl ?_
    refine L_run (R_extract rfl rfl) rfl ?_
    refine L_run (R_assign rfl) rfl ?_
    refine L_run (R_assign rfl) rfl ?_
    refine L_nil (N_then (C_seq (C_seq (C_reg ?_))))
    refine L_run (R_move rfl) rfl ?_
    refine L_run (R_move rfl) rfl ?_
    refine L_call rfl cb15 (ref10_Same (a := (bget xs0).1) (b := (bget xs0).1) (own_of ho1).2.2 (own_of ho2).2.2 (by have := bget_len xs0; omega)) rfl ?_
    rintro _ w4 ⟨hs4, rfl⟩
    replace hB := gb_tr hB hs4
    replace hS0 := hS0.gb hs4
    replace ho1 := own_gb ho1 hs4
    replace hlo1 := Nat.le_trans hlo1 hs4.size
    replace ho2 := own_gb ho2 hs4
    replace hlo2 := Nat.le_trans hlo2 hs4.size
    refine L_run (R_notD rfl) rfl ?_
    refine L_run (R_move rfl) rfl ?_
    refine L_splitN (p := ((bget xs0).1) = ((bget xs0).1)) (fun h2 => ?_) (fun h2 => ?_)
    · refine L_no rfl rfl rfl (decide_eq_true h2) rfl ?_
      refine L_no rfl rfl rfl (decide_eq_true h2) rfl ?_
      refine L_no rfl rfl rfl (decide_eq_true h2) rfl ?_
      refine L_run (R_pickT rfl (decide_eq_true h2) rfl) rfl ?_
      refine L_nil (N_then (C_condT rfl rfl (C_seq (C_reg ?_))))
      refine L_run (R_assign rfl) rfl ?_
      refine L_nil (N_then (C_ret (R_then ?_)))
      refine ret1 Try.results10 rfl ?_
      first
        | (exfalso; omega)
        | (contradiction)
    · refine L_yes rfl rfl rfl (decide_eq_false (fun hn => hn h2)) ?_
      refine L_run (R_move rfl) rfl ?_
      refine L_yes rfl rfl rfl (decide_eq_false (fun hn => hn h2)) ?_
      refine L_run (R_move rfl) rfl ?_
      refine L_yes rfl rfl rfl (decide_eq_false (fun hn => hn h2)) ?_
      refine L_run (R_eqv (R_neq rfl rfl) (v' := .bool false) (bF' (fun h => h rfl))) rfl ?_
      refine L_run (R_pickF rfl (decide_eq_false (fun hn => hn h2)) rfl) rfl ?_
      refine L_nil (N_then (C_condF rfl rfl (C_skip (N_then (C_seq (C_reg ?_))))))
      refine L_run (R_move rfl) rfl ?_
      have ge3 : w.heap.size ≤ w4.heap.size := hB.size
      refine L_call rfl cb44 (batch_Encode_ok (l := (bget xs0).1) (own_of ho1).2.2 (by have := bget_len xs0; omega) hok) rfl ?_
      rintro _ w5 ⟨hs5, A_3, c_3, rfl, ho3⟩
      replace hB := gb_tr hB hs5
      replace hS0 := hS0.gb hs5
      replace ho1 := own_gb ho1 hs5
      replace hlo1 := Nat.le_trans hlo1 hs5.size
      replace ho2 := own_gb ho2 hs5
      replace hlo2 := Nat.le_trans hlo2 hs5.size
      have hlo3 : w4.heap.size ≤ w5.heap.size := hs5.size
      refine L_run (R_move rfl) rfl ?_
      refine L_run (R_extract rfl rfl) rfl ?_
      refine L_run (R_extract rfl rfl) rfl ?_
      refine L_run (R_assign rfl) rfl ?_
      refine L_run (R_assign rfl) rfl ?_
      refine L_nil (N_then (C_seq (C_reg ?_)))
      refine L_run (R_move rfl) rfl ?_
      refine L_run (R_neq rfl rfl) rfl ?_
      refine L_run (R_move rfl) rfl ?_
      refine L_yes rfl rfl rfl (decide_eq_false (fun hn => hn he)) ?_
      refine L_run (R_move rfl) rfl ?_
      refine L_yes rfl rfl rfl (decide_eq_false (fun hn => hn he)) ?_
      refine L_run (R_eqv (R_eql rfl rfl) (v' := .bool true) rfl) rfl ?_
      refine L_yes rfl rfl rfl (decide_eq_false (fun hn => hn he)) ?_
      refine L_run (R_move rfl) rfl ?_
      refine L_yes rfl rfl rfl rfl ?_
      refine L_run (R_move rfl) rfl ?_
      refine L_yes rfl rfl rfl rfl ?_
      refine L_run (R_b2s' (bs := encs ((bget xs0).1)) rfl slc42 int5 str9 (own_of ho3).2.2) rfl ?_
      refine L_yes rfl rfl rfl rfl ?_
      refine L_run (R_move rfl) rfl ?_
      refine L_yes rfl rfl rfl rfl ?_
      refine L_run (R_b2s' (bs := xs0) rfl slc42 int5 str9 hS0) rfl ?_
      refine L_yes rfl rfl rfl rfl ?_
      refine L_run (R_eqv (R_eqlS rfl rfl) (v' := .bool true) (bT' (by rw [henc]))) rfl ?_
      refine L_yes rfl rfl rfl (decide_eq_false (fun hn => hn he)) ?_
      refine L_run (R_pickT rfl rfl rfl) rfl ?_
      refine L_run (R_pickF rfl (decide_eq_false (fun hn => hn he)) rfl) rfl ?_
      refine L_run (R_move rfl) rfl ?_
      refine L_yes rfl rfl rfl rfl ?_
      refine L_call rfl cb43 (awake12) rfl ?_
      rintro _ w6 ⟨hs6, rfl⟩
      replace hB := gb_tr hB hs6
      replace hS0 := hS0.gb hs6
      replace ho1 := own_gb ho1 hs6
      replace hlo1 := Nat.le_trans hlo1 hs6.size
      replace ho2 := own_gb ho2 hs6
      replace hlo2 := Nat.le_trans hlo2 hs6.size
      replace ho3 := own_gb ho3 hs6
      replace hlo3 := Nat.le_trans hlo3 hs6.size
      refine L_run (R_pickT rfl rfl rfl) rfl ?_
      refine L_run (R_assign rfl) rfl ?_
      refine L_nil (N_then (C_ret ?_))
      refine ret1 Try.results10 rfl ?_
      exact ⟨hB, rfl⟩

theorem walk2 {w : World} {A0 : Option Addr} {c0 : Nat} {xs0 : List UInt8} (hS0 : Sli 0 0 w.heap.size w A0 (fl encB xs0)) (hl0 : xs0.length ≤ c0) (hm0 : c0 * 1 ≤ 140737488351232) (hg0 : ∀ x ∈ xs0, True) (he : ¬ (bget xs0).2 = 0) :
    Runs Try.prog 10 #[.slice A0 xs0.length c0] w (fun v w' => w.grownBy w' none ∧ v = .bool true) := by
  have hB := gb_refl w none
  have hok : ¬ OkL (bget xs0).1 := by rw [bget_no he]; decide
  refine enter Try.func10 Try.ntmps10 rfl rfl ?_
  refine C_seq (C_reg ?_)
  refine L_run (R_assign rfl) rfl ?_
  refine L_nil (N_then (C_seq (C_seq (C_reg ?_))))
  refine L_run (R_move rfl) rfl ?_
  refine L_run (R_lenSl rfl slc42) rfl ?_
  refine L_run (R_gtr rfl rfl) rfl ?_
  refine L_nil (N_then ?_)
  refine C_if rfl (fun h1 => ?_) (fun h1 => ?_)
  · refine C_seq (C_reg ?_)
    refine L_call rfl cb43 (awake12) rfl ?_
    rintro _ w1 ⟨hs1, rfl⟩
    replace hB := gb_tr hB hs1
    replace hS0 := hS0.gb hs1
    refine L_run (R_assign rfl) rfl ?_
    refine L_nil (N_then (C_ret (R_then ?_)))
    refine ret1 Try.results10 rfl ?_
    exact ⟨hB, rfl⟩
  · refine C_skip (N_then (C_seq (C_reg ?_)))
    refine L_run (R_move rfl) rfl ?_
    have ge1 : w.heap.size ≤ w.heap.size := hB.size
    refine L_call rfl cb47 (batch_Decode (bs := xs0) hS0 (by first | omega | (simp; done) | (simp; omega)) (by first | omega | (simp; done) | (simp; omega))) rfl ?_
    rintro _ w2 ⟨hs2, A_1, c_1, rfl, ho1⟩
    replace hB := gb_tr hB hs2
    replace hS0 := hS0.gb hs2
    have hlo1 : w.heap.size ≤ w2.heap.size := hs2.size
    refine L_run (R_move rfl) rfl ?_
    refine L_run (R_extract rfl rfl) rfl ?_
    refine L_run (R_extract rfl rfl) rfl ?_
    refine L_run (R_assign rfl) rfl ?_
    refine L_run (R_assign rfl) rfl ?_
    refine L_nil (N_then (C_seq (C_reg ?_)))
    refine L_run (R_move rfl) rfl ?_
    have ge2 : w.heap.size ≤ w2.heap.size := hB.size
    refine L_call rfl cb49 (ref12_Decode (bs := xs0) hS0 (by first | omega | (simp; done) | (simp; omega)) (by first | omega | (simp; done) | (simp; omega))) rfl ?_
    rintro _ w3 ⟨hs3, A_2, c_2, rfl, ho2⟩
    replace hB := gb_tr hB hs3
    replace hS0 := hS0.gb hs3
    replace ho1 := own_gb ho1 hs3
    replace hlo1 := Nat.le_trans hlo1 hs3.size
    have hlo2 : w2.heap.size ≤ w3.heap.size := hs3.size
    refine L_run (R_move rfl) rfl ?_
    refine L_run (R_extract rfl rfl) rfl ?_
    refine L_run (R_extract rfl rfl) rfl ?_
    refine L_run (R_assign rfl) rfl ?_
    refine L_run (R_assign rfl) rfl ?_
    refine L_nil (N_then (C_seq (C_seq (C_reg ?_))))
    refine L_run (R_move rfl) rfl ?_
    refine L_run (R_move rfl) rfl ?_
    refine L_call rfl cb15 (ref10_Same (a := (bget xs0).1) (b := (bget xs0).1) (own_of ho1).2.2 (own_of ho2).2.2 (by have := bget_len xs0; omega)) rfl ?_
    rintro _ w4 ⟨hs4, rfl⟩
    replace hB := gb_tr hB hs4
    replace hS0 := hS0.gb hs4
    replace ho1 := own_gb ho1 hs4
    replace hlo1 := Nat.le_trans hlo1 hs4.size
    replace ho2 := own_gb ho2 hs4
    replace hlo2 := Nat.le_trans hlo2 hs4.size
    refine L_run (R_notD rfl) rfl ?_
    refine L_run (R_move rfl) rfl ?_
    refine L_splitN (p := ((bget xs0).1) = ((bget xs0).1)) (fun h2 => ?_) (fun h2 => ?_)
    · refine L_no rfl rfl rfl (decide_eq_true h2) rfl ?_
      refine L_no rfl rfl rfl (decide_eq_true h2) rfl ?_
      refine L_no rfl rfl rfl (decide_eq_true h2) rfl ?_
      refine L_run (R_pickT rfl (decide_eq_true h2) rfl) rfl ?_
      refine L_nil (N_then (C_condT rfl rfl (C_seq (C_reg ?_))))
      refine L_run (R_assign rfl) rfl ?_
      refine L_nil (N_then (C_ret (R_then ?_)))
      refine ret1 Try.results10 rfl ?_
      first
        | (exfalso; omega)
        | (contradiction)
    · refine L_yes rfl rfl rfl (decide_eq_false (fun hn => hn h2)) ?_
      refine L_run (R_move rfl) rfl ?_
      refine L_yes rfl rfl rfl (decide_eq_false (fun hn => hn h2)) ?_
      refine L_run (R_move rfl) rfl ?_
      refine L_yes rfl rfl rfl (decide_eq_false (fun hn => hn h2)) ?_
      refine L_run (R_eqv (R_neq rfl rfl) (v' := .bool false) (bF' (fun h => h rfl))) rfl ?_
      refine L_run (R_pickF rfl (decide_eq_false (fun hn => hn h2)) rfl) rfl ?_
      refine L_nil (N_then (C_condF rfl rfl (C_skip (N_then (C_seq (C_reg ?_))))))
      refine L_run (R_move rfl) rfl ?_
      have ge3 : w.heap.size ≤ w4.heap.size := hB.size
      refine L_call rfl cb44 (batch_Encode_no (l := (bget xs0).1) (own_of ho1).2.2 (by have := bget_len xs0; omega) hok) rfl ?_
      rintro _ w5 ⟨hs5, A_3, c_3, rfl, ho3⟩
      replace hB := gb_tr hB hs5
      replace hS0 := hS0.gb hs5
      replace ho1 := own_gb ho1 hs5
      replace hlo1 := Nat.le_trans hlo1 hs5.size
      replace ho2 := own_gb ho2 hs5
      replace hlo2 := Nat.le_trans hlo2 hs5.size
      have hlo3 : w4.heap.size ≤ w5.heap.size := hs5.size
      refine L_run (R_move rfl) rfl ?_
      refine L_run (R_extract rfl rfl) rfl ?_
      refine L_run (R_extract rfl rfl) rfl ?_
      refine L_run (R_assign rfl) rfl ?_
      refine L_run (R_assign rfl) rfl ?_
      refine L_nil (N_then (C_seq (C_reg ?_)))
      refine L_run (R_move rfl) rfl ?_
      refine L_run (R_neq rfl rfl) rfl ?_
      refine L_run (R_move rfl) rfl ?_
      refine L_no rfl rfl rfl (decide_eq_true he) rfl ?_
      refine L_no rfl rfl rfl (decide_eq_true he) rfl ?_
      refine L_no rfl rfl rfl (decide_eq_true he) rfl ?_
      refine L_noU rfl rfl rfl rfl ?_
      refine L_noU rfl rfl rfl rfl ?_
      refine L_noU rfl rfl rfl rfl ?_
      refine L_noU rfl rfl rfl rfl ?_
      refine L_noU rfl rfl rfl rfl ?_
      refine L_no rfl rfl rfl (decide_eq_true he) rfl ?_
      refine L_run (R_pickT rfl (decide_eq_true he) rfl) rfl ?_
      refine L_run (R_move rfl) rfl ?_
      refine L_yes rfl rfl rfl rfl ?_
      refine L_call rfl cb43 (awake12) rfl ?_
      rintro _ w6 ⟨hs6, rfl⟩
      replace hB := gb_tr hB hs6
      replace hS0 := hS0.gb hs6
      replace ho1 := own_gb ho1 hs6
      replace hlo1 := Nat.le_trans hlo1 hs6.size
      replace ho2 := own_gb ho2 hs6
      replace hlo2 := Nat.le_trans hlo2 hs6.size
      replace hlo3 := Nat.le_trans hlo3 hs6.size
      refine L_run (R_pickT rfl rfl rfl) rfl ?_
      refine L_run (R_assign rfl) rfl ?_
      refine L_nil (N_then (C_ret ?_))
      refine ret1 Try.results10 rfl ?_
      exact ⟨hB, rfl⟩

theorem walk {w : World} {A0 : Option Addr} {c0 : Nat} {xs0 : List UInt8} (hS0 : Sli 0 0 w.heap.size w A0 (fl encB xs0)) (hl0 : xs0.length ≤ c0) (hm0 : c0 * 1 ≤ 140737488351232) (hg0 : ∀ x ∈ xs0, True) : Runs Try.prog 10 #[.slice A0 xs0.length c0] w (fun v w' => w.grownBy w' none ∧ v = .bool true) := by
  by_cases he : (bget xs0).2 = 0
  · exact walk1 hS0 hl0 hm0 hg0 he
  · exact walk2 hS0 hl0 hm0 hg0 he

open Go.ChangeShapes Go.WideShapes Go.ChangeAt
theorem own : ownKnob Try.prog.godebug = none := by kernel_rfl
theorem laidOut : laidOutB Try.prog = true := by kernel_rfl
set_option maxRecDepth 100000 in
theorem lifted (os : Os) (started : os.Started) (H : Type) (enc : TypeId × Value → H) :
    ReturnsInHanded {} Try.checked os 10 .any (Rows.batchDecodesSpec.pre6 enc Try.prog Try.f10 Rows.batchDecodesRow.domain false) (Rows.batchDecodesSpec.post enc Try.prog Try.f10 false true false false) := by
  refine returnsInHanded_of_change_sized (C := Try.checked) own started (by kernel_rfl) Try.func10
    (ChangeSpec.witness6 (enc := enc) (C := Try.checked) false ⟨#[], #[.slice none 0 0], []⟩ 8 (by kernel_rfl) (by kernel_rfl) (by kernel_rfl) (by kernel_rfl)) ?_
  intro W base args ds gs before hval0 hW hcnd hsz0 _
  have hsz : (DataW.weightsEach Try.prog (Try.f10.params.toList ++ Rows.batchDecodesSpec.plain.varTypes Try.prog) (ds ++ gs)).all (· ≤ reachBytes) = true := hsz0
  have hval : ∀ (j : Nat) t v, Try.f10.params[j]? = some t → args[j]? = some v → Value.okWide Try.prog W .any base t v := hval0
  have hW' := hW
  obtain ⟨p, q, hA0, hV, rfl, hfz, hnd⟩ := hW
  have hA : DataW.TrodAll enc Try.prog W 0 (fun _ => true) true Try.f10.params.toList args.toList ds p := hA0
  rw [Try.params10] at hA hval hsz
  obtain ⟨v0, vs0, d0, ds0, p0, q0, hargs, rfl, rfl, h0, r0⟩ := trodAll_cons hA
  obtain ⟨rfl, rfl, rfl⟩ := trodAll_nil r0
  obtain rfl : args = #[v0] := by cases args; simp_all
  obtain ⟨rfl, rfl⟩ := trodVars_none hV
  have lt0 : ∀ x ∈ p0, x.block < W.heap.size := by obtain ⟨m, hm⟩ := h0; exact DataW.trod_lt m _ _ _ hm
  obtain ⟨⟨A0, c0, xs0⟩, e0, hS0, hl0, hm0, hg0⟩ := Rdr.arg (enc := enc) (P := Try.prog) (W := W) (Rdr.slice (ec := encB) (sz := 1) (by_ := 1) ((Rdr.int Try.underlying5).map (fun n => UInt8.ofNat n.toNat) byte_of (good' := fun _ => True) (fun _ _ => trivial)) EncB Try.underlying42 (by kernel_rfl) (by kernel_rfl)) hsz (j := 0) rfl rfl h0
  obtain rfl := of_cell e0 (by intro cs e_; obtain ⟨a_, l_, k_, e2_⟩ := okWide_slice Try.underlying42 (hval 0 42 v0 rfl rfl); rw [e2_] at e_; cases e_)
  refine (walk (w := W) hS0 hl0 hm0 hg0).calls.mono fun e W' ⟨v_, he, hgb, hv_⟩ => ?_
  subst he
  subst hv_
  have bel := gb_below hgb
  exact ⟨_, rfl, _, _, _, [], _, [], hW', trodAll_mk1 (shut_bool Try.underlying4 _), (trodAll_cons_mk (Below.trod laidOut (by kernel_rfl) (of_decide_eq_true (by kernel_rfl)) h0 bel lt0) trodAll_mk0), rfl, bel.frame _, fun h => by cases h⟩
theorem over : Rows.batchDecodesRow.holds Try.pinned (OpenSpec.ofChange Rows.batchDecodesSpec) :=
  OpenClaim.holds_of_wide 10 Try.f10 rfl rfl rfl rfl rfl rfl rfl ⟨rfl, rfl, rfl, rfl, rfl⟩ rfl rfl rfl rfl rfl (by kernel_rfl) Try.func10 (by kernel_rfl)
    (of_decide_eq_true (by kernel_rfl)) (by unfold Func.isWrapper; first | (rw [if_pos (by decide +kernel)]; kernel_rfl) | (rw [if_neg (by decide +kernel)]; exact ⟨rfl, rfl⟩))
    (fun os started H enc _ => lifted os started H enc)
/-- The given statement. -/
theorem proved : Rows.BatchDecodesSaid := over
#print axioms proved

end Go.Proofs.Ytnggbodilhpohaa.LBatchDecodes
