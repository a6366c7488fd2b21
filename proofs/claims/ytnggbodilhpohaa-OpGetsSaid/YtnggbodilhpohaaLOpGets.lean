/-
  For every bytes the law OpGets returns true, and changes nothing that was there.
-/
import Derived.Test.YtnggbodilhpohaaCb
import Derived.Test.YtnggbodilhpohaaVr
import Derived.WalkKit
import Derived.ProofKit
import Derived.OpenShut
import Derived.ShutString
import Derived.ChangeOld
import Derived.Below
import Derived.SizedLaws
namespace Go.Proofs.Ytnggbodilhpohaa.LOpGets
open Go.RowKit Gw Pl
set_option linter.unusedVariables false
set_option linter.unusedSimpArgs false
theorem boo4 : Try.prog.underlying 4 = some .bool := by kernel_rfl
theorem cb14 : callB Try.prog 14 = true := by kernel_rfl
theorem cb15 : callB Try.prog 15 = true := by kernel_rfl
theorem cb16 : callB Try.prog 16 = true := by kernel_rfl
theorem cb40 : callB Try.prog 40 = true := by kernel_rfl
theorem cb41 : callB Try.prog 41 = true := by kernel_rfl
theorem cb42 : callB Try.prog 42 = true := by kernel_rfl
theorem walk {w : World} {A0 : Option Addr} {c0 : Nat} {xs0 : List UInt8} (hS0 : Sli 0 0 w.heap.size w A0 (fl encB xs0)) (hl0 : xs0.length ≤ c0) (hm0 : c0 * 1 ≤ 140737488351232) (hg0 : ∀ x ∈ xs0, True) :
    Runs Try.prog 8 #[.slice A0 xs0.length c0] w (fun v w' => w.grownBy w' none ∧ v = .bool true) := by
  have hB := gb_refl w none
  have hok_ := fun h => opEnc_oget (bs := xs0) h
  refine enter Try.func8 Try.ntmps8 rfl rfl ?_
  refine C_seq (C_reg ?_)
  refine L_run (R_assign rfl) rfl ?_
  refine L_nil (N_then (C_seq (C_reg ?_)))
  refine L_run (R_move rfl) rfl ?_
  refine L_call rfl cb41 (op_Get (bs := xs0) hS0 (by first | omega | (simp; done) | (simp; omega)) (by first | omega | (simp; done) | (simp; omega))) rfl ?_
  rintro _ w1 ⟨hs1, rfl⟩
  replace hB := gb_tr hB hs1
  replace hS0 := hS0.gb hs1
  refine L_run (R_move rfl) rfl ?_
  refine L_run (R_extract rfl rfl) rfl ?_
  refine L_run (R_extract rfl rfl) rfl ?_
  refine L_run (R_extract rfl rfl) rfl ?_
  refine L_alloc (cs := [.int .i64 0, .string (⟨#[]⟩), .string (⟨#[]⟩)]) zer44 rfl rfl ?_
  intro g1 w2 eg1 hb1 hs2 hz1
  have ge1 : w.heap.size ≤ g1 := eg_ge hB eg1
  replace hB := gb_tr hB hs2
  replace hS0 := hS0.gb hs2
  refine L_stA (vs := [.int .i64 ((oget xs0).1.1), .string ((oget xs0).1.2.1), .string ((oget xs0).1.2.2)]) rfl rfl rfl sz44 rfl hb1 rfl ?_
  intro w3 hb2 hs3 hz2
  replace hB := gb_trg hB hs3 ge1
  replace hS0 := hS0.old hs3 ge1
  refine L_run (R_assign rfl) rfl ?_
  refine L_run (R_assign rfl) rfl ?_
  refine L_nil (N_then (C_seq (C_reg ?_)))
  refine L_run (R_move rfl) rfl ?_
  refine L_call rfl cb42 (ref10_Get (bs := xs0) hS0 (by first | omega | (simp; done) | (simp; omega)) (by first | omega | (simp; done) | (simp; omega))) rfl ?_
  rintro _ w4 ⟨hs4, rfl⟩
  replace hB := gb_tr hB hs4
  replace hS0 := hS0.gb hs4
  replace hb2 := hb2.gb hs4
  refine L_run (R_move rfl) rfl ?_
  refine L_run (R_extract rfl rfl) rfl ?_
  refine L_run (R_extract rfl rfl) rfl ?_
  refine L_run (R_extract rfl rfl) rfl ?_
  refine L_alloc (cs := [.int .i64 0, .string (⟨#[]⟩), .string (⟨#[]⟩)]) zer44 rfl rfl ?_
  intro g2 w5 eg2 hb3 hs5 hz3
  have ge2 : w.heap.size ≤ g2 := eg_ge hB eg2
  have lt1 : g1 < g2 := lt_of_eg hb2.lt eg2
  replace hB := gb_tr hB hs5
  replace hS0 := hS0.gb hs5
  replace hb2 := hb2.gb hs5
  refine L_stA (vs := [.int .i64 ((oget xs0).1.1), .string ((oget xs0).1.2.1), .string ((oget xs0).1.2.2)]) rfl rfl rfl sz44 rfl hb3 rfl ?_
  intro w6 hb4 hs6 hz4
  replace hB := gb_trg hB hs6 ge2
  replace hS0 := hS0.old hs6 ge2
  replace hb2 := hb2.grown hs6 (ne_lt lt1)
  refine L_run (R_assign rfl) rfl ?_
  refine L_run (R_assign rfl) rfl ?_
  refine L_nil (N_then (C_seq (C_seq (C_reg ?_))))
  refine L_run (R_loadA (vs := [.int .i64 ((oget xs0).1.1), .string ((oget xs0).1.2.1), .string ((oget xs0).1.2.2)]) rfl agg44 (At.pre (hb2.at_ 0) rfl) rfl) rfl ?_
  refine L_run (R_loadA (vs := [.int .i64 ((oget xs0).1.1), .string ((oget xs0).1.2.1), .string ((oget xs0).1.2.2)]) rfl agg44 (At.pre (hb4.at_ 0) rfl) rfl) rfl ?_
  refine L_run (R_eqv (R_neqA rfl rfl eqg44 (eqs_struct und44 sih44 (eqf_cons (by decide) scl3 rfl rfl (eqs_int int3) (eqf_cons (by decide) scl9 rfl rfl (eqs_str str9) (eqf_cons (by decide) scl9 rfl rfl (eqs_str str9) eqf_nil))))) (v' := .bool false) (bF' (fun h => h ⟨rfl, rfl, rfl, trivial⟩))) rfl ?_
  refine L_run (R_move rfl) rfl ?_
  refine L_yes rfl rfl rfl rfl ?_
  refine L_run (R_move rfl) rfl ?_
  refine L_yes rfl rfl rfl rfl ?_
  refine L_run (R_move rfl) rfl ?_
  refine L_yes rfl rfl rfl rfl ?_
  refine L_run (R_eqv (R_neq rfl rfl) (v' := .bool false) (bF' (fun h => h rfl))) rfl ?_
  refine L_run (R_pickF rfl rfl rfl) rfl ?_
  refine L_run (R_move rfl) rfl ?_
  refine L_yes rfl rfl rfl rfl ?_
  refine L_run (R_move rfl) rfl ?_
  refine L_yes rfl rfl rfl rfl ?_
  refine L_run (R_move rfl) rfl ?_
  refine L_yes rfl rfl rfl rfl ?_
  refine L_run (R_eqv (R_neq rfl rfl) (v' := .bool false) (bF' (fun h => h rfl))) rfl ?_
  refine L_run (R_pickF rfl rfl rfl) rfl ?_
  refine L_nil (N_then (C_condF rfl rfl (C_skip (N_then (C_seq (C_seq (C_reg ?_)))))))
  refine L_run (R_move rfl) rfl ?_
  refine L_run (R_neq rfl rfl) rfl ?_
  refine L_nil (N_then ?_)
  refine C_if rfl (fun h1 => ?_) (fun h1 => ?_)
  · refine C_seq (C_reg ?_)
    refine L_call rfl cb16 (awake10) rfl ?_
    rintro _ w7 ⟨hs7, rfl⟩
    replace hB := gb_tr hB hs7
    replace hS0 := hS0.gb hs7
    replace hb2 := hb2.gb hs7
    replace hb4 := hb4.gb hs7
    refine L_run (R_assign rfl) rfl ?_
    refine L_nil (N_then (C_ret (R_then ?_)))
    refine ret1 Try.results8 rfl ?_
    exact ⟨hB, rfl⟩
  · refine C_skip (N_then (C_seq (C_reg ?_)))
    refine L_run (R_loadA (vs := [.int .i64 ((oget xs0).1.1), .string ((oget xs0).1.2.1), .string ((oget xs0).1.2.2)]) rfl agg44 (At.pre (hb2.at_ 0) rfl) rfl) rfl ?_
    have ge3 : w.heap.size ≤ w6.heap.size := hB.size
    refine L_call rfl cb37 (op_Put_ok (bs := []) (Sli.nil (t := 0) (lo := 0) (hi := 0)) (by first | omega | (simp; done) | (simp; omega)) (hok_ (by omega)).1) rfl ?_
    rintro _ w8 ⟨hs8, A_1, c_1, rfl, ho1⟩
    replace hB := gb_tr hB hs8
    replace hS0 := hS0.gb hs8
    replace hb2 := hb2.gb hs8
    replace hb4 := hb4.gb hs8
    have hlo1 : w6.heap.size ≤ w8.heap.size := hs8.size
    refine L_run (R_move rfl) rfl ?_
    refine L_run (R_extract rfl rfl) rfl ?_
    refine L_run (R_extract rfl rfl) rfl ?_
    refine L_run (R_assign rfl) rfl ?_
    refine L_run (R_assign rfl) rfl ?_
    refine L_nil (N_then (C_seq ?_))
    refine C_draw2 mix ?_
    intro w9 hs9 hz5
    replace hB := gb_tr hB hs9
    replace hS0 := hS0.gb hs9
    replace hb2 := hb2.gb hs9
    replace hb4 := hb4.gb hs9
    replace ho1 := own_gb ho1 hs9
    replace hlo1 := Nat.le_trans hlo1 hs9.size
    refine ⟨fun W_ => Sli 0 0 w.heap.size W_ A0 (fl encB xs0) ∧ World.ownsRow W_ w6.heap.size 5 1 (.slice A_1 (([]) ++ opEnc ((oget xs0).1.1) ((oget xs0).1.2.1) ((oget xs0).1.2.2)).length c_1) (([]) ++ opEnc ((oget xs0).1.1) ((oget xs0).1.2.1) ((oget xs0).1.2.2)).length (fl encB (([]) ++ opEnc ((oget xs0).1.1) ((oget xs0).1.2.1) ((oget xs0).1.2.2))) ∧ True, [0, 1, 2, 3, 4, 5, 6, 9, 10, 11, 13, 14], ?_⟩
    refine T_takeA (i := 0) rfl rfl (by kernel_rfl) (by kernel_rfl) (by kernel_rfl) (Y_of (fun _ ⟨hS0, ho1, _⟩ => R_move rfl)) ⟨hS0, ho1, trivial⟩ rfl ?_
    refine T_takeA (i := 1) rfl rfl (by kernel_rfl) (by kernel_rfl) (by kernel_rfl) (Y_of (fun _ ⟨hS0, ho1, _⟩ => R_eqv (R_eql rfl rfl) (v' := .bool true) rfl)) ⟨hS0, ho1, trivial⟩ rfl ?_
    refine T_takeA (i := 2) rfl rfl (by kernel_rfl) (by kernel_rfl) (by kernel_rfl) (Y_of (fun _ ⟨hS0, ho1, _⟩ => R_move rfl)) ⟨hS0, ho1, trivial⟩ rfl ?_
    refine T_takeA (i := 3) rfl rfl (by kernel_rfl) (by kernel_rfl) (by kernel_rfl) (Y_yes rfl rfl rfl rfl (fun _ ⟨hS0, ho1, _⟩ => R_move rfl)) ⟨hS0, ho1, trivial⟩ rfl ?_
    refine T_takeA (i := 4) rfl rfl (by kernel_rfl) (by kernel_rfl) (by kernel_rfl) (Y_yes rfl rfl rfl rfl (fun _ ⟨hS0, ho1, _⟩ => R_b2s' (bs := ([]) ++ opEnc ((oget xs0).1.1) ((oget xs0).1.2.1) ((oget xs0).1.2.2)) rfl slc42 int5 str9 (own_of ho1).2.2)) ⟨hS0, ho1, trivial⟩ rfl ?_
    refine T_takeA (i := 5) rfl rfl (by kernel_rfl) (by kernel_rfl) (by kernel_rfl) (Y_yes rfl rfl rfl rfl (fun _ ⟨hS0, ho1, _⟩ => R_move rfl)) ⟨hS0, ho1, trivial⟩ rfl ?_
    refine T_takeA (i := 6) rfl rfl (by kernel_rfl) (by kernel_rfl) (by kernel_rfl) (Y_yes rfl rfl rfl rfl (fun _ ⟨hS0, ho1, _⟩ => R_move rfl)) ⟨hS0, ho1, trivial⟩ rfl ?_
    refine T_all (rs := [7]) (by kernel_rfl) rfl (all1 (O_one rfl ?_))
    refine L_yes rfl rfl rfl rfl ?_
    refine T_slH (xs := xs0) (j := ((oget xs0).2.1)) EncB rfl rfl (by first | rfl | omega) slc42 (hok_ (by omega)).2.2 (by first | omega | (simp; done) | (simp; omega)) hS0 rfl ?_
    intro A_2 hS_1
    refine L_nil (N_then ⟨fun hN_ => ⟨hS0, ho1, trivial⟩, ?_⟩)
    refine T_all (rs := [8]) (by kernel_rfl) rfl (all1 (O_one rfl ?_))
    refine L_yes rfl rfl rfl rfl ?_
    refine L_run (R_b2s' (bs := xs0.take ((oget xs0).2.1)) rfl slc42 int5 str9 hS_1) rfl ?_
    refine L_nil (N_then ⟨fun hN_ => ⟨hS0, ho1, trivial⟩, ?_⟩)
    refine T_takeA (i := 9) rfl rfl (by kernel_rfl) (by kernel_rfl) (by kernel_rfl) (Y_yes rfl rfl rfl rfl (fun _ ⟨hS0, ho1, _⟩ => R_eqv (R_eqlS rfl rfl) (v' := .bool true) (bT' (by rw [List.nil_append, (hok_ (by omega)).2.1])))) ⟨hS0, ho1, trivial⟩ rfl ?_
    refine T_takeA (i := 10) rfl rfl (by kernel_rfl) (by kernel_rfl) (by kernel_rfl) (Y_of (fun _ ⟨hS0, ho1, _⟩ => R_pickT rfl rfl rfl)) ⟨hS0, ho1, trivial⟩ rfl ?_
    refine T_takeA (i := 11) rfl rfl (by kernel_rfl) (by kernel_rfl) (by kernel_rfl) (Y_of (fun _ ⟨hS0, ho1, _⟩ => R_move rfl)) ⟨hS0, ho1, trivial⟩ rfl ?_
    refine T_all (rs := [12]) (by kernel_rfl) rfl (all1 (O_one rfl ?_))
    refine L_yes rfl rfl rfl rfl ?_
    refine L_call rfl cb16 (awake10) rfl ?_
    rintro _ w10 ⟨hs10, rfl⟩
    replace hB := gb_tr hB hs10
    replace hS0 := hS0.gb hs10
    replace hb2 := hb2.gb hs10
    replace hb4 := hb4.gb hs10
    replace ho1 := own_gb ho1 hs10
    replace hlo1 := Nat.le_trans hlo1 hs10.size
    replace hS_1 := hS_1.gb hs10
    refine L_nil (N_then ⟨fun hN_ => ⟨hS0, ho1, trivial⟩, ?_⟩)
    refine T_takeA (i := 13) rfl rfl (by kernel_rfl) (by kernel_rfl) (by kernel_rfl) (Y_of (fun _ ⟨hS0, ho1, _⟩ => R_pickT rfl rfl rfl)) ⟨hS0, ho1, trivial⟩ rfl ?_
    refine T_takeA (i := 14) rfl rfl (by kernel_rfl) (by kernel_rfl) (by kernel_rfl) (Y_of (fun _ ⟨hS0, ho1, _⟩ => R_assign rfl)) ⟨hS0, ho1, trivial⟩ rfl ?_
    refine T_done (by kernel_rfl) (NoPanic.normal ?_)
    refine N_then (C_ret ?_)
    refine ret1 Try.results8 rfl ?_
    exact ⟨hB, rfl⟩

open Go.ChangeShapes Go.WideShapes Go.ChangeAt
theorem own : ownKnob Try.prog.godebug = none := by kernel_rfl
theorem laidOut : laidOutB Try.prog = true := by kernel_rfl
set_option maxRecDepth 100000 in
theorem lifted (os : Os) (started : os.Started) (H : Type) (enc : TypeId × Value → H) :
    ReturnsInHanded {} Try.checked os 8 .any (Rows.opGetsSpec.pre6 enc Try.prog Try.f8 Rows.opGetsRow.domain false) (Rows.opGetsSpec.post enc Try.prog Try.f8 false true false false) := by
  refine returnsInHanded_of_change_sized (C := Try.checked) own started (by kernel_rfl) Try.func8
    (ChangeSpec.witness6 (enc := enc) (C := Try.checked) false ⟨#[], #[.slice none 0 0], []⟩ 8 (by kernel_rfl) (by kernel_rfl) (by kernel_rfl) (by kernel_rfl)) ?_
  intro W base args ds gs before hval0 hW hcnd hsz0 _
  have hsz : (DataW.weightsEach Try.prog (Try.f8.params.toList ++ Rows.opGetsSpec.plain.varTypes Try.prog) (ds ++ gs)).all (· ≤ reachBytes) = true := hsz0
  have hval : ∀ (j : Nat) t v, Try.f8.params[j]? = some t → args[j]? = some v → Value.okWide Try.prog W .any base t v := hval0
  have hW' := hW
  obtain ⟨p, q, hA0, hV, rfl, hfz, hnd⟩ := hW
  have hA : DataW.TrodAll enc Try.prog W 0 (fun _ => true) true Try.f8.params.toList args.toList ds p := hA0
  rw [Try.params8] at hA hval hsz
  obtain ⟨v0, vs0, d0, ds0, p0, q0, hargs, rfl, rfl, h0, r0⟩ := trodAll_cons hA
  obtain ⟨rfl, rfl, rfl⟩ := trodAll_nil r0
  obtain rfl : args = #[v0] := by cases args; simp_all
  obtain ⟨rfl, rfl⟩ := trodVars_none hV
  have lt0 : ∀ x ∈ p0, x.block < W.heap.size := by obtain ⟨m, hm⟩ := h0; exact DataW.trod_lt m _ _ _ hm
  obtain ⟨⟨A0, c0, xs0⟩, e0, hS0, hl0, hm0, hg0⟩ := Rdr.arg (enc := enc) (P := Try.prog) (W := W) (Rdr.slice (ec := encB) (sz := 1) (by_ := 1) ((Rdr.int Try.underlying5).map (fun n => UInt8.ofNat n.toNat) byte_of (good' := fun _ => True) (fun _ _ => trivial)) EncB Try.underlying42 (by kernel_rfl) (by kernel_rfl)) hsz (j := 0) rfl rfl h0
  obtain rfl := of_cell e0 (by intro cs e_; obtain ⟨a_, l_, k_, e2_⟩ := okWide_slice Try.underlying42 (hval 0 42 v0 rfl rfl); rw [e2_] at e_; cases e_)
  refine (walk (w := W) hS0 hl0 hm0 hg0).calls.mono fun e W' ⟨v_, he, hgb, hv_⟩ => ?_
  subst he
  subst hv_
  have bel := gb_below hgb
  exact ⟨_, rfl, _, _, _, [], _, [], hW', trodAll_mk1 (shut_bool Try.underlying4 _), (trodAll_cons_mk (Below.trod laidOut (by kernel_rfl) (of_decide_eq_true (by kernel_rfl)) h0 bel lt0) trodAll_mk0), rfl, bel.frame _, fun h => by cases h⟩
theorem over : Rows.opGetsRow.holds Try.pinned (OpenSpec.ofChange Rows.opGetsSpec) :=
  OpenClaim.holds_of_wide 8 Try.f8 rfl rfl rfl rfl rfl rfl rfl ⟨rfl, rfl, rfl, rfl, rfl⟩ rfl rfl rfl rfl rfl (by kernel_rfl) Try.func8 (by kernel_rfl)
    (of_decide_eq_true (by kernel_rfl)) (by unfold Func.isWrapper; first | (rw [if_pos (by decide +kernel)]; kernel_rfl) | (rw [if_neg (by decide +kernel)]; exact ⟨rfl, rfl⟩))
    (fun os started H enc _ => lifted os started H enc)
/-- The given statement. -/
theorem proved : Rows.OpGetsSaid := over
#print axioms proved

end Go.Proofs.Ytnggbodilhpohaa.LOpGets
