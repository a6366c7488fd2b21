/-
  For every list of operations and every key the law KvNobody returns true, and changes nothing that was there.
-/
import Derived.Test.YtbeafehpjjojnaaGreatDoorRows
import Derived.Test.YtbeafehpjjojnaaGreatDoorVq
import Derived.Test.YtbeafehpjjojnaaGreatDoorWk
import Derived.Test.YtbeafehpjjojnaaGreatDoorTie
import Derived.Test.YtbeafehpjjojnaaGreatDoorCards
import Derived.WalkKit
import Derived.ProofKit
import Derived.OpenShut
import Derived.ShutString
import Derived.ChangeOld
import Derived.Below
import Derived.SizedLaws
import Derived.LaidMore
import Derived.SevenTiedAt
import Derived.Stop.Joined
namespace Go.Proofs.YtbeafehpjjojnaaGreatDoor.LKvNobody
open Go.RowKit Gw Pl
set_option linter.unusedVariables false
set_option linter.unusedSimpArgs false

theorem half_laid {W : World} (h : laidMetH Tryz.prog Rows.kvNobodyRow.laid W) : ∃ T fz, W.heap[0]? = some (.cells Gw.tblV.toArray T fz) :=
  Ev.table_at (nm := "strandline/crc.half") (G := 0) (t := 508) (te := 162) (ks := [0, 274646895, 549293790, 820201905, 1098587580, 1361435347, 1640403810, 1905808397, 2197175160, 2460548119, 2722870694, 2987750089, 3280807620, 3553878443, 3811616794, 4084100981]) (by kernel_rfl) (by kernel_rfl) Tryz.underlying508 Tryz.underlying162 (by kernel_rfl) (by kernel_rfl) h

set_option maxRecDepth 100000 in
theorem walk {w : World} (hT : ∃ T fz, w.heap[0]? = some (.cells Gw.tblV.toArray T fz)) {A0 : Option Addr} {c0 : Nat} {xs0 : List Opd} (hS0 : Sli 0 0 w.heap.size w A0 (fl encOp xs0)) (hl0 : xs0.length ≤ c0) (hm0 : c0 * 40 ≤ 140737488351232) (hg0 : ∀ x ∈ xs0, GoodOp x) {key : ByteArray} (hg1 : key.size ≤ 140737488351232) : Runs Tryz.prog 6 #[.slice A0 xs0.length c0, .string key] w (fun v w' => w.grownBy w' none ∧ v = .bool true) := by
  obtain ⟨T, fz, hw⟩ := hT
  exact Ev.closedG (mu := fun f => Nat.beq f 60) (ov := Ev.orO Ev.ovC (Ev.look [Ev.en1, Ev.en2, Ev.en3, Ev.en4])) (fuel := 100000) (d := 60) (xs := [.slice A0 xs0.length c0, .string key]) (T := 0) (vs := Gw.tblV) hw (by kernel_rfl) (fun w0 => Ev.orO_ok (Ev.ovC_ok w0) (Ev.look_ok w0 (Ev.all_cons Ev.en1_ok (Ev.all_cons Ev.en2_ok (Ev.all_cons Ev.en3_ok (Ev.all_cons Ev.en4_ok (fun e he => by cases he))))))) (by kernel_rfl)

open Go.ChangeShapes Go.WideShapes Go.ChangeAt
theorem own : ownKnob Tryz.prog.godebug = none := by kernel_rfl
theorem laidOut : laidOutB Tryz.prog = true := by kernel_rfl
theorem door_met (os : Os) (args : Array Value) : laidMetH Tryz.prog Rows.kvNobodyRow.laid ((World.doorLaid Tryz.prog 14 os).forCall (fun _ _ => 0) ⟨#[], args, []⟩).memory :=
  laidMetH_of_parts3 (fuel := 8) (laidMet_of_run' 8 (by kernel_rfl) (by kernel_rfl)) (by kernel_rfl) (by kernel_rfl)
set_option maxRecDepth 100000 in
theorem lifted (os : Os) (started : os.Started) (H : Type) (enc : TypeId × Value → H) :
    ReturnsInHanded {} Tryz.checked os 6 .any (fun w args => (Rows.kvNobodySpec.pre enc Tryz.prog Tryz.f6 [] false w args ∧ laidMetH Tryz.prog Rows.kvNobodyRow.laid w) ∧ sizedMet enc Tryz.prog Tryz.f6 (OpenSpec.ofChange Rows.kvNobodySpec) false w args) (Rows.kvNobodySpec.post enc Tryz.prog Tryz.f6 false true false false) := by
  refine returnsInHanded_of_change_and (C := Tryz.checked) (X := fun w _ => laidMetH Tryz.prog Rows.kvNobodyRow.laid w) (fun _ _ _ hh h => h.of_heap hh) own started (by kernel_rfl) Tryz.func6
    (ChangeSpec.witness_shaped (enc := enc) (C := Tryz.checked) (os := os) (X := fun w _ => laidMetH Tryz.prog Rows.kvNobodyRow.laid w) false (World.doorLaid Tryz.prog 14 os) #[.slice none 0 0, .string (⟨#[]⟩)] 8 rfl (World.shaped_of_RefB (by kernel_rfl) (by kernel_rfl)) (by kernel_rfl) (by kernel_rfl) (by kernel_rfl) (door_met os _)) ?_
  intro W base args ds gs before hval0 hW hcnd hsz0 hL _
  have hsz : (DataW.weightsEach Tryz.prog (Tryz.f6.params.toList ++ Rows.kvNobodySpec.plain.varTypes Tryz.prog) (ds ++ gs)).all (· ≤ reachBytes) = true := hsz0
  have hval : ∀ (j : Nat) t v, Tryz.f6.params[j]? = some t → args[j]? = some v → Value.okWide Tryz.prog W .any base t v := hval0
  have hW' := hW
  obtain ⟨p, q, hA0, hV, rfl, hfz, hnd⟩ := hW
  have hA : DataW.TrodAll enc Tryz.prog W 0 (fun _ => true) true Tryz.f6.params.toList args.toList ds p := hA0
  rw [Tryz.params6] at hA hval hsz
  obtain ⟨v0, vs0, d0, ds0, p0, q0, hargs, rfl, rfl, h0, r0⟩ := trodAll_cons hA
  obtain ⟨v1, vs1, d1, ds1, p1, q1, rfl, rfl, rfl, h1, r1⟩ := trodAll_cons r0
  obtain ⟨rfl, rfl, rfl⟩ := trodAll_nil r1
  obtain rfl : args = #[v0, v1] := by cases args; simp_all
  obtain ⟨rfl, rfl⟩ := trodVars_none hV
  have lt0 : ∀ x ∈ p0, x.block < W.heap.size := by obtain ⟨m, hm⟩ := h0; exact DataW.trod_lt m _ _ _ hm
  obtain ⟨⟨A0, c0, xs0⟩, e0, hS0, hl0, hm0, hg0⟩ := Rdr.arg (enc := enc) (P := Tryz.prog) (W := W) (Rdr.slice (ec := encOp) (sz := 3) (by_ := 40) ((Rdr.struct Tryz.underlying171 rfl (by kernel_rfl) (Rds.cons (off := 0) (sz := 1) (Rdr.int Tryz.underlying3) (by kernel_rfl) rfl (by decide) (Rds.cons (off := 1) (sz := 1) (Rdr.str Tryz.underlying9) (by kernel_rfl) rfl (by decide) (Rds.cons (off := 2) (sz := 1) (Rdr.str Tryz.underlying9) (by kernel_rfl) rfl (by decide) (Rds.nil))))).map (fun y => (⟨y.1, y.2.1, y.2.2.1⟩ : Opd)) (e' := encOp) (fun _ _ => rfl) (good' := GoodOp) (fun _ h => ⟨h.1, h.2.1, h.2.2.1⟩)) EncOp Tryz.underlying57 (by kernel_rfl) (by kernel_rfl)) hsz (j := 0) rfl rfl h0
  obtain rfl := of_cell e0 (by intro cs e_; obtain ⟨a_, l_, k_, e2_⟩ := okWide_slice Tryz.underlying57 (hval 0 57 v0 rfl rfl); rw [e2_] at e_; cases e_)
  have lt1 : ∀ x ∈ p1, x.block < W.heap.size := by obtain ⟨m, hm⟩ := h1; exact DataW.trod_lt m _ _ _ hm
  obtain ⟨key, e1, hg1⟩ := Rdr.arg (enc := enc) (P := Tryz.prog) (W := W) (Rdr.str Tryz.underlying9) hsz (j := 1) rfl rfl h1
  obtain rfl := of_cell e1 (by intro cs e_; obtain ⟨a_, e2_⟩ := okWide_string Tryz.underlying9 (hval 1 9 v1 rfl rfl); rw [e2_] at e_; cases e_)
  refine (walk (w := W) (half_laid hL) hS0 hl0 hm0 hg0 hg1).calls.mono fun e W' ⟨v_, he, hgb, hv_⟩ => ?_
  subst he
  subst hv_
  have bel := gb_below hgb
  exact ⟨_, rfl, _, _, _, [], _, [], hW', trodAll_mk1 (shut_bool Tryz.underlying4 _), (trodAll_cons_mk (Below.trod laidOut (by kernel_rfl) (of_decide_eq_true (by kernel_rfl)) h0 bel lt0) (trodAll_cons_mk (Below.trod laidOut (by kernel_rfl) (of_decide_eq_true (by kernel_rfl)) h1 bel lt1) trodAll_mk0)), rfl, bel.frame _, fun h => by cases h⟩
set_option maxHeartbeats 100000000 in
theorem over : Rows.kvNobodyRow.holds Tryz.pinned (OpenSpec.ofChange Rows.kvNobodySpec) :=
  OpenClaim.holds_of_wide 6 Tryz.f6 rfl rfl rfl rfl rfl rfl rfl ⟨rfl, rfl, rfl, rfl, rfl⟩ rfl rfl rfl rfl rfl (by as_aux_lemma => kernel_rfl) Tryz.func6 (by unfold joinedFacts; simp only [Bool.and_eq_true]; (repeat' refine And.intro ?_ ?_) <;> (as_aux_lemma => kernel_rfl))
    (of_decide_eq_true (by as_aux_lemma => kernel_rfl)) (by unfold Func.isWrapper; first | (rw [if_pos (by decide +kernel)]; kernel_rfl) | (rw [if_neg (by decide +kernel)]; exact ⟨rfl, rfl⟩))
    (fun os started H enc _ => lifted os started H enc)
set_option maxHeartbeats 100000000 in
/-- The given statement. -/
theorem proved : Rows.KvNobodyCardSaid :=
  Claim7.holds_tied_plain_at .later [] [.data] true (true, "32079b500fd51209bf8c4774f4656eaec7ef77643ad52c924eb12e5585a238aa") false
    over (fun _ h => by cases h) (by as_aux_lemma => kernel_rfl) (fun _ h => by cases h) kvNobody_row_tie rfl ⟨rfl, rfl⟩ (by as_aux_lemma => kernel_rfl) rfl
    (fun f fn hf hfn => by
      obtain rfl : f = 6 := Option.some.inj ((show Tryz.prog.funcNamed "strandline/strandlinelaw36.KvNobody" = some 6 by as_aux_lemma => kernel_rfl).symm.trans hf) |>.symm
      obtain rfl : fn = Tryz.f6 := (Option.some.inj (Tryz.func6.symm.trans hfn)).symm
      exact ⟨by as_aux_lemma => kernel_rfl, fun j t ht => by
        rw [Tryz.params6] at ht
        have hm : t ∈ [57, 9] := by simpa using Array.mem_of_getElem? ht
        have hall : ([57, 9].all fun u => !Tryz.prog.wantsStandIn u) = true := by as_aux_lemma => kernel_rfl
        exact (show Tryz.prog.wantsStandIn t = false by simpa using List.all_eq_true.1 hall t hm)⟩)
    (by as_aux_lemma => kernel_rfl)
#print axioms proved

end Go.Proofs.YtbeafehpjjojnaaGreatDoor.LKvNobody
