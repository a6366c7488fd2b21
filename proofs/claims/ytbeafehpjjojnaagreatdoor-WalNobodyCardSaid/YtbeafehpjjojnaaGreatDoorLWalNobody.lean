/-
  For every kind, number and bytes the law WalNobody returns true, and changes nothing that was there.
-/
import Derived.Test.YtbeafehpjjojnaaGreatDoorRows
import Derived.Test.YtbeafehpjjojnaaGreatDoorVq
import Derived.Test.YtbeafehpjjojnaaGreatDoorWa
import Derived.Test.YtbeafehpjjojnaaGreatDoorTie
import Derived.Test.YtbeafehpjjojnaaGreatDoorCards
import Derived.WalkKit
import Derived.ProofKit
import Derived.OpenShut
import Derived.ShutString
import Derived.ChangeOld
import Derived.Below
import Derived.SizedLaws
import Derived.LaidMore
import Derived.SevenTiedAt
import Derived.Stop.Joined
namespace Go.Proofs.YtbeafehpjjojnaaGreatDoor.LWalNobody
open Go.RowKit Gw Pl
set_option linter.unusedVariables false
set_option linter.unusedSimpArgs false

theorem half_laid {W : World} (h : laidMetH Tryz.prog Rows.walNobodyRow.laid W) : ∃ T fz, W.heap[0]? = some (.cells Gw.tblV.toArray T fz) :=
  Ev.table_at (nm := "strandline/crc.half") (G := 0) (t := 508) (te := 162) (ks := [0, 274646895, 549293790, 820201905, 1098587580, 1361435347, 1640403810, 1905808397, 2197175160, 2460548119, 2722870694, 2987750089, 3280807620, 3553878443, 3811616794, 4084100981]) (by kernel_rfl) (by kernel_rfl) Tryz.underlying508 Tryz.underlying162 (by kernel_rfl) (by kernel_rfl) h

set_option maxRecDepth 100000 in
theorem walk {w : World} (hT : ∃ T fz, w.heap[0]? = some (.cells Gw.tblV.toArray T fz)) {kind : Int} (hg0 : (Lit.int .i64 kind).wf = true) {lsn : Int} (hg1 : (Lit.int .i64 lsn).wf = true) {A2 : Option Addr} {c2 : Nat} {xs2 : List UInt8} (hS2 : Sli 0 0 w.heap.size w A2 (fl encB xs2)) (hl2 : xs2.length ≤ c2) (hm2 : c2 * 1 ≤ 140737488351232) (hg2 : ∀ x ∈ xs2, True) : Runs Tryz.prog 4 #[.int .i64 kind, .int .i64 lsn, .slice A2 xs2.length c2] w (fun v w' => w.grownBy w' none ∧ v = .bool true) := by
  obtain ⟨T, fz, hw⟩ := hT
  exact Ev.closedG (mu := fun f => Nat.beq f 60) (ov := Ev.orO Ev.ovC (Ev.look [Ev.en1, Ev.en2, Ev.en3, Ev.en4])) (fuel := 100000) (d := 60) (xs := [.int .i64 kind, .int .i64 lsn, .slice A2 xs2.length c2]) (T := 0) (vs := Gw.tblV) hw (by kernel_rfl) (fun w0 => Ev.orO_ok (Ev.ovC_ok w0) (Ev.look_ok w0 (Ev.all_cons Ev.en1_ok (Ev.all_cons Ev.en2_ok (Ev.all_cons Ev.en3_ok (Ev.all_cons Ev.en4_ok (fun e he => by cases he))))))) (by kernel_rfl)

open Go.ChangeShapes Go.WideShapes Go.ChangeAt
theorem own : ownKnob Tryz.prog.godebug = none := by kernel_rfl
theorem laidOut : laidOutB Tryz.prog = true := by kernel_rfl
theorem door_met (os : Os) (args : Array Value) : laidMetH Tryz.prog Rows.walNobodyRow.laid ((World.doorLaid Tryz.prog 14 os).forCall (fun _ _ => 0) ⟨#[], args, []⟩).memory :=
  laidMetH_of_parts3 (fuel := 8) (laidMet_of_run' 8 (by kernel_rfl) (by kernel_rfl)) (by kernel_rfl) (by kernel_rfl)
set_option maxRecDepth 100000 in
theorem lifted (os : Os) (started : os.Started) (H : Type) (enc : TypeId × Value → H) :
    ReturnsInHanded {} Tryz.checked os 4 .any (fun w args => (Rows.walNobodySpec.pre enc Tryz.prog Tryz.f4 [] false w args ∧ laidMetH Tryz.prog Rows.walNobodyRow.laid w) ∧ sizedMet enc Tryz.prog Tryz.f4 (OpenSpec.ofChange Rows.walNobodySpec) false w args) (Rows.walNobodySpec.post enc Tryz.prog Tryz.f4 false true false false) := by
  refine returnsInHanded_of_change_and (C := Tryz.checked) (X := fun w _ => laidMetH Tryz.prog Rows.walNobodyRow.laid w) (fun _ _ _ hh h => h.of_heap hh) own started (by kernel_rfl) Tryz.func4
    (ChangeSpec.witness_shaped (enc := enc) (C := Tryz.checked) (os := os) (X := fun w _ => laidMetH Tryz.prog Rows.walNobodyRow.laid w) false (World.doorLaid Tryz.prog 14 os) #[.int .i64 0, .int .i64 0, .slice none 0 0] 8 rfl (World.shaped_of_RefB (by kernel_rfl) (by kernel_rfl)) (by kernel_rfl) (by kernel_rfl) (by kernel_rfl) (door_met os _)) ?_
  intro W base args ds gs before hval0 hW hcnd hsz0 hL _
  have hsz : (DataW.weightsEach Tryz.prog (Tryz.f4.params.toList ++ Rows.walNobodySpec.plain.varTypes Tryz.prog) (ds ++ gs)).all (· ≤ reachBytes) = true := hsz0
  have hval : ∀ (j : Nat) t v, Tryz.f4.params[j]? = some t → args[j]? = some v → Value.okWide Tryz.prog W .any base t v := hval0
  have hW' := hW
  obtain ⟨p, q, hA0, hV, rfl, hfz, hnd⟩ := hW
  have hA : DataW.TrodAll enc Tryz.prog W 0 (fun _ => true) true Tryz.f4.params.toList args.toList ds p := hA0
  rw [Tryz.params4] at hA hval hsz
  obtain ⟨v0, vs0, d0, ds0, p0, q0, hargs, rfl, rfl, h0, r0⟩ := trodAll_cons hA
  obtain ⟨v1, vs1, d1, ds1, p1, q1, rfl, rfl, rfl, h1, r1⟩ := trodAll_cons r0
  obtain ⟨v2, vs2, d2, ds2, p2, q2, rfl, rfl, rfl, h2, r2⟩ := trodAll_cons r1
  obtain ⟨rfl, rfl, rfl⟩ := trodAll_nil r2
  obtain rfl : args = #[v0, v1, v2] := by cases args; simp_all
  obtain ⟨rfl, rfl⟩ := trodVars_none hV
  have lt0 : ∀ x ∈ p0, x.block < W.heap.size := by obtain ⟨m, hm⟩ := h0; exact DataW.trod_lt m _ _ _ hm
  obtain ⟨kind, e0, hg0⟩ := Rdr.arg (enc := enc) (P := Tryz.prog) (W := W) (Rdr.int Tryz.underlying3) hsz (j := 0) rfl rfl h0
  obtain rfl := of_cell e0 (by intro cs e_; obtain ⟨a_, e2_⟩ := okWide_int Tryz.underlying3 (hval 0 3 v0 rfl rfl); rw [e2_] at e_; cases e_)
  have lt1 : ∀ x ∈ p1, x.block < W.heap.size := by obtain ⟨m, hm⟩ := h1; exact DataW.trod_lt m _ _ _ hm
  obtain ⟨lsn, e1, hg1⟩ := Rdr.arg (enc := enc) (P := Tryz.prog) (W := W) (Rdr.int Tryz.underlying3) hsz (j := 1) rfl rfl h1
  obtain rfl := of_cell e1 (by intro cs e_; obtain ⟨a_, e2_⟩ := okWide_int Tryz.underlying3 (hval 1 3 v1 rfl rfl); rw [e2_] at e_; cases e_)
  have lt2 : ∀ x ∈ p2, x.block < W.heap.size := by obtain ⟨m, hm⟩ := h2; exact DataW.trod_lt m _ _ _ hm
  obtain ⟨⟨A2, c2, xs2⟩, e2, hS2, hl2, hm2, hg2⟩ := Rdr.arg (enc := enc) (P := Tryz.prog) (W := W) (Rdr.slice (ec := encB) (sz := 1) (by_ := 1) ((Rdr.int Tryz.underlying5).map (fun n => UInt8.ofNat n.toNat) byte_of (good' := fun _ => True) (fun _ _ => trivial)) EncB Tryz.underlying32 (by kernel_rfl) (by kernel_rfl)) hsz (j := 2) rfl rfl h2
  obtain rfl := of_cell e2 (by intro cs e_; obtain ⟨a_, l_, k_, e2_⟩ := okWide_slice Tryz.underlying32 (hval 2 32 v2 rfl rfl); rw [e2_] at e_; cases e_)
  refine (walk (w := W) (half_laid hL) hg0 hg1 hS2 hl2 hm2 hg2).calls.mono fun e W' ⟨v_, he, hgb, hv_⟩ => ?_
  subst he
  subst hv_
  have bel := gb_below hgb
  exact ⟨_, rfl, _, _, _, [], _, [], hW', trodAll_mk1 (shut_bool Tryz.underlying4 _), (trodAll_cons_mk (Below.trod laidOut (by kernel_rfl) (of_decide_eq_true (by kernel_rfl)) h0 bel lt0) (trodAll_cons_mk (Below.trod laidOut (by kernel_rfl) (of_decide_eq_true (by kernel_rfl)) h1 bel lt1) (trodAll_cons_mk (Below.trod laidOut (by kernel_rfl) (of_decide_eq_true (by kernel_rfl)) h2 bel lt2) trodAll_mk0))), rfl, bel.frame _, fun h => by cases h⟩
set_option maxHeartbeats 100000000 in
theorem over : Rows.walNobodyRow.holds Tryz.pinned (OpenSpec.ofChange Rows.walNobodySpec) :=
  OpenClaim.holds_of_wide 4 Tryz.f4 rfl rfl rfl rfl rfl rfl rfl ⟨rfl, rfl, rfl, rfl, rfl⟩ rfl rfl rfl rfl rfl (by as_aux_lemma => kernel_rfl) Tryz.func4 (by unfold joinedFacts; simp only [Bool.and_eq_true]; (repeat' refine And.intro ?_ ?_) <;> (as_aux_lemma => kernel_rfl))
    (of_decide_eq_true (by as_aux_lemma => kernel_rfl)) (by unfold Func.isWrapper; first | (rw [if_pos (by decide +kernel)]; kernel_rfl) | (rw [if_neg (by decide +kernel)]; exact ⟨rfl, rfl⟩))
    (fun os started H enc _ => lifted os started H enc)
set_option maxHeartbeats 100000000 in
/-- The given statement. -/
theorem proved : Rows.WalNobodyCardSaid :=
  Claim7.holds_tied_plain_at .later [] [.data] true (true, "32079b500fd51209bf8c4774f4656eaec7ef77643ad52c924eb12e5585a238aa") false
    over (fun _ h => by cases h) (by as_aux_lemma => kernel_rfl) (fun _ h => by cases h) walNobody_row_tie rfl ⟨rfl, rfl⟩ (by as_aux_lemma => kernel_rfl) rfl
    (fun f fn hf hfn => by
      obtain rfl : f = 4 := Option.some.inj ((show Tryz.prog.funcNamed "strandline/strandlinelaw28.WalNobody" = some 4 by as_aux_lemma => kernel_rfl).symm.trans hf) |>.symm
      obtain rfl : fn = Tryz.f4 := (Option.some.inj (Tryz.func4.symm.trans hfn)).symm
      exact ⟨by as_aux_lemma => kernel_rfl, fun j t ht => by
        rw [Tryz.params4] at ht
        have hm : t ∈ [3, 3, 32] := by simpa using Array.mem_of_getElem? ht
        have hall : ([3, 3, 32].all fun u => !Tryz.prog.wantsStandIn u) = true := by as_aux_lemma => kernel_rfl
        exact (show Tryz.prog.wantsStandIn t = false by simpa using List.all_eq_true.1 hall t hm)⟩)
    (by as_aux_lemma => kernel_rfl)
#print axioms proved

end Go.Proofs.YtbeafehpjjojnaaGreatDoor.LWalNobody
