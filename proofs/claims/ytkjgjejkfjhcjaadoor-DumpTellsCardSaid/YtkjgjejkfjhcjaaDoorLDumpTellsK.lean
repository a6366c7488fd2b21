import Derived.Test.YtkjgjejkfjhcjaaDoorTie
import Derived.Test.YtkjgjejkfjhcjaaDoorCards
import Derived.WalkKit
import Derived.ProofKit
import Derived.OpenShut
import Derived.ShutString
import Derived.ChangeOld
import Derived.Below
import Derived.SizedLaws
import Derived.LaidMore
import Derived.SevenTiedAt
import Derived.Stop.Joined
import Derived.Test.YtkjgjejkfjhcjaaDoorKh
/-
  For every list of files the law DumpTells returns true, and changes nothing that was there.
-/
namespace Go.Proofs.YtkjgjejkfjhcjaaDoor.LDumpTells
open Go.RowKit Gw Pl
set_option linter.unusedVariables false
set_option linter.unusedSimpArgs false
theorem cb5 : callB Tryd.prog 5 = true := by kernel_rfl
theorem cb7 : callB Tryd.prog 7 = true := by kernel_rfl
theorem half_laid {W : World} (h : laidMetH Tryd.prog Rows.dumpTellsRow.laid W) : ∃ T fz, W.heap[3]? = some (.cells Gw.tblV.toArray T fz) :=
  Ev.table_at (nm := "strandline/crc.half") (G := 3) (t := 155) (te := 75) (ks := [0, 274646895, 549293790, 820201905, 1098587580, 1361435347, 1640403810, 1905808397, 2197175160, 2460548119, 2722870694, 2987750089, 3280807620, 3553878443, 3811616794, 4084100981]) (by kernel_rfl) (by kernel_rfl) Tryd.underlying155 Tryd.underlying75 (by kernel_rfl) (by kernel_rfl) h

section
variable {H : Type} {enc : TypeId × Value → H} {P : Program} {W : World}
theorem Rdr.arrB {t e : TypeId} (ht : P.underlying t = some (.array 64 e)) (he : P.underlying e = some (.int .u8)) (hc : P.cellsOf e = 1) (hct : P.cellsOf t = 64) : Rdr enc P W t encX (fun _ => True) := by
  intro fuel cs x h hw
  obtain ⟨xs, m, rfl, rfl, hl, hx, hi⟩ := DataW.trod_array ht h
  rw [hct] at hl
  have key : ∀ i, i < 64 → ∃ b : UInt8, cs[i]? = some (.int .u8 (b.toNat : Int)) := by
    intro i hi'
    have h1 := hi i hi'
    rw [hc, List.getElem?_eq_getElem (by omega), Nat.mul_one] at h1
    obtain ⟨n, e0, _, w0⟩ := DataW.trod_int he h1
    have e2 : cs[i]? = some (.int .u8 n) := by
      have h2 := congrArg (fun l : List Value => l[0]?) e0
      simpa using h2
    have e3 := byte_of n w0
    simp only [encB, List.cons.injEq, and_true] at e3
    exact ⟨_, e2.trans (congrArg some e3)⟩
  obtain ⟨ys, hys, hyy⟩ := list_of_lt key
  refine ⟨⟨ys, hys⟩, ?_, trivial⟩
  show cs = fl encB ys
  refine List.ext_getElem? fun i => ?_
  rcases Nat.lt_or_ge i ys.length with h2 | h2
  · rw [hyy i _ (List.getElem?_eq_getElem h2), fl_atB h2]
  · rw [List.getElem?_eq_none (by omega), List.getElem?_eq_none (by rw [flB_len]; exact h2)]
end

theorem Tbw.of {w : World} (h : ∃ T fz, w.heap[3]? = some (.cells tblV.toArray T fz)) : Tbw w := by
  obtain ⟨T, fz, h⟩ := h
  exact ⟨[], T, fz, by rw [List.append_nil]; exact h⟩
theorem walkn {w : World} (hT : Tbw w) {A : Option Addr} {c : Nat} {fs : List FilD} (hS : Sli 0 0 w.heap.size w A (fl encF fs)) (hg : ∀ f ∈ fs, GoodFl w f) (hlb : fs.length ≤ 140737488351232) (hfew : ¬ FewF fs) :
    Runs Tryd.prog 3 #[.slice A fs.length c] w (fun v w' => w.grownBy w' none ∧ v = .bool true) := by
 have hB := gb_refl w none
 refine enter Tryd.func3 Tryd.ntmps3 rfl rfl ?_
 refine C_seq (C_reg rfl ?_)
 refine Las rfl rfl (L_nil (N_then (C_seq (C_seq (C_reg rfl (Lmv rfl rfl ?_))))))
 refine L_call rfl cb5 (few48 (l := fs) hS (by omega)) rfl ?_
 rintro _ w1 ⟨hs1, rfl⟩
 replace hB := gb_tr hB hs1
 refine L_run (R_notD rfl) rfl ?_
 refine L_nil (N_then (C_condT rfl (decide_eq_true hfew) (C_seq (C_reg rfl ?_))))
 refine L_call rfl cb6 (awake48) rfl ?_
 rintro _ w2 ⟨hs2, rfl⟩
 replace hB := gb_tr hB hs2
 refine Las rfl rfl (L_nil (N_then (C_ret (R_then ?_))))
 refine ret1 Tryd.results3 rfl ?_
 exact ⟨hB, rfl⟩

theorem walky {w : World} (hT : Tbw w) {A : Option Addr} {c : Nat} {fs : List FilD} (hS : Sli 0 0 w.heap.size w A (fl encF fs)) (hg : ∀ f ∈ fs, GoodFl w f) (hlb : fs.length ≤ 140737488351232) (hfew : FewF fs) :
    Runs Tryd.prog 3 #[.slice A fs.length c] w (fun v w' => w.grownBy w' none ∧ v = .bool true) := by
 have hB := gb_refl w none
 have hok := fewf_ok hfew hg
 have hD : DeepFl w.heap.size w fs := fun f hf => (hg f hf).1
 have hlens := filF_len hok
 refine enter Tryd.func3 Tryd.ntmps3 rfl rfl ?_
 refine C_seq (C_reg rfl ?_)
 refine Las rfl rfl (L_nil (N_then (C_seq (C_seq (C_reg rfl (Lmv rfl rfl ?_))))))
 refine L_call rfl cb5 (few48 (l := fs) hS (by omega)) rfl ?_
 rintro _ w1 ⟨hs1, rfl⟩
 replace hB := gb_tr hB hs1; replace hS := hS.gb hs1; replace hD := hD.gb hs1
 refine L_run (R_notD rfl) rfl ?_
 refine L_nil (N_then (C_condF rfl (decide_eq_false (fun hn => hn hfew)) (C_skip (N_then (C_seq (C_reg rfl (Las rfl rfl (L_nil (N_then (C_seq (C_seq (C_reg rfl (Las rfl rfl (L_nil (N_then (C_block ?_))))))))))))))))
 refine C_loop (fun m_ a_ w_ => ∃ (σ_ : Nat → Value) (i : Nat), a_ = Ac 40 σ_ [] [(0, .slice A fs.length c), (3, .string (⟨(textT filF (fs.take i)).toArray⟩)), (4, .int .i64 (i : Int))] ∧ w.grownBy w_ none ∧ Sli 0 0 w.heap.size w_ A (fl encF fs) ∧ DeepFl w.heap.size w_ fs ∧ (i ≤ fs.length) ∧ fs.length - i = m_) (fs.length - 0) ?_ ?_
 ·exact ⟨_, 0, Ac_frg ⟨rfl, (agr rfl rfl), (agx rfl), trivial⟩, hB, hS, hD, (by omega), rfl⟩
 ·clear hB
  clear hS hD
  rintro m_ a_ w2 ⟨σ_, i, rfl, hB, hS, hD, hi, rfl⟩
  refine C_seq (C_seq (C_reg rfl ?_))
  refine Lmv rfl rfl (Lmv rfl rfl (L_run (R_lenSl rfl slc22) rfl (L_run (R_lss rfl rfl) rfl (L_nil (N_then (C_if rfl (fun h1 => ?_) (fun h1 => ?_)))))))
  ·refine C_skip (N_then (C_seq (C_block (C_seq (C_reg rfl ?_)))))
   refine Lmv rfl rfl (Lmv rfl rfl (Lmv rfl rfl ?_))
   have hlk : i < fs.length := by first | omega | (simp; omega)
   refine T_index (xs := fs) (i := i) EncF rfl rfl (by first | rfl | omega) slc22 hlk hS rfl ?_
   intro g1 o1 ha1
   refine L_run (R_loadA (vs := [.string (⟨((fs[i]).name).toArray⟩), .slice ((fs[i]).a) ((fs[i]).ss.length) ((fs[i]).c)]) rfl agg28 (At.pre ha1 rfl) rfl) rfl ?_
   refine L_call rfl cb7 (file48 (cs := ((fs[i]).name)) (ss := (fs[i]).ss) (hD.getS (i := i) (by first | assumption | omega | (simp; omega))) (hok _ (List.getElem_mem hlk)).2.2 (hok _ (List.getElem_mem hlk)).1 (hok _ (List.getElem_mem hlk)).2.1) rfl ?_
   rintro _ w3 ⟨hs2, rfl⟩
   replace hB := gb_tr hB hs2; replace hS := hS.gb hs2; replace hD := hD.gb hs2
   refine L_run (R_eqv (R_addS rfl rfl (by rw [ba_size, ba_size]; have h1_ := textT_len hlens i; have h2_ := hlens _ (List.getElem_mem hlk); have h4_ : (fileS (fs[i]).name (fs[i]).ss).length ≤ 400000 := h2_; have h3_ := hfew.2; omega)) (v' := .string ⟨((textT filF (fs.take i)) ++ (filF (fs[i]))).toArray⟩) (congrArg _ (ba_app _ _).symm)) rfl ?_
   refine Las rfl rfl (L_nil (N_then (C_seq ?_)))
   refine C_draw2 rfl mix ?_
   intro w4 hs3 hz1
   replace hB := gb_tr hB hs3; replace hS := hS.gb hs3; replace hD := hD.gb hs3
   have hl2 : i < fs.length := by first | omega | (simp; omega)
   obtain ⟨g2, o2, r1, eA1, er1, ha2⟩ := Sli.place' (xs := fs) (i := i) EncF hS hl2 rfl
   refine ⟨fun W_ => At W_ g2 r1 [.string (⟨((fs[i]).name).toArray⟩), .slice ((fs[i]).a) ((fs[i]).ss.length) ((fs[i]).c)] ∧ True, [0, 1, 2, 3, 5, 6, 7, 8, 10], ?_⟩
   refine T_tk (i := 0) rfl (Y_of (fun _ _ => R_move rfl)) ⟨ha2, trivial⟩ rfl ?_
   refine T_tk (i := 1) rfl (Y_of (fun _ _ => R_move rfl)) ⟨ha2, trivial⟩ rfl ?_
   refine T_tk (i := 2) rfl (Y_of (fun _ _ => R_indexE rfl rfl (by first | rfl | omega) slc22 hl2 eA1 er1)) ⟨ha2, trivial⟩ rfl ?_
   refine T_tk (i := 3) rfl (Y_of (fun _ ⟨ha2, _⟩ => R_loadA (vs := [.string (⟨((fs[i]).name).toArray⟩), .slice ((fs[i]).a) ((fs[i]).ss.length) ((fs[i]).c)]) rfl agg28 (At.pre ha2 rfl) rfl)) ⟨ha2, trivial⟩ rfl ?_
   refine T_tk (i := 5) rfl (Y_of (fun _ _ => R_move rfl)) ⟨ha2, trivial⟩ rfl ?_
   refine T_tk (i := 6) rfl (Y_of (fun _ _ => R_move rfl)) ⟨ha2, trivial⟩ rfl ?_
   refine T_tk (i := 7) rfl (Y_of (fun _ _ => R_indexE rfl rfl (by first | rfl | omega) slc22 hl2 eA1 er1)) ⟨ha2, trivial⟩ rfl ?_
   refine T_tk (i := 8) rfl (Y_of (fun _ ⟨ha2, _⟩ => R_loadA (vs := [.string (⟨((fs[i]).name).toArray⟩), .slice ((fs[i]).a) ((fs[i]).ss.length) ((fs[i]).c)]) rfl agg28 (At.pre ha2 rfl) rfl)) ⟨ha2, trivial⟩ rfl ?_
   refine T_all (rs := [4]) (by kernel_rfl) rfl (all1 (O_one rfl ?_))
   refine L_call rfl cb8 (file_ok (cs := ((fs[i]).name)) (ss := (fs[i]).ss) (hD.getS (i := i) (by first | assumption | omega | (simp; omega))) (hok _ (List.getElem_mem hlk)).2.2 (hok _ (List.getElem_mem hlk)).1 (hok _ (List.getElem_mem hlk)).2.1 (hT.gb hB)) rfl ?_
   rintro _ w5 ⟨hs4, rfl⟩
   replace hB := gb_tr hB hs4; replace hS := hS.gb hs4; replace hD := hD.gb hs4; replace ha2 := At.gb ha2 hs4 (by simp)
   refine L_nil (N_then ⟨fun hN_ => ⟨ha2, trivial⟩, ?_⟩)
   refine T_all (rs := [9]) (by kernel_rfl) rfl (all1 (O_one rfl ?_))
   refine L_call rfl cb7 (file48 (cs := ((fs[i]).name)) (ss := (fs[i]).ss) (hD.getS (i := i) (by first | assumption | omega | (simp; omega))) (hok _ (List.getElem_mem hlk)).2.2 (hok _ (List.getElem_mem hlk)).1 (hok _ (List.getElem_mem hlk)).2.1) rfl ?_
   rintro _ w6 ⟨hs5, rfl⟩
   replace hB := gb_tr hB hs5; replace hS := hS.gb hs5; replace hD := hD.gb hs5; replace ha2 := At.gb ha2 hs5 (by simp)
   refine L_nil (N_then ⟨fun hN_ => ⟨ha2, trivial⟩, ?_⟩)
   refine T_tk (i := 10) rfl (Y_of (fun _ _ => R_eqv (R_neqS rfl rfl) (v' := .bool false) (bF' (fun h => h rfl)))) ⟨ha2, trivial⟩ rfl ?_
   refine T_done (by kernel_rfl) (CalmE.normal ?_)
   refine N_then (C_condF rfl rfl (C_skip (N_in (N_then (C_reg rfl ?_)))))
   refine Lmv rfl rfl ?_
   refine L_run (R_add64 rfl rfl (by omega)) rfl ?_
   refine Las rfl rfl (L_nil (N_then ?_))
   have hts_ := textT_succ (F := filF) hlk
   exact ⟨fs.length - (i + 1), by omega, _, (i + 1), Ac_frg ⟨rfl, (agr rfl (by first | (rw [hts_]; done) | (rw [hts_]; rfl))), (agx rfl), trivial⟩, hB, hS, hD, (by omega), rfl⟩
  ·refine C_exit (X_then (X_then (X_hit (N_then (C_seq (C_reg rfl ?_))))))
   refine Lmv rfl rfl ?_
   refine L_call rfl cb9 (text_ok (fs := fs) hS hD.top (hT.gb hB) (by have h_ := hfew.2; omega) hok) rfl ?_
   rintro _ w7 ⟨hs6, rfl⟩
   replace hB := gb_tr hB hs6
   refine Lmv rfl rfl ?_
   refine L_run (R_eqv (R_eqv (R_eqlS rfl rfl) (v' := .bool (decide ((textT filF fs) = (textT filF (fs.take i))))) (bD ba_inj)) (v' := .bool true) (congrArg Value.bool (decide_eq_true (by rw [List.take_of_length_le (by omega)])))) rfl ?_
   refine Lmv rfl rfl (L_yes rfl rfl rfl rfl ?_)
   refine L_call rfl cb6 (awake48) rfl ?_
   rintro _ w8 ⟨hs7, rfl⟩
   replace hB := gb_tr hB hs7
   refine L_run (R_pickT rfl rfl rfl) rfl ?_
   refine Las rfl rfl (L_nil (N_then (C_ret ?_)))
   refine ret1 Tryd.results3 rfl ?_
   exact ⟨hB, rfl⟩

theorem walk {w : World} (hW : ∃ T fz, w.heap[3]? = some (.cells tblV.toArray T fz)) {A0 : Option Addr} {c0 : Nat} {xs0 : List FilD} (hS0 : Sli 0 0 w.heap.size w A0 (fl encF xs0)) (hl0 : xs0.length ≤ c0) (hm0 : c0 * 40 ≤ 140737488351232) (hg0 : ∀ x ∈ xs0, GoodFl w x) : Runs Tryd.prog 3 #[.slice A0 xs0.length c0] w (fun v w' => w.grownBy w' none ∧ v = .bool true) := by
  by_cases h0 : FewF xs0
  · exact walky (Tbw.of hW) hS0 hg0 (by omega) h0
  · exact walkn (Tbw.of hW) hS0 hg0 (by omega) h0
open Go.ChangeShapes Go.WideShapes Go.ChangeAt
theorem own : ownKnob Tryd.prog.godebug = none := by kernel_rfl
theorem laidOut : laidOutB Tryd.prog = true := by kernel_rfl
theorem door_met (os : Os) (args : Array Value) : laidMetH Tryd.prog Rows.dumpTellsRow.laid ((World.doorLaid Tryd.prog 24 os).forCall (fun _ _ => 0) ⟨#[], args, []⟩).memory :=
  laidMetH_of_parts3 (fuel := 8) (laidMet_of_run' 8 (by kernel_rfl) (by kernel_rfl)) (by kernel_rfl) (by kernel_rfl)
set_option maxRecDepth 100000 in
theorem lifted (os : Os) (started : os.Started) (H : Type) (enc : TypeId × Value → H) :
    ReturnsInHanded {} Tryd.checked os 3 .any (fun w args => (Rows.dumpTellsSpec.pre enc Tryd.prog Tryd.f3 [] false w args ∧ laidMetH Tryd.prog Rows.dumpTellsRow.laid w) ∧ sizedMet enc Tryd.prog Tryd.f3 (OpenSpec.ofChange Rows.dumpTellsSpec) false w args) (Rows.dumpTellsSpec.post enc Tryd.prog Tryd.f3 false true false false) := by
  refine returnsInHanded_of_change_and (C := Tryd.checked) (X := fun w _ => laidMetH Tryd.prog Rows.dumpTellsRow.laid w) (fun _ _ _ hh h => h.of_heap hh) own started (by kernel_rfl) Tryd.func3
    (ChangeSpec.witness_shaped (enc := enc) (C := Tryd.checked) (os := os) (X := fun w _ => laidMetH Tryd.prog Rows.dumpTellsRow.laid w) false (World.doorLaid Tryd.prog 24 os) #[.slice none 0 0] 8 rfl (World.shaped_of_RefB (by kernel_rfl) (by kernel_rfl)) (by kernel_rfl) (by kernel_rfl) (by kernel_rfl) (door_met os _)) ?_
  intro W base args ds gs before hval0 hW hcnd hsz0 hL _
  have hsz : (DataW.weightsEach Tryd.prog (Tryd.f3.params.toList ++ Rows.dumpTellsSpec.plain.varTypes Tryd.prog) (ds ++ gs)).all (· ≤ reachBytes) = true := hsz0
  have hval : ∀ (j : Nat) t v, Tryd.f3.params[j]? = some t → args[j]? = some v → Value.okWide Tryd.prog W .any base t v := hval0
  have hW' := hW
  obtain ⟨p, q, hA0, hV, rfl, hfz, hnd⟩ := hW
  have hA : DataW.TrodAll enc Tryd.prog W 0 (fun _ => true) true Tryd.f3.params.toList args.toList ds p := hA0
  rw [Tryd.params3] at hA hval hsz
  obtain ⟨v0, vs0, d0, ds0, p0, q0, hargs, rfl, rfl, h0, r0⟩ := trodAll_cons hA
  obtain ⟨rfl, rfl, rfl⟩ := trodAll_nil r0
  obtain rfl : args = #[v0] := by cases args; simp_all
  obtain ⟨rfl, rfl⟩ := trodVars_none hV
  have lt0 : ∀ x ∈ p0, x.block < W.heap.size := by obtain ⟨m, hm⟩ := h0; exact DataW.trod_lt m _ _ _ hm
  obtain ⟨⟨A0, c0, xs0⟩, e0, hS0, hl0, hm0, hg0⟩ := Rdr.arg (enc := enc) (P := Tryd.prog) (W := W) (Rdr.slice (ec := encF) (sz := 2) (by_ := 40) ((Rdr.struct Tryd.underlying28 rfl (by kernel_rfl) (Rds.cons (off := 0) (sz := 1) (Rdr.str Tryd.underlying9) (by kernel_rfl) rfl (by decide) (Rds.cons (off := 1) (sz := 1) (Rdr.slice (ec := encX) (sz := 64) (by_ := 64) (Rdr.arrB Tryd.underlying50 Tryd.underlying5 (by kernel_rfl) (by kernel_rfl)) EncX Tryd.underlying26 (by kernel_rfl) (by kernel_rfl)) (by kernel_rfl) rfl (by decide) (Rds.nil)))).map (fun y => (⟨y.1.data.toList, y.2.1.1, y.2.1.2.1, y.2.1.2.2⟩ : FilD)) (e' := encF) (fun _ _ => rfl) (good' := GoodFl W) (fun _ h => ⟨h.2.1.1, h.2.1.2.1⟩)) EncF Tryd.underlying22 (by kernel_rfl) (by kernel_rfl)) hsz (j := 0) rfl rfl h0
  obtain rfl := of_cell e0 (by intro cs e_; obtain ⟨a_, l_, k_, e2_⟩ := okWide_slice Tryd.underlying22 (hval 0 22 v0 rfl rfl); rw [e2_] at e_; cases e_)
  refine (walk (w := W) (half_laid hL) hS0 hl0 hm0 hg0).calls.mono fun e W' ⟨v_, he, hgb, hv_⟩ => ?_
  subst he
  subst hv_
  have bel := gb_below hgb
  exact ⟨_, rfl, _, _, _, [], _, [], hW', trodAll_mk1 (shut_bool Tryd.underlying4 _), (trodAll_cons_mk (Below.trod laidOut (by kernel_rfl) (of_decide_eq_true (by kernel_rfl)) h0 bel lt0) trodAll_mk0), rfl, bel.frame _, fun h => by cases h⟩
theorem over : Rows.dumpTellsRow.holds Tryd.pinned (OpenSpec.ofChange Rows.dumpTellsSpec) :=
  OpenClaim.holds_of_wide 3 Tryd.f3 rfl rfl rfl rfl rfl rfl rfl ⟨rfl, rfl, rfl, rfl, rfl⟩ rfl rfl rfl rfl rfl (by kernel_rfl) Tryd.func3 (by kernel_rfl)
    (of_decide_eq_true (by kernel_rfl)) (by unfold Func.isWrapper; first | (rw [if_pos (by decide +kernel)]; kernel_rfl) | (rw [if_neg (by decide +kernel)]; exact ⟨rfl, rfl⟩))
    (fun os started H enc _ => lifted os started H enc)
/-- The given statement. -/
theorem proved : Rows.DumpTellsCardSaid :=
  Claim7.holds_tied_plain_at .later [] [.data] true (true, "a36ed247c5b4b290e7dff9cccada4c9dd16c977abd2648fc68a013990f152d27") false
    over (fun _ h => by cases h) (by kernel_rfl) (fun _ h => by cases h) dumpTells_row_tie rfl ⟨rfl, rfl⟩ (by kernel_rfl) rfl
    (fun f fn hf hfn => by
      obtain rfl : f = 3 := Option.some.inj ((show Tryd.prog.funcNamed "strandline/strandlinelaw48.DumpTells" = some 3 by kernel_rfl).symm.trans hf) |>.symm
      obtain rfl : fn = Tryd.f3 := (Option.some.inj (Tryd.func3.symm.trans hfn)).symm
      exact ⟨by kernel_rfl, fun j t ht => by
        rw [Tryd.params3] at ht
        have hm : t ∈ [22] := by simpa using Array.mem_of_getElem? ht
        have hall : ([22].all fun u => !Tryd.prog.wantsStandIn u) = true := by kernel_rfl
        exact (show Tryd.prog.wantsStandIn t = false by simpa using List.all_eq_true.1 hall t hm)⟩)
    (by kernel_rfl)
#print axioms proved

end Go.Proofs.YtkjgjejkfjhcjaaDoor.LDumpTells
