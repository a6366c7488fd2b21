/-
  AuditChecks: audit's Check, Fair and Lost tell what the document's books tell, of any steps and events. Conditions: none; every input.
-/
import Derived.Test.YtbmohojdlgedpaaHu
import Derived.WalkKit
import Derived.ProofKit
import Derived.OpenShut
import Derived.ShutString
import Derived.ChangeOld
import Derived.Below
import Derived.SizedLaws
namespace Go.Proofs.Ytbmohojdlgedpaa.LAuditChecks
open Go.RowKit Gw Pl
set_option linter.unusedVariables false
set_option linter.unusedSimpArgs false

theorem walk_y {w : World} {A A2 : Option Addr} {c c2 : Nat} {l : List StepD} {ev : List EvD} (hS0 : Sli 0 0 w.heap.size w A (fl encS l)) (hl0 : l.length ≤ c) (hm0 : c * 80 ≤ 140737488351232) (hg0 : ∀ x ∈ l, GoodS w x) (hV0 : Sli 0 0 w.heap.size w A2 (fl encEv ev)) (hl1 : ev.length ≤ c2) (hm1 : c2 * 56 ≤ 140737488351232) (hg1 : ∀ x ∈ ev, GoodV w x) (hf : FewSs l) :
    Runs Try.prog 4 #[.slice A l.length c, .slice A2 ev.length c2] w (fun v w' => w.grownBy w' none ∧ v = .bool true) := by
  have hB := gb_refl w none
  have hS := hS0
  have hV := hV0
  have hD : DeepS w.heap.size w l := fun y hy => hg0 y hy
  have hW : DeepV w.heap.size w ev := fun y hy => hg1 y hy
  refine enter Try.func4 Try.ntmps4 rfl rfl ?_
  refine C_seq (C_reg rfl ?_)
  refine L_run (R_assign rfl) rfl ?_
  refine L_nil (N_then (C_seq (C_seq (C_reg rfl ?_))))
  refine L_run (R_move rfl) rfl ?_
  refine L_call rfl cb12 (law38_Few (l := l) hS (by omega)) rfl ?_
  rintro _ w1 ⟨hs1, rfl⟩
  replace hB := gb_tr hB hs1
  replace hS := hS.gb hs1
  replace hD := hD.gb hs1
  replace hV := hV.gb hs1
  replace hW := hW.gb hs1
  refine L_run (R_notD rfl) rfl ?_
  refine L_run (R_move rfl) rfl ?_
  refine L_yes rfl rfl rfl (decide_eq_false (fun hn => hn hf)) ?_
  refine L_run (R_move rfl) rfl ?_
  refine L_yes rfl rfl rfl (decide_eq_false (fun hn => hn hf)) ?_
  refine L_run (R_lenSl rfl slc40) rfl ?_
  refine L_yes rfl rfl rfl (decide_eq_false (fun hn => hn hf)) ?_
  refine L_run (R_gtr rfl rfl) rfl ?_
  refine L_run (R_pickF rfl (decide_eq_false (fun hn => hn hf)) rfl) rfl ?_
  refine L_nil (N_then ?_)
  refine C_if rfl (fun h1 => ?_) (fun h1 => ?_)
  · refine C_seq (C_reg rfl ?_)
    refine L_call rfl cb13 (awake40) rfl ?_
    rintro _ w2 ⟨hs2, rfl⟩
    replace hB := gb_tr hB hs2
    replace hS := hS.gb hs2
    replace hD := hD.gb hs2
    replace hV := hV.gb hs2
    replace hW := hW.gb hs2
    refine L_run (R_assign rfl) rfl ?_
    refine L_nil (N_then (C_ret (R_then ?_)))
    refine ret1 Try.results4 rfl ?_
    exact ⟨hB, rfl⟩
  · refine C_skip (N_then (C_seq (C_seq (C_reg rfl ?_))))
    refine L_run (R_assign rfl) rfl ?_
    refine L_nil (N_then (C_block ?_))
    refine C_loop (fun m_ a_ w_ => ∃ (σ_ : Nat → Value) (i : Nat), a_ = Ac 92 σ_ [] [(0, .slice A l.length c), (1, .slice A2 ev.length c2), (4, .bool false), (5, .int .i64 (i : Int))] ∧ w.grownBy w_ none ∧ Sli 0 0 w.heap.size w_ A (fl encS l) ∧ DeepS w.heap.size w_ l ∧ Sli 0 0 w.heap.size w_ A2 (fl encEv ev) ∧ DeepV w.heap.size w_ ev ∧ (i ≤ ev.length) ∧ (∀ y ∈ ev.take i, y.prs.length ≤ 100) ∧ ev.length - i = m_) (ev.length - 0) ?_ ?_
    · exact ⟨_, 0, Ac_frg ⟨rfl, rfl, rfl, (agr rfl (by first | rfl | (congr 1; omega) | (congr 1; simp; done) | (congr 1; simp only [IntKind.wrap_u64, IntKind.wrap_i64, IntKind.wrap_u8]; omega) | (congr 1 <;> omega))), trivial⟩, hB, hS, hD, hV, hW, (Nat.zero_le _), (by intro y hy; cases hy), rfl⟩
    · clear hB
      clear hS hD hV hW
      rintro m_ a_ w3 ⟨σ_, i, rfl, hB, hS, hD, hV, hW, hi_, hpt, rfl⟩
      refine C_seq (C_seq (C_reg rfl ?_))
      refine L_run (R_move rfl) rfl ?_
      refine L_run (R_move rfl) rfl ?_
      refine L_run (R_lenSl rfl slc40) rfl ?_
      refine L_run (R_lss rfl rfl) rfl ?_
      refine L_nil (N_then ?_)
      refine C_if rfl (fun h2 => ?_) (fun h2 => ?_)
      · refine C_skip (N_then (C_seq (C_block (C_seq (C_reg rfl ?_)))))
        have hli : i < ev.length := by omega
        refine L_run (R_move rfl) rfl ?_
        refine L_run (R_move rfl) rfl ?_
        have hl1 : i < ev.length := by first | omega | (simp; omega)
        refine T_index (xs := ev) (i := i) EncEv rfl rfl (by first | rfl | omega) slc40 hl1 hV rfl ?_
        intro g1 o1 ha1
        refine L_run (R_field rfl fld44_4 rfl) rfl ?_
        refine L_run (R_load1 rfl scl29 (ha1 4 _ rfl)) rfl ?_
        refine L_run (R_lenSl rfl slc29) rfl ?_
        refine L_run (R_gtr rfl rfl) rfl ?_
        refine L_nil (N_then ?_)
        refine C_if rfl (fun h3 => ?_) (fun h3 => ?_)
        · refine C_seq (C_reg rfl ?_)
          refine L_call rfl cb13 (awake40) rfl ?_
          rintro _ w4 ⟨hs3, rfl⟩
          replace hB := gb_tr hB hs3
          replace hS := hS.gb hs3
          replace hD := hD.gb hs3
          replace hV := hV.gb hs3
          replace hW := hW.gb hs3
          replace ha1 := At.gb ha1 hs3 (by simp)
          refine L_run (R_assign rfl) rfl ?_
          refine L_nil (N_then (C_ret (R_in (R_then (R_then (R_in (R_then ?_)))))))
          refine ret1 Try.results4 rfl ?_
          exact ⟨hB, rfl⟩
        · refine C_skip (N_in (N_then (C_reg rfl ?_)))
          refine L_run (R_move rfl) rfl ?_
          refine L_run (R_add64 rfl rfl (by omega)) rfl ?_
          refine L_run (R_assign rfl) rfl ?_
          refine L_nil (N_then ?_)
          exact ⟨ev.length - (i + 1), by omega, _, (i + 1), Ac_frg ⟨rfl, rfl, rfl, (agr rfl (by first | rfl | (congr 1; omega) | (congr 1; simp; done) | (congr 1; simp only [IntKind.wrap_u64, IntKind.wrap_i64, IntKind.wrap_u8]; omega) | (congr 1 <;> omega))), trivial⟩, hB, hS, hD, hV, hW, (by omega), (by intro y hy; rw [List.take_succ_eq_append_getElem hli] at hy; rcases List.mem_append.1 hy with hy | hy <;> first | exact hpt y hy | (rw [List.mem_singleton.1 hy]; omega)), rfl⟩
      · refine C_exit (X_then (X_then (X_hit (N_then (C_seq (C_reg rfl ?_))))))
        have hev : ev.length ≤ 80 := by omega
        have hpr : ∀ x ∈ ev, x.prs.length ≤ 100 := by rw [List.take_of_length_le (show ev.length ≤ i by omega)] at hpt; exact hpt
        have hXl : (Rb l ev).2.2.length ≤ 80 := by
          rw [Rb_lost]; unfold crN; exact Nat.le_trans (List.length_filter_le _ _) (by rw [List.length_zip, List.length_take]; omega)
        refine L_run (R_move rfl) rfl ?_
        refine L_run (R_move rfl) rfl ?_
        have ge1 : w.heap.size ≤ w3.heap.size := hB.size
        refine L_call rfl cb15 (own40_ok (ev := ev) hV hev) rfl ?_
        rintro _ w5 ⟨hs4, A_1, c_1, rfl, ho1⟩
        replace hB := gb_tr hB hs4
        replace hS := hS.gb hs4
        replace hD := hD.gb hs4
        replace hV := hV.gb hs4
        replace hW := hW.gb hs4
        refine L_call rfl cb14 (check_ok (l := l) (ev := ev) (Sli.any hS) hD.top (Sli.any (own_of ho1).2.2) hW.top hf hev hpr) rfl ?_
        rintro _ w6 ⟨hs5, tx1, rfl, hx1⟩
        replace hB := gb_tr hB hs5
        replace hS := hS.gb hs5
        replace hD := hD.gb hs5
        replace hV := hV.gb hs5
        replace hW := hW.gb hs5
        replace ho1 := own_gb ho1 hs5
        refine L_alloc (cs := [.int .i64 0, .string (⟨#[]⟩)]) zer46 rfl rfl ?_
        intro g2 w7 eg1 hb1 hs6 hz1
        have ge2 : w.heap.size ≤ g2 := eg_ge hB eg1
        replace hB := gb_tr hB hs6
        replace hS := hS.gb hs6
        replace hD := hD.gb hs6
        replace hV := hV.gb hs6
        replace hW := hW.gb hs6
        replace ho1 := own_gb ho1 hs6
        refine L_stA (vs := [.int .i64 (atI l ev), .string tx1]) rfl rfl rfl sz46 rfl hb1 rfl ?_
        intro w8 hb2 hs7 hz2
        replace hB := gb_trg hB hs7 ge2
        replace hS := hS.old hs7 ge2
        replace hD := hD.old hs7 ge2
        replace hV := hV.old hs7 ge2
        replace hW := hW.old hs7 ge2
        replace ho1 := own_other ho1 hb1 rfl hs7
        refine L_nil (N_then (C_seq (C_reg rfl ?_)))
        refine L_run (R_move rfl) rfl ?_
        refine L_run (R_move rfl) rfl ?_
        refine L_call rfl cb16 (check40_ok (l := l) (ev := ev) (Sli.any hS) hD.top (Sli.any hV) hW.top hf hev hpr) rfl ?_
        rintro _ w9 ⟨hs8, rfl⟩
        replace hB := gb_tr hB hs8
        replace hS := hS.gb hs8
        replace hD := hD.gb hs8
        replace hV := hV.gb hs8
        replace hW := hW.gb hs8
        replace ho1 := own_gb ho1 hs8
        replace hb2 := hb2.gb hs8
        refine L_run (R_assign rfl) rfl ?_
        refine L_nil (N_then (C_seq (C_reg rfl ?_)))
        refine L_run (R_move rfl) rfl ?_
        refine L_run (R_move rfl) rfl ?_
        have ge3 : w.heap.size ≤ w9.heap.size := hB.size
        refine L_call rfl cb15 (own40_ok (ev := ev) hV hev) rfl ?_
        rintro _ w10 ⟨hs9, A_2, c_2, rfl, ho2⟩
        replace hB := gb_tr hB hs9
        replace hS := hS.gb hs9
        replace hD := hD.gb hs9
        replace hV := hV.gb hs9
        replace hW := hW.gb hs9
        replace ho1 := own_gb ho1 hs9
        replace hb2 := hb2.gb hs9
        refine L_call rfl cb17 (lost_ok (l := l) (ev := ev) (Sli.any hS) hD.top (Sli.any (own_of ho2).2.2) hW.top hf hev hpr hl0) rfl ?_
        rintro _ w11 ⟨hs10, A_3, c_3, rfl, hS_1⟩
        replace hB := gb_tr hB hs10
        replace hS := hS.gb hs10
        replace hD := hD.gb hs10
        replace hV := hV.gb hs10
        replace hW := hW.gb hs10
        replace ho1 := own_gb ho1 hs10
        replace hb2 := hb2.gb hs10
        replace ho2 := own_gb ho2 hs10
        refine L_run (R_move rfl) rfl ?_
        refine L_run (R_move rfl) rfl ?_
        have ge4 : w.heap.size ≤ w11.heap.size := hB.size
        refine L_call rfl cb18 (lost40_ok (l := l) (ev := ev) (Sli.any hS) hD.top (Sli.any hV) hW.top hf hev hpr) rfl ?_
        rintro _ w12 ⟨hs11, A_4, c_4, rfl, ho3⟩
        replace hB := gb_tr hB hs11
        replace hS := hS.gb hs11
        replace hD := hD.gb hs11
        replace hV := hV.gb hs11
        replace hW := hW.gb hs11
        replace ho1 := own_gb ho1 hs11
        replace hb2 := hb2.gb hs11
        replace ho2 := own_gb ho2 hs11
        replace hS_1 := hS_1.gb hs11
        refine L_run (R_assign rfl) rfl ?_
        refine L_run (R_assign rfl) rfl ?_
        refine L_nil (N_then (C_seq (C_seq (C_reg rfl ?_))))
        refine L_run (R_field (r := 0) rfl fld46_0 rfl) rfl ?_
        refine L_run (R_load1 rfl scl3 (hb2.cell (i := 0) rfl)) rfl ?_
        refine L_run (R_move rfl) rfl ?_
        refine L_run (R_eqv (R_neq rfl rfl) (v' := .bool false) (bF' (fun h => h rfl))) rfl ?_
        refine L_run (R_move rfl) rfl ?_
        refine L_yes rfl rfl rfl rfl ?_
        refine L_run (R_field (r := 1) rfl fld46_1 rfl) rfl ?_
        refine L_yes rfl rfl rfl rfl ?_
        refine L_run (R_load1 rfl scl9 (hb2.cell (i := 1) rfl)) rfl ?_
        refine L_yes rfl rfl rfl rfl ?_
        refine L_run (R_eqlS rfl rfl) rfl ?_
        refine L_yes rfl rfl rfl rfl ?_
        refine L_run (R_move rfl) rfl ?_
        refine L_yes rfl rfl rfl rfl ?_
        refine L_run (R_eql rfl rfl) rfl ?_
        refine L_yes rfl rfl rfl rfl ?_
        refine L_run (R_eqv (R_neqB rfl rfl boo4) (v' := .bool false) ((by simp [hx1]))) rfl ?_
        refine L_run (R_pickF rfl rfl rfl) rfl ?_
        refine L_run (R_move rfl) rfl ?_
        refine L_yes rfl rfl rfl rfl ?_
        refine L_run (R_move rfl) rfl ?_
        refine L_yes rfl rfl rfl rfl ?_
        refine L_run (R_move rfl) rfl ?_
        refine L_yes rfl rfl rfl rfl ?_
        have ge5 : w.heap.size ≤ w12.heap.size := hB.size
        refine L_call rfl cb15 (own40_ok (ev := ev) hV hev) rfl ?_
        rintro _ w13 ⟨hs12, A_5, c_5, rfl, ho4⟩
        replace hB := gb_tr hB hs12
        replace hS := hS.gb hs12
        replace hD := hD.gb hs12
        replace hV := hV.gb hs12
        replace hW := hW.gb hs12
        replace ho1 := own_gb ho1 hs12
        replace hb2 := hb2.gb hs12
        replace ho2 := own_gb ho2 hs12
        replace hS_1 := hS_1.gb hs12
        replace ho3 := own_gb ho3 hs12
        refine L_yes rfl rfl rfl rfl ?_
        refine L_call rfl cb19 (fair_ok (l := l) (ev := ev) (Sli.any hS) hD.top (Sli.any (own_of ho4).2.2) hW.top hf hev hpr) rfl ?_
        rintro _ w14 ⟨hs13, rfl⟩
        replace hB := gb_tr hB hs13
        replace hS := hS.gb hs13
        replace hD := hD.gb hs13
        replace hV := hV.gb hs13
        replace hW := hW.gb hs13
        replace ho1 := own_gb ho1 hs13
        replace hb2 := hb2.gb hs13
        replace ho2 := own_gb ho2 hs13
        replace hS_1 := hS_1.gb hs13
        replace ho3 := own_gb ho3 hs13
        replace ho4 := own_gb ho4 hs13
        refine L_yes rfl rfl rfl rfl ?_
        refine L_run (R_move rfl) rfl ?_
        refine L_yes rfl rfl rfl rfl ?_
        refine L_run (R_eql rfl rfl) rfl ?_
        refine L_yes rfl rfl rfl rfl ?_
        refine L_run (R_eqv (R_neqB rfl rfl boo4) (v' := .bool false) (by simp)) rfl ?_
        refine L_run (R_pickF rfl rfl rfl) rfl ?_
        refine L_run (R_move rfl) rfl ?_
        refine L_yes rfl rfl rfl rfl ?_
        refine L_run (R_move rfl) rfl ?_
        refine L_yes rfl rfl rfl rfl ?_
        refine L_run (R_lenSl rfl slc51) rfl ?_
        refine L_yes rfl rfl rfl rfl ?_
        refine L_run (R_move rfl) rfl ?_
        refine L_yes rfl rfl rfl rfl ?_
        refine L_run (R_lenSl rfl slc51) rfl ?_
        refine L_yes rfl rfl rfl rfl ?_
        refine L_run (R_eqv (R_neq rfl rfl) (v' := .bool false) (bF' (fun h => h rfl))) rfl ?_
        refine L_run (R_pickF rfl rfl rfl) rfl ?_
        refine L_nil (N_then (C_condF rfl rfl (C_skip (N_then (C_seq (C_seq (C_reg rfl ?_)))))))
        refine L_run (R_assign rfl) rfl ?_
        refine L_nil (N_then (C_block ?_))
        refine C_loop (fun m_ a_ w_ => ∃ (σ_ : Nat → Value) (j : Nat), a_ = Ac 92 σ_ [] [(0, .slice A l.length c), (1, .slice A2 ev.length c2), (4, .bool false), (8, .slice A_3 (((Rb l ev).2.2).length) c_3), (9, .slice A_4 (((Rb l ev).2.2).length) c_4), (10, .int .i64 (j : Int))] ∧ w.grownBy w_ none ∧ Sli 0 0 w.heap.size w_ A (fl encS l) ∧ DeepS w.heap.size w_ l ∧ Sli 0 0 w.heap.size w_ A2 (fl encEv ev) ∧ DeepV w.heap.size w_ ev ∧ World.ownsRow w_ w3.heap.size 87 5 (.slice A_1 ev.length c_1) ev.length (fl encEv ev) ∧ Blk w_ g2 46 [.int .i64 (atI l ev), .string tx1] ∧ World.ownsRow w_ w9.heap.size 87 5 (.slice A_2 ev.length c_2) ev.length (fl encEv ev) ∧ Sli 0 0 w11.heap.size w_ A_3 (fl encZ ((Rb l ev).2.2)) ∧ World.ownsRow w_ w11.heap.size 3 1 (.slice A_4 ((Rb l ev).2.2).length c_4) ((Rb l ev).2.2).length (fl encZ ((Rb l ev).2.2)) ∧ World.ownsRow w_ w12.heap.size 87 5 (.slice A_5 ev.length c_5) ev.length (fl encEv ev) ∧ (j ≤ (Rb l ev).2.2.length) ∧ (Rb l ev).2.2.length - j = m_) ((Rb l ev).2.2.length - 0) ?_ ?_
        · exact ⟨_, 0, Ac_frg ⟨rfl, rfl, rfl, rfl, rfl, (agr rfl (by first | rfl | (congr 1; omega) | (congr 1; simp; done) | (congr 1; simp only [IntKind.wrap_u64, IntKind.wrap_i64, IntKind.wrap_u8]; omega) | (congr 1 <;> omega))), trivial⟩, hB, hS, hD, hV, hW, ho1, hb2, ho2, hS_1, ho3, ho4, (Nat.zero_le _), rfl⟩
        · clear hB
          clear hS hD hV hW ho1 hb2 ho2 hS_1 ho3 ho4
          rintro m_ a_ w15 ⟨σ_, j, rfl, hB, hS, hD, hV, hW, ho1, hb2, ho2, hS_1, ho3, ho4, hj_, rfl⟩
          refine C_seq (C_seq (C_reg rfl ?_))
          refine L_run (R_move rfl) rfl ?_
          refine L_run (R_move rfl) rfl ?_
          refine L_run (R_lenSl rfl slc51) rfl ?_
          refine L_run (R_lss rfl rfl) rfl ?_
          refine L_nil (N_then ?_)
          refine C_if rfl (fun h4 => ?_) (fun h4 => ?_)
          · refine C_skip (N_then (C_seq (C_block (C_seq ?_))))
            refine C_draw2 rfl mix ?_
            intro w16 hs14 hz3
            replace hB := gb_tr hB hs14
            replace hS := hS.gb hs14
            replace hD := hD.gb hs14
            replace hV := hV.gb hs14
            replace hW := hW.gb hs14
            replace ho1 := own_gb ho1 hs14
            replace hb2 := hb2.gb hs14
            replace ho2 := own_gb ho2 hs14
            replace hS_1 := hS_1.gb hs14
            replace ho3 := own_gb ho3 hs14
            replace ho4 := own_gb ho4 hs14
            have hl2 : j < ((Rb l ev).2.2).length := by first | omega | (simp; omega)
            obtain ⟨g3, o2, r1, eA1, er1, ha2⟩ := Sli.place' (xs := (Rb l ev).2.2) (i := j) EncZ hS_1 hl2 rfl
            have hl3 : j < ((Rb l ev).2.2).length := by first | omega | (simp; omega)
            obtain ⟨g4, o3, r2, eA2, er2, ha3⟩ := Sli.place' (xs := (Rb l ev).2.2) (i := j) EncZ (own_of ho3).2.2 hl3 rfl
            refine ⟨fun W_ => At W_ g3 r1 [.int .i64 (((Rb l ev).2.2)[j])] ∧ At W_ g4 r2 [.int .i64 (((Rb l ev).2.2)[j])] ∧ True, [0, 1, 2, 3, 4, 5, 6, 7, 8], ?_⟩
            refine T_takeA (i := 0) rfl (by kernel_rfl) (by kernel_rfl) (by kernel_rfl) (by kernel_rfl) (Y_of (fun _ ⟨ha2, ha3, _⟩ => R_move rfl)) ⟨ha2, ha3, trivial⟩ rfl ?_
            refine T_takeA (i := 1) rfl (by kernel_rfl) (by kernel_rfl) (by kernel_rfl) (by kernel_rfl) (Y_of (fun _ ⟨ha2, ha3, _⟩ => R_move rfl)) ⟨ha2, ha3, trivial⟩ rfl ?_
            refine T_takeA (i := 2) rfl (by kernel_rfl) (by kernel_rfl) (by kernel_rfl) (by kernel_rfl) (Y_of (fun _ ⟨ha2, ha3, _⟩ => R_indexE rfl rfl (by first | rfl | omega) slc51 hl2 eA1 er1)) ⟨ha2, ha3, trivial⟩ rfl ?_
            refine T_takeA (i := 3) rfl (by kernel_rfl) (by kernel_rfl) (by kernel_rfl) (by kernel_rfl) (Y_of (fun _ ⟨ha2, ha3, _⟩ => R_load1 rfl scl3 (ha2 0 _ rfl))) ⟨ha2, ha3, trivial⟩ rfl ?_
            refine T_takeA (i := 4) rfl (by kernel_rfl) (by kernel_rfl) (by kernel_rfl) (by kernel_rfl) (Y_of (fun _ ⟨ha2, ha3, _⟩ => R_move rfl)) ⟨ha2, ha3, trivial⟩ rfl ?_
            refine T_takeA (i := 5) rfl (by kernel_rfl) (by kernel_rfl) (by kernel_rfl) (by kernel_rfl) (Y_of (fun _ ⟨ha2, ha3, _⟩ => R_move rfl)) ⟨ha2, ha3, trivial⟩ rfl ?_
            refine T_takeA (i := 6) rfl (by kernel_rfl) (by kernel_rfl) (by kernel_rfl) (by kernel_rfl) (Y_of (fun _ ⟨ha2, ha3, _⟩ => R_indexE rfl rfl (by first | rfl | omega) slc51 hl3 eA2 er2)) ⟨ha2, ha3, trivial⟩ rfl ?_
            refine T_takeA (i := 7) rfl (by kernel_rfl) (by kernel_rfl) (by kernel_rfl) (by kernel_rfl) (Y_of (fun _ ⟨ha2, ha3, _⟩ => R_load1 rfl scl3 (ha3 0 _ rfl))) ⟨ha2, ha3, trivial⟩ rfl ?_
            refine T_takeA (i := 8) rfl (by kernel_rfl) (by kernel_rfl) (by kernel_rfl) (by kernel_rfl) (Y_of (fun _ ⟨ha2, ha3, _⟩ => R_eqv (R_neq rfl rfl) (v' := .bool false) (bF' (fun h => h rfl)))) ⟨ha2, ha3, trivial⟩ rfl ?_
            refine T_done (by kernel_rfl) (CalmE.normal ?_)
            refine N_then (C_condF rfl rfl (C_skip (N_in (N_then (C_reg rfl ?_)))))
            refine L_run (R_move rfl) rfl ?_
            refine L_run (R_add64 rfl rfl (by omega)) rfl ?_
            refine L_run (R_assign rfl) rfl ?_
            refine L_nil (N_then ?_)
            exact ⟨(Rb l ev).2.2.length - (j + 1), by omega, _, (j + 1), Ac_frg ⟨rfl, rfl, rfl, rfl, rfl, (agr rfl (by first | rfl | (congr 1; omega) | (congr 1; simp; done) | (congr 1; simp only [IntKind.wrap_u64, IntKind.wrap_i64, IntKind.wrap_u8]; omega) | (congr 1 <;> omega))), trivial⟩, hB, hS, hD, hV, hW, ho1, hb2, ho2, hS_1, ho3, ho4, (by omega), rfl⟩
          · refine C_exit (X_then (X_then (X_hit (N_then (C_seq (C_reg rfl ?_))))))
            refine L_call rfl cb13 (awake40) rfl ?_
            rintro _ w17 ⟨hs15, rfl⟩
            replace hB := gb_tr hB hs15
            replace hS := hS.gb hs15
            replace hD := hD.gb hs15
            replace hV := hV.gb hs15
            replace hW := hW.gb hs15
            replace ho1 := own_gb ho1 hs15
            replace hb2 := hb2.gb hs15
            replace ho2 := own_gb ho2 hs15
            replace hS_1 := hS_1.gb hs15
            replace ho3 := own_gb ho3 hs15
            replace ho4 := own_gb ho4 hs15
            refine L_run (R_assign rfl) rfl ?_
            refine L_nil (N_then (C_ret ?_))
            refine ret1 Try.results4 rfl ?_
            exact ⟨hB, rfl⟩

theorem walk_n {w : World} {A A2 : Option Addr} {c c2 : Nat} {l : List StepD} {ev : List EvD} (hS0 : Sli 0 0 w.heap.size w A (fl encS l)) (hl0 : l.length ≤ c) (hm0 : c * 80 ≤ 140737488351232) (hg0 : ∀ x ∈ l, GoodS w x) (hV0 : Sli 0 0 w.heap.size w A2 (fl encEv ev)) (hl1 : ev.length ≤ c2) (hm1 : c2 * 56 ≤ 140737488351232) (hg1 : ∀ x ∈ ev, GoodV w x) (hf : ¬ FewSs l) :
    Runs Try.prog 4 #[.slice A l.length c, .slice A2 ev.length c2] w (fun v w' => w.grownBy w' none ∧ v = .bool true) := by
  have hB := gb_refl w none
  have hS := hS0
  have hV := hV0
  have hD : DeepS w.heap.size w l := fun y hy => hg0 y hy
  have hW : DeepV w.heap.size w ev := fun y hy => hg1 y hy
  refine enter Try.func4 Try.ntmps4 rfl rfl ?_
  refine C_seq (C_reg rfl ?_)
  refine L_run (R_assign rfl) rfl ?_
  refine L_nil (N_then (C_seq (C_seq (C_reg rfl ?_))))
  refine L_run (R_move rfl) rfl ?_
  refine L_call rfl cb12 (law38_Few (l := l) hS (by omega)) rfl ?_
  rintro _ w1 ⟨hs1, rfl⟩
  replace hB := gb_tr hB hs1
  replace hS := hS.gb hs1
  replace hD := hD.gb hs1
  replace hV := hV.gb hs1
  replace hW := hW.gb hs1
  refine L_run (R_notD rfl) rfl ?_
  refine L_run (R_move rfl) rfl ?_
  refine L_no rfl rfl rfl (decide_eq_true hf) rfl ?_
  refine L_no rfl rfl rfl (decide_eq_true hf) rfl ?_
  refine L_no rfl rfl rfl (decide_eq_true hf) rfl ?_
  refine L_run (R_pickT rfl (decide_eq_true hf) rfl) rfl ?_
  refine L_nil (N_then (C_condT rfl rfl (C_seq (C_reg rfl ?_))))
  refine L_call rfl cb13 (awake40) rfl ?_
  rintro _ w2 ⟨hs2, rfl⟩
  replace hB := gb_tr hB hs2
  replace hS := hS.gb hs2
  replace hD := hD.gb hs2
  replace hV := hV.gb hs2
  replace hW := hW.gb hs2
  refine L_run (R_assign rfl) rfl ?_
  refine L_nil (N_then (C_ret (R_then ?_)))
  refine ret1 Try.results4 rfl ?_
  exact ⟨hB, rfl⟩

theorem walk {w : World} {A A2 : Option Addr} {c c2 : Nat} {l : List StepD} {ev : List EvD} (hS0 : Sli 0 0 w.heap.size w A (fl encS l)) (hl0 : l.length ≤ c) (hm0 : c * 80 ≤ 140737488351232) (hg0 : ∀ x ∈ l, GoodS w x) (hV0 : Sli 0 0 w.heap.size w A2 (fl encEv ev)) (hl1 : ev.length ≤ c2) (hm1 : c2 * 56 ≤ 140737488351232) (hg1 : ∀ x ∈ ev, GoodV w x) : Runs Try.prog 4 #[.slice A l.length c, .slice A2 ev.length c2] w (fun v w' => w.grownBy w' none ∧ v = .bool true) := by
  by_cases hf : FewSs l
  · exact walk_y hS0 hl0 hm0 hg0 hV0 hl1 hm1 hg1 hf
  · exact walk_n hS0 hl0 hm0 hg0 hV0 hl1 hm1 hg1 hf
open Go.ChangeShapes Go.WideShapes Go.ChangeAt
theorem own : ownKnob Try.prog.godebug = none := by kernel_rfl
theorem laidOut : laidOutB Try.prog = true := by kernel_rfl
set_option maxRecDepth 100000 in
theorem lifted (os : Os) (started : os.Started) (H : Type) (enc : TypeId × Value → H) :
    ReturnsInHanded {} Try.checked os 4 .any (Rows.auditChecksSpec.pre6 enc Try.prog Try.f4 Rows.auditChecksRow.domain false) (Rows.auditChecksSpec.post enc Try.prog Try.f4 false true false false) := by
  refine returnsInHanded_of_change_sized (C := Try.checked) own started (by kernel_rfl) Try.func4
    (ChangeSpec.witness6 (enc := enc) (C := Try.checked) false ⟨#[], #[.slice none 0 0, .slice none 0 0], []⟩ 8 (by kernel_rfl) (by kernel_rfl) (by kernel_rfl) (by kernel_rfl)) ?_
  intro W base args ds gs before hval0 hW hcnd hsz0 _
  have hsz : (DataW.weightsEach Try.prog (Try.f4.params.toList ++ Rows.auditChecksSpec.plain.varTypes Try.prog) (ds ++ gs)).all (· ≤ reachBytes) = true := hsz0
  have hval : ∀ (j : Nat) t v, Try.f4.params[j]? = some t → args[j]? = some v → Value.okWide Try.prog W .any base t v := hval0
  have hW' := hW
  obtain ⟨p, q, hA0, hV, rfl, hfz, hnd⟩ := hW
  have hA : DataW.TrodAll enc Try.prog W 0 (fun _ => true) true Try.f4.params.toList args.toList ds p := hA0
  rw [Try.params4] at hA hval hsz
  obtain ⟨v0, vs0, d0, ds0, p0, q0, hargs, rfl, rfl, h0, r0⟩ := trodAll_cons hA
  obtain ⟨v1, vs1, d1, ds1, p1, q1, rfl, rfl, rfl, h1, r1⟩ := trodAll_cons r0
  obtain ⟨rfl, rfl, rfl⟩ := trodAll_nil r1
  obtain rfl : args = #[v0, v1] := by cases args; simp_all
  obtain ⟨rfl, rfl⟩ := trodVars_none hV
  have lt0 : ∀ x ∈ p0, x.block < W.heap.size := by obtain ⟨m, hm⟩ := h0; exact DataW.trod_lt m _ _ _ hm
  obtain ⟨⟨A0, c0, xs0⟩, e0, hS0, hl0, hm0, hg0⟩ := Rdr.arg (enc := enc) (P := Try.prog) (W := W) (Rdr.slice (ec := encS) (sz := 6) (by_ := 80) ((Rdr.struct Try.underlying86 rfl (by kernel_rfl) (Rds.cons (off := 0) (sz := 1) (Rdr.int Try.underlying3) (by kernel_rfl) rfl (by decide) (Rds.cons (off := 1) (sz := 1) (Rdr.int Try.underlying3) (by kernel_rfl) rfl (by decide) (Rds.cons (off := 2) (sz := 1) (Rdr.slice (ec := encOp) (sz := 3) (by_ := 40) ((Rdr.struct Try.underlying71 rfl (by kernel_rfl) (Rds.cons (off := 0) (sz := 1) (Rdr.int Try.underlying3) (by kernel_rfl) rfl (by decide) (Rds.cons (off := 1) (sz := 1) (Rdr.str Try.underlying9) (by kernel_rfl) rfl (by decide) (Rds.cons (off := 2) (sz := 1) (Rdr.str Try.underlying9) (by kernel_rfl) rfl (by decide) (Rds.nil))))).map (fun y => (⟨y.1, y.2.1, y.2.2.1⟩ : Opd)) (e' := encOp) (fun _ _ => rfl) (good' := GoodOp) (fun _ h => ⟨h.1, h.2.1, h.2.2.1⟩)) EncOp Try.underlying80 (by kernel_rfl) (by kernel_rfl)) (by kernel_rfl) rfl (by decide) (Rds.cons (off := 3) (sz := 3) (Rdr.struct Try.underlying84 rfl (by kernel_rfl) (Rds.cons (off := 0) (sz := 1) (Rdr.slice (ec := encB) (sz := 1) (by_ := 1) ((Rdr.int Try.underlying5).map (fun n => UInt8.ofNat n.toNat) byte_of (good' := fun _ => True) (fun _ _ => trivial)) EncB Try.underlying63 (by kernel_rfl) (by kernel_rfl)) (by kernel_rfl) rfl (by decide) (Rds.cons (off := 1) (sz := 1) (Rdr.int Try.underlying3) (by kernel_rfl) rfl (by decide) (Rds.cons (off := 2) (sz := 1) (Rdr.int Try.underlying3) (by kernel_rfl) rfl (by decide) (Rds.nil))))) (by kernel_rfl) rfl (by decide) (Rds.nil)))))).map (fun y => (⟨y.2.2.1.1, y.2.2.1.2.1, y.2.2.2.1.1.1, y.2.2.2.1.1.2.1, ⟨y.1, y.2.1, y.2.2.1.2.2, y.2.2.2.1.1.2.2, y.2.2.2.1.2.1, y.2.2.2.1.2.2.1⟩⟩ : StepD)) (e' := encS) (fun _ _ => rfl) (good' := GoodS W) (fun _ h => ⟨h.2.2.1.1, h.2.2.2.1.1.1⟩)) EncS Try.underlying39 (by kernel_rfl) (by kernel_rfl)) hsz (j := 0) rfl rfl h0
  obtain rfl := of_cell e0 (by intro cs e_; obtain ⟨a_, l_, k_, e2_⟩ := okWide_slice Try.underlying39 (hval 0 39 v0 rfl rfl); rw [e2_] at e_; cases e_)
  have lt1 : ∀ x ∈ p1, x.block < W.heap.size := by obtain ⟨m, hm⟩ := h1; exact DataW.trod_lt m _ _ _ hm
  obtain ⟨⟨A1, c1, xs1⟩, e1, hS1, hl1, hm1, hg1⟩ := Rdr.arg (enc := enc) (P := Try.prog) (W := W) (Rdr.slice (ec := encEv) (sz := 5) (by_ := 56) ((Rdr.struct Try.underlying44 rfl (by kernel_rfl) (Rds.cons (off := 0) (sz := 1) (Rdr.int Try.underlying3) (by kernel_rfl) rfl (by decide) (Rds.cons (off := 1) (sz := 1) (Rdr.int Try.underlying42) (by kernel_rfl) rfl (by decide) (Rds.cons (off := 2) (sz := 1) (Rdr.int Try.underlying3) (by kernel_rfl) rfl (by decide) (Rds.cons (off := 3) (sz := 1) (Rdr.int Try.underlying3) (by kernel_rfl) rfl (by decide) (Rds.cons (off := 4) (sz := 1) (Rdr.slice (ec := encK) (sz := 2) (by_ := 32) ((Rdr.struct Try.underlying75 rfl (by kernel_rfl) (Rds.cons (off := 0) (sz := 1) (Rdr.str Try.underlying9) (by kernel_rfl) rfl (by decide) (Rds.cons (off := 1) (sz := 1) (Rdr.str Try.underlying9) (by kernel_rfl) rfl (by decide) (Rds.nil)))).map (fun y => ((y.1, y.2.1) : Kv)) (e' := encK) (fun _ _ => rfl) (good' := fun _ => True) (fun _ _ => trivial)) EncK Try.underlying29 (by kernel_rfl) (by kernel_rfl)) (by kernel_rfl) rfl (by decide) (Rds.nil))))))).map (fun y => (⟨y.1, y.2.1, y.2.2.1, y.2.2.2.1, y.2.2.2.2.1.1, y.2.2.2.2.1.2.1, y.2.2.2.2.1.2.2⟩ : EvD)) (e' := encEv) (fun _ _ => rfl) (good' := GoodV W) (fun _ h => h.2.2.2.2.1.1)) EncEv Try.underlying40 (by kernel_rfl) (by kernel_rfl)) hsz (j := 1) rfl rfl h1
  obtain rfl := of_cell e1 (by intro cs e_; obtain ⟨a_, l_, k_, e2_⟩ := okWide_slice Try.underlying40 (hval 1 40 v1 rfl rfl); rw [e2_] at e_; cases e_)
  refine (walk (w := W) hS0 hl0 hm0 hg0 hS1 hl1 hm1 hg1).calls.mono fun e W' ⟨v_, he, hgb, hv_⟩ => ?_
  subst he
  subst hv_
  have bel := gb_below hgb
  exact ⟨_, rfl, _, _, _, [], _, [], hW', trodAll_mk1 (shut_bool Try.underlying4 _), (trodAll_cons_mk (Below.trod laidOut (by kernel_rfl) (of_decide_eq_true (by kernel_rfl)) h0 bel lt0) (trodAll_cons_mk (Below.trod laidOut (by kernel_rfl) (of_decide_eq_true (by kernel_rfl)) h1 bel lt1) trodAll_mk0)), rfl, bel.frame _, fun h => by cases h⟩
theorem over : Rows.auditChecksRow.holds Try.pinned (OpenSpec.ofChange Rows.auditChecksSpec) :=
  OpenClaim.holds_of_wide 4 Try.f4 rfl rfl rfl rfl rfl rfl rfl ⟨rfl, rfl, rfl, rfl, rfl⟩ rfl rfl rfl rfl rfl (by kernel_rfl) Try.func4 (by kernel_rfl)
    (of_decide_eq_true (by kernel_rfl)) (by unfold Func.isWrapper; first | (rw [if_pos (by decide +kernel)]; kernel_rfl) | (rw [if_neg (by decide +kernel)]; exact ⟨rfl, rfl⟩))
    (fun os started H enc _ => lifted os started H enc)
/-- The given statement. -/
theorem proved : Rows.AuditChecksSaid := over
#print axioms proved

end Go.Proofs.Ytbmohojdlgedpaa.LAuditChecks
