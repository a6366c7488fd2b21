/-
  Contracts of the reference 40: Check, Lost.
-/
import Derived.Test.YtbmohojdlgedpaaHs
namespace Go.Proofs.Ytbmohojdlgedpaa
open Go.RowKit Gw Pl
set_option linter.unusedVariables false
set_option linter.unusedSimpArgs false
theorem cb37 : callB Try.prog 37 = true := by kernel_rfl
theorem slc40 : slcB Try.prog 40 44 5 56 = true := by kernel_rfl
section
variable {w : World} {b : BkP} {y : StepD} {e : EvD} {A : Option Addr} {c n : Nat}
theorem next39_ok (hL0 : Sli 80 0 w.heap.size w A (fl encO2 b.l)) (hDO : DeepO w.heap.size w b.l) (hg : GoodB n b) (hn : n ≤ 900) (hlc : b.l.length ≤ c) (hOp : Sli 0 0 w.heap.size w y.oa (fl encOp y.p.ops)) (hPr : Sli 0 0 w.heap.size w e.pa (fl encK e.prs)) (hy30 : y.p.ops.length ≤ 30) (hp : e.prs.length ≤ 1000) :
    Runs Try.prog 37 #[.agg #[.slice A b.l.length c, .int .i64 b.syn, .bool b.has], .agg (encS y).toArray, .agg (encEv e).toArray] w (fun v_ w' => w.grownBy w' none ∧ ∃ A' c' b', v_ = .tuple #[.agg #[.slice A' b'.l.length c', .int .i64 b'.syn, .bool b'.has], .bool (decide (okB b y e))] ∧ (okB b y e → b' = nxt b y e) ∧ Sli 80 0 w'.heap.size w' A' (fl encO2 b'.l) ∧ b'.l.length ≤ c') := by
  by_cases hr : sOk y.p
  · by_cases he0 : e.e = 0
    · exact next39_e hL0 hDO hg hn hlc hOp hPr hy30 hp hr he0
    · exact next39_d hL0 hDO hg hn hlc hOp hPr hy30 hp hr he0
  · exact next39_n hL0 hDO hg hn hlc hOp hPr hy30 hp hr
theorem next39_y (ho : okB b y e) (hL0 : Sli 80 0 w.heap.size w A (fl encO2 b.l)) (hDO : DeepO w.heap.size w b.l) (hg : GoodB n b) (hn : n ≤ 900) (hlc : b.l.length ≤ c) (hOp : Sli 0 0 w.heap.size w y.oa (fl encOp y.p.ops)) (hPr : Sli 0 0 w.heap.size w e.pa (fl encK e.prs)) (hy30 : y.p.ops.length ≤ 30) (hp : e.prs.length ≤ 1000) :
    Runs Try.prog 37 #[.agg #[.slice A b.l.length c, .int .i64 b.syn, .bool b.has], .agg (encS y).toArray, .agg (encEv e).toArray] w (fun v_ w' => w.grownBy w' none ∧ ∃ A' c', v_ = .tuple #[.agg #[.slice A' (nxt b y e).l.length c', .int .i64 (nxt b y e).syn, .bool (nxt b y e).has], .bool true] ∧ Sli 80 0 w'.heap.size w' A' (fl encO2 (nxt b y e).l) ∧ (nxt b y e).l.length ≤ c') :=
  (next39_ok hL0 hDO hg hn hlc hOp hPr hy30 hp).mono fun v_ w' h => by
    obtain ⟨h1, A', c', b', rfl, h2, h3, h4⟩ := h
    obtain rfl := h2 ho
    exact ⟨h1, A', c', by rw [decide_eq_true ho], h3, h4⟩
theorem next39_x (ho : ¬ okB b y e) (hL0 : Sli 80 0 w.heap.size w A (fl encO2 b.l)) (hDO : DeepO w.heap.size w b.l) (hg : GoodB n b) (hn : n ≤ 900) (hlc : b.l.length ≤ c) (hOp : Sli 0 0 w.heap.size w y.oa (fl encOp y.p.ops)) (hPr : Sli 0 0 w.heap.size w e.pa (fl encK e.prs)) (hy30 : y.p.ops.length ≤ 30) (hp : e.prs.length ≤ 1000) :
    Runs Try.prog 37 #[.agg #[.slice A b.l.length c, .int .i64 b.syn, .bool b.has], .agg (encS y).toArray, .agg (encEv e).toArray] w (fun v_ w' => w.grownBy w' none ∧ ∃ (A' : Option Addr) (c' : Nat) (b' : BkP), v_ = .tuple #[.agg #[.slice A' b'.l.length c', .int .i64 b'.syn, .bool b'.has], .bool false]) :=
  (next39_ok hL0 hDO hg hn hlc hOp hPr hy30 hp).mono fun v_ w' h => by
    obtain ⟨h1, A', c', b', rfl, h2, h3, h4⟩ := h
    exact ⟨h1, A', c', b', by rw [decide_eq_false ho]⟩
end
theorem nxt_crash {b : BkP} {y : StepD} {e : EvD} (hs : 0 ≤ b.syn) (ho : okB b y e) (hk : y.p.kind = 4) (he : e.e = 0) : ((nxt b y e).l.length : Int) = e.bat := by
  have h1 := (ho.2.2.1 he).1 (.inl hk)
  unfold nxt doneB
  rw [if_pos he, if_neg (by omega), if_neg (by omega), if_pos (by omega)]
  show ((b.l.take e.bat.toNat).length : Int) = e.bat
  rw [List.length_take]
  omega
theorem check40_ok {w : World} {l : List StepD} {ev : List EvD} {A A2 : Option Addr} {c c2 : Nat} (hS0 : Sli 0 0 w.heap.size w A (fl encS l)) (hD0 : DeepS w.heap.size w l) (hV0 : Sli 0 0 w.heap.size w A2 (fl encEv ev)) (hW0 : DeepV w.heap.size w ev) (hf : FewSs l) (hev : ev.length ≤ 80) (hpr : ∀ x ∈ ev, x.prs.length ≤ 100) :
    Runs Try.prog 16 #[.slice A l.length c, .slice A2 ev.length c2] w (fun v_ w' => w.grownBy w' none ∧ v_ = .int .i64 (atI l ev)) := by
  have hB := gb_refl w none
  have hS := hS0
  have hD := hD0
  have hV := hV0
  have hW := hW0
  have hf80 := hf.2
  have hz1 : (l.zip ev).length = min l.length ev.length := List.length_zip
  refine enter Try.func16 Try.ntmps16 rfl rfl ?_
  refine C_seq (C_reg rfl ?_)
  refine L_run (R_assign rfl) rfl ?_
  refine L_nil (N_then (C_seq (C_reg rfl ?_)))
  refine L_run (R_build (pv := [(2, .bool true)]) (cs := [.slice none 0 0, .int .i64 0, .bool true]) rfl (by kernel_rfl)) rfl ?_
  refine L_alloc (cs := [.slice none 0 0, .int .i64 0, .bool false]) zer96 rfl rfl ?_
  intro g1 w1 eg1 hb1 hs1 hz1
  have ge1 : w.heap.size ≤ g1 := eg_ge hB eg1
  replace hB := gb_tr hB hs1
  replace hS := hS.gb hs1
  replace hD := hD.gb hs1
  replace hV := hV.gb hs1
  replace hW := hW.gb hs1
  refine L_stA (vs := [.slice none 0 0, .int .i64 0, .bool true]) rfl rfl rfl sz96 rfl hb1 rfl ?_
  intro w2 hb2 hs2 hz2
  replace hB := gb_trg hB hs2 ge1
  replace hS := hS.old hs2 ge1
  replace hD := hD.old hs2 ge1
  replace hV := hV.old hs2 ge1
  replace hW := hW.old hs2 ge1
  refine L_nil (N_then (C_seq (C_seq (C_reg rfl ?_))))
  refine L_run (R_assign rfl) rfl ?_
  refine L_nil (N_then (C_block ?_))
  refine C_loop (fun m_ a_ w_ => ∃ (σ_ : Nat → Value) (Ab : Option Addr) (cb : Nat) (b : BkP) (lost : List Int) (i : Nat) (zz : Nat), a_ = Ac 53 σ_ [] [(0, .slice A l.length c), (1, .slice A2 ev.length c2), (4, .int .i64 0), (5, .pointer (some ⟨g1, 0, none⟩)), (6, .int .i64 (i : Int))] ∧ w.grownBy w_ none ∧ Sli 0 0 w.heap.size w_ A (fl encS l) ∧ DeepS w.heap.size w_ l ∧ Sli 0 0 w.heap.size w_ A2 (fl encEv ev) ∧ DeepV w.heap.size w_ ev ∧ Blk w_ g1 96 [.slice Ab b.l.length cb, .int .i64 b.syn, .bool b.has] ∧ Sli 80 0 zz w_ Ab (fl encO2 b.l) ∧ (i ≤ (l.zip ev).length) ∧ (resB ((l.zip ev).drop i) (b, lost) i = Rb l ev) ∧ (GoodB i b) ∧ (b.l.length ≤ cb) ∧ (DeepO w.heap.size w b.l) ∧ (lost.length ≤ i) ∧ (l.zip ev).length - i = m_) ((l.zip ev).length - 0) ?_ ?_
  · exact ⟨_, none, 0, (⟨[], 0, true⟩ : BkP), [], 0, 0, Ac_frg ⟨rfl, rfl, rfl, rfl, (agr rfl (by first | rfl | (congr 1; omega) | (congr 1; simp; done) | (congr 1; simp only [IntKind.wrap_u64, IntKind.wrap_i64, IntKind.wrap_u8]; omega) | (congr 1 <;> omega))), trivial⟩, hB, hS, hD, hV, hW, hb2, Sli.nil, (Nat.zero_le _), (by rw [List.drop_zero]), ⟨Int.le_refl _, Nat.zero_le _, fun x hx => by cases hx⟩, (Nat.zero_le _), DeepO.nil, (Nat.zero_le _), rfl⟩
  · clear hB
    clear hS hD hV hW hb2
    rintro m_ a_ w3 ⟨σ_, Ab, cb, b, lost, i, zz, rfl, hB, hS, hD, hV, hW, hbk, hL, hi_, hres, hgb, hlen, hDO, hlo_, rfl⟩
    refine C_seq (C_seq (C_reg rfl ?_))
    refine L_run (R_move rfl) rfl ?_
    refine L_run (R_move rfl) rfl ?_
    refine L_run (R_lenSl rfl slc39) rfl ?_
    refine L_run (R_lss rfl rfl) rfl ?_
    refine L_run (R_move rfl) rfl ?_
    refine L_splitD (p := (i : Int) < (l.length : Int)) (fun h1 => ?_) (fun h1 => ?_)
    · refine L_yes rfl rfl rfl (decide_eq_true h1) ?_
      refine L_run (R_move rfl) rfl ?_
      refine L_yes rfl rfl rfl (decide_eq_true h1) ?_
      refine L_run (R_move rfl) rfl ?_
      refine L_yes rfl rfl rfl (decide_eq_true h1) ?_
      refine L_run (R_lenSl rfl slc40) rfl ?_
      refine L_yes rfl rfl rfl (decide_eq_true h1) ?_
      refine L_run (R_lss rfl rfl) rfl ?_
      refine L_run (R_pickT rfl (decide_eq_true h1) rfl) rfl ?_
      refine L_nil (N_then ?_)
      refine C_if rfl (fun h2 => ?_) (fun h2 => ?_)
      · have hli : i < l.length := by omega
        have hlj : i < ev.length := by omega
        have hgb2 := hgb.2.1
        refine C_skip (N_then (C_seq (C_block (C_seq ?_))))
        refine C_draw2 rfl mix ?_
        intro w4 hs3 hz3
        replace hB := gb_tr hB hs3
        replace hS := hS.gb hs3
        replace hD := hD.gb hs3
        replace hV := hV.gb hs3
        replace hW := hW.gb hs3
        replace hbk := hbk.gb hs3
        replace hL := hL.gb hs3
        have hl1 : i < l.length := by first | omega | (simp; omega)
        obtain ⟨g2, o1, r1, eA1, er1, ha1⟩ := Sli.place' (xs := l) (i := i) EncS hS hl1 rfl
        have hl2 : i < ev.length := by first | omega | (simp; omega)
        obtain ⟨g3, o2, r2, eA2, er2, ha2⟩ := Sli.place' (xs := ev) (i := i) EncEv hV hl2 rfl
        refine ⟨fun W_ => Blk W_ g1 96 [.slice Ab b.l.length cb, .int .i64 b.syn, .bool b.has] ∧ At W_ g2 r1 [.int .i64 ((l[i]).p.kind), .int .i64 ((l[i]).p.n), .slice ((l[i]).oa) ((l[i]).p.ops.length) ((l[i]).oc), .slice ((l[i]).ka) ((l[i]).p.keep.length) ((l[i]).kc), .int .i64 ((l[i]).p.torn), .int .i64 ((l[i]).p.cut)] ∧ At W_ g3 r2 [.int .i64 ((ev[i]).kind), .int .i64 ((ev[i]).e), .int .i64 ((ev[i]).bat), .int .i64 ((ev[i]).syn), .slice ((ev[i]).pa) ((ev[i]).prs.length) ((ev[i]).pc)] ∧ True, [0, 1, 2, 3, 4, 5, 6, 7, 8, 10, 11, 12, 15], ?_⟩
        refine T_takeA (i := 0) rfl (by kernel_rfl) (by kernel_rfl) (by kernel_rfl) (by kernel_rfl) (Y_of (fun _ ⟨hbk, ha1, ha2, _⟩ => R_loadA (vs := [.slice Ab b.l.length cb, .int .i64 b.syn, .bool b.has]) rfl agg96 (At.pre (hbk.at_ 0) rfl) rfl)) ⟨hbk, ha1, ha2, trivial⟩ rfl ?_
        refine T_takeA (i := 1) rfl (by kernel_rfl) (by kernel_rfl) (by kernel_rfl) (by kernel_rfl) (Y_of (fun _ ⟨hbk, ha1, ha2, _⟩ => R_move rfl)) ⟨hbk, ha1, ha2, trivial⟩ rfl ?_
        refine T_takeA (i := 2) rfl (by kernel_rfl) (by kernel_rfl) (by kernel_rfl) (by kernel_rfl) (Y_of (fun _ ⟨hbk, ha1, ha2, _⟩ => R_move rfl)) ⟨hbk, ha1, ha2, trivial⟩ rfl ?_
        refine T_takeA (i := 3) rfl (by kernel_rfl) (by kernel_rfl) (by kernel_rfl) (by kernel_rfl) (Y_of (fun _ ⟨hbk, ha1, ha2, _⟩ => R_indexE rfl rfl (by first | rfl | omega) slc39 hl1 eA1 er1)) ⟨hbk, ha1, ha2, trivial⟩ rfl ?_
        refine T_takeA (i := 4) rfl (by kernel_rfl) (by kernel_rfl) (by kernel_rfl) (by kernel_rfl) (Y_of (fun _ ⟨hbk, ha1, ha2, _⟩ => R_loadA (vs := [.int .i64 ((l[i]).p.kind), .int .i64 ((l[i]).p.n), .slice ((l[i]).oa) ((l[i]).p.ops.length) ((l[i]).oc), .slice ((l[i]).ka) ((l[i]).p.keep.length) ((l[i]).kc), .int .i64 ((l[i]).p.torn), .int .i64 ((l[i]).p.cut)]) rfl agg86 (At.pre ha1 rfl) rfl)) ⟨hbk, ha1, ha2, trivial⟩ rfl ?_
        refine T_takeA (i := 5) rfl (by kernel_rfl) (by kernel_rfl) (by kernel_rfl) (by kernel_rfl) (Y_of (fun _ ⟨hbk, ha1, ha2, _⟩ => R_move rfl)) ⟨hbk, ha1, ha2, trivial⟩ rfl ?_
        refine T_takeA (i := 6) rfl (by kernel_rfl) (by kernel_rfl) (by kernel_rfl) (by kernel_rfl) (Y_of (fun _ ⟨hbk, ha1, ha2, _⟩ => R_move rfl)) ⟨hbk, ha1, ha2, trivial⟩ rfl ?_
        refine T_takeA (i := 7) rfl (by kernel_rfl) (by kernel_rfl) (by kernel_rfl) (by kernel_rfl) (Y_of (fun _ ⟨hbk, ha1, ha2, _⟩ => R_indexE rfl rfl (by first | rfl | omega) slc40 hl2 eA2 er2)) ⟨hbk, ha1, ha2, trivial⟩ rfl ?_
        refine T_takeA (i := 8) rfl (by kernel_rfl) (by kernel_rfl) (by kernel_rfl) (by kernel_rfl) (Y_of (fun _ ⟨hbk, ha1, ha2, _⟩ => R_loadA (vs := [.int .i64 ((ev[i]).kind), .int .i64 ((ev[i]).e), .int .i64 ((ev[i]).bat), .int .i64 ((ev[i]).syn), .slice ((ev[i]).pa) ((ev[i]).prs.length) ((ev[i]).pc)]) rfl agg44 (At.pre ha2 rfl) rfl)) ⟨hbk, ha1, ha2, trivial⟩ rfl ?_
        refine T_all (rs := [9, 13]) (by kernel_rfl) rfl (all2 (O_one rfl ?_) (O_one rfl ?_))
        · by_cases h3 : okB b (l[i]) (ev[i])
          · refine L_call rfl cb37 (next39_y h3 (Sli.zero hL) (DeepO.gb hDO hB).top hgb (by omega) hlen (Sli.any (hD.getO (i := i) hli)) (Sli.any (hW.getP (i := i) hlj)) (few_30 hf hli) (Nat.le_trans (hpr _ (List.getElem_mem hlj)) (by decide))) rfl ?_
            rintro _ w5 ⟨hs4, A_1, c_1, rfl, hS_1, hcl1⟩
            replace hB := gb_tr hB hs4
            replace hS := hS.gb hs4
            replace hD := hD.gb hs4
            replace hV := hV.gb hs4
            replace hW := hW.gb hs4
            replace hbk := hbk.gb hs4
            replace hL := hL.gb hs4
            replace ha1 := At.gb ha1 hs4 (by simp)
            replace ha2 := At.gb ha2 hs4 (by simp)
            have hnx2_ := (hgb.nxt (few_30 hf hli) h3).2.1
            refine L_nil (N_then ⟨fun hN_ => ⟨hbk, ha1, ha2, trivial⟩, ?_⟩)
            refine T_takeA (i := 10) rfl (by kernel_rfl) (by kernel_rfl) (by kernel_rfl) (by kernel_rfl) (Y_of (fun _ ⟨hbk, ha1, ha2, _⟩ => R_move rfl)) ⟨hbk, ha1, ha2, trivial⟩ rfl ?_
            refine T_takeA (i := 11) rfl (by kernel_rfl) (by kernel_rfl) (by kernel_rfl) (by kernel_rfl) (Y_of (fun _ ⟨hbk, ha1, ha2, _⟩ => R_extract rfl rfl)) ⟨hbk, ha1, ha2, trivial⟩ rfl ?_
            refine T_takeA (i := 12) rfl (by kernel_rfl) (by kernel_rfl) (by kernel_rfl) (by kernel_rfl) (Y_of (fun _ ⟨hbk, ha1, ha2, _⟩ => R_extract rfl rfl)) ⟨hbk, ha1, ha2, trivial⟩ rfl ?_
            refine T_all (rs := [13]) (by kernel_rfl) rfl (all1 (O_one rfl ?_))
            refine L_alloc (cs := [.slice none 0 0, .int .i64 0, .bool false]) zer96 rfl rfl ?_
            intro g4 w6 eg2 hb3 hs5 hz4
            have ge2 : w.heap.size ≤ g4 := eg_ge hB eg2
            have lt1 : g1 < g4 := lt_of_eg hbk.lt eg2
            have lt2 : g2 < g4 := lt_of_eg (at_lt ha1) eg2
            have lt3 : g3 < g4 := lt_of_eg (at_lt ha2) eg2
            replace hB := gb_tr hB hs5
            replace hS := hS.gb hs5
            replace hD := hD.gb hs5
            replace hV := hV.gb hs5
            replace hW := hW.gb hs5
            replace hbk := hbk.gb hs5
            replace hL := hL.gb hs5
            replace ha1 := At.gb ha1 hs5 (by simp)
            replace ha2 := At.gb ha2 hs5 (by simp)
            replace hS_1 := hS_1.gb hs5
            refine L_nil (N_then ⟨fun hN_ => ⟨hbk, ha1, ha2, trivial⟩, ?_⟩)
            refine T_all (rs := [14]) (by kernel_rfl) rfl (all1 (O_one rfl ?_))
            refine L_stA (vs := [.slice A_1 ((nxt b (l[i]) (ev[i])).l.length) c_1, .int .i64 ((nxt b (l[i]) (ev[i])).syn), .bool ((nxt b (l[i]) (ev[i])).has)]) rfl rfl rfl sz96 rfl hb3 rfl ?_
            intro w7 hb4 hs6 hz5
            replace hB := gb_trg hB hs6 ge2
            replace hS := hS.old hs6 ge2
            replace hD := hD.old hs6 ge2
            replace hV := hV.old hs6 ge2
            replace hW := hW.old hs6 ge2
            replace hbk := hbk.grown hs6 (ne_lt lt1)
            replace hL := hL.other hb3 rfl rfl hs6
            replace ha1 := At.gb ha1 hs6 (ne_lt lt2)
            replace ha2 := At.gb ha2 hs6 (ne_lt lt3)
            replace hS_1 := hS_1.other hb3 rfl rfl hs6
            refine L_nil (N_then ⟨fun hN_ => ⟨hbk, ha1, ha2, trivial⟩, ?_⟩)
            refine T_takeA (i := 15) rfl (by kernel_rfl) (by kernel_rfl) (by kernel_rfl) (by kernel_rfl) (Y_of (fun _ ⟨hbk, ha1, ha2, _⟩ => R_assign rfl)) ⟨hbk, ha1, ha2, trivial⟩ rfl ?_
            refine T_done (by kernel_rfl) (CalmE.normal ?_)
            refine N_then (C_seq (C_seq (C_reg rfl ?_)))
            refine L_run (R_move rfl) rfl ?_
            refine L_run (R_not rfl) rfl ?_
            refine L_nil (N_then (C_condF rfl rfl (C_skip (N_then (C_reg rfl ?_)))))
            refine L_run (R_loadA (vs := [.slice A_1 ((nxt b (l[i]) (ev[i])).l.length) c_1, .int .i64 ((nxt b (l[i]) (ev[i])).syn), .bool ((nxt b (l[i]) (ev[i])).has)]) rfl agg96 (At.pre (hb4.at_ 0) rfl) rfl) rfl ?_
            refine L_stA (vs := [.slice A_1 ((nxt b (l[i]) (ev[i])).l.length) c_1, .int .i64 ((nxt b (l[i]) (ev[i])).syn), .bool ((nxt b (l[i]) (ev[i])).has)]) rfl rfl rfl sz96 rfl hbk rfl ?_
            intro w8 hb5 hs7 hz6
            replace hB := gb_trg hB hs7 ge1
            replace hS := hS.old hs7 ge1
            replace hD := hD.old hs7 ge1
            replace hV := hV.old hs7 ge1
            replace hW := hW.old hs7 ge1
            replace hL := hL.other hbk rfl rfl hs7
            replace hS_1 := hS_1.other hbk rfl rfl hs7
            replace hb4 := hb4.grown hs7 (ne_gt lt1)
            refine L_nil (N_in (N_then (C_reg rfl ?_)))
            refine L_run (R_move rfl) rfl ?_
            refine L_run (R_add64 rfl rfl (by omega)) rfl ?_
            refine L_run (R_assign rfl) rfl ?_
            refine L_nil (N_then ?_)
            exact ⟨(l.zip ev).length - (i + 1), by omega, _, A_1, c_1, (nxt b (l[i]) (ev[i])), (lostN b (l[i]) (ev[i]) lost), (i + 1), w8.heap.size, Ac_frg ⟨rfl, rfl, rfl, rfl, (agr rfl (by first | rfl | (congr 1; omega) | (congr 1; simp; done) | (congr 1; simp only [IntKind.wrap_u64, IntKind.wrap_i64, IntKind.wrap_u8]; omega) | (congr 1 <;> omega))), trivial⟩, hB, hS, hD, hV, hW, hb5, (Sli.zero hS_1), (by omega), (by rw [← resB_go hli hlj h3]; exact hres), (hgb.nxt (few_30 hf hli) h3), hcl1, (nxt_deep hDO (hD0.getO hli)), (Nat.le_trans lostN_len (Nat.succ_le_succ hlo_)), rfl⟩
          · refine L_call rfl cb37 (next39_x h3 (Sli.zero hL) (DeepO.gb hDO hB).top hgb (by omega) hlen (Sli.any (hD.getO (i := i) hli)) (Sli.any (hW.getP (i := i) hlj)) (few_30 hf hli) (Nat.le_trans (hpr _ (List.getElem_mem hlj)) (by decide))) rfl ?_
            rintro _ w9 ⟨hs8, A_2, c_2, bz, rfl⟩
            replace hB := gb_tr hB hs8
            replace hS := hS.gb hs8
            replace hD := hD.gb hs8
            replace hV := hV.gb hs8
            replace hW := hW.gb hs8
            replace hbk := hbk.gb hs8
            replace hL := hL.gb hs8
            replace ha1 := At.gb ha1 hs8 (by simp)
            replace ha2 := At.gb ha2 hs8 (by simp)
            refine L_nil (N_then ⟨fun hN_ => ⟨hbk, ha1, ha2, trivial⟩, ?_⟩)
            refine T_takeA (i := 10) rfl (by kernel_rfl) (by kernel_rfl) (by kernel_rfl) (by kernel_rfl) (Y_of (fun _ ⟨hbk, ha1, ha2, _⟩ => R_move rfl)) ⟨hbk, ha1, ha2, trivial⟩ rfl ?_
            refine T_takeA (i := 11) rfl (by kernel_rfl) (by kernel_rfl) (by kernel_rfl) (by kernel_rfl) (Y_of (fun _ ⟨hbk, ha1, ha2, _⟩ => R_extract rfl rfl)) ⟨hbk, ha1, ha2, trivial⟩ rfl ?_
            refine T_takeA (i := 12) rfl (by kernel_rfl) (by kernel_rfl) (by kernel_rfl) (by kernel_rfl) (Y_of (fun _ ⟨hbk, ha1, ha2, _⟩ => R_extract rfl rfl)) ⟨hbk, ha1, ha2, trivial⟩ rfl ?_
            refine T_all (rs := [13]) (by kernel_rfl) rfl (all1 (O_one rfl ?_))
            refine L_alloc (cs := [.slice none 0 0, .int .i64 0, .bool false]) zer96 rfl rfl ?_
            intro g5 w10 eg3 hb6 hs9 hz7
            have ge3 : w.heap.size ≤ g5 := eg_ge hB eg3
            have lt4 : g1 < g5 := lt_of_eg hbk.lt eg3
            have lt5 : g2 < g5 := lt_of_eg (at_lt ha1) eg3
            have lt6 : g3 < g5 := lt_of_eg (at_lt ha2) eg3
            replace hB := gb_tr hB hs9
            replace hS := hS.gb hs9
            replace hD := hD.gb hs9
            replace hV := hV.gb hs9
            replace hW := hW.gb hs9
            replace hbk := hbk.gb hs9
            replace hL := hL.gb hs9
            replace ha1 := At.gb ha1 hs9 (by simp)
            replace ha2 := At.gb ha2 hs9 (by simp)
            refine L_nil (N_then ⟨fun hN_ => ⟨hbk, ha1, ha2, trivial⟩, ?_⟩)
            refine T_all (rs := [14]) (by kernel_rfl) rfl (all1 (O_one rfl ?_))
            refine L_stA (vs := [.slice A_2 bz.l.length c_2, .int .i64 bz.syn, .bool bz.has]) rfl rfl rfl sz96 rfl hb6 rfl ?_
            intro w11 hb7 hs10 hz8
            replace hB := gb_trg hB hs10 ge3
            replace hS := hS.old hs10 ge3
            replace hD := hD.old hs10 ge3
            replace hV := hV.old hs10 ge3
            replace hW := hW.old hs10 ge3
            replace hbk := hbk.grown hs10 (ne_lt lt4)
            replace hL := hL.other hb6 rfl rfl hs10
            replace ha1 := At.gb ha1 hs10 (ne_lt lt5)
            replace ha2 := At.gb ha2 hs10 (ne_lt lt6)
            refine L_nil (N_then ⟨fun hN_ => ⟨hbk, ha1, ha2, trivial⟩, ?_⟩)
            refine T_takeA (i := 15) rfl (by kernel_rfl) (by kernel_rfl) (by kernel_rfl) (by kernel_rfl) (Y_of (fun _ ⟨hbk, ha1, ha2, _⟩ => R_assign rfl)) ⟨hbk, ha1, ha2, trivial⟩ rfl ?_
            refine T_done (by kernel_rfl) (CalmE.normal ?_)
            refine N_then (C_seq (C_seq (C_reg rfl ?_)))
            refine L_run (R_move rfl) rfl ?_
            refine L_run (R_not rfl) rfl ?_
            refine L_nil (N_then (C_condT rfl rfl (C_seq (C_reg rfl ?_))))
            refine L_run (R_move rfl) rfl ?_
            refine L_run (R_assign rfl) rfl ?_
            refine L_nil (N_then (C_ret (R_then (R_in (R_then (R_then (R_in (R_then ?_))))))))
            refine ret1 Try.results16 rfl ?_
            have hR_ : Rb l ev = (i, (b, lost)) := by rw [← hres, resB_no hli hlj h3]
            have ea_ : atI l ev = (i : Int) := by unfold atI; rw [hR_]; exact if_pos (show i < _ by omega)
            exact ⟨hB, by rw [ea_]⟩
        · refine L_alloc (cs := [.slice none 0 0, .int .i64 0, .bool false]) zer96 rfl rfl ?_
          intro g6 w12 eg4 hb8 hs11 hz9
          have ge4 : w.heap.size ≤ g6 := eg_ge hB eg4
          have lt7 : g1 < g6 := lt_of_eg hbk.lt eg4
          have lt8 : g2 < g6 := lt_of_eg (at_lt ha1) eg4
          have lt9 : g3 < g6 := lt_of_eg (at_lt ha2) eg4
          replace hB := gb_tr hB hs11
          replace hS := hS.gb hs11
          replace hD := hD.gb hs11
          replace hV := hV.gb hs11
          replace hW := hW.gb hs11
          replace hbk := hbk.gb hs11
          replace hL := hL.gb hs11
          replace ha1 := At.gb ha1 hs11 (by simp)
          replace ha2 := At.gb ha2 hs11 (by simp)
          refine L_nil (N_then ⟨fun hN_ => ⟨hbk, ha1, ha2, trivial⟩, ?_⟩)
          refine T_all (rs := [9]) (by kernel_rfl) rfl (all1 (O_one rfl ?_))
          by_cases h4 : okB b (l[i]) (ev[i])
          · refine L_call rfl cb37 (next39_y h4 (Sli.zero hL) (DeepO.gb hDO hB).top hgb (by omega) hlen (Sli.any (hD.getO (i := i) hli)) (Sli.any (hW.getP (i := i) hlj)) (few_30 hf hli) (Nat.le_trans (hpr _ (List.getElem_mem hlj)) (by decide))) rfl ?_
            rintro _ w13 ⟨hs12, A_3, c_3, rfl, hS_3, hcl3⟩
            replace hB := gb_tr hB hs12
            replace hS := hS.gb hs12
            replace hD := hD.gb hs12
            replace hV := hV.gb hs12
            replace hW := hW.gb hs12
            replace hbk := hbk.gb hs12
            replace hL := hL.gb hs12
            replace ha1 := At.gb ha1 hs12 (by simp)
            replace ha2 := At.gb ha2 hs12 (by simp)
            replace hb8 := hb8.gb hs12
            have hnx2_ := (hgb.nxt (few_30 hf hli) h4).2.1
            refine L_nil (N_then ⟨fun hN_ => ⟨hbk, ha1, ha2, trivial⟩, ?_⟩)
            refine T_takeA (i := 10) rfl (by kernel_rfl) (by kernel_rfl) (by kernel_rfl) (by kernel_rfl) (Y_of (fun _ ⟨hbk, ha1, ha2, _⟩ => R_move rfl)) ⟨hbk, ha1, ha2, trivial⟩ rfl ?_
            refine T_takeA (i := 11) rfl (by kernel_rfl) (by kernel_rfl) (by kernel_rfl) (by kernel_rfl) (Y_of (fun _ ⟨hbk, ha1, ha2, _⟩ => R_extract rfl rfl)) ⟨hbk, ha1, ha2, trivial⟩ rfl ?_
            refine T_takeA (i := 12) rfl (by kernel_rfl) (by kernel_rfl) (by kernel_rfl) (by kernel_rfl) (Y_of (fun _ ⟨hbk, ha1, ha2, _⟩ => R_extract rfl rfl)) ⟨hbk, ha1, ha2, trivial⟩ rfl ?_
            refine T_all (rs := [14]) (by kernel_rfl) rfl (all1 (O_one rfl ?_))
            refine L_stA (vs := [.slice A_3 ((nxt b (l[i]) (ev[i])).l.length) c_3, .int .i64 ((nxt b (l[i]) (ev[i])).syn), .bool ((nxt b (l[i]) (ev[i])).has)]) rfl rfl rfl sz96 rfl hb8 rfl ?_
            intro w14 hb9 hs13 hz10
            replace hB := gb_trg hB hs13 ge4
            replace hS := hS.old hs13 ge4
            replace hD := hD.old hs13 ge4
            replace hV := hV.old hs13 ge4
            replace hW := hW.old hs13 ge4
            replace hbk := hbk.grown hs13 (ne_lt lt7)
            replace hL := hL.other hb8 rfl rfl hs13
            replace ha1 := At.gb ha1 hs13 (ne_lt lt8)
            replace ha2 := At.gb ha2 hs13 (ne_lt lt9)
            replace hS_3 := hS_3.other hb8 rfl rfl hs13
            refine L_nil (N_then ⟨fun hN_ => ⟨hbk, ha1, ha2, trivial⟩, ?_⟩)
            refine T_takeA (i := 15) rfl (by kernel_rfl) (by kernel_rfl) (by kernel_rfl) (by kernel_rfl) (Y_of (fun _ ⟨hbk, ha1, ha2, _⟩ => R_assign rfl)) ⟨hbk, ha1, ha2, trivial⟩ rfl ?_
            refine T_done (by kernel_rfl) (CalmE.normal ?_)
            refine N_then (C_seq (C_seq (C_reg rfl ?_)))
            refine L_run (R_move rfl) rfl ?_
            refine L_run (R_not rfl) rfl ?_
            refine L_nil (N_then (C_condF rfl rfl (C_skip (N_then (C_reg rfl ?_)))))
            refine L_run (R_loadA (vs := [.slice A_3 ((nxt b (l[i]) (ev[i])).l.length) c_3, .int .i64 ((nxt b (l[i]) (ev[i])).syn), .bool ((nxt b (l[i]) (ev[i])).has)]) rfl agg96 (At.pre (hb9.at_ 0) rfl) rfl) rfl ?_
            refine L_stA (vs := [.slice A_3 ((nxt b (l[i]) (ev[i])).l.length) c_3, .int .i64 ((nxt b (l[i]) (ev[i])).syn), .bool ((nxt b (l[i]) (ev[i])).has)]) rfl rfl rfl sz96 rfl hbk rfl ?_
            intro w15 hb10 hs14 hz11
            replace hB := gb_trg hB hs14 ge1
            replace hS := hS.old hs14 ge1
            replace hD := hD.old hs14 ge1
            replace hV := hV.old hs14 ge1
            replace hW := hW.old hs14 ge1
            replace hL := hL.other hbk rfl rfl hs14
            replace hb9 := hb9.grown hs14 (ne_gt lt7)
            replace hS_3 := hS_3.other hbk rfl rfl hs14
            refine L_nil (N_in (N_then (C_reg rfl ?_)))
            refine L_run (R_move rfl) rfl ?_
            refine L_run (R_add64 rfl rfl (by omega)) rfl ?_
            refine L_run (R_assign rfl) rfl ?_
            refine L_nil (N_then ?_)
            exact ⟨(l.zip ev).length - (i + 1), by omega, _, A_3, c_3, (nxt b (l[i]) (ev[i])), (lostN b (l[i]) (ev[i]) lost), (i + 1), w15.heap.size, Ac_frg ⟨rfl, rfl, rfl, rfl, (agr rfl (by first | rfl | (congr 1; omega) | (congr 1; simp; done) | (congr 1; simp only [IntKind.wrap_u64, IntKind.wrap_i64, IntKind.wrap_u8]; omega) | (congr 1 <;> omega))), trivial⟩, hB, hS, hD, hV, hW, hb10, (Sli.zero hS_3), (by omega), (by rw [← resB_go hli hlj h4]; exact hres), (hgb.nxt (few_30 hf hli) h4), hcl3, (nxt_deep hDO (hD0.getO hli)), (Nat.le_trans lostN_len (Nat.succ_le_succ hlo_)), rfl⟩
          · refine L_call rfl cb37 (next39_x h4 (Sli.zero hL) (DeepO.gb hDO hB).top hgb (by omega) hlen (Sli.any (hD.getO (i := i) hli)) (Sli.any (hW.getP (i := i) hlj)) (few_30 hf hli) (Nat.le_trans (hpr _ (List.getElem_mem hlj)) (by decide))) rfl ?_
            rintro _ w16 ⟨hs15, A_4, c_4, bz, rfl⟩
            replace hB := gb_tr hB hs15
            replace hS := hS.gb hs15
            replace hD := hD.gb hs15
            replace hV := hV.gb hs15
            replace hW := hW.gb hs15
            replace hbk := hbk.gb hs15
            replace hL := hL.gb hs15
            replace ha1 := At.gb ha1 hs15 (by simp)
            replace ha2 := At.gb ha2 hs15 (by simp)
            replace hb8 := hb8.gb hs15
            refine L_nil (N_then ⟨fun hN_ => ⟨hbk, ha1, ha2, trivial⟩, ?_⟩)
            refine T_takeA (i := 10) rfl (by kernel_rfl) (by kernel_rfl) (by kernel_rfl) (by kernel_rfl) (Y_of (fun _ ⟨hbk, ha1, ha2, _⟩ => R_move rfl)) ⟨hbk, ha1, ha2, trivial⟩ rfl ?_
            refine T_takeA (i := 11) rfl (by kernel_rfl) (by kernel_rfl) (by kernel_rfl) (by kernel_rfl) (Y_of (fun _ ⟨hbk, ha1, ha2, _⟩ => R_extract rfl rfl)) ⟨hbk, ha1, ha2, trivial⟩ rfl ?_
            refine T_takeA (i := 12) rfl (by kernel_rfl) (by kernel_rfl) (by kernel_rfl) (by kernel_rfl) (Y_of (fun _ ⟨hbk, ha1, ha2, _⟩ => R_extract rfl rfl)) ⟨hbk, ha1, ha2, trivial⟩ rfl ?_
            refine T_all (rs := [14]) (by kernel_rfl) rfl (all1 (O_one rfl ?_))
            refine L_stA (vs := [.slice A_4 bz.l.length c_4, .int .i64 bz.syn, .bool bz.has]) rfl rfl rfl sz96 rfl hb8 rfl ?_
            intro w17 hb11 hs16 hz12
            replace hB := gb_trg hB hs16 ge4
            replace hS := hS.old hs16 ge4
            replace hD := hD.old hs16 ge4
            replace hV := hV.old hs16 ge4
            replace hW := hW.old hs16 ge4
            replace hbk := hbk.grown hs16 (ne_lt lt7)
            replace hL := hL.other hb8 rfl rfl hs16
            replace ha1 := At.gb ha1 hs16 (ne_lt lt8)
            replace ha2 := At.gb ha2 hs16 (ne_lt lt9)
            refine L_nil (N_then ⟨fun hN_ => ⟨hbk, ha1, ha2, trivial⟩, ?_⟩)
            refine T_takeA (i := 15) rfl (by kernel_rfl) (by kernel_rfl) (by kernel_rfl) (by kernel_rfl) (Y_of (fun _ ⟨hbk, ha1, ha2, _⟩ => R_assign rfl)) ⟨hbk, ha1, ha2, trivial⟩ rfl ?_
            refine T_done (by kernel_rfl) (CalmE.normal ?_)
            refine N_then (C_seq (C_seq (C_reg rfl ?_)))
            refine L_run (R_move rfl) rfl ?_
            refine L_run (R_not rfl) rfl ?_
            refine L_nil (N_then (C_condT rfl rfl (C_seq (C_reg rfl ?_))))
            refine L_run (R_move rfl) rfl ?_
            refine L_run (R_assign rfl) rfl ?_
            refine L_nil (N_then (C_ret (R_then (R_in (R_then (R_then (R_in (R_then ?_))))))))
            refine ret1 Try.results16 rfl ?_
            have hR_ : Rb l ev = (i, (b, lost)) := by rw [← hres, resB_no hli hlj h4]
            have ea_ : atI l ev = (i : Int) := by unfold atI; rw [hR_]; exact if_pos (show i < _ by omega)
            exact ⟨hB, by rw [ea_]⟩
      · refine C_exit (X_then (X_then (X_hit (N_then (C_seq (C_seq (C_reg rfl ?_)))))))
        refine L_run (R_move rfl) rfl ?_
        refine L_run (R_lenSl rfl slc39) rfl ?_
        refine L_run (R_move rfl) rfl ?_
        refine L_run (R_lenSl rfl slc40) rfl ?_
        refine L_run (R_eql rfl rfl) rfl ?_
        refine L_nil (N_then ?_)
        refine C_if rfl (fun h5 => ?_) (fun h5 => ?_)
        · refine C_seq (C_reg rfl ?_)
          refine L_run (R_assign rfl) rfl ?_
          refine L_nil (N_then (C_ret (R_then ?_)))
          refine ret1 Try.results16 rfl ?_
          have hR_ : Rb l ev = (i, (b, lost)) := by rw [← hres, resB_end (by omega)]
          have hi2_ : i = (l.zip ev).length := by omega
          have ea_ : atI l ev = -1 := by
            unfold atI
            rw [hR_, if_neg (show ¬ i < _ by omega)]
            first | (rw [if_pos (by omega)]; done) | (rw [if_neg (by omega)]; omega)
          exact ⟨hB, by rw [ea_]⟩
        · refine C_skip (N_then (C_seq (C_seq (C_reg rfl ?_))))
          refine L_run (R_move rfl) rfl ?_
          refine L_run (R_lenSl rfl slc39) rfl ?_
          refine L_run (R_move rfl) rfl ?_
          refine L_run (R_lenSl rfl slc40) rfl ?_
          refine L_run (R_lss rfl rfl) rfl ?_
          refine L_nil (N_then ?_)
          refine C_if rfl (fun h6 => ?_) (fun h6 => ?_)
          · refine C_seq (C_reg rfl ?_)
            refine L_run (R_move rfl) rfl ?_
            refine L_run (R_lenSl rfl slc39) rfl ?_
            refine L_run (R_assign rfl) rfl ?_
            refine L_nil (N_then (C_ret (R_then ?_)))
            refine ret1 Try.results16 rfl ?_
            have hR_ : Rb l ev = (i, (b, lost)) := by rw [← hres, resB_end (by omega)]
            have hi2_ : i = (l.zip ev).length := by omega
            have ea_ : atI l ev = (l.length : Int) := by
              unfold atI
              rw [hR_, if_neg (show ¬ i < _ by omega)]
              first | (rw [if_pos (by omega)]; done) | (rw [if_neg (by omega)]; omega)
            exact ⟨hB, by rw [ea_]⟩
          · refine C_skip (N_then (C_seq (C_reg rfl ?_)))
            refine L_run (R_move rfl) rfl ?_
            refine L_run (R_lenSl rfl slc40) rfl ?_
            refine L_run (R_assign rfl) rfl ?_
            refine L_nil (N_then (C_ret ?_))
            refine ret1 Try.results16 rfl ?_
            have hR_ : Rb l ev = (i, (b, lost)) := by rw [← hres, resB_end (by omega)]
            have hi2_ : i = (l.zip ev).length := by omega
            have ea_ : atI l ev = (ev.length : Int) := by
              unfold atI
              rw [hR_, if_neg (show ¬ i < _ by omega)]
              first | (rw [if_pos (by omega)]; done) | (rw [if_neg (by omega)]; omega)
            exact ⟨hB, by rw [ea_]⟩
    · refine L_no rfl rfl rfl (decide_eq_false h1) rfl ?_
      refine L_no rfl rfl rfl (decide_eq_false h1) rfl ?_
      refine L_no rfl rfl rfl (decide_eq_false h1) rfl ?_
      refine L_no rfl rfl rfl (decide_eq_false h1) rfl ?_
      refine L_run (R_pickF rfl (decide_eq_false h1) rfl) rfl ?_
      refine L_nil (N_then (C_condF rfl rfl (C_exit (X_then (X_then (X_hit (N_then (C_seq (C_seq (C_reg rfl ?_))))))))))
      refine L_run (R_move rfl) rfl ?_
      refine L_run (R_lenSl rfl slc39) rfl ?_
      refine L_run (R_move rfl) rfl ?_
      refine L_run (R_lenSl rfl slc40) rfl ?_
      refine L_run (R_eql rfl rfl) rfl ?_
      refine L_nil (N_then ?_)
      refine C_if rfl (fun h7 => ?_) (fun h7 => ?_)
      · refine C_seq (C_reg rfl ?_)
        refine L_run (R_assign rfl) rfl ?_
        refine L_nil (N_then (C_ret (R_then ?_)))
        refine ret1 Try.results16 rfl ?_
        have hR_ : Rb l ev = (i, (b, lost)) := by rw [← hres, resB_end (by omega)]
        have hi2_ : i = (l.zip ev).length := by omega
        have ea_ : atI l ev = -1 := by
          unfold atI
          rw [hR_, if_neg (show ¬ i < _ by omega)]
          first | (rw [if_pos (by omega)]; done) | (rw [if_neg (by omega)]; omega)
        exact ⟨hB, by rw [ea_]⟩
      · refine C_skip (N_then (C_seq (C_seq (C_reg rfl ?_))))
        refine L_run (R_move rfl) rfl ?_
        refine L_run (R_lenSl rfl slc39) rfl ?_
        refine L_run (R_move rfl) rfl ?_
        refine L_run (R_lenSl rfl slc40) rfl ?_
        refine L_run (R_lss rfl rfl) rfl ?_
        refine L_nil (N_then ?_)
        refine C_if rfl (fun h8 => ?_) (fun h8 => ?_)
        · refine C_seq (C_reg rfl ?_)
          refine L_run (R_move rfl) rfl ?_
          refine L_run (R_lenSl rfl slc39) rfl ?_
          refine L_run (R_assign rfl) rfl ?_
          refine L_nil (N_then (C_ret (R_then ?_)))
          refine ret1 Try.results16 rfl ?_
          have hR_ : Rb l ev = (i, (b, lost)) := by rw [← hres, resB_end (by omega)]
          have hi2_ : i = (l.zip ev).length := by omega
          have ea_ : atI l ev = (l.length : Int) := by
            unfold atI
            rw [hR_, if_neg (show ¬ i < _ by omega)]
            first | (rw [if_pos (by omega)]; done) | (rw [if_neg (by omega)]; omega)
          exact ⟨hB, by rw [ea_]⟩
        · refine C_skip (N_then (C_seq (C_reg rfl ?_)))
          refine L_run (R_move rfl) rfl ?_
          refine L_run (R_lenSl rfl slc40) rfl ?_
          refine L_run (R_assign rfl) rfl ?_
          refine L_nil (N_then (C_ret ?_))
          refine ret1 Try.results16 rfl ?_
          have hR_ : Rb l ev = (i, (b, lost)) := by rw [← hres, resB_end (by omega)]
          have hi2_ : i = (l.zip ev).length := by omega
          have ea_ : atI l ev = (ev.length : Int) := by
            unfold atI
            rw [hR_, if_neg (show ¬ i < _ by omega)]
            first | (rw [if_pos (by omega)]; done) | (rw [if_neg (by omega)]; omega)
          exact ⟨hB, by rw [ea_]⟩

theorem lost40_ok {w : World} {l : List StepD} {ev : List EvD} {A A2 : Option Addr} {c c2 : Nat} (hS0 : Sli 0 0 w.heap.size w A (fl encS l)) (hD0 : DeepS w.heap.size w l) (hV0 : Sli 0 0 w.heap.size w A2 (fl encEv ev)) (hW0 : DeepV w.heap.size w ev) (hf : FewSs l) (hev : ev.length ≤ 80) (hpr : ∀ x ∈ ev, x.prs.length ≤ 100) :
    Runs Try.prog 18 #[.slice A l.length c, .slice A2 ev.length c2] w (fun v_ w' => w.grownBy w' none ∧ ∃ A' c', v_ = .slice A' (Rb l ev).2.2.length c' ∧ World.ownsRow w' w.heap.size 3 1 (.slice A' (Rb l ev).2.2.length c') (Rb l ev).2.2.length (fl encZ (Rb l ev).2.2)) := by
  have hB := gb_refl w none
  have hS := hS0
  have hD := hD0
  have hV := hV0
  have hW := hW0
  have hf80 := hf.2
  have hz1 : (l.zip ev).length = min l.length ev.length := List.length_zip
  refine enter Try.func18 Try.ntmps18 rfl rfl ?_
  refine C_seq (C_reg rfl ?_)
  refine L_run (R_assign rfl) rfl ?_
  refine L_nil (N_then (C_seq (C_reg rfl ?_)))
  refine L_run (R_build (pv := [(2, .bool true)]) (cs := [.slice none 0 0, .int .i64 0, .bool true]) rfl (by kernel_rfl)) rfl ?_
  refine L_alloc (cs := [.slice none 0 0, .int .i64 0, .bool false]) zer96 rfl rfl ?_
  intro g1 w1 eg1 hb1 hs1 hz1
  have ge1 : w.heap.size ≤ g1 := eg_ge hB eg1
  replace hB := gb_tr hB hs1
  replace hS := hS.gb hs1
  replace hD := hD.gb hs1
  replace hV := hV.gb hs1
  replace hW := hW.gb hs1
  refine L_stA (vs := [.slice none 0 0, .int .i64 0, .bool true]) rfl rfl rfl sz96 rfl hb1 rfl ?_
  intro w2 hb2 hs2 hz2
  replace hB := gb_trg hB hs2 ge1
  replace hS := hS.old hs2 ge1
  replace hD := hD.old hs2 ge1
  replace hV := hV.old hs2 ge1
  replace hW := hW.old hs2 ge1
  refine L_nil (N_then (C_seq (C_reg rfl ?_)))
  refine L_run (R_assign rfl) rfl ?_
  refine L_nil (N_then (C_seq (C_seq (C_reg rfl ?_))))
  refine L_run (R_assign rfl) rfl ?_
  refine L_nil (N_then (C_block ?_))
  refine C_loop (fun m_ a_ w_ => ∃ (σ_ : Nat → Value) (Ab : Option Addr) (cb : Nat) (b : BkP) (lost : List Int) (i : Nat) (zz : Nat) (Ax : Option Addr) (cx : Nat), a_ = Ac 65 σ_ [] [(0, .slice A l.length c), (1, .slice A2 ev.length c2), (4, .slice none 0 0), (5, .pointer (some ⟨g1, 0, none⟩)), (6, .slice Ax lost.length cx), (7, .int .i64 (i : Int))] ∧ w.grownBy w_ none ∧ Sli 0 0 w.heap.size w_ A (fl encS l) ∧ DeepS w.heap.size w_ l ∧ Sli 0 0 w.heap.size w_ A2 (fl encEv ev) ∧ DeepV w.heap.size w_ ev ∧ Blk w_ g1 96 [.slice Ab b.l.length cb, .int .i64 b.syn, .bool b.has] ∧ Sli 80 0 zz w_ Ab (fl encO2 b.l) ∧ World.ownsRow w_ w.heap.size 3 1 (.slice Ax lost.length cx) lost.length (fl encZ lost) ∧ (i ≤ (l.zip ev).length) ∧ (resB ((l.zip ev).drop i) (b, lost) i = Rb l ev) ∧ (GoodB i b) ∧ (b.l.length ≤ cb) ∧ (DeepO w.heap.size w b.l) ∧ (lost.length ≤ i) ∧ (l.zip ev).length - i = m_) ((l.zip ev).length - 0) ?_ ?_
  · exact ⟨_, none, 0, (⟨[], 0, true⟩ : BkP), [], 0, 0, none, 0, Ac_frg ⟨rfl, rfl, rfl, rfl, (agr rfl (by first | rfl | (congr 1; omega) | (congr 1; simp; done) | (congr 1; simp only [IntKind.wrap_u64, IntKind.wrap_i64, IntKind.wrap_u8]; omega) | (congr 1 <;> omega))), (agr rfl (by first | rfl | (congr 1; omega) | (congr 1; simp; done) | (congr 1; simp only [IntKind.wrap_u64, IntKind.wrap_i64, IntKind.wrap_u8]; omega) | (congr 1 <;> omega))), trivial⟩, hB, hS, hD, hV, hW, hb2, Sli.nil, (own_nil _ _ _ _), (Nat.zero_le _), (by rw [List.drop_zero]), ⟨Int.le_refl _, Nat.zero_le _, fun x hx => by cases hx⟩, (Nat.zero_le _), DeepO.nil, (Nat.zero_le _), rfl⟩
  · clear hB
    clear hS hD hV hW hb2
    rintro m_ a_ w3 ⟨σ_, Ab, cb, b, lost, i, zz, Ax, cx, rfl, hB, hS, hD, hV, hW, hbk, hL, hX, hi_, hres, hgb, hlen, hDO, hlo_, rfl⟩
    refine C_seq (C_seq (C_reg rfl ?_))
    refine L_run (R_move rfl) rfl ?_
    refine L_run (R_move rfl) rfl ?_
    refine L_run (R_lenSl rfl slc39) rfl ?_
    refine L_run (R_lss rfl rfl) rfl ?_
    refine L_run (R_move rfl) rfl ?_
    refine L_splitD (p := (i : Int) < (l.length : Int)) (fun h1 => ?_) (fun h1 => ?_)
    · refine L_yes rfl rfl rfl (decide_eq_true h1) ?_
      refine L_run (R_move rfl) rfl ?_
      refine L_yes rfl rfl rfl (decide_eq_true h1) ?_
      refine L_run (R_move rfl) rfl ?_
      refine L_yes rfl rfl rfl (decide_eq_true h1) ?_
      refine L_run (R_lenSl rfl slc40) rfl ?_
      refine L_yes rfl rfl rfl (decide_eq_true h1) ?_
      refine L_run (R_lss rfl rfl) rfl ?_
      refine L_run (R_pickT rfl (decide_eq_true h1) rfl) rfl ?_
      refine L_nil (N_then ?_)
      refine C_if rfl (fun h2 => ?_) (fun h2 => ?_)
      · have hli : i < l.length := by omega
        have hlj : i < ev.length := by omega
        have hgb2 := hgb.2.1
        refine C_skip (N_then (C_seq (C_block (C_seq ?_))))
        refine C_draw2 rfl mix ?_
        intro w4 hs3 hz3
        replace hB := gb_tr hB hs3
        replace hS := hS.gb hs3
        replace hD := hD.gb hs3
        replace hV := hV.gb hs3
        replace hW := hW.gb hs3
        replace hbk := hbk.gb hs3
        replace hL := hL.gb hs3
        replace hX := own_gb hX hs3
        have hl1 : i < l.length := by first | omega | (simp; omega)
        obtain ⟨g2, o1, r1, eA1, er1, ha1⟩ := Sli.place' (xs := l) (i := i) EncS hS hl1 rfl
        have hl2 : i < ev.length := by first | omega | (simp; omega)
        obtain ⟨g3, o2, r2, eA2, er2, ha2⟩ := Sli.place' (xs := ev) (i := i) EncEv hV hl2 rfl
        refine ⟨fun W_ => Blk W_ g1 96 [.slice Ab b.l.length cb, .int .i64 b.syn, .bool b.has] ∧ At W_ g2 r1 [.int .i64 ((l[i]).p.kind), .int .i64 ((l[i]).p.n), .slice ((l[i]).oa) ((l[i]).p.ops.length) ((l[i]).oc), .slice ((l[i]).ka) ((l[i]).p.keep.length) ((l[i]).kc), .int .i64 ((l[i]).p.torn), .int .i64 ((l[i]).p.cut)] ∧ At W_ g3 r2 [.int .i64 ((ev[i]).kind), .int .i64 ((ev[i]).e), .int .i64 ((ev[i]).bat), .int .i64 ((ev[i]).syn), .slice ((ev[i]).pa) ((ev[i]).prs.length) ((ev[i]).pc)] ∧ True, [0, 1, 2, 3, 4, 5, 6, 7, 8, 10, 11, 12, 15], ?_⟩
        refine T_takeA (i := 0) rfl (by kernel_rfl) (by kernel_rfl) (by kernel_rfl) (by kernel_rfl) (Y_of (fun _ ⟨hbk, ha1, ha2, _⟩ => R_loadA (vs := [.slice Ab b.l.length cb, .int .i64 b.syn, .bool b.has]) rfl agg96 (At.pre (hbk.at_ 0) rfl) rfl)) ⟨hbk, ha1, ha2, trivial⟩ rfl ?_
        refine T_takeA (i := 1) rfl (by kernel_rfl) (by kernel_rfl) (by kernel_rfl) (by kernel_rfl) (Y_of (fun _ ⟨hbk, ha1, ha2, _⟩ => R_move rfl)) ⟨hbk, ha1, ha2, trivial⟩ rfl ?_
        refine T_takeA (i := 2) rfl (by kernel_rfl) (by kernel_rfl) (by kernel_rfl) (by kernel_rfl) (Y_of (fun _ ⟨hbk, ha1, ha2, _⟩ => R_move rfl)) ⟨hbk, ha1, ha2, trivial⟩ rfl ?_
        refine T_takeA (i := 3) rfl (by kernel_rfl) (by kernel_rfl) (by kernel_rfl) (by kernel_rfl) (Y_of (fun _ ⟨hbk, ha1, ha2, _⟩ => R_indexE rfl rfl (by first | rfl | omega) slc39 hl1 eA1 er1)) ⟨hbk, ha1, ha2, trivial⟩ rfl ?_
        refine T_takeA (i := 4) rfl (by kernel_rfl) (by kernel_rfl) (by kernel_rfl) (by kernel_rfl) (Y_of (fun _ ⟨hbk, ha1, ha2, _⟩ => R_loadA (vs := [.int .i64 ((l[i]).p.kind), .int .i64 ((l[i]).p.n), .slice ((l[i]).oa) ((l[i]).p.ops.length) ((l[i]).oc), .slice ((l[i]).ka) ((l[i]).p.keep.length) ((l[i]).kc), .int .i64 ((l[i]).p.torn), .int .i64 ((l[i]).p.cut)]) rfl agg86 (At.pre ha1 rfl) rfl)) ⟨hbk, ha1, ha2, trivial⟩ rfl ?_
        refine T_takeA (i := 5) rfl (by kernel_rfl) (by kernel_rfl) (by kernel_rfl) (by kernel_rfl) (Y_of (fun _ ⟨hbk, ha1, ha2, _⟩ => R_move rfl)) ⟨hbk, ha1, ha2, trivial⟩ rfl ?_
        refine T_takeA (i := 6) rfl (by kernel_rfl) (by kernel_rfl) (by kernel_rfl) (by kernel_rfl) (Y_of (fun _ ⟨hbk, ha1, ha2, _⟩ => R_move rfl)) ⟨hbk, ha1, ha2, trivial⟩ rfl ?_
        refine T_takeA (i := 7) rfl (by kernel_rfl) (by kernel_rfl) (by kernel_rfl) (by kernel_rfl) (Y_of (fun _ ⟨hbk, ha1, ha2, _⟩ => R_indexE rfl rfl (by first | rfl | omega) slc40 hl2 eA2 er2)) ⟨hbk, ha1, ha2, trivial⟩ rfl ?_
        refine T_takeA (i := 8) rfl (by kernel_rfl) (by kernel_rfl) (by kernel_rfl) (by kernel_rfl) (Y_of (fun _ ⟨hbk, ha1, ha2, _⟩ => R_loadA (vs := [.int .i64 ((ev[i]).kind), .int .i64 ((ev[i]).e), .int .i64 ((ev[i]).bat), .int .i64 ((ev[i]).syn), .slice ((ev[i]).pa) ((ev[i]).prs.length) ((ev[i]).pc)]) rfl agg44 (At.pre ha2 rfl) rfl)) ⟨hbk, ha1, ha2, trivial⟩ rfl ?_
        refine T_all (rs := [9, 13]) (by kernel_rfl) rfl (all2 (O_one rfl ?_) (O_one rfl ?_))
        · by_cases h3 : okB b (l[i]) (ev[i])
          · refine L_call rfl cb37 (next39_y h3 (Sli.zero hL) (DeepO.gb hDO hB).top hgb (by omega) hlen (Sli.any (hD.getO (i := i) hli)) (Sli.any (hW.getP (i := i) hlj)) (few_30 hf hli) (Nat.le_trans (hpr _ (List.getElem_mem hlj)) (by decide))) rfl ?_
            rintro _ w5 ⟨hs4, A_1, c_1, rfl, hS_1, hcl1⟩
            replace hB := gb_tr hB hs4
            replace hS := hS.gb hs4
            replace hD := hD.gb hs4
            replace hV := hV.gb hs4
            replace hW := hW.gb hs4
            replace hbk := hbk.gb hs4
            replace hL := hL.gb hs4
            replace hX := own_gb hX hs4
            replace ha1 := At.gb ha1 hs4 (by simp)
            replace ha2 := At.gb ha2 hs4 (by simp)
            have hnx2_ := (hgb.nxt (few_30 hf hli) h3).2.1
            refine L_nil (N_then ⟨fun hN_ => ⟨hbk, ha1, ha2, trivial⟩, ?_⟩)
            refine T_takeA (i := 10) rfl (by kernel_rfl) (by kernel_rfl) (by kernel_rfl) (by kernel_rfl) (Y_of (fun _ ⟨hbk, ha1, ha2, _⟩ => R_move rfl)) ⟨hbk, ha1, ha2, trivial⟩ rfl ?_
            refine T_takeA (i := 11) rfl (by kernel_rfl) (by kernel_rfl) (by kernel_rfl) (by kernel_rfl) (Y_of (fun _ ⟨hbk, ha1, ha2, _⟩ => R_extract rfl rfl)) ⟨hbk, ha1, ha2, trivial⟩ rfl ?_
            refine T_takeA (i := 12) rfl (by kernel_rfl) (by kernel_rfl) (by kernel_rfl) (by kernel_rfl) (Y_of (fun _ ⟨hbk, ha1, ha2, _⟩ => R_extract rfl rfl)) ⟨hbk, ha1, ha2, trivial⟩ rfl ?_
            refine T_all (rs := [13]) (by kernel_rfl) rfl (all1 (O_one rfl ?_))
            refine L_alloc (cs := [.slice none 0 0, .int .i64 0, .bool false]) zer96 rfl rfl ?_
            intro g4 w6 eg2 hb3 hs5 hz4
            have ge2 : w.heap.size ≤ g4 := eg_ge hB eg2
            have lt1 : g1 < g4 := lt_of_eg hbk.lt eg2
            have lt2 : g2 < g4 := lt_of_eg (at_lt ha1) eg2
            have lt3 : g3 < g4 := lt_of_eg (at_lt ha2) eg2
            replace hB := gb_tr hB hs5
            replace hS := hS.gb hs5
            replace hD := hD.gb hs5
            replace hV := hV.gb hs5
            replace hW := hW.gb hs5
            replace hbk := hbk.gb hs5
            replace hL := hL.gb hs5
            replace hX := own_gb hX hs5
            replace ha1 := At.gb ha1 hs5 (by simp)
            replace ha2 := At.gb ha2 hs5 (by simp)
            replace hS_1 := hS_1.gb hs5
            refine L_nil (N_then ⟨fun hN_ => ⟨hbk, ha1, ha2, trivial⟩, ?_⟩)
            refine T_all (rs := [14]) (by kernel_rfl) rfl (all1 (O_one rfl ?_))
            refine L_stA (vs := [.slice A_1 ((nxt b (l[i]) (ev[i])).l.length) c_1, .int .i64 ((nxt b (l[i]) (ev[i])).syn), .bool ((nxt b (l[i]) (ev[i])).has)]) rfl rfl rfl sz96 rfl hb3 rfl ?_
            intro w7 hb4 hs6 hz5
            replace hB := gb_trg hB hs6 ge2
            replace hS := hS.old hs6 ge2
            replace hD := hD.old hs6 ge2
            replace hV := hV.old hs6 ge2
            replace hW := hW.old hs6 ge2
            replace hbk := hbk.grown hs6 (ne_lt lt1)
            replace hL := hL.other hb3 rfl rfl hs6
            replace hX := own_other hX hb3 rfl hs6
            replace ha1 := At.gb ha1 hs6 (ne_lt lt2)
            replace ha2 := At.gb ha2 hs6 (ne_lt lt3)
            replace hS_1 := hS_1.other hb3 rfl rfl hs6
            refine L_nil (N_then ⟨fun hN_ => ⟨hbk, ha1, ha2, trivial⟩, ?_⟩)
            refine T_takeA (i := 15) rfl (by kernel_rfl) (by kernel_rfl) (by kernel_rfl) (by kernel_rfl) (Y_of (fun _ ⟨hbk, ha1, ha2, _⟩ => R_assign rfl)) ⟨hbk, ha1, ha2, trivial⟩ rfl ?_
            refine T_done (by kernel_rfl) (CalmE.normal ?_)
            refine N_then (C_seq (C_seq (C_reg rfl ?_)))
            refine L_run (R_move rfl) rfl ?_
            refine L_run (R_not rfl) rfl ?_
            refine L_nil (N_then (C_condF rfl rfl (C_skip (N_then (C_seq (C_seq (C_reg rfl ?_)))))))
            refine L_run (R_move rfl) rfl ?_
            refine L_run (R_move rfl) rfl ?_
            have hl3 : i < l.length := by first | omega | (simp; omega)
            refine T_index (xs := l) (i := i) EncS rfl rfl (by first | rfl | omega) slc39 hl3 hS rfl ?_
            intro g5 o3 ha3
            refine L_run (R_field rfl fld86_0 rfl) rfl ?_
            refine L_run (R_load1 rfl scl3 (ha3 0 _ rfl)) rfl ?_
            refine L_run (R_eql rfl rfl) rfl ?_
            refine L_run (R_move rfl) rfl ?_
            refine L_splitD (p := (l[i]).p.kind = 4) (fun h4 => ?_) (fun h4 => ?_)
            · refine L_yes rfl rfl rfl (decide_eq_true h4) ?_
              refine L_run (R_move rfl) rfl ?_
              refine L_yes rfl rfl rfl (decide_eq_true h4) ?_
              refine L_run (R_move rfl) rfl ?_
              refine L_yes rfl rfl rfl (decide_eq_true h4) ?_
              have hl4 : i < ev.length := by first | omega | (simp; omega)
              refine T_index (xs := ev) (i := i) EncEv rfl rfl (by first | rfl | omega) slc40 hl4 hV rfl ?_
              intro g6 o4 ha4
              refine L_yes rfl rfl rfl (decide_eq_true h4) ?_
              refine L_run (R_field rfl fld44_1 rfl) rfl ?_
              refine L_yes rfl rfl rfl (decide_eq_true h4) ?_
              refine L_run (R_load1 rfl scl42 (ha4 1 _ rfl)) rfl ?_
              refine L_yes rfl rfl rfl (decide_eq_true h4) ?_
              refine L_run (R_eql rfl rfl) rfl ?_
              refine L_run (R_pickT rfl (decide_eq_true h4) rfl) rfl ?_
              refine L_nil (N_then ?_)
              refine C_if rfl (fun h5 => ?_) (fun h5 => ?_)
              · refine C_reg rfl ?_
                refine L_run (R_move rfl) rfl ?_
                refine L_run (R_field (r := 0) rfl fld96_0 rfl) rfl ?_
                refine L_run (R_load1 rfl scl90 (hbk.cell (i := 0) rfl)) rfl ?_
                refine L_run (R_lenSl rfl slc90) rfl ?_
                refine L_run (R_field (r := 0) rfl fld96_0 rfl) rfl ?_
                refine L_run (R_load1 rfl scl90 (hb4.cell (i := 0) rfl)) rfl ?_
                refine L_run (R_lenSl rfl slc90) rfl ?_
                refine L_run (R_sub64 rfl rfl (by omega)) rfl ?_
                refine L_buildSlice (pv := [(0, .int .i64 ((b.l.length : Int) - ((nxt b (l[i]) (ev[i])).l.length : Int)))]) (cs := [.int .i64 ((b.l.length : Int) - ((nxt b (l[i]) (ev[i])).l.length : Int))]) slc51 zer3 rfl rfl (by kernel_rfl) rfl ?_
                intro g7 w8 eg3 hb5 hs7 hz6
                have ge3 : w.heap.size ≤ g7 := eg_ge hB eg3
                have lt4 : g1 < g7 := lt_of_eg hbk.lt eg3
                have lt5 : g4 < g7 := lt_of_eg hb4.lt eg3
                have lt6 : g2 < g7 := lt_of_eg (at_lt ha1) eg3
                have lt7 : g3 < g7 := lt_of_eg (at_lt ha2) eg3
                have lt8 : g5 < g7 := lt_of_eg (at_lt ha3) eg3
                have lt9 : g6 < g7 := lt_of_eg (at_lt ha4) eg3
                have hap1 : ∀ k_, (Value.slice Ax lost.length cx).ownBlock = some k_ → k_ ≠ g7 := fun k_ hk => by have h_ := (World.ownsRow.lt hX k_ hk).2; omega
                replace hB := gb_tr hB hs7
                replace hS := hS.gb hs7
                replace hD := hD.gb hs7
                replace hV := hV.gb hs7
                replace hW := hW.gb hs7
                replace hbk := hbk.gb hs7
                replace hL := hL.gb hs7
                replace hX := own_gb hX hs7
                replace ha1 := At.gb ha1 hs7 (by simp)
                replace ha2 := At.gb ha2 hs7 (by simp)
                replace hS_1 := hS_1.gb hs7
                replace hb4 := hb4.gb hs7
                replace ha3 := At.gb ha3 hs7 (by simp)
                replace ha4 := At.gb ha4 hs7 (by simp)
                refine T_append (xs := lost) (ys := [((b.l.length : Int) - ((nxt b (l[i]) (ev[i])).l.length : Int))]) EncZ slc51 rfl rfl hX (Blk.sli (m := 0) hb5) (by simp; omega) (by have := hB.size; omega) rfl ?_
                intro A_2 c_2 w9 ho1 hs8 hat1
                replace hB := gb_tro hB hX hs8 (Nat.le_refl _)
                replace hS := hS.grown hs8 (fun k hk => .inr (Nat.le_trans (Nat.le_refl _) (World.ownsRow.lt hX k hk).1))
                replace hD := hD.own hX (Nat.le_refl _) hs8
                replace hV := hV.grown hs8 (fun k hk => .inr (Nat.le_trans (Nat.le_refl _) (World.ownsRow.lt hX k hk).1))
                replace hW := hW.own hX (Nat.le_refl _) hs8
                replace hbk := blk_own hbk hX rfl hs8
                replace hL := hL.otherO hX rfl rfl hs8
                replace hS_1 := hS_1.otherO hX rfl rfl hs8
                replace hb4 := blk_own hb4 hX rfl hs8
                refine L_run (R_assign rfl) rfl ?_
                refine L_nil (N_then (C_reg rfl ?_))
                refine L_run (R_loadA (vs := [.slice A_1 ((nxt b (l[i]) (ev[i])).l.length) c_1, .int .i64 ((nxt b (l[i]) (ev[i])).syn), .bool ((nxt b (l[i]) (ev[i])).has)]) rfl agg96 (At.pre (hb4.at_ 0) rfl) rfl) rfl ?_
                refine L_stA (vs := [.slice A_1 ((nxt b (l[i]) (ev[i])).l.length) c_1, .int .i64 ((nxt b (l[i]) (ev[i])).syn), .bool ((nxt b (l[i]) (ev[i])).has)]) rfl rfl rfl sz96 rfl hbk rfl ?_
                intro w10 hb6 hs9 hz7
                replace hB := gb_trg hB hs9 ge1
                replace hS := hS.old hs9 ge1
                replace hD := hD.old hs9 ge1
                replace hV := hV.old hs9 ge1
                replace hW := hW.old hs9 ge1
                replace hL := hL.other hbk rfl rfl hs9
                replace hS_1 := hS_1.other hbk rfl rfl hs9
                replace hb4 := hb4.grown hs9 (ne_gt lt1)
                replace ho1 := own_other ho1 hbk rfl hs9
                refine L_nil (N_in (N_then (C_reg rfl ?_)))
                refine L_run (R_move rfl) rfl ?_
                refine L_run (R_add64 rfl rfl (by omega)) rfl ?_
                refine L_run (R_assign rfl) rfl ?_
                refine L_nil (N_then ?_)
                have et_ : (lostN b (l[i]) (ev[i]) lost) = lost ++ ([((b.l.length : Int) - ((nxt b (l[i]) (ev[i])).l.length : Int))]) := by
                  have hq_ := nxt_crash hgb.1 h3 (by omega) (by omega)
                  unfold lostN lostD
                  rw [if_pos (by omega), if_pos (by omega), ← hq_]
                exact ⟨(l.zip ev).length - (i + 1), by omega, _, A_1, c_1, (nxt b (l[i]) (ev[i])), (lostN b (l[i]) (ev[i]) lost), (i + 1), w10.heap.size, A_2, c_2, Ac_frg ⟨rfl, rfl, rfl, rfl, (agr rfl (by rw [et_])), (agr rfl (by first | rfl | (congr 1; omega) | (congr 1; simp; done) | (congr 1; simp only [IntKind.wrap_u64, IntKind.wrap_i64, IntKind.wrap_u8]; omega) | (congr 1 <;> omega))), trivial⟩, hB, hS, hD, hV, hW, hb6, (Sli.zero hS_1), (by rw [et_]; exact (own_lo ho1 (Nat.le_refl _))), (by omega), (by rw [← resB_go hli hlj h3]; exact hres), (hgb.nxt (few_30 hf hli) h3), hcl1, (nxt_deep hDO (hD0.getO hli)), (Nat.le_trans lostN_len (Nat.succ_le_succ hlo_)), rfl⟩
              · refine C_skip (N_then (C_reg rfl ?_))
                refine L_run (R_loadA (vs := [.slice A_1 ((nxt b (l[i]) (ev[i])).l.length) c_1, .int .i64 ((nxt b (l[i]) (ev[i])).syn), .bool ((nxt b (l[i]) (ev[i])).has)]) rfl agg96 (At.pre (hb4.at_ 0) rfl) rfl) rfl ?_
                refine L_stA (vs := [.slice A_1 ((nxt b (l[i]) (ev[i])).l.length) c_1, .int .i64 ((nxt b (l[i]) (ev[i])).syn), .bool ((nxt b (l[i]) (ev[i])).has)]) rfl rfl rfl sz96 rfl hbk rfl ?_
                intro w11 hb7 hs10 hz8
                replace hB := gb_trg hB hs10 ge1
                replace hS := hS.old hs10 ge1
                replace hD := hD.old hs10 ge1
                replace hV := hV.old hs10 ge1
                replace hW := hW.old hs10 ge1
                replace hL := hL.other hbk rfl rfl hs10
                replace hX := own_other hX hbk rfl hs10
                replace hS_1 := hS_1.other hbk rfl rfl hs10
                replace hb4 := hb4.grown hs10 (ne_gt lt1)
                refine L_nil (N_in (N_then (C_reg rfl ?_)))
                refine L_run (R_move rfl) rfl ?_
                refine L_run (R_add64 rfl rfl (by omega)) rfl ?_
                refine L_run (R_assign rfl) rfl ?_
                refine L_nil (N_then ?_)
                have et_ : (lostN b (l[i]) (ev[i]) lost) = lost := by
                  unfold lostN lostD
                  by_cases he_ : (ev[i]).e = 0
                  · rw [if_pos he_, if_neg (show ¬ (l[i]).p.kind = 4 from fun q_ => by omega)]
                  · rw [if_neg he_]
                exact ⟨(l.zip ev).length - (i + 1), by omega, _, A_1, c_1, (nxt b (l[i]) (ev[i])), (lostN b (l[i]) (ev[i]) lost), (i + 1), w11.heap.size, Ax, cx, Ac_frg ⟨rfl, rfl, rfl, rfl, (agr rfl (by rw [et_])), (agr rfl (by first | rfl | (congr 1; omega) | (congr 1; simp; done) | (congr 1; simp only [IntKind.wrap_u64, IntKind.wrap_i64, IntKind.wrap_u8]; omega) | (congr 1 <;> omega))), trivial⟩, hB, hS, hD, hV, hW, hb7, (Sli.zero hS_1), (by rw [et_]; exact (own_lo hX (Nat.le_refl _))), (by omega), (by rw [← resB_go hli hlj h3]; exact hres), (hgb.nxt (few_30 hf hli) h3), hcl1, (nxt_deep hDO (hD0.getO hli)), (Nat.le_trans lostN_len (Nat.succ_le_succ hlo_)), rfl⟩
            · refine L_no rfl rfl rfl (decide_eq_false h4) rfl ?_
              refine L_no rfl rfl rfl (decide_eq_false h4) rfl ?_
              refine L_no rfl rfl rfl (decide_eq_false h4) rfl ?_
              refine L_no rfl rfl rfl (decide_eq_false h4) rfl ?_
              refine L_no rfl rfl rfl (decide_eq_false h4) rfl ?_
              refine L_no rfl rfl rfl (decide_eq_false h4) rfl ?_
              refine L_run (R_pickF rfl (decide_eq_false h4) rfl) rfl ?_
              refine L_nil (N_then (C_condF rfl rfl (C_skip (N_then (C_reg rfl ?_)))))
              refine L_run (R_loadA (vs := [.slice A_1 ((nxt b (l[i]) (ev[i])).l.length) c_1, .int .i64 ((nxt b (l[i]) (ev[i])).syn), .bool ((nxt b (l[i]) (ev[i])).has)]) rfl agg96 (At.pre (hb4.at_ 0) rfl) rfl) rfl ?_
              refine L_stA (vs := [.slice A_1 ((nxt b (l[i]) (ev[i])).l.length) c_1, .int .i64 ((nxt b (l[i]) (ev[i])).syn), .bool ((nxt b (l[i]) (ev[i])).has)]) rfl rfl rfl sz96 rfl hbk rfl ?_
              intro w12 hb8 hs11 hz9
              replace hB := gb_trg hB hs11 ge1
              replace hS := hS.old hs11 ge1
              replace hD := hD.old hs11 ge1
              replace hV := hV.old hs11 ge1
              replace hW := hW.old hs11 ge1
              replace hL := hL.other hbk rfl rfl hs11
              replace hX := own_other hX hbk rfl hs11
              replace hS_1 := hS_1.other hbk rfl rfl hs11
              replace hb4 := hb4.grown hs11 (ne_gt lt1)
              refine L_nil (N_in (N_then (C_reg rfl ?_)))
              refine L_run (R_move rfl) rfl ?_
              refine L_run (R_add64 rfl rfl (by omega)) rfl ?_
              refine L_run (R_assign rfl) rfl ?_
              refine L_nil (N_then ?_)
              have et_ : (lostN b (l[i]) (ev[i]) lost) = lost := by
                unfold lostN lostD
                by_cases he_ : (ev[i]).e = 0
                · rw [if_pos he_, if_neg (show ¬ (l[i]).p.kind = 4 from fun q_ => by omega)]
                · rw [if_neg he_]
              exact ⟨(l.zip ev).length - (i + 1), by omega, _, A_1, c_1, (nxt b (l[i]) (ev[i])), (lostN b (l[i]) (ev[i]) lost), (i + 1), w12.heap.size, Ax, cx, Ac_frg ⟨rfl, rfl, rfl, rfl, (agr rfl (by rw [et_])), (agr rfl (by first | rfl | (congr 1; omega) | (congr 1; simp; done) | (congr 1; simp only [IntKind.wrap_u64, IntKind.wrap_i64, IntKind.wrap_u8]; omega) | (congr 1 <;> omega))), trivial⟩, hB, hS, hD, hV, hW, hb8, (Sli.zero hS_1), (by rw [et_]; exact (own_lo hX (Nat.le_refl _))), (by omega), (by rw [← resB_go hli hlj h3]; exact hres), (hgb.nxt (few_30 hf hli) h3), hcl1, (nxt_deep hDO (hD0.getO hli)), (Nat.le_trans lostN_len (Nat.succ_le_succ hlo_)), rfl⟩
          · refine L_call rfl cb37 (next39_x h3 (Sli.zero hL) (DeepO.gb hDO hB).top hgb (by omega) hlen (Sli.any (hD.getO (i := i) hli)) (Sli.any (hW.getP (i := i) hlj)) (few_30 hf hli) (Nat.le_trans (hpr _ (List.getElem_mem hlj)) (by decide))) rfl ?_
            rintro _ w13 ⟨hs12, A_3, c_3, bz, rfl⟩
            replace hB := gb_tr hB hs12
            replace hS := hS.gb hs12
            replace hD := hD.gb hs12
            replace hV := hV.gb hs12
            replace hW := hW.gb hs12
            replace hbk := hbk.gb hs12
            replace hL := hL.gb hs12
            replace hX := own_gb hX hs12
            replace ha1 := At.gb ha1 hs12 (by simp)
            replace ha2 := At.gb ha2 hs12 (by simp)
            refine L_nil (N_then ⟨fun hN_ => ⟨hbk, ha1, ha2, trivial⟩, ?_⟩)
            refine T_takeA (i := 10) rfl (by kernel_rfl) (by kernel_rfl) (by kernel_rfl) (by kernel_rfl) (Y_of (fun _ ⟨hbk, ha1, ha2, _⟩ => R_move rfl)) ⟨hbk, ha1, ha2, trivial⟩ rfl ?_
            refine T_takeA (i := 11) rfl (by kernel_rfl) (by kernel_rfl) (by kernel_rfl) (by kernel_rfl) (Y_of (fun _ ⟨hbk, ha1, ha2, _⟩ => R_extract rfl rfl)) ⟨hbk, ha1, ha2, trivial⟩ rfl ?_
            refine T_takeA (i := 12) rfl (by kernel_rfl) (by kernel_rfl) (by kernel_rfl) (by kernel_rfl) (Y_of (fun _ ⟨hbk, ha1, ha2, _⟩ => R_extract rfl rfl)) ⟨hbk, ha1, ha2, trivial⟩ rfl ?_
            refine T_all (rs := [13]) (by kernel_rfl) rfl (all1 (O_one rfl ?_))
            refine L_alloc (cs := [.slice none 0 0, .int .i64 0, .bool false]) zer96 rfl rfl ?_
            intro g8 w14 eg4 hb9 hs13 hz10
            have ge4 : w.heap.size ≤ g8 := eg_ge hB eg4
            have lt10 : g1 < g8 := lt_of_eg hbk.lt eg4
            have lt11 : g2 < g8 := lt_of_eg (at_lt ha1) eg4
            have lt12 : g3 < g8 := lt_of_eg (at_lt ha2) eg4
            replace hB := gb_tr hB hs13
            replace hS := hS.gb hs13
            replace hD := hD.gb hs13
            replace hV := hV.gb hs13
            replace hW := hW.gb hs13
            replace hbk := hbk.gb hs13
            replace hL := hL.gb hs13
            replace hX := own_gb hX hs13
            replace ha1 := At.gb ha1 hs13 (by simp)
            replace ha2 := At.gb ha2 hs13 (by simp)
            refine L_nil (N_then ⟨fun hN_ => ⟨hbk, ha1, ha2, trivial⟩, ?_⟩)
            refine T_all (rs := [14]) (by kernel_rfl) rfl (all1 (O_one rfl ?_))
            refine L_stA (vs := [.slice A_3 bz.l.length c_3, .int .i64 bz.syn, .bool bz.has]) rfl rfl rfl sz96 rfl hb9 rfl ?_
            intro w15 hb10 hs14 hz11
            replace hB := gb_trg hB hs14 ge4
            replace hS := hS.old hs14 ge4
            replace hD := hD.old hs14 ge4
            replace hV := hV.old hs14 ge4
            replace hW := hW.old hs14 ge4
            replace hbk := hbk.grown hs14 (ne_lt lt10)
            replace hL := hL.other hb9 rfl rfl hs14
            replace hX := own_other hX hb9 rfl hs14
            replace ha1 := At.gb ha1 hs14 (ne_lt lt11)
            replace ha2 := At.gb ha2 hs14 (ne_lt lt12)
            refine L_nil (N_then ⟨fun hN_ => ⟨hbk, ha1, ha2, trivial⟩, ?_⟩)
            refine T_takeA (i := 15) rfl (by kernel_rfl) (by kernel_rfl) (by kernel_rfl) (by kernel_rfl) (Y_of (fun _ ⟨hbk, ha1, ha2, _⟩ => R_assign rfl)) ⟨hbk, ha1, ha2, trivial⟩ rfl ?_
            refine T_done (by kernel_rfl) (CalmE.normal ?_)
            refine N_then (C_seq (C_seq (C_reg rfl ?_)))
            refine L_run (R_move rfl) rfl ?_
            refine L_run (R_not rfl) rfl ?_
            refine L_nil (N_then (C_condT rfl rfl (C_seq (C_reg rfl ?_))))
            refine L_run (R_move rfl) rfl ?_
            refine L_run (R_assign rfl) rfl ?_
            refine L_nil (N_then (C_ret (R_then (R_in (R_then (R_then (R_in (R_then ?_))))))))
            refine ret1 Try.results18 rfl ?_
            have hR_ : Rb l ev = (i, (b, lost)) := by rw [← hres, resB_no hli hlj h3]
            rw [hR_]; exact ⟨hB, _, _, rfl, (own_lo hX (Nat.le_refl _))⟩
        · refine L_alloc (cs := [.slice none 0 0, .int .i64 0, .bool false]) zer96 rfl rfl ?_
          intro g9 w16 eg5 hb11 hs15 hz12
          have ge5 : w.heap.size ≤ g9 := eg_ge hB eg5
          have lt13 : g1 < g9 := lt_of_eg hbk.lt eg5
          have lt14 : g2 < g9 := lt_of_eg (at_lt ha1) eg5
          have lt15 : g3 < g9 := lt_of_eg (at_lt ha2) eg5
          replace hB := gb_tr hB hs15
          replace hS := hS.gb hs15
          replace hD := hD.gb hs15
          replace hV := hV.gb hs15
          replace hW := hW.gb hs15
          replace hbk := hbk.gb hs15
          replace hL := hL.gb hs15
          replace hX := own_gb hX hs15
          replace ha1 := At.gb ha1 hs15 (by simp)
          replace ha2 := At.gb ha2 hs15 (by simp)
          refine L_nil (N_then ⟨fun hN_ => ⟨hbk, ha1, ha2, trivial⟩, ?_⟩)
          refine T_all (rs := [9]) (by kernel_rfl) rfl (all1 (O_one rfl ?_))
          by_cases h6 : okB b (l[i]) (ev[i])
          · refine L_call rfl cb37 (next39_y h6 (Sli.zero hL) (DeepO.gb hDO hB).top hgb (by omega) hlen (Sli.any (hD.getO (i := i) hli)) (Sli.any (hW.getP (i := i) hlj)) (few_30 hf hli) (Nat.le_trans (hpr _ (List.getElem_mem hlj)) (by decide))) rfl ?_
            rintro _ w17 ⟨hs16, A_4, c_4, rfl, hS_3, hcl3⟩
            replace hB := gb_tr hB hs16
            replace hS := hS.gb hs16
            replace hD := hD.gb hs16
            replace hV := hV.gb hs16
            replace hW := hW.gb hs16
            replace hbk := hbk.gb hs16
            replace hL := hL.gb hs16
            replace hX := own_gb hX hs16
            replace ha1 := At.gb ha1 hs16 (by simp)
            replace ha2 := At.gb ha2 hs16 (by simp)
            replace hb11 := hb11.gb hs16
            have hnx2_ := (hgb.nxt (few_30 hf hli) h6).2.1
            refine L_nil (N_then ⟨fun hN_ => ⟨hbk, ha1, ha2, trivial⟩, ?_⟩)
            refine T_takeA (i := 10) rfl (by kernel_rfl) (by kernel_rfl) (by kernel_rfl) (by kernel_rfl) (Y_of (fun _ ⟨hbk, ha1, ha2, _⟩ => R_move rfl)) ⟨hbk, ha1, ha2, trivial⟩ rfl ?_
            refine T_takeA (i := 11) rfl (by kernel_rfl) (by kernel_rfl) (by kernel_rfl) (by kernel_rfl) (Y_of (fun _ ⟨hbk, ha1, ha2, _⟩ => R_extract rfl rfl)) ⟨hbk, ha1, ha2, trivial⟩ rfl ?_
            refine T_takeA (i := 12) rfl (by kernel_rfl) (by kernel_rfl) (by kernel_rfl) (by kernel_rfl) (Y_of (fun _ ⟨hbk, ha1, ha2, _⟩ => R_extract rfl rfl)) ⟨hbk, ha1, ha2, trivial⟩ rfl ?_
            refine T_all (rs := [14]) (by kernel_rfl) rfl (all1 (O_one rfl ?_))
            refine L_stA (vs := [.slice A_4 ((nxt b (l[i]) (ev[i])).l.length) c_4, .int .i64 ((nxt b (l[i]) (ev[i])).syn), .bool ((nxt b (l[i]) (ev[i])).has)]) rfl rfl rfl sz96 rfl hb11 rfl ?_
            intro w18 hb12 hs17 hz13
            replace hB := gb_trg hB hs17 ge5
            replace hS := hS.old hs17 ge5
            replace hD := hD.old hs17 ge5
            replace hV := hV.old hs17 ge5
            replace hW := hW.old hs17 ge5
            replace hbk := hbk.grown hs17 (ne_lt lt13)
            replace hL := hL.other hb11 rfl rfl hs17
            replace hX := own_other hX hb11 rfl hs17
            replace ha1 := At.gb ha1 hs17 (ne_lt lt14)
            replace ha2 := At.gb ha2 hs17 (ne_lt lt15)
            replace hS_3 := hS_3.other hb11 rfl rfl hs17
            refine L_nil (N_then ⟨fun hN_ => ⟨hbk, ha1, ha2, trivial⟩, ?_⟩)
            refine T_takeA (i := 15) rfl (by kernel_rfl) (by kernel_rfl) (by kernel_rfl) (by kernel_rfl) (Y_of (fun _ ⟨hbk, ha1, ha2, _⟩ => R_assign rfl)) ⟨hbk, ha1, ha2, trivial⟩ rfl ?_
            refine T_done (by kernel_rfl) (CalmE.normal ?_)
            refine N_then (C_seq (C_seq (C_reg rfl ?_)))
            refine L_run (R_move rfl) rfl ?_
            refine L_run (R_not rfl) rfl ?_
            refine L_nil (N_then (C_condF rfl rfl (C_skip (N_then (C_seq (C_seq (C_reg rfl ?_)))))))
            refine L_run (R_move rfl) rfl ?_
            refine L_run (R_move rfl) rfl ?_
            have hl5 : i < l.length := by first | omega | (simp; omega)
            refine T_index (xs := l) (i := i) EncS rfl rfl (by first | rfl | omega) slc39 hl5 hS rfl ?_
            intro g10 o5 ha5
            refine L_run (R_field rfl fld86_0 rfl) rfl ?_
            refine L_run (R_load1 rfl scl3 (ha5 0 _ rfl)) rfl ?_
            refine L_run (R_eql rfl rfl) rfl ?_
            refine L_run (R_move rfl) rfl ?_
            refine L_splitD (p := (l[i]).p.kind = 4) (fun h7 => ?_) (fun h7 => ?_)
            · refine L_yes rfl rfl rfl (decide_eq_true h7) ?_
              refine L_run (R_move rfl) rfl ?_
              refine L_yes rfl rfl rfl (decide_eq_true h7) ?_
              refine L_run (R_move rfl) rfl ?_
              refine L_yes rfl rfl rfl (decide_eq_true h7) ?_
              have hl6 : i < ev.length := by first | omega | (simp; omega)
              refine T_index (xs := ev) (i := i) EncEv rfl rfl (by first | rfl | omega) slc40 hl6 hV rfl ?_
              intro g11 o6 ha6
              refine L_yes rfl rfl rfl (decide_eq_true h7) ?_
              refine L_run (R_field rfl fld44_1 rfl) rfl ?_
              refine L_yes rfl rfl rfl (decide_eq_true h7) ?_
              refine L_run (R_load1 rfl scl42 (ha6 1 _ rfl)) rfl ?_
              refine L_yes rfl rfl rfl (decide_eq_true h7) ?_
              refine L_run (R_eql rfl rfl) rfl ?_
              refine L_run (R_pickT rfl (decide_eq_true h7) rfl) rfl ?_
              refine L_nil (N_then ?_)
              refine C_if rfl (fun h8 => ?_) (fun h8 => ?_)
              · refine C_reg rfl ?_
                refine L_run (R_move rfl) rfl ?_
                refine L_run (R_field (r := 0) rfl fld96_0 rfl) rfl ?_
                refine L_run (R_load1 rfl scl90 (hbk.cell (i := 0) rfl)) rfl ?_
                refine L_run (R_lenSl rfl slc90) rfl ?_
                refine L_run (R_field (r := 0) rfl fld96_0 rfl) rfl ?_
                refine L_run (R_load1 rfl scl90 (hb12.cell (i := 0) rfl)) rfl ?_
                refine L_run (R_lenSl rfl slc90) rfl ?_
                refine L_run (R_sub64 rfl rfl (by omega)) rfl ?_
                refine L_buildSlice (pv := [(0, .int .i64 ((b.l.length : Int) - ((nxt b (l[i]) (ev[i])).l.length : Int)))]) (cs := [.int .i64 ((b.l.length : Int) - ((nxt b (l[i]) (ev[i])).l.length : Int))]) slc51 zer3 rfl rfl (by kernel_rfl) rfl ?_
                intro g12 w19 eg6 hb13 hs18 hz14
                have ge6 : w.heap.size ≤ g12 := eg_ge hB eg6
                have lt16 : g1 < g12 := lt_of_eg hbk.lt eg6
                have lt17 : g9 < g12 := lt_of_eg hb12.lt eg6
                have lt18 : g2 < g12 := lt_of_eg (at_lt ha1) eg6
                have lt19 : g3 < g12 := lt_of_eg (at_lt ha2) eg6
                have lt20 : g10 < g12 := lt_of_eg (at_lt ha5) eg6
                have lt21 : g11 < g12 := lt_of_eg (at_lt ha6) eg6
                have hap2 : ∀ k_, (Value.slice Ax lost.length cx).ownBlock = some k_ → k_ ≠ g12 := fun k_ hk => by have h_ := (World.ownsRow.lt hX k_ hk).2; omega
                replace hB := gb_tr hB hs18
                replace hS := hS.gb hs18
                replace hD := hD.gb hs18
                replace hV := hV.gb hs18
                replace hW := hW.gb hs18
                replace hbk := hbk.gb hs18
                replace hL := hL.gb hs18
                replace hX := own_gb hX hs18
                replace ha1 := At.gb ha1 hs18 (by simp)
                replace ha2 := At.gb ha2 hs18 (by simp)
                replace hb12 := hb12.gb hs18
                replace hS_3 := hS_3.gb hs18
                replace ha5 := At.gb ha5 hs18 (by simp)
                replace ha6 := At.gb ha6 hs18 (by simp)
                refine T_append (xs := lost) (ys := [((b.l.length : Int) - ((nxt b (l[i]) (ev[i])).l.length : Int))]) EncZ slc51 rfl rfl hX (Blk.sli (m := 0) hb13) (by simp; omega) (by have := hB.size; omega) rfl ?_
                intro A_5 c_5 w20 ho2 hs19 hat2
                replace hB := gb_tro hB hX hs19 (Nat.le_refl _)
                replace hS := hS.grown hs19 (fun k hk => .inr (Nat.le_trans (Nat.le_refl _) (World.ownsRow.lt hX k hk).1))
                replace hD := hD.own hX (Nat.le_refl _) hs19
                replace hV := hV.grown hs19 (fun k hk => .inr (Nat.le_trans (Nat.le_refl _) (World.ownsRow.lt hX k hk).1))
                replace hW := hW.own hX (Nat.le_refl _) hs19
                replace hbk := blk_own hbk hX rfl hs19
                replace hL := hL.otherO hX rfl rfl hs19
                replace hb12 := blk_own hb12 hX rfl hs19
                replace hS_3 := hS_3.otherO hX rfl rfl hs19
                refine L_run (R_assign rfl) rfl ?_
                refine L_nil (N_then (C_reg rfl ?_))
                refine L_run (R_loadA (vs := [.slice A_4 ((nxt b (l[i]) (ev[i])).l.length) c_4, .int .i64 ((nxt b (l[i]) (ev[i])).syn), .bool ((nxt b (l[i]) (ev[i])).has)]) rfl agg96 (At.pre (hb12.at_ 0) rfl) rfl) rfl ?_
                refine L_stA (vs := [.slice A_4 ((nxt b (l[i]) (ev[i])).l.length) c_4, .int .i64 ((nxt b (l[i]) (ev[i])).syn), .bool ((nxt b (l[i]) (ev[i])).has)]) rfl rfl rfl sz96 rfl hbk rfl ?_
                intro w21 hb14 hs20 hz15
                replace hB := gb_trg hB hs20 ge1
                replace hS := hS.old hs20 ge1
                replace hD := hD.old hs20 ge1
                replace hV := hV.old hs20 ge1
                replace hW := hW.old hs20 ge1
                replace hL := hL.other hbk rfl rfl hs20
                replace hb12 := hb12.grown hs20 (ne_gt lt13)
                replace hS_3 := hS_3.other hbk rfl rfl hs20
                replace ho2 := own_other ho2 hbk rfl hs20
                refine L_nil (N_in (N_then (C_reg rfl ?_)))
                refine L_run (R_move rfl) rfl ?_
                refine L_run (R_add64 rfl rfl (by omega)) rfl ?_
                refine L_run (R_assign rfl) rfl ?_
                refine L_nil (N_then ?_)
                have et_ : (lostN b (l[i]) (ev[i]) lost) = lost ++ ([((b.l.length : Int) - ((nxt b (l[i]) (ev[i])).l.length : Int))]) := by
                  have hq_ := nxt_crash hgb.1 h6 (by omega) (by omega)
                  unfold lostN lostD
                  rw [if_pos (by omega), if_pos (by omega), ← hq_]
                exact ⟨(l.zip ev).length - (i + 1), by omega, _, A_4, c_4, (nxt b (l[i]) (ev[i])), (lostN b (l[i]) (ev[i]) lost), (i + 1), w21.heap.size, A_5, c_5, Ac_frg ⟨rfl, rfl, rfl, rfl, (agr rfl (by rw [et_])), (agr rfl (by first | rfl | (congr 1; omega) | (congr 1; simp; done) | (congr 1; simp only [IntKind.wrap_u64, IntKind.wrap_i64, IntKind.wrap_u8]; omega) | (congr 1 <;> omega))), trivial⟩, hB, hS, hD, hV, hW, hb14, (Sli.zero hS_3), (by rw [et_]; exact (own_lo ho2 (Nat.le_refl _))), (by omega), (by rw [← resB_go hli hlj h6]; exact hres), (hgb.nxt (few_30 hf hli) h6), hcl3, (nxt_deep hDO (hD0.getO hli)), (Nat.le_trans lostN_len (Nat.succ_le_succ hlo_)), rfl⟩
              · refine C_skip (N_then (C_reg rfl ?_))
                refine L_run (R_loadA (vs := [.slice A_4 ((nxt b (l[i]) (ev[i])).l.length) c_4, .int .i64 ((nxt b (l[i]) (ev[i])).syn), .bool ((nxt b (l[i]) (ev[i])).has)]) rfl agg96 (At.pre (hb12.at_ 0) rfl) rfl) rfl ?_
                refine L_stA (vs := [.slice A_4 ((nxt b (l[i]) (ev[i])).l.length) c_4, .int .i64 ((nxt b (l[i]) (ev[i])).syn), .bool ((nxt b (l[i]) (ev[i])).has)]) rfl rfl rfl sz96 rfl hbk rfl ?_
                intro w22 hb15 hs21 hz16
                replace hB := gb_trg hB hs21 ge1
                replace hS := hS.old hs21 ge1
                replace hD := hD.old hs21 ge1
                replace hV := hV.old hs21 ge1
                replace hW := hW.old hs21 ge1
                replace hL := hL.other hbk rfl rfl hs21
                replace hX := own_other hX hbk rfl hs21
                replace hb12 := hb12.grown hs21 (ne_gt lt13)
                replace hS_3 := hS_3.other hbk rfl rfl hs21
                refine L_nil (N_in (N_then (C_reg rfl ?_)))
                refine L_run (R_move rfl) rfl ?_
                refine L_run (R_add64 rfl rfl (by omega)) rfl ?_
                refine L_run (R_assign rfl) rfl ?_
                refine L_nil (N_then ?_)
                have et_ : (lostN b (l[i]) (ev[i]) lost) = lost := by
                  unfold lostN lostD
                  by_cases he_ : (ev[i]).e = 0
                  · rw [if_pos he_, if_neg (show ¬ (l[i]).p.kind = 4 from fun q_ => by omega)]
                  · rw [if_neg he_]
                exact ⟨(l.zip ev).length - (i + 1), by omega, _, A_4, c_4, (nxt b (l[i]) (ev[i])), (lostN b (l[i]) (ev[i]) lost), (i + 1), w22.heap.size, Ax, cx, Ac_frg ⟨rfl, rfl, rfl, rfl, (agr rfl (by rw [et_])), (agr rfl (by first | rfl | (congr 1; omega) | (congr 1; simp; done) | (congr 1; simp only [IntKind.wrap_u64, IntKind.wrap_i64, IntKind.wrap_u8]; omega) | (congr 1 <;> omega))), trivial⟩, hB, hS, hD, hV, hW, hb15, (Sli.zero hS_3), (by rw [et_]; exact (own_lo hX (Nat.le_refl _))), (by omega), (by rw [← resB_go hli hlj h6]; exact hres), (hgb.nxt (few_30 hf hli) h6), hcl3, (nxt_deep hDO (hD0.getO hli)), (Nat.le_trans lostN_len (Nat.succ_le_succ hlo_)), rfl⟩
            · refine L_no rfl rfl rfl (decide_eq_false h7) rfl ?_
              refine L_no rfl rfl rfl (decide_eq_false h7) rfl ?_
              refine L_no rfl rfl rfl (decide_eq_false h7) rfl ?_
              refine L_no rfl rfl rfl (decide_eq_false h7) rfl ?_
              refine L_no rfl rfl rfl (decide_eq_false h7) rfl ?_
              refine L_no rfl rfl rfl (decide_eq_false h7) rfl ?_
              refine L_run (R_pickF rfl (decide_eq_false h7) rfl) rfl ?_
              refine L_nil (N_then (C_condF rfl rfl (C_skip (N_then (C_reg rfl ?_)))))
              refine L_run (R_loadA (vs := [.slice A_4 ((nxt b (l[i]) (ev[i])).l.length) c_4, .int .i64 ((nxt b (l[i]) (ev[i])).syn), .bool ((nxt b (l[i]) (ev[i])).has)]) rfl agg96 (At.pre (hb12.at_ 0) rfl) rfl) rfl ?_
              refine L_stA (vs := [.slice A_4 ((nxt b (l[i]) (ev[i])).l.length) c_4, .int .i64 ((nxt b (l[i]) (ev[i])).syn), .bool ((nxt b (l[i]) (ev[i])).has)]) rfl rfl rfl sz96 rfl hbk rfl ?_
              intro w23 hb16 hs22 hz17
              replace hB := gb_trg hB hs22 ge1
              replace hS := hS.old hs22 ge1
              replace hD := hD.old hs22 ge1
              replace hV := hV.old hs22 ge1
              replace hW := hW.old hs22 ge1
              replace hL := hL.other hbk rfl rfl hs22
              replace hX := own_other hX hbk rfl hs22
              replace hb12 := hb12.grown hs22 (ne_gt lt13)
              replace hS_3 := hS_3.other hbk rfl rfl hs22
              refine L_nil (N_in (N_then (C_reg rfl ?_)))
              refine L_run (R_move rfl) rfl ?_
              refine L_run (R_add64 rfl rfl (by omega)) rfl ?_
              refine L_run (R_assign rfl) rfl ?_
              refine L_nil (N_then ?_)
              have et_ : (lostN b (l[i]) (ev[i]) lost) = lost := by
                unfold lostN lostD
                by_cases he_ : (ev[i]).e = 0
                · rw [if_pos he_, if_neg (show ¬ (l[i]).p.kind = 4 from fun q_ => by omega)]
                · rw [if_neg he_]
              exact ⟨(l.zip ev).length - (i + 1), by omega, _, A_4, c_4, (nxt b (l[i]) (ev[i])), (lostN b (l[i]) (ev[i]) lost), (i + 1), w23.heap.size, Ax, cx, Ac_frg ⟨rfl, rfl, rfl, rfl, (agr rfl (by rw [et_])), (agr rfl (by first | rfl | (congr 1; omega) | (congr 1; simp; done) | (congr 1; simp only [IntKind.wrap_u64, IntKind.wrap_i64, IntKind.wrap_u8]; omega) | (congr 1 <;> omega))), trivial⟩, hB, hS, hD, hV, hW, hb16, (Sli.zero hS_3), (by rw [et_]; exact (own_lo hX (Nat.le_refl _))), (by omega), (by rw [← resB_go hli hlj h6]; exact hres), (hgb.nxt (few_30 hf hli) h6), hcl3, (nxt_deep hDO (hD0.getO hli)), (Nat.le_trans lostN_len (Nat.succ_le_succ hlo_)), rfl⟩
          · refine L_call rfl cb37 (next39_x h6 (Sli.zero hL) (DeepO.gb hDO hB).top hgb (by omega) hlen (Sli.any (hD.getO (i := i) hli)) (Sli.any (hW.getP (i := i) hlj)) (few_30 hf hli) (Nat.le_trans (hpr _ (List.getElem_mem hlj)) (by decide))) rfl ?_
            rintro _ w24 ⟨hs23, A_6, c_6, bz, rfl⟩
            replace hB := gb_tr hB hs23
            replace hS := hS.gb hs23
            replace hD := hD.gb hs23
            replace hV := hV.gb hs23
            replace hW := hW.gb hs23
            replace hbk := hbk.gb hs23
            replace hL := hL.gb hs23
            replace hX := own_gb hX hs23
            replace ha1 := At.gb ha1 hs23 (by simp)
            replace ha2 := At.gb ha2 hs23 (by simp)
            replace hb11 := hb11.gb hs23
            refine L_nil (N_then ⟨fun hN_ => ⟨hbk, ha1, ha2, trivial⟩, ?_⟩)
            refine T_takeA (i := 10) rfl (by kernel_rfl) (by kernel_rfl) (by kernel_rfl) (by kernel_rfl) (Y_of (fun _ ⟨hbk, ha1, ha2, _⟩ => R_move rfl)) ⟨hbk, ha1, ha2, trivial⟩ rfl ?_
            refine T_takeA (i := 11) rfl (by kernel_rfl) (by kernel_rfl) (by kernel_rfl) (by kernel_rfl) (Y_of (fun _ ⟨hbk, ha1, ha2, _⟩ => R_extract rfl rfl)) ⟨hbk, ha1, ha2, trivial⟩ rfl ?_
            refine T_takeA (i := 12) rfl (by kernel_rfl) (by kernel_rfl) (by kernel_rfl) (by kernel_rfl) (Y_of (fun _ ⟨hbk, ha1, ha2, _⟩ => R_extract rfl rfl)) ⟨hbk, ha1, ha2, trivial⟩ rfl ?_
            refine T_all (rs := [14]) (by kernel_rfl) rfl (all1 (O_one rfl ?_))
            refine L_stA (vs := [.slice A_6 bz.l.length c_6, .int .i64 bz.syn, .bool bz.has]) rfl rfl rfl sz96 rfl hb11 rfl ?_
            intro w25 hb17 hs24 hz18
            replace hB := gb_trg hB hs24 ge5
            replace hS := hS.old hs24 ge5
            replace hD := hD.old hs24 ge5
            replace hV := hV.old hs24 ge5
            replace hW := hW.old hs24 ge5
            replace hbk := hbk.grown hs24 (ne_lt lt13)
            replace hL := hL.other hb11 rfl rfl hs24
            replace hX := own_other hX hb11 rfl hs24
            replace ha1 := At.gb ha1 hs24 (ne_lt lt14)
            replace ha2 := At.gb ha2 hs24 (ne_lt lt15)
            refine L_nil (N_then ⟨fun hN_ => ⟨hbk, ha1, ha2, trivial⟩, ?_⟩)
            refine T_takeA (i := 15) rfl (by kernel_rfl) (by kernel_rfl) (by kernel_rfl) (by kernel_rfl) (Y_of (fun _ ⟨hbk, ha1, ha2, _⟩ => R_assign rfl)) ⟨hbk, ha1, ha2, trivial⟩ rfl ?_
            refine T_done (by kernel_rfl) (CalmE.normal ?_)
            refine N_then (C_seq (C_seq (C_reg rfl ?_)))
            refine L_run (R_move rfl) rfl ?_
            refine L_run (R_not rfl) rfl ?_
            refine L_nil (N_then (C_condT rfl rfl (C_seq (C_reg rfl ?_))))
            refine L_run (R_move rfl) rfl ?_
            refine L_run (R_assign rfl) rfl ?_
            refine L_nil (N_then (C_ret (R_then (R_in (R_then (R_then (R_in (R_then ?_))))))))
            refine ret1 Try.results18 rfl ?_
            have hR_ : Rb l ev = (i, (b, lost)) := by rw [← hres, resB_no hli hlj h6]
            rw [hR_]; exact ⟨hB, _, _, rfl, (own_lo hX (Nat.le_refl _))⟩
      · refine C_exit (X_then (X_then (X_hit (N_then (C_seq (C_reg rfl ?_))))))
        refine L_run (R_move rfl) rfl ?_
        refine L_run (R_assign rfl) rfl ?_
        refine L_nil (N_then (C_ret ?_))
        refine ret1 Try.results18 rfl ?_
        have hR_ : Rb l ev = (i, (b, lost)) := by rw [← hres, resB_end (by omega)]
        rw [hR_]; exact ⟨hB, _, _, rfl, (own_lo hX (Nat.le_refl _))⟩
    · refine L_no rfl rfl rfl (decide_eq_false h1) rfl ?_
      refine L_no rfl rfl rfl (decide_eq_false h1) rfl ?_
      refine L_no rfl rfl rfl (decide_eq_false h1) rfl ?_
      refine L_no rfl rfl rfl (decide_eq_false h1) rfl ?_
      refine L_run (R_pickF rfl (decide_eq_false h1) rfl) rfl ?_
      refine L_nil (N_then (C_condF rfl rfl (C_exit (X_then (X_then (X_hit (N_then (C_seq (C_reg rfl ?_)))))))))
      refine L_run (R_move rfl) rfl ?_
      refine L_run (R_assign rfl) rfl ?_
      refine L_nil (N_then (C_ret ?_))
      refine ret1 Try.results18 rfl ?_
      have hR_ : Rb l ev = (i, (b, lost)) := by rw [← hres, resB_end (by omega)]
      rw [hR_]; exact ⟨hB, _, _, rfl, (own_lo hX (Nat.le_refl _))⟩

end Go.Proofs.Ytbmohojdlgedpaa
