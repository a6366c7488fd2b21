/-
  Contracts of the package audit: all steps, till something is wrong.
-/
import Derived.Test.YtbmohojdlgedpaaHp
namespace Go.Proofs.Ytbmohojdlgedpaa
open Go.RowKit Gw Pl
set_option linter.unusedVariables false
set_option linter.unusedSimpArgs false
theorem cb55 : callB Try.prog 55 = true := by kernel_rfl
theorem slc48 : slcB Try.prog 48 87 5 56 = true := by kernel_rfl
def resB : List (StepD × EvD) → BkP × List Int → Nat → Nat × (BkP × List Int)
  | [], s, i => (i, s)
  | z :: r, s, i => if okB s.1 z.1 z.2 then resB r (nxt s.1 z.1 z.2, lostN s.1 z.1 z.2 s.2) (i + 1) else (i, s)
abbrev Rb (l : List StepD) (ev : List EvD) : Nat × (BkP × List Int) := resB (l.zip ev) (⟨[], 0, true⟩, []) 0
theorem zip_cons {l : List StepD} {ev : List EvD} {i : Nat} (h1 : i < l.length) (h2 : i < ev.length) : (l.zip ev).drop i = (l[i], ev[i]) :: (l.zip ev).drop (i + 1) := by
  rw [List.drop_eq_getElem_cons (by rw [List.length_zip]; omega), List.getElem_zip]
theorem resB_go {l : List StepD} {ev : List EvD} {i : Nat} {b : BkP} {lo : List Int} (h1 : i < l.length) (h2 : i < ev.length) (ho : okB b l[i] ev[i]) : resB ((l.zip ev).drop i) (b, lo) i = resB ((l.zip ev).drop (i + 1)) (nxt b l[i] ev[i], lostN b l[i] ev[i] lo) (i + 1) := by
  rw [zip_cons h1 h2]
  show (if okB b l[i] ev[i] then _ else _) = _
  rw [if_pos ho]
theorem resB_no {l : List StepD} {ev : List EvD} {i : Nat} {b : BkP} {lo : List Int} (h1 : i < l.length) (h2 : i < ev.length) (ho : ¬ okB b l[i] ev[i]) : resB ((l.zip ev).drop i) (b, lo) i = (i, (b, lo)) := by
  rw [zip_cons h1 h2]
  show (if okB b l[i] ev[i] then _ else _) = _
  rw [if_neg ho]
theorem resB_end {l : List StepD} {ev : List EvD} {i : Nat} {b : BkP} {lo : List Int} (h : (l.zip ev).length ≤ i) : resB ((l.zip ev).drop i) (b, lo) i = (i, (b, lo)) := by
  rw [List.drop_of_length_le h]; rfl
section
variable {w wa : World} {gb n : Nat} {b : BkP} {lost : List Int} {y : StepD} {e : EvD}
theorem next_ok (hM : BkM w wa gb b lost) (hB : w.grownBy wa none) (gb0 : w.heap.size ≤ gb) (hg : GoodB n b) (hn : n ≤ 900) (hll : lost.length ≤ 900) (hOp0 : Sli 0 0 w.heap.size w y.oa (fl encOp y.p.ops)) (hPr0 : Sli 0 0 w.heap.size w e.pa (fl encK e.prs)) (hDO0 : DeepO w.heap.size w b.l) (hy30 : y.p.ops.length ≤ 30) (hp : e.prs.length ≤ 1000) :
    Runs Try.prog 55 #[.pointer (some ⟨gb, 0, none⟩), .agg (encS y).toArray, .agg (encEv e).toArray] wa (fun v_ w' => w.grownBy w' none ∧ ∃ wr : Int, v_ = .int .i64 wr ∧ ((wr = 0 ∧ okB b y e ∧ BkM w w' gb (nxt b y e) (lostN b y e lost)) ∨ (wr ≠ 0 ∧ (1 ≤ wr ∧ wr ≤ 5) ∧ ¬ okB b y e ∧ ∃ b' lost', BkM w w' gb b' lost' ∧ LostOr y lost lost'))) := by
  by_cases hr : sOk y.p
  · by_cases h13 : e.e = 13
    · exact next_a hM hB gb0 hg hn hll hOp0 hPr0 hDO0 hy30 hp hr h13
    · by_cases he0 : e.e = 0
      · exact next_e hM hB gb0 hg hn hll hOp0 hPr0 hDO0 hy30 hp hr he0
      · exact next_d hM hB gb0 hg hn hll hOp0 hPr0 hDO0 hy30 hp hr h13 he0
  · by_cases h13 : e.e = 13
    · exact next_c hM hB gb0 hg hn hll hOp0 hPr0 hDO0 hy30 hp hr h13
    · exact next_b hM hB gb0 hg hn hll hOp0 hPr0 hDO0 hy30 hp hr h13
theorem next_y (ho : okB b y e) (hM : BkM w wa gb b lost) (hB : w.grownBy wa none) (gb0 : w.heap.size ≤ gb) (hg : GoodB n b) (hn : n ≤ 900) (hll : lost.length ≤ 900) (hOp0 : Sli 0 0 w.heap.size w y.oa (fl encOp y.p.ops)) (hPr0 : Sli 0 0 w.heap.size w e.pa (fl encK e.prs)) (hDO0 : DeepO w.heap.size w b.l) (hy30 : y.p.ops.length ≤ 30) (hp : e.prs.length ≤ 1000) :
    Runs Try.prog 55 #[.pointer (some ⟨gb, 0, none⟩), .agg (encS y).toArray, .agg (encEv e).toArray] wa (fun v_ w' => w.grownBy w' none ∧ v_ = .int .i64 0 ∧ BkM w w' gb (nxt b y e) (lostN b y e lost)) :=
  (next_ok hM hB gb0 hg hn hll hOp0 hPr0 hDO0 hy30 hp).mono fun v_ w' h => by
    obtain ⟨h1, wr, rfl, ⟨rfl, _, h5⟩ | ⟨_, _, h5, _⟩⟩ := h
    · exact ⟨h1, rfl, h5⟩
    · exact absurd ho h5
theorem next_n (ho : ¬ okB b y e) (hM : BkM w wa gb b lost) (hB : w.grownBy wa none) (gb0 : w.heap.size ≤ gb) (hg : GoodB n b) (hn : n ≤ 900) (hll : lost.length ≤ 900) (hOp0 : Sli 0 0 w.heap.size w y.oa (fl encOp y.p.ops)) (hPr0 : Sli 0 0 w.heap.size w e.pa (fl encK e.prs)) (hDO0 : DeepO w.heap.size w b.l) (hy30 : y.p.ops.length ≤ 30) (hp : e.prs.length ≤ 1000) :
    Runs Try.prog 55 #[.pointer (some ⟨gb, 0, none⟩), .agg (encS y).toArray, .agg (encEv e).toArray] wa (fun v_ w' => w.grownBy w' none ∧ ∃ (wr : Int) (b' : BkP) (lost' : List Int), v_ = .int .i64 wr ∧ wr ≠ 0 ∧ (1 ≤ wr ∧ wr ≤ 5) ∧ BkM w w' gb b' lost' ∧ LostOr y lost lost') :=
  (next_ok hM hB gb0 hg hn hll hOp0 hPr0 hDO0 hy30 hp).mono fun v_ w' h => by
    obtain ⟨h1, wr, rfl, ⟨_, h5, _⟩ | ⟨h3, h4, _, b', lost', h6, h7⟩⟩ := h
    · exact absurd h5 ho
    · exact ⟨h1, wr, b', lost', rfl, h3, h4, h6, h7⟩
end
theorem few_30 {l : List StepD} (hf : FewSs l) {i : Nat} (h : i < l.length) : (l[i]).p.ops.length ≤ 30 := (hf.1 _ (List.getElem_mem h)).1
theorem keep_ok {w wa : World} {gb : Nat} {l : List StepD} {ev : List EvD} {A A2 : Option Addr} {c c2 : Nat} (hM : BkM w wa gb ⟨[], 0, true⟩ []) (hB : w.grownBy wa none) (gb0 : w.heap.size ≤ gb) (hS0 : Sli 0 0 w.heap.size w A (fl encS l)) (hD0 : DeepS w.heap.size w l) (hV0 : Sli 0 0 w.heap.size w A2 (fl encEv ev)) (hW0 : DeepV w.heap.size w ev) (hf : FewSs l) (hev : ev.length ≤ 80) (hpr : ∀ x ∈ ev, x.prs.length ≤ 100) :
    Runs Try.prog 35 #[.pointer (some ⟨gb, 0, none⟩), .slice A l.length c, .slice A2 ev.length c2] wa (fun v_ w' => w.grownBy w' none ∧ ∃ at_ wr : Int, v_ = .tuple #[.int .i64 at_, .int .i64 wr] ∧ (((Rb l ev).1 < (l.zip ev).length ∧ at_ = ((Rb l ev).1 : Int) ∧ wr ≠ 0 ∧ (1 ≤ wr ∧ wr ≤ 5) ∧ ∃ b' lost', BkM w w' gb b' lost' ∧ ∃ y, l[(Rb l ev).1]? = some y ∧ LostOr y (Rb l ev).2.2 lost') ∨ ((Rb l ev).1 = (l.zip ev).length ∧ BkM w w' gb (Rb l ev).2.1 (Rb l ev).2.2 ∧ ((l.length = ev.length ∧ at_ = -1 ∧ wr = 0) ∨ (l.length ≠ ev.length ∧ at_ = ((l.zip ev).length : Int) ∧ wr = 6))))) := by
  obtain ⟨A9, c9, A8, c8, hbk, hR, hX⟩ := hM
  have hS := hS0.gb hB
  have hD := hD0.gb hB
  have hV := hV0.gb hB
  have hW := hW0.gb hB
  have hf80 := hf.2
  have hz1 : (l.zip ev).length = min l.length ev.length := List.length_zip
  have hnn : min (l.length : Int) (ev.length : Int) = ((l.zip ev).length : Int) := by omega
  refine enter Try.func35 Try.ntmps35 rfl rfl ?_
  refine C_seq (C_reg rfl ?_)
  refine L_run (R_assign rfl) rfl ?_
  refine L_run (R_assign rfl) rfl ?_
  refine L_nil (N_then (C_seq (C_reg rfl ?_)))
  refine L_run (R_move rfl) rfl ?_
  refine L_run (R_lenSl rfl slc39) rfl ?_
  refine L_run (R_move rfl) rfl ?_
  refine L_run (R_lenSl rfl slc48) rfl ?_
  refine L_run (R_eqv (R_min2 rfl rfl) (v' := .int .i64 ((l.zip ev).length : Int)) ((congrArg _ hnn))) rfl ?_
  refine L_run (R_assign rfl) rfl ?_
  refine L_nil (N_then (C_seq (C_seq (C_reg rfl ?_))))
  refine L_run (R_move rfl) rfl ?_
  refine L_run (R_move rfl) rfl ?_
  refine L_nil (N_then (C_block ?_))
  refine C_loop (fun m_ a_ w_ => ∃ (σ_ : Nat → Value) (Ab : Option Addr) (cb : Nat) (Ax : Option Addr) (cx : Nat) (b : BkP) (lost : List Int) (i : Nat), a_ = Ac 41 σ_ [] [(0, .pointer (some ⟨gb, 0, none⟩)), (1, .slice A l.length c), (2, .slice A2 ev.length c2), (6, .int .i64 0), (7, .int .i64 0), (8, .int .i64 ((l.zip ev).length : Int)), (16, .int .i64 ((l.zip ev).length : Int)), (17, .int .i64 (i : Int))] ∧ w.grownBy w_ none ∧ Sli 0 0 w.heap.size w_ A (fl encS l) ∧ DeepS w.heap.size w_ l ∧ Sli 0 0 w.heap.size w_ A2 (fl encEv ev) ∧ DeepV w.heap.size w_ ev ∧ Blk w_ gb 92 [.slice Ab b.l.length cb, .int .i64 b.syn, .bool b.has, .slice Ax lost.length cx] ∧ RowL w.heap.size w_ Ab cb b.l ∧ World.ownsRow w_ w.heap.size 3 1 (.slice Ax lost.length cx) lost.length (fl encZ lost) ∧ (i ≤ (l.zip ev).length) ∧ (resB ((l.zip ev).drop i) (b, lost) i = Rb l ev) ∧ (GoodB i b) ∧ (lost.length ≤ i) ∧ (DeepO w.heap.size w b.l) ∧ (l.zip ev).length - i = m_) ((l.zip ev).length - 0) ?_ ?_
  · exact ⟨_, A9, c9, A8, c8, (⟨[], 0, true⟩ : BkP), [], 0, Ac_frg ⟨rfl, rfl, rfl, rfl, rfl, rfl, rfl, (agr rfl (by first | rfl | (congr 1; omega) | (congr 1; simp; done) | (congr 1; simp only [IntKind.wrap_u64, IntKind.wrap_i64, IntKind.wrap_u8]; omega) | (congr 1 <;> omega))), trivial⟩, hB, hS, hD, hV, hW, hbk, hR, hX, (Nat.zero_le _), (by rw [List.drop_zero]), ⟨Int.le_refl _, Nat.zero_le _, fun x hx => by cases hx⟩, (Nat.zero_le _), DeepO.nil, rfl⟩
  · clear hB
    clear hS hD hV hW hbk hR hX
    rintro m_ a_ w1 ⟨σ_, Ab, cb, Ax, cx, b, lost, i, rfl, hB, hS, hD, hV, hW, hbk, hR, hX, hi_, hres, hgb, hlo_, hDO, rfl⟩
    refine C_seq (C_reg rfl ?_)
    refine L_run (R_lss rfl rfl) rfl ?_
    refine L_nil (N_then (C_seq ?_))
    refine C_if rfl (fun h1 => ?_) (fun h1 => ?_)
    · refine C_skip (N_then (C_seq (C_block (C_seq (C_reg rfl ?_)))))
      have hli : i < l.length := by omega
      have hlj : i < ev.length := by omega
      refine L_run (R_move rfl) rfl ?_
      refine L_run (R_assign rfl) rfl ?_
      refine L_nil (N_then (C_seq ?_))
      refine C_draw2 rfl mix ?_
      intro w2 hs1 hz1
      replace hB := gb_tr hB hs1
      replace hS := hS.gb hs1
      replace hD := hD.gb hs1
      replace hV := hV.gb hs1
      replace hW := hW.gb hs1
      replace hbk := hbk.gb hs1
      replace hR := hR.gb hs1
      replace hX := own_gb hX hs1
      have hl1 : i < l.length := by first | omega | (simp; omega)
      obtain ⟨g1, o1, r1, eA1, er1, ha1⟩ := Sli.place' (xs := l) (i := i) EncS hS hl1 rfl
      have hl2 : i < ev.length := by first | omega | (simp; omega)
      obtain ⟨g2, o2, r2, eA2, er2, ha2⟩ := Sli.place' (xs := ev) (i := i) EncEv hV hl2 rfl
      refine ⟨fun W_ => At W_ g1 r1 [.int .i64 ((l[i]).p.kind), .int .i64 ((l[i]).p.n), .slice ((l[i]).oa) ((l[i]).p.ops.length) ((l[i]).oc), .slice ((l[i]).ka) ((l[i]).p.keep.length) ((l[i]).kc), .int .i64 ((l[i]).p.torn), .int .i64 ((l[i]).p.cut)] ∧ At W_ g2 r2 [.int .i64 ((ev[i]).kind), .int .i64 ((ev[i]).e), .int .i64 ((ev[i]).bat), .int .i64 ((ev[i]).syn), .slice ((ev[i]).pa) ((ev[i]).prs.length) ((ev[i]).pc)] ∧ True, [0, 1, 2, 3, 4, 5, 6, 7, 8], ?_⟩
      refine T_takeA (i := 0) rfl (by kernel_rfl) (by kernel_rfl) (by kernel_rfl) (by kernel_rfl) (Y_of (fun _ ⟨ha1, ha2, _⟩ => R_move rfl)) ⟨ha1, ha2, trivial⟩ rfl ?_
      refine T_takeA (i := 1) rfl (by kernel_rfl) (by kernel_rfl) (by kernel_rfl) (by kernel_rfl) (Y_of (fun _ ⟨ha1, ha2, _⟩ => R_move rfl)) ⟨ha1, ha2, trivial⟩ rfl ?_
      refine T_takeA (i := 2) rfl (by kernel_rfl) (by kernel_rfl) (by kernel_rfl) (by kernel_rfl) (Y_of (fun _ ⟨ha1, ha2, _⟩ => R_move rfl)) ⟨ha1, ha2, trivial⟩ rfl ?_
      refine T_takeA (i := 3) rfl (by kernel_rfl) (by kernel_rfl) (by kernel_rfl) (by kernel_rfl) (Y_of (fun _ ⟨ha1, ha2, _⟩ => R_indexE rfl rfl (by first | rfl | omega) slc39 hl1 eA1 er1)) ⟨ha1, ha2, trivial⟩ rfl ?_
      refine T_takeA (i := 4) rfl (by kernel_rfl) (by kernel_rfl) (by kernel_rfl) (by kernel_rfl) (Y_of (fun _ ⟨ha1, ha2, _⟩ => R_loadA (vs := [.int .i64 ((l[i]).p.kind), .int .i64 ((l[i]).p.n), .slice ((l[i]).oa) ((l[i]).p.ops.length) ((l[i]).oc), .slice ((l[i]).ka) ((l[i]).p.keep.length) ((l[i]).kc), .int .i64 ((l[i]).p.torn), .int .i64 ((l[i]).p.cut)]) rfl agg86 (At.pre ha1 rfl) rfl)) ⟨ha1, ha2, trivial⟩ rfl ?_
      refine T_takeA (i := 5) rfl (by kernel_rfl) (by kernel_rfl) (by kernel_rfl) (by kernel_rfl) (Y_of (fun _ ⟨ha1, ha2, _⟩ => R_move rfl)) ⟨ha1, ha2, trivial⟩ rfl ?_
      refine T_takeA (i := 6) rfl (by kernel_rfl) (by kernel_rfl) (by kernel_rfl) (by kernel_rfl) (Y_of (fun _ ⟨ha1, ha2, _⟩ => R_move rfl)) ⟨ha1, ha2, trivial⟩ rfl ?_
      refine T_takeA (i := 7) rfl (by kernel_rfl) (by kernel_rfl) (by kernel_rfl) (by kernel_rfl) (Y_of (fun _ ⟨ha1, ha2, _⟩ => R_indexE rfl rfl (by first | rfl | omega) slc48 hl2 eA2 er2)) ⟨ha1, ha2, trivial⟩ rfl ?_
      refine T_takeA (i := 8) rfl (by kernel_rfl) (by kernel_rfl) (by kernel_rfl) (by kernel_rfl) (Y_of (fun _ ⟨ha1, ha2, _⟩ => R_loadA (vs := [.int .i64 ((ev[i]).kind), .int .i64 ((ev[i]).e), .int .i64 ((ev[i]).bat), .int .i64 ((ev[i]).syn), .slice ((ev[i]).pa) ((ev[i]).prs.length) ((ev[i]).pc)]) rfl agg87 (At.pre ha2 rfl) rfl)) ⟨ha1, ha2, trivial⟩ rfl ?_
      refine T_all (rs := [9]) (by kernel_rfl) rfl (all1 (O_one rfl ?_))
      by_cases h2 : okB b (l[i]) (ev[i])
      · refine L_call rfl cb55 (next_y h2 ⟨_, _, _, _, hbk, hR, hX⟩ hB gb0 hgb (by omega) (by omega) (hD0.getO hli) (hW0.getP hlj) hDO (few_30 hf hli) (Nat.le_trans (hpr _ (List.getElem_mem hlj)) (by decide))) rfl ?_
        rintro _ w3 ⟨hB, rfl, ⟨A_1, c_1, A_2, c_2, hb1, hrl1, ho1⟩⟩
        have hS := hS0.gb hB
        have hD := hD0.gb hB
        have hV := hV0.gb hB
        have hW := hW0.gb hB
        refine L_nil (N_then ⟨fun hN_ => absurd (hN_.symm.trans (show _ = false by kernel_rfl)) (by decide), ?_⟩)
        refine T_switch (S' := fun _ => True) (qs' := [10]) (by kernel_rfl) ?_
        refine T_takeA (i := 10) rfl (by kernel_rfl) (by kernel_rfl) (by kernel_rfl) (by kernel_rfl) (Y_of (fun _ _ => R_assign rfl)) trivial rfl ?_
        refine T_done (by kernel_rfl) (CalmE.normal ?_)
        refine N_then (C_seq (C_reg rfl ?_))
        refine L_run (R_move rfl) rfl ?_
        refine L_run (R_eqv (R_neq rfl rfl) (v' := .bool false) rfl) rfl ?_
        refine L_nil (N_then (C_condF rfl rfl (C_skip (N_in (N_then (C_reg rfl ?_))))))
        refine L_run (R_add64 rfl rfl (by omega)) rfl ?_
        refine L_run (R_move rfl) rfl ?_
        refine L_nil (N_then ?_)
        exact ⟨(l.zip ev).length - (i + 1), by omega, _, A_1, c_1, A_2, c_2, (nxt b (l[i]) (ev[i])), (lostN b (l[i]) (ev[i]) lost), (i + 1), Ac_frg ⟨rfl, rfl, rfl, rfl, rfl, rfl, rfl, (agr rfl (by first | rfl | (congr 1; omega) | (congr 1; simp; done) | (congr 1; simp only [IntKind.wrap_u64, IntKind.wrap_i64, IntKind.wrap_u8]; omega) | (congr 1 <;> omega))), trivial⟩, hB, hS, hD, hV, hW, hb1, hrl1, ho1, (by omega), (by rw [← resB_go hli hlj h2]; exact hres), (hgb.nxt (few_30 hf hli) h2), (Nat.le_trans lostN_len (Nat.succ_le_succ hlo_)), (nxt_deep hDO (hD0.getO hli)), rfl⟩
      · refine L_call rfl cb55 (next_n h2 ⟨_, _, _, _, hbk, hR, hX⟩ hB gb0 hgb (by omega) (by omega) (hD0.getO hli) (hW0.getP hlj) hDO (few_30 hf hli) (Nat.le_trans (hpr _ (List.getElem_mem hlj)) (by decide))) rfl ?_
        rintro _ w4 ⟨hB, wz, bz, lz, rfl, hz0, hz5, ⟨A_3, c_3, A_4, c_4, hb2, hrl2, ho2⟩, hLO⟩
        have hS := hS0.gb hB
        have hD := hD0.gb hB
        have hV := hV0.gb hB
        have hW := hW0.gb hB
        refine L_nil (N_then ⟨fun hN_ => absurd (hN_.symm.trans (show _ = false by kernel_rfl)) (by decide), ?_⟩)
        refine T_switch (S' := fun _ => True) (qs' := [10]) (by kernel_rfl) ?_
        refine T_takeA (i := 10) rfl (by kernel_rfl) (by kernel_rfl) (by kernel_rfl) (by kernel_rfl) (Y_of (fun _ _ => R_assign rfl)) trivial rfl ?_
        refine T_done (by kernel_rfl) (CalmE.normal ?_)
        refine N_then (C_seq (C_reg rfl ?_))
        refine L_run (R_move rfl) rfl ?_
        refine L_run (R_neq rfl rfl) rfl ?_
        refine L_nil (N_then (C_condT rfl (decide_eq_true hz0) (C_seq (C_reg rfl ?_))))
        refine L_run (R_move rfl) rfl ?_
        refine L_run (R_move rfl) rfl ?_
        refine L_run (R_assign rfl) rfl ?_
        refine L_run (R_assign rfl) rfl ?_
        refine L_nil (N_then (C_ret (R_in (R_then (R_then (R_in (R_then ?_)))))))
        refine ret2 Try.results35 rfl rfl ?_
        have hR_ : Rb l ev = (i, (b, lost)) := by rw [← hres, resB_no hli hlj h2]
        exact ⟨hB, _, _, rfl, .inl ⟨by rw [hR_]; show i < _; omega, by rw [hR_], hz0, hz5, _, _, ⟨_, _, _, _, hb2, hrl2, ho2⟩, l[i], by rw [hR_]; exact List.getElem?_eq_getElem hli, by rw [hR_]; exact hLO⟩⟩
    · refine C_exit (X_then (X_then (X_hit (N_then (C_seq (C_seq (C_reg rfl ?_)))))))
      refine L_run (R_move rfl) rfl ?_
      refine L_run (R_lenSl rfl slc39) rfl ?_
      refine L_run (R_move rfl) rfl ?_
      refine L_run (R_lenSl rfl slc48) rfl ?_
      refine L_run (R_neq rfl rfl) rfl ?_
      refine L_nil (N_then ?_)
      refine C_if rfl (fun h3 => ?_) (fun h3 => ?_)
      · refine C_seq (C_reg rfl ?_)
        refine L_run (R_move rfl) rfl ?_
        refine L_run (R_assign rfl) rfl ?_
        refine L_run (R_assign rfl) rfl ?_
        refine L_nil (N_then (C_ret (R_then ?_)))
        refine ret2 Try.results35 rfl rfl ?_
        have hR_ : Rb l ev = (i, (b, lost)) := by rw [← hres, resB_end (by omega)]
        have hi2_ : i = (l.zip ev).length := by omega
        exact ⟨hB, _, _, rfl, .inr ⟨by rw [hR_]; exact hi2_, by rw [hR_]; exact ⟨_, _, _, _, hbk, hR, hX⟩, .inr ⟨by omega, rfl, rfl⟩⟩⟩
      · refine C_skip (N_then (C_seq (C_reg rfl ?_)))
        refine L_run (R_assign rfl) rfl ?_
        refine L_run (R_assign rfl) rfl ?_
        refine L_nil (N_then (C_ret ?_))
        refine ret2 Try.results35 rfl rfl ?_
        have hR_ : Rb l ev = (i, (b, lost)) := by rw [← hres, resB_end (by omega)]
        have hi2_ : i = (l.zip ev).length := by omega
        exact ⟨hB, _, _, rfl, .inr ⟨by rw [hR_]; exact hi2_, by rw [hR_]; exact ⟨_, _, _, _, hbk, hR, hX⟩, .inl ⟨by omega, rfl, rfl⟩⟩⟩

theorem keepF {w wa : World} {gb : Nat} {l : List StepD} {ev : List EvD} {A A2 : Option Addr} {c c2 : Nat} (hc : (Rb l ev).1 < (l.zip ev).length) (hM : BkM w wa gb ⟨[], 0, true⟩ []) (hB : w.grownBy wa none) (gb0 : w.heap.size ≤ gb) (hS0 : Sli 0 0 w.heap.size w A (fl encS l)) (hD0 : DeepS w.heap.size w l) (hV0 : Sli 0 0 w.heap.size w A2 (fl encEv ev)) (hW0 : DeepV w.heap.size w ev) (hf : FewSs l) (hev : ev.length ≤ 80) (hpr : ∀ x ∈ ev, x.prs.length ≤ 100) : Runs Try.prog 35 #[.pointer (some ⟨gb, 0, none⟩), .slice A l.length c, .slice A2 ev.length c2] wa (fun v_ w' => w.grownBy w' none ∧ ∃ (wr : Int) (b' : BkP) (lost' : List Int) (y : StepD), v_ = .tuple #[.int .i64 ((Rb l ev).1 : Int), .int .i64 wr] ∧ wr ≠ 0 ∧ (1 ≤ wr ∧ wr ≤ 5) ∧ BkM w w' gb b' lost' ∧ l[(Rb l ev).1]? = some y ∧ LostOr y (Rb l ev).2.2 lost') :=
  (keep_ok hM hB gb0 hS0 hD0 hV0 hW0 hf hev hpr).mono fun v_ w' h => by
    obtain ⟨h1, a_, wr, rfl, ⟨_, rfl, h3, h4, b', l', h5, y, h6, h7⟩ | ⟨h2, _⟩⟩ := h
    · exact ⟨h1, wr, b', l', y, rfl, h3, h4, h5, h6, h7⟩
    · omega
theorem keepE {w wa : World} {gb : Nat} {l : List StepD} {ev : List EvD} {A A2 : Option Addr} {c c2 : Nat} (hc : (Rb l ev).1 = (l.zip ev).length) (hl : l.length = ev.length) (hM : BkM w wa gb ⟨[], 0, true⟩ []) (hB : w.grownBy wa none) (gb0 : w.heap.size ≤ gb) (hS0 : Sli 0 0 w.heap.size w A (fl encS l)) (hD0 : DeepS w.heap.size w l) (hV0 : Sli 0 0 w.heap.size w A2 (fl encEv ev)) (hW0 : DeepV w.heap.size w ev) (hf : FewSs l) (hev : ev.length ≤ 80) (hpr : ∀ x ∈ ev, x.prs.length ≤ 100) : Runs Try.prog 35 #[.pointer (some ⟨gb, 0, none⟩), .slice A l.length c, .slice A2 ev.length c2] wa (fun v_ w' => w.grownBy w' none ∧ v_ = .tuple #[.int .i64 (-1), .int .i64 0] ∧ BkM w w' gb (Rb l ev).2.1 (Rb l ev).2.2) :=
  (keep_ok hM hB gb0 hS0 hD0 hV0 hW0 hf hev hpr).mono fun v_ w' h => by
    obtain ⟨h1, a_, wr, rfl, ⟨h2, _⟩ | ⟨_, h3, ⟨_, rfl, rfl⟩ | ⟨h4, _⟩⟩⟩ := h
    · omega
    · exact ⟨h1, rfl, h3⟩
    · exact absurd hl h4
theorem keepL {w wa : World} {gb : Nat} {l : List StepD} {ev : List EvD} {A A2 : Option Addr} {c c2 : Nat} (hc : (Rb l ev).1 = (l.zip ev).length) (hl : l.length ≠ ev.length) (hM : BkM w wa gb ⟨[], 0, true⟩ []) (hB : w.grownBy wa none) (gb0 : w.heap.size ≤ gb) (hS0 : Sli 0 0 w.heap.size w A (fl encS l)) (hD0 : DeepS w.heap.size w l) (hV0 : Sli 0 0 w.heap.size w A2 (fl encEv ev)) (hW0 : DeepV w.heap.size w ev) (hf : FewSs l) (hev : ev.length ≤ 80) (hpr : ∀ x ∈ ev, x.prs.length ≤ 100) : Runs Try.prog 35 #[.pointer (some ⟨gb, 0, none⟩), .slice A l.length c, .slice A2 ev.length c2] wa (fun v_ w' => w.grownBy w' none ∧ v_ = .tuple #[.int .i64 ((l.zip ev).length : Int), .int .i64 6] ∧ BkM w w' gb (Rb l ev).2.1 (Rb l ev).2.2) :=
  (keep_ok hM hB gb0 hS0 hD0 hV0 hW0 hf hev hpr).mono fun v_ w' h => by
    obtain ⟨h1, a_, wr, rfl, ⟨h2, _⟩ | ⟨_, h3, ⟨h4, _⟩ | ⟨_, rfl, rfl⟩⟩⟩ := h
    · omega
    · exact absurd h4 hl
    · exact ⟨h1, rfl, h3⟩
end Go.Proofs.Ytbmohojdlgedpaa
