/-
  Contracts of the reference 39: the books behind any step.
-/
import Derived.Test.YtbmohojdlgedpaaHr
namespace Go.Proofs.Ytbmohojdlgedpaa
open Go.RowKit Gw Pl
set_option linter.unusedVariables false
set_option linter.unusedSimpArgs false
theorem agg44 : aggB Try.prog 44 5 = true := by kernel_rfl
theorem agg96 : aggB Try.prog 96 3 = true := by kernel_rfl
theorem cb56 : callB Try.prog 56 = true := by kernel_rfl
theorem cb57 : callB Try.prog 57 = true := by kernel_rfl
theorem cb74 : callB Try.prog 74 = true := by kernel_rfl
theorem cb88 : callB Try.prog 88 = true := by kernel_rfl
theorem cb9 : callB Try.prog 9 = true := by kernel_rfl
theorem fld44_0 : fldB Try.prog 44 0 0 = true := by kernel_rfl
theorem fld44_1 : fldB Try.prog 44 1 1 = true := by kernel_rfl
theorem fld44_2 : fldB Try.prog 44 2 2 = true := by kernel_rfl
theorem fld44_3 : fldB Try.prog 44 3 3 = true := by kernel_rfl
theorem fld44_4 : fldB Try.prog 44 4 4 = true := by kernel_rfl
theorem fld96_0 : fldB Try.prog 96 0 0 = true := by kernel_rfl
theorem fld96_1 : fldB Try.prog 96 1 1 = true := by kernel_rfl
theorem fld96_2 : fldB Try.prog 96 2 2 = true := by kernel_rfl
theorem sz96 : szB Try.prog 96 3 = true := by kernel_rfl
theorem zer96 : (Try.prog.info? 96).bind (·.zero) = some (.agg #[.slice none 0 0, .int .i64 0, .bool false]) := by kernel_rfl
theorem at_lt {w : World} {g o : Nat} {v : Value} {vs : List Value} (h : At w g o (v :: vs)) : g < w.heap.size := World.block_lt_of_cell? w ⟨g, o + 0, none⟩ (h 0 v rfl)
theorem SOk_kind {kd n : Int} {ops : List Opd} {kn : Nat} {tn ct : Int} (h : SOk kd n ops kn tn ct) : 1 ≤ kd ∧ kd ≤ 6 := by unfold SOk at h; omega
theorem fits_iff {b b2 : BkP} {y : StepD} {e : EvD} (en : nxt b y e = b2) (hk : e.kind = y.p.kind) (hi : sOk y.p ↔ e.e ≠ 13) (hd : e.e = 0 → okD b y e) : FitsB b2 e ↔ okB b y e :=
  ⟨fun h => ⟨hk, hi, hd, by rw [en]; exact h⟩, fun h => by have := h.2.2.2; rw [en] at this; exact this⟩
theorem decE {p q : Prop} [Decidable p] [Decidable q] (h : p ↔ q) : decide p = decide q := by by_cases hp : p <;> simp [hp, h.1, (not_congr h).1, h.symm] <;> simp_all
theorem pairs39_ok {w : World} {b : BkP} {A : Option Addr} {c : Nat} (hL : Sli 80 0 w.heap.size w A (fl encO2 b.l)) (hDO : DeepO w.heap.size w b.l) (hno : opsN b.l ≤ 700000) (hnl : b.l.length ≤ 1000) :
    Runs Try.prog 74 #[.agg #[.slice A b.l.length c, .int .i64 b.syn, .bool b.has]] w (fun v_ w' => w.grownBy w' none ∧ ∃ A' c', v_ = .slice A' (apH b).length c' ∧ Sli 0 0 w'.heap.size w' A' (fl encK (apH b))) := by
  have hB := gb_refl w none
  refine enter Try.func74 Try.ntmps74 rfl rfl ?_
  refine C_seq (C_reg rfl ?_)
  refine L_box (cs := [.slice A b.l.length c, .int .i64 b.syn, .bool b.has]) rfl rfl rfl ?_
  intro g1 w1 eg1 hb1 hs1 hz1
  have ge1 : w.heap.size ≤ g1 := eg_ge hB eg1
  replace hB := gb_tr hB hs1
  replace hL := hL.gb hs1
  replace hDO := hDO.gb hs1
  refine L_run (R_assign rfl) rfl ?_
  refine L_nil (N_then (C_seq (C_seq (C_reg rfl ?_))))
  refine L_run (R_field (r := 2) rfl fld96_2 rfl) rfl ?_
  refine L_run (R_load1 rfl scl4 (hb1.cell (i := 2) rfl)) rfl ?_
  refine L_run (R_not rfl) rfl ?_
  refine L_nil (N_then ?_)
  refine C_cond rfl (fun h1 => ?_) (fun h1 => ?_)
  · refine C_seq (C_reg rfl ?_)
    refine L_run (R_assign rfl) rfl ?_
    refine L_nil (N_then (C_ret (R_then ?_)))
    refine ret1 Try.results74 rfl ?_
    have ea_ : apH b = [] := if_neg (by have h_ := h1; simp_all)
    rw [ea_]; exact ⟨hB, none, 0, rfl, Sli.nil⟩
  · refine C_skip (N_then (C_seq (C_reg rfl ?_)))
    refine L_run (R_field (r := 0) rfl fld96_0 rfl) rfl ?_
    refine L_run (R_load1 rfl scl90 (hb1.cell (i := 0) rfl)) rfl ?_
    refine L_run (R_field (r := 0) rfl fld96_0 rfl) rfl ?_
    refine L_run (R_load1 rfl scl90 (hb1.cell (i := 0) rfl)) rfl ?_
    refine L_run (R_lenSl rfl slc90) rfl ?_
    refine L_call rfl cb88 (rafter_ok (l := b.l) hL hDO.top (by omega) (by omega)) rfl ?_
    rintro _ w2 ⟨hs2, A_1, c_1, rfl, hS_1⟩
    replace hB := gb_tr hB hs2
    replace hL := hL.gb hs2
    replace hDO := hDO.gb hs2
    replace hb1 := hb1.gb hs2
    refine L_run (R_assign rfl) rfl ?_
    refine L_nil (N_then (C_ret ?_))
    refine ret1 Try.results74 rfl ?_
    have ea_ : apH b = apL b.l := if_pos (by have h_ := h1; simp_all)
    rw [ea_]; exact ⟨hB, _, _, rfl, Sli.any hS_1⟩

theorem fits39_ok {w : World} {b : BkP} {e : EvD} {A : Option Addr} {c : Nat} (hL : Sli 80 0 w.heap.size w A (fl encO2 b.l)) (hDO : DeepO w.heap.size w b.l) (hno : opsN b.l ≤ 700000) (hnl : b.l.length ≤ 1000) (hP : Sli 0 0 w.heap.size w e.pa (fl encK e.prs)) (hp : e.prs.length ≤ 1000) :
    Runs Try.prog 57 #[.agg #[.slice A b.l.length c, .int .i64 b.syn, .bool b.has], .agg #[.int .i64 e.kind, .int .i64 e.e, .int .i64 e.bat, .int .i64 e.syn, .slice e.pa e.prs.length e.pc]] w (fun v w' => w.grownBy w' none ∧ v = .bool (decide (FitsB b e))) := by
  have hB := gb_refl w none
  refine enter Try.func57 Try.ntmps57 rfl rfl ?_
  refine C_seq (C_reg rfl ?_)
  refine L_box (cs := [.slice A b.l.length c, .int .i64 b.syn, .bool b.has]) rfl rfl rfl ?_
  intro g1 w1 eg1 hb1 hs1 hz1
  have ge1 : w.heap.size ≤ g1 := eg_ge hB eg1
  replace hB := gb_tr hB hs1
  replace hL := hL.gb hs1
  replace hDO := hDO.gb hs1
  replace hP := hP.gb hs1
  refine L_box (cs := [.int .i64 e.kind, .int .i64 e.e, .int .i64 e.bat, .int .i64 e.syn, .slice e.pa e.prs.length e.pc]) rfl rfl rfl ?_
  intro g2 w2 eg2 hb2 hs2 hz2
  have ge2 : w.heap.size ≤ g2 := eg_ge hB eg2
  have lt1 : g1 < g2 := lt_of_eg hb1.lt eg2
  replace hB := gb_tr hB hs2
  replace hL := hL.gb hs2
  replace hDO := hDO.gb hs2
  replace hP := hP.gb hs2
  replace hb1 := hb1.gb hs2
  refine L_run (R_assign rfl) rfl ?_
  refine L_nil (N_then (C_seq ?_))
  refine C_draw2 rfl mix ?_
  intro w3 hs3 hz3
  replace hB := gb_tr hB hs3
  replace hL := hL.gb hs3
  replace hDO := hDO.gb hs3
  replace hP := hP.gb hs3
  replace hb1 := hb1.gb hs3
  replace hb2 := hb2.gb hs3
  refine ⟨fun W_ => Blk W_ g1 96 [.slice A b.l.length c, .int .i64 b.syn, .bool b.has] ∧ Blk W_ g2 44 [.int .i64 e.kind, .int .i64 e.e, .int .i64 e.bat, .int .i64 e.syn, .slice e.pa e.prs.length e.pc] ∧ True, [0, 1, 2, 3, 4, 5, 6, 7, 8, 9, 10, 11, 12, 13, 14, 15, 16, 19, 20], ?_⟩
  refine T_takeA (i := 0) rfl (by kernel_rfl) (by kernel_rfl) (by kernel_rfl) (by kernel_rfl) (Y_of (fun _ ⟨hb1, hb2, _⟩ => R_field (r := 2) rfl fld44_2 rfl)) ⟨hb1, hb2, trivial⟩ rfl ?_
  refine T_takeA (i := 1) rfl (by kernel_rfl) (by kernel_rfl) (by kernel_rfl) (by kernel_rfl) (Y_of (fun _ ⟨hb1, hb2, _⟩ => R_load1 rfl scl3 (hb2.cell (i := 2) rfl))) ⟨hb1, hb2, trivial⟩ rfl ?_
  refine T_takeA (i := 2) rfl (by kernel_rfl) (by kernel_rfl) (by kernel_rfl) (by kernel_rfl) (Y_of (fun _ ⟨hb1, hb2, _⟩ => R_field (r := 0) rfl fld96_0 rfl)) ⟨hb1, hb2, trivial⟩ rfl ?_
  refine T_takeA (i := 3) rfl (by kernel_rfl) (by kernel_rfl) (by kernel_rfl) (by kernel_rfl) (Y_of (fun _ ⟨hb1, hb2, _⟩ => R_load1 rfl scl90 (hb1.cell (i := 0) rfl))) ⟨hb1, hb2, trivial⟩ rfl ?_
  refine T_takeA (i := 4) rfl (by kernel_rfl) (by kernel_rfl) (by kernel_rfl) (by kernel_rfl) (Y_of (fun _ ⟨hb1, hb2, _⟩ => R_lenSl rfl slc90)) ⟨hb1, hb2, trivial⟩ rfl ?_
  refine T_takeA (i := 5) rfl (by kernel_rfl) (by kernel_rfl) (by kernel_rfl) (by kernel_rfl) (Y_of (fun _ ⟨hb1, hb2, _⟩ => R_eql rfl rfl)) ⟨hb1, hb2, trivial⟩ rfl ?_
  refine T_takeA (i := 6) rfl (by kernel_rfl) (by kernel_rfl) (by kernel_rfl) (by kernel_rfl) (Y_of (fun _ ⟨hb1, hb2, _⟩ => R_move rfl)) ⟨hb1, hb2, trivial⟩ rfl ?_
  by_cases h1 : e.bat = (b.l.length : Int)
  · refine T_takeA (i := 7) rfl (by kernel_rfl) (by kernel_rfl) (by kernel_rfl) (by kernel_rfl) (Y_yes rfl rfl rfl (decide_eq_true h1) (fun _ ⟨hb1, hb2, _⟩ => R_field (r := 3) rfl fld44_3 rfl)) ⟨hb1, hb2, trivial⟩ rfl ?_
    refine T_takeA (i := 8) rfl (by kernel_rfl) (by kernel_rfl) (by kernel_rfl) (by kernel_rfl) (Y_yes rfl rfl rfl (decide_eq_true h1) (fun _ ⟨hb1, hb2, _⟩ => R_load1 rfl scl3 (hb2.cell (i := 3) rfl))) ⟨hb1, hb2, trivial⟩ rfl ?_
    refine T_takeA (i := 9) rfl (by kernel_rfl) (by kernel_rfl) (by kernel_rfl) (by kernel_rfl) (Y_yes rfl rfl rfl (decide_eq_true h1) (fun _ ⟨hb1, hb2, _⟩ => R_field (r := 1) rfl fld96_1 rfl)) ⟨hb1, hb2, trivial⟩ rfl ?_
    refine T_takeA (i := 10) rfl (by kernel_rfl) (by kernel_rfl) (by kernel_rfl) (by kernel_rfl) (Y_yes rfl rfl rfl (decide_eq_true h1) (fun _ ⟨hb1, hb2, _⟩ => R_load1 rfl scl3 (hb1.cell (i := 1) rfl))) ⟨hb1, hb2, trivial⟩ rfl ?_
    refine T_takeA (i := 11) rfl (by kernel_rfl) (by kernel_rfl) (by kernel_rfl) (by kernel_rfl) (Y_yes rfl rfl rfl (decide_eq_true h1) (fun _ ⟨hb1, hb2, _⟩ => R_eql rfl rfl)) ⟨hb1, hb2, trivial⟩ rfl ?_
    refine T_takeA (i := 12) rfl (by kernel_rfl) (by kernel_rfl) (by kernel_rfl) (by kernel_rfl) (Y_of (fun _ ⟨hb1, hb2, _⟩ => R_pickT rfl (decide_eq_true h1) rfl)) ⟨hb1, hb2, trivial⟩ rfl ?_
    refine T_takeA (i := 13) rfl (by kernel_rfl) (by kernel_rfl) (by kernel_rfl) (by kernel_rfl) (Y_of (fun _ ⟨hb1, hb2, _⟩ => R_move rfl)) ⟨hb1, hb2, trivial⟩ rfl ?_
    by_cases h2 : e.syn = b.syn
    · refine T_takeA (i := 14) rfl (by kernel_rfl) (by kernel_rfl) (by kernel_rfl) (by kernel_rfl) (Y_yes rfl rfl rfl (decide_eq_true h2) (fun _ ⟨hb1, hb2, _⟩ => R_field (r := 4) rfl fld44_4 rfl)) ⟨hb1, hb2, trivial⟩ rfl ?_
      refine T_takeA (i := 15) rfl (by kernel_rfl) (by kernel_rfl) (by kernel_rfl) (by kernel_rfl) (Y_yes rfl rfl rfl (decide_eq_true h2) (fun _ ⟨hb1, hb2, _⟩ => R_load1 rfl scl29 (hb2.cell (i := 4) rfl))) ⟨hb1, hb2, trivial⟩ rfl ?_
      refine T_takeA (i := 16) rfl (by kernel_rfl) (by kernel_rfl) (by kernel_rfl) (by kernel_rfl) (Y_yes rfl rfl rfl (decide_eq_true h2) (fun _ ⟨hb1, hb2, _⟩ => R_loadA (vs := [.slice A b.l.length c, .int .i64 b.syn, .bool b.has]) rfl agg96 (At.pre (hb1.at_ 0) rfl) rfl)) ⟨hb1, hb2, trivial⟩ rfl ?_
      refine T_all (rs := [17]) (by kernel_rfl) rfl (all1 (O_one rfl ?_))
      refine L_yes rfl rfl rfl (decide_eq_true h2) ?_
      refine L_call rfl cb74 (pairs39_ok (b := b) (Sli.zero hL) hDO.top hno hnl) rfl ?_
      rintro _ w4 ⟨hs4, A_1, c_1, rfl, hS_1⟩
      replace hB := gb_tr hB hs4
      replace hL := hL.gb hs4
      replace hDO := hDO.gb hs4
      replace hP := hP.gb hs4
      replace hb1 := hb1.gb hs4
      replace hb2 := hb2.gb hs4
      refine L_nil (N_then ⟨fun hN_ => ⟨hb1, hb2, trivial⟩, ?_⟩)
      refine T_all (rs := [18]) (by kernel_rfl) rfl (all1 (O_one rfl ?_))
      refine L_yes rfl rfl rfl (decide_eq_true h2) ?_
      refine L_call rfl cb9 (same31d_ok (a := e.prs) (b := (apH b)) hP hS_1 (by omega)) rfl ?_
      rintro _ w5 ⟨hs5, rfl⟩
      replace hB := gb_tr hB hs5
      replace hL := hL.gb hs5
      replace hDO := hDO.gb hs5
      replace hP := hP.gb hs5
      replace hb1 := hb1.gb hs5
      replace hb2 := hb2.gb hs5
      replace hS_1 := hS_1.gb hs5
      refine L_nil (N_then ⟨fun hN_ => ⟨hb1, hb2, trivial⟩, ?_⟩)
      refine T_takeA (i := 19) rfl (by kernel_rfl) (by kernel_rfl) (by kernel_rfl) (by kernel_rfl) (Y_of (fun _ ⟨hb1, hb2, _⟩ => R_pickT rfl (decide_eq_true h2) rfl)) ⟨hb1, hb2, trivial⟩ rfl ?_
      refine T_takeA (i := 20) rfl (by kernel_rfl) (by kernel_rfl) (by kernel_rfl) (by kernel_rfl) (Y_of (fun _ ⟨hb1, hb2, _⟩ => R_assign rfl)) ⟨hb1, hb2, trivial⟩ rfl ?_
      refine T_done (by kernel_rfl) (CalmE.normal ?_)
      refine N_then (C_ret ?_)
      refine ret1 Try.results57 rfl ?_
      exact ⟨hB, bD ⟨fun q_ => ⟨by omega, by omega, q_⟩, fun q_ => q_.2.2⟩⟩
    · refine T_takeA (i := 14) rfl (by kernel_rfl) (by kernel_rfl) (by kernel_rfl) (by kernel_rfl) (Y_no rfl rfl rfl (decide_eq_false h2)) ⟨hb1, hb2, trivial⟩ rfl ?_
      refine T_takeA (i := 15) rfl (by kernel_rfl) (by kernel_rfl) (by kernel_rfl) (by kernel_rfl) (Y_no rfl rfl rfl (decide_eq_false h2)) ⟨hb1, hb2, trivial⟩ rfl ?_
      refine T_takeA (i := 16) rfl (by kernel_rfl) (by kernel_rfl) (by kernel_rfl) (by kernel_rfl) (Y_no rfl rfl rfl (decide_eq_false h2)) ⟨hb1, hb2, trivial⟩ rfl ?_
      refine T_all (rs := [17]) (by kernel_rfl) rfl (all1 (O_one rfl ?_))
      refine L_no rfl rfl rfl (decide_eq_false h2) rfl ?_
      refine L_nil (N_then ⟨fun hN_ => ⟨hb1, hb2, trivial⟩, ?_⟩)
      refine T_all (rs := [18]) (by kernel_rfl) rfl (all1 (O_one rfl ?_))
      refine L_no rfl rfl rfl (decide_eq_false h2) rfl ?_
      refine L_nil (N_then ⟨fun hN_ => ⟨hb1, hb2, trivial⟩, ?_⟩)
      refine T_takeA (i := 19) rfl (by kernel_rfl) (by kernel_rfl) (by kernel_rfl) (by kernel_rfl) (Y_of (fun _ ⟨hb1, hb2, _⟩ => R_pickF rfl (decide_eq_false h2) rfl)) ⟨hb1, hb2, trivial⟩ rfl ?_
      refine T_takeA (i := 20) rfl (by kernel_rfl) (by kernel_rfl) (by kernel_rfl) (by kernel_rfl) (Y_of (fun _ ⟨hb1, hb2, _⟩ => R_assign rfl)) ⟨hb1, hb2, trivial⟩ rfl ?_
      refine T_done (by kernel_rfl) (CalmE.normal ?_)
      refine N_then (C_ret ?_)
      refine ret1 Try.results57 rfl ?_
      exact ⟨hB, bF (fun q_ => by have h1_ := q_.1; have h2_ := q_.2.1; omega)⟩
  · refine T_takeA (i := 7) rfl (by kernel_rfl) (by kernel_rfl) (by kernel_rfl) (by kernel_rfl) (Y_no rfl rfl rfl (decide_eq_false h1)) ⟨hb1, hb2, trivial⟩ rfl ?_
    refine T_takeA (i := 8) rfl (by kernel_rfl) (by kernel_rfl) (by kernel_rfl) (by kernel_rfl) (Y_no rfl rfl rfl (decide_eq_false h1)) ⟨hb1, hb2, trivial⟩ rfl ?_
    refine T_takeA (i := 9) rfl (by kernel_rfl) (by kernel_rfl) (by kernel_rfl) (by kernel_rfl) (Y_no rfl rfl rfl (decide_eq_false h1)) ⟨hb1, hb2, trivial⟩ rfl ?_
    refine T_takeA (i := 10) rfl (by kernel_rfl) (by kernel_rfl) (by kernel_rfl) (by kernel_rfl) (Y_no rfl rfl rfl (decide_eq_false h1)) ⟨hb1, hb2, trivial⟩ rfl ?_
    refine T_takeA (i := 11) rfl (by kernel_rfl) (by kernel_rfl) (by kernel_rfl) (by kernel_rfl) (Y_no rfl rfl rfl (decide_eq_false h1)) ⟨hb1, hb2, trivial⟩ rfl ?_
    refine T_takeA (i := 12) rfl (by kernel_rfl) (by kernel_rfl) (by kernel_rfl) (by kernel_rfl) (Y_of (fun _ ⟨hb1, hb2, _⟩ => R_pickF rfl (decide_eq_false h1) rfl)) ⟨hb1, hb2, trivial⟩ rfl ?_
    refine T_takeA (i := 13) rfl (by kernel_rfl) (by kernel_rfl) (by kernel_rfl) (by kernel_rfl) (Y_of (fun _ ⟨hb1, hb2, _⟩ => R_move rfl)) ⟨hb1, hb2, trivial⟩ rfl ?_
    refine T_takeA (i := 14) rfl (by kernel_rfl) (by kernel_rfl) (by kernel_rfl) (by kernel_rfl) (Y_no rfl rfl rfl rfl) ⟨hb1, hb2, trivial⟩ rfl ?_
    refine T_takeA (i := 15) rfl (by kernel_rfl) (by kernel_rfl) (by kernel_rfl) (by kernel_rfl) (Y_no rfl rfl rfl rfl) ⟨hb1, hb2, trivial⟩ rfl ?_
    refine T_takeA (i := 16) rfl (by kernel_rfl) (by kernel_rfl) (by kernel_rfl) (by kernel_rfl) (Y_no rfl rfl rfl rfl) ⟨hb1, hb2, trivial⟩ rfl ?_
    refine T_all (rs := [17]) (by kernel_rfl) rfl (all1 (O_one rfl ?_))
    refine L_no rfl rfl rfl rfl rfl ?_
    refine L_nil (N_then ⟨fun hN_ => ⟨hb1, hb2, trivial⟩, ?_⟩)
    refine T_all (rs := [18]) (by kernel_rfl) rfl (all1 (O_one rfl ?_))
    refine L_no rfl rfl rfl rfl rfl ?_
    refine L_nil (N_then ⟨fun hN_ => ⟨hb1, hb2, trivial⟩, ?_⟩)
    refine T_takeA (i := 19) rfl (by kernel_rfl) (by kernel_rfl) (by kernel_rfl) (by kernel_rfl) (Y_of (fun _ ⟨hb1, hb2, _⟩ => R_pickF rfl rfl rfl)) ⟨hb1, hb2, trivial⟩ rfl ?_
    refine T_takeA (i := 20) rfl (by kernel_rfl) (by kernel_rfl) (by kernel_rfl) (by kernel_rfl) (Y_of (fun _ ⟨hb1, hb2, _⟩ => R_assign rfl)) ⟨hb1, hb2, trivial⟩ rfl ?_
    refine T_done (by kernel_rfl) (CalmE.normal ?_)
    refine N_then (C_ret ?_)
    refine ret1 Try.results57 rfl ?_
    exact ⟨hB, bF (fun q_ => by have h1_ := q_.1; have h2_ := q_.2.1; omega)⟩

theorem next39_n {w : World} {b : BkP} {y : StepD} {e : EvD} {A : Option Addr} {c n : Nat} (hL0 : Sli 80 0 w.heap.size w A (fl encO2 b.l)) (hDO : DeepO w.heap.size w b.l) (hg : GoodB n b) (hn : n ≤ 900) (hlc : b.l.length ≤ c) (hOp : Sli 0 0 w.heap.size w y.oa (fl encOp y.p.ops)) (hPr : Sli 0 0 w.heap.size w e.pa (fl encK e.prs)) (hy30 : y.p.ops.length ≤ 30) (hp : e.prs.length ≤ 1000) (hr : ¬ sOk y.p) :
    Runs Try.prog 37 #[.agg #[.slice A b.l.length c, .int .i64 b.syn, .bool b.has], .agg #[.int .i64 y.p.kind, .int .i64 y.p.n, .slice y.oa y.p.ops.length y.oc, .slice y.ka y.p.keep.length y.kc, .int .i64 y.p.torn, .int .i64 y.p.cut], .agg #[.int .i64 e.kind, .int .i64 e.e, .int .i64 e.bat, .int .i64 e.syn, .slice e.pa e.prs.length e.pc]] w (fun v_ w' => w.grownBy w' none ∧ ∃ A' c' b', v_ = .tuple #[.agg #[.slice A' b'.l.length c', .int .i64 b'.syn, .bool b'.has], .bool (decide (okB b y e))] ∧ (okB b y e → b' = nxt b y e) ∧ Sli 80 0 w'.heap.size w' A' (fl encO2 b'.l) ∧ b'.l.length ≤ c') := by
  have hB := gb_refl w none
  have hL := hL0
  have hg1 := hg.1
  have hg2 := hg.2.1
  have hno := hg.ops (by omega)
  have hnl : b.l.length ≤ 1000 := by omega
  have hDO0 := hDO
  have hOp0 := hOp
  refine enter Try.func37 Try.ntmps37 rfl rfl ?_
  refine C_seq (C_reg rfl ?_)
  refine L_box (cs := [.slice A b.l.length c, .int .i64 b.syn, .bool b.has]) rfl rfl rfl ?_
  intro g1 w1 eg1 hb1 hs1 hz1
  have ge1 : w.heap.size ≤ g1 := eg_ge hB eg1
  replace hB := gb_tr hB hs1
  replace hL := hL.gb hs1
  replace hDO := hDO.gb hs1
  replace hOp := hOp.gb hs1
  replace hPr := hPr.gb hs1
  refine L_box (cs := [.int .i64 y.p.kind, .int .i64 y.p.n, .slice y.oa y.p.ops.length y.oc, .slice y.ka y.p.keep.length y.kc, .int .i64 y.p.torn, .int .i64 y.p.cut]) rfl rfl rfl ?_
  intro g2 w2 eg2 hb2 hs2 hz2
  have ge2 : w.heap.size ≤ g2 := eg_ge hB eg2
  have lt1 : g1 < g2 := lt_of_eg hb1.lt eg2
  replace hB := gb_tr hB hs2
  replace hL := hL.gb hs2
  replace hDO := hDO.gb hs2
  replace hOp := hOp.gb hs2
  replace hPr := hPr.gb hs2
  replace hb1 := hb1.gb hs2
  refine L_box (cs := [.int .i64 e.kind, .int .i64 e.e, .int .i64 e.bat, .int .i64 e.syn, .slice e.pa e.prs.length e.pc]) rfl rfl rfl ?_
  intro g3 w3 eg3 hb3 hs3 hz3
  have ge3 : w.heap.size ≤ g3 := eg_ge hB eg3
  have lt2 : g1 < g3 := lt_of_eg hb1.lt eg3
  have lt3 : g2 < g3 := lt_of_eg hb2.lt eg3
  replace hB := gb_tr hB hs3
  replace hL := hL.gb hs3
  replace hDO := hDO.gb hs3
  replace hOp := hOp.gb hs3
  replace hPr := hPr.gb hs3
  replace hb1 := hb1.gb hs3
  replace hb2 := hb2.gb hs3
  refine L_alloc (cs := [.slice none 0 0, .int .i64 0, .bool false]) zer96 rfl rfl ?_
  intro g4 w4 eg4 hb4 hs4 hz4
  have ge4 : w.heap.size ≤ g4 := eg_ge hB eg4
  have lt4 : g1 < g4 := lt_of_eg hb1.lt eg4
  have lt5 : g2 < g4 := lt_of_eg hb2.lt eg4
  have lt6 : g3 < g4 := lt_of_eg hb3.lt eg4
  replace hB := gb_tr hB hs4
  replace hL := hL.gb hs4
  replace hDO := hDO.gb hs4
  replace hOp := hOp.gb hs4
  replace hPr := hPr.gb hs4
  replace hb1 := hb1.gb hs4
  replace hb2 := hb2.gb hs4
  replace hb3 := hb3.gb hs4
  refine L_run (R_assign rfl) rfl ?_
  refine L_nil (N_then (C_seq (C_seq (C_reg rfl ?_))))
  refine L_run (R_field (r := 0) rfl fld44_0 rfl) rfl ?_
  refine L_run (R_load1 rfl scl3 (hb3.cell (i := 0) rfl)) rfl ?_
  refine L_run (R_field (r := 0) rfl fld86_0 rfl) rfl ?_
  refine L_run (R_load1 rfl scl3 (hb2.cell (i := 0) rfl)) rfl ?_
  refine L_run (R_neq rfl rfl) rfl ?_
  refine L_nil (N_then ?_)
  refine C_if rfl (fun h1 => ?_) (fun h1 => ?_)
  · refine C_seq (C_reg rfl ?_)
    refine L_run (R_loadA (vs := [.slice A b.l.length c, .int .i64 b.syn, .bool b.has]) rfl agg96 (At.pre (hb1.at_ 0) rfl) rfl) rfl ?_
    refine L_stA (vs := [.slice A b.l.length c, .int .i64 b.syn, .bool b.has]) rfl rfl rfl sz96 rfl hb4 rfl ?_
    intro w5 hb5 hs5 hz5
    replace hB := gb_trg hB hs5 ge4
    replace hL := hL.other hb4 rfl rfl hs5
    replace hDO := hDO.old hs5 ge4
    replace hOp := hOp.old hs5 ge4
    replace hPr := hPr.old hs5 ge4
    replace hb1 := hb1.grown hs5 (ne_lt lt4)
    replace hb2 := hb2.grown hs5 (ne_lt lt5)
    replace hb3 := hb3.grown hs5 (ne_lt lt6)
    refine L_run (R_assign rfl) rfl ?_
    refine L_nil (N_then (C_ret (R_then ?_)))
    refine retC1 (vs := [.slice A b.l.length c, .int .i64 b.syn, .bool b.has]) Try.results37 rfl agg96 (At.pre (hb5.at_ 0) rfl) rfl rfl ?_
    have hno_ : ¬ okB b y e := fun q_ => by have h_ := q_.1; omega
    exact ⟨hB, _, _, (⟨b.l, b.syn, b.has⟩ : BkP), by rw [decide_eq_false hno_], fun q_ => absurd q_ hno_, Sli.zero hL, (by first | omega | (simp only [List.length_take]; omega))⟩
  · refine C_skip (N_then (C_seq (C_seq (C_reg rfl ?_))))
    refine L_run (R_loadA (vs := [.int .i64 y.p.kind, .int .i64 y.p.n, .slice y.oa y.p.ops.length y.oc, .slice y.ka y.p.keep.length y.kc, .int .i64 y.p.torn, .int .i64 y.p.cut]) rfl agg86 (At.pre (hb2.at_ 0) rfl) rfl) rfl ?_
    refine L_call rfl cb56 (ref38_Right (ops := y.p.ops) hOp (by omega)) rfl ?_
    rintro _ w6 ⟨hs6, rfl⟩
    replace hB := gb_tr hB hs6
    replace hL := hL.gb hs6
    replace hDO := hDO.gb hs6
    replace hOp := hOp.gb hs6
    replace hPr := hPr.gb hs6
    replace hb1 := hb1.gb hs6
    replace hb2 := hb2.gb hs6
    replace hb3 := hb3.gb hs6
    replace hb4 := hb4.gb hs6
    refine L_run (R_notD rfl) rfl ?_
    refine L_nil (N_then (C_condT rfl (decide_eq_true (show ¬ (SOk y.p.kind y.p.n y.p.ops y.p.keep.length y.p.torn y.p.cut) from hr)) (C_seq ?_)))
    refine C_draw2 rfl mix ?_
    intro w7 hs7 hz6
    replace hB := gb_tr hB hs7
    replace hL := hL.gb hs7
    replace hDO := hDO.gb hs7
    replace hOp := hOp.gb hs7
    replace hPr := hPr.gb hs7
    replace hb1 := hb1.gb hs7
    replace hb2 := hb2.gb hs7
    replace hb3 := hb3.gb hs7
    replace hb4 := hb4.gb hs7
    refine ⟨fun W_ => Blk W_ g1 96 [.slice A b.l.length c, .int .i64 b.syn, .bool b.has] ∧ Blk W_ g3 44 [.int .i64 e.kind, .int .i64 e.e, .int .i64 e.bat, .int .i64 e.syn, .slice e.pa e.prs.length e.pc] ∧ True, [0, 1, 2, 3, 4, 5, 6, 8, 10], ?_⟩
    refine T_takeA (i := 0) rfl (by kernel_rfl) (by kernel_rfl) (by kernel_rfl) (by kernel_rfl) (Y_of (fun _ ⟨hb1, hb3, _⟩ => R_loadA (vs := [.slice A b.l.length c, .int .i64 b.syn, .bool b.has]) rfl agg96 (At.pre (hb1.at_ 0) rfl) rfl)) ⟨hb1, hb3, trivial⟩ rfl ?_
    refine T_takeA (i := 1) rfl (by kernel_rfl) (by kernel_rfl) (by kernel_rfl) (by kernel_rfl) (Y_of (fun _ ⟨hb1, hb3, _⟩ => R_field (r := 1) rfl fld44_1 rfl)) ⟨hb1, hb3, trivial⟩ rfl ?_
    refine T_takeA (i := 2) rfl (by kernel_rfl) (by kernel_rfl) (by kernel_rfl) (by kernel_rfl) (Y_of (fun _ ⟨hb1, hb3, _⟩ => R_load1 rfl scl42 (hb3.cell (i := 1) rfl))) ⟨hb1, hb3, trivial⟩ rfl ?_
    refine T_takeA (i := 3) rfl (by kernel_rfl) (by kernel_rfl) (by kernel_rfl) (by kernel_rfl) (Y_of (fun _ ⟨hb1, hb3, _⟩ => R_eql rfl rfl)) ⟨hb1, hb3, trivial⟩ rfl ?_
    refine T_takeA (i := 4) rfl (by kernel_rfl) (by kernel_rfl) (by kernel_rfl) (by kernel_rfl) (Y_of (fun _ ⟨hb1, hb3, _⟩ => R_move rfl)) ⟨hb1, hb3, trivial⟩ rfl ?_
    by_cases h2 : e.e = 13
    · refine T_takeA (i := 5) rfl (by kernel_rfl) (by kernel_rfl) (by kernel_rfl) (by kernel_rfl) (Y_yes rfl rfl rfl (decide_eq_true h2) (fun _ ⟨hb1, hb3, _⟩ => R_loadA (vs := [.slice A b.l.length c, .int .i64 b.syn, .bool b.has]) rfl agg96 (At.pre (hb1.at_ 0) rfl) rfl)) ⟨hb1, hb3, trivial⟩ rfl ?_
      refine T_takeA (i := 6) rfl (by kernel_rfl) (by kernel_rfl) (by kernel_rfl) (by kernel_rfl) (Y_yes rfl rfl rfl (decide_eq_true h2) (fun _ ⟨hb1, hb3, _⟩ => R_loadA (vs := [.int .i64 e.kind, .int .i64 e.e, .int .i64 e.bat, .int .i64 e.syn, .slice e.pa e.prs.length e.pc]) rfl agg44 (At.pre (hb3.at_ 0) rfl) rfl)) ⟨hb1, hb3, trivial⟩ rfl ?_
      refine T_all (rs := [7]) (by kernel_rfl) rfl (all1 (O_one rfl ?_))
      refine L_yes rfl rfl rfl (decide_eq_true h2) ?_
      refine L_call rfl cb57 (fits39_ok (b := b) (e := e) (Sli.zero hL) hDO.top hno hnl (Sli.any hPr) (by omega)) rfl ?_
      rintro _ w8 ⟨hs8, rfl⟩
      replace hB := gb_tr hB hs8
      replace hL := hL.gb hs8
      replace hDO := hDO.gb hs8
      replace hOp := hOp.gb hs8
      replace hPr := hPr.gb hs8
      replace hb1 := hb1.gb hs8
      replace hb2 := hb2.gb hs8
      replace hb3 := hb3.gb hs8
      replace hb4 := hb4.gb hs8
      refine L_nil (N_then ⟨fun hN_ => ⟨hb1, hb3, trivial⟩, ?_⟩)
      refine T_takeA (i := 8) rfl (by kernel_rfl) (by kernel_rfl) (by kernel_rfl) (by kernel_rfl) (Y_of (fun _ ⟨hb1, hb3, _⟩ => R_pickT rfl (decide_eq_true h2) rfl)) ⟨hb1, hb3, trivial⟩ rfl ?_
      refine T_all (rs := [9]) (by kernel_rfl) rfl (all1 (O_one rfl ?_))
      refine L_stA (vs := [.slice A b.l.length c, .int .i64 b.syn, .bool b.has]) rfl rfl rfl sz96 rfl hb4 rfl ?_
      intro w9 hb6 hs9 hz7
      replace hB := gb_trg hB hs9 ge4
      replace hL := hL.other hb4 rfl rfl hs9
      replace hDO := hDO.old hs9 ge4
      replace hOp := hOp.old hs9 ge4
      replace hPr := hPr.old hs9 ge4
      replace hb1 := hb1.grown hs9 (ne_lt lt4)
      replace hb2 := hb2.grown hs9 (ne_lt lt5)
      replace hb3 := hb3.grown hs9 (ne_lt lt6)
      refine L_nil (N_then ⟨fun hN_ => ⟨hb1, hb3, trivial⟩, ?_⟩)
      refine T_takeA (i := 10) rfl (by kernel_rfl) (by kernel_rfl) (by kernel_rfl) (by kernel_rfl) (Y_of (fun _ ⟨hb1, hb3, _⟩ => R_assign rfl)) ⟨hb1, hb3, trivial⟩ rfl ?_
      refine T_done (by kernel_rfl) (CalmE.normal ?_)
      refine N_then (C_ret (R_then ?_))
      refine retC1 (vs := [.slice A b.l.length c, .int .i64 b.syn, .bool b.has]) Try.results37 rfl agg96 (At.pre (hb6.at_ 0) rfl) rfl rfl ?_
      have eh_ : (b.has && !(decide ((y.p.kind = 4 ∨ y.p.kind = 6) ∧ e.e ≠ 13))) = b.has := by
        first | (rw [show true = true from rfl]; rfl; done) | (rw [decide_eq_false (show ¬ ((y.p.kind = 4 ∨ y.p.kind = 6) ∧ e.e ≠ 13) by omega)]; simp; done) | (rw [decide_eq_true (show ((y.p.kind = 4 ∨ y.p.kind = 6) ∧ e.e ≠ 13) by omega)]; simp; done) | (simp_all; done)
      have en_ : nxt b y e = (⟨b.l, b.syn, b.has⟩ : BkP) := by unfold nxt; rw [if_neg (by omega), eh_]
      have hok_ := fits_iff en_ (by omega) ⟨fun q_ => by first | omega | exact absurd q_ hr, fun q_ => by first | exact hr | omega⟩ (fun q_ => by omega)
      exact ⟨hB, _, _, (⟨b.l, b.syn, b.has⟩ : BkP), by rw [← decE hok_], fun _ => en_.symm, Sli.zero hL, (by first | omega | (simp only [List.length_take]; omega))⟩
    · refine T_takeA (i := 5) rfl (by kernel_rfl) (by kernel_rfl) (by kernel_rfl) (by kernel_rfl) (Y_no rfl rfl rfl (decide_eq_false h2)) ⟨hb1, hb3, trivial⟩ rfl ?_
      refine T_takeA (i := 6) rfl (by kernel_rfl) (by kernel_rfl) (by kernel_rfl) (by kernel_rfl) (Y_no rfl rfl rfl (decide_eq_false h2)) ⟨hb1, hb3, trivial⟩ rfl ?_
      refine T_all (rs := [7]) (by kernel_rfl) rfl (all1 (O_one rfl ?_))
      refine L_no rfl rfl rfl (decide_eq_false h2) rfl ?_
      refine L_nil (N_then ⟨fun hN_ => ⟨hb1, hb3, trivial⟩, ?_⟩)
      refine T_takeA (i := 8) rfl (by kernel_rfl) (by kernel_rfl) (by kernel_rfl) (by kernel_rfl) (Y_of (fun _ ⟨hb1, hb3, _⟩ => R_pickF rfl (decide_eq_false h2) rfl)) ⟨hb1, hb3, trivial⟩ rfl ?_
      refine T_all (rs := [9]) (by kernel_rfl) rfl (all1 (O_one rfl ?_))
      refine L_stA (vs := [.slice A b.l.length c, .int .i64 b.syn, .bool b.has]) rfl rfl rfl sz96 rfl hb4 rfl ?_
      intro w10 hb7 hs10 hz8
      replace hB := gb_trg hB hs10 ge4
      replace hL := hL.other hb4 rfl rfl hs10
      replace hDO := hDO.old hs10 ge4
      replace hOp := hOp.old hs10 ge4
      replace hPr := hPr.old hs10 ge4
      replace hb1 := hb1.grown hs10 (ne_lt lt4)
      replace hb2 := hb2.grown hs10 (ne_lt lt5)
      replace hb3 := hb3.grown hs10 (ne_lt lt6)
      refine L_nil (N_then ⟨fun hN_ => ⟨hb1, hb3, trivial⟩, ?_⟩)
      refine T_takeA (i := 10) rfl (by kernel_rfl) (by kernel_rfl) (by kernel_rfl) (by kernel_rfl) (Y_of (fun _ ⟨hb1, hb3, _⟩ => R_assign rfl)) ⟨hb1, hb3, trivial⟩ rfl ?_
      refine T_done (by kernel_rfl) (CalmE.normal ?_)
      refine N_then (C_ret (R_then ?_))
      refine retC1 (vs := [.slice A b.l.length c, .int .i64 b.syn, .bool b.has]) Try.results37 rfl agg96 (At.pre (hb7.at_ 0) rfl) rfl rfl ?_
      have hno_ : ¬ okB b y e := fun q_ => by have h_ := q_.2.1; first | exact hr (h_.2 (by omega)) | exact (h_.1 hr) (by omega)
      exact ⟨hB, _, _, (⟨b.l, b.syn, b.has⟩ : BkP), by rw [decide_eq_false hno_], fun q_ => absurd q_ hno_, Sli.zero hL, (by first | omega | (simp only [List.length_take]; omega))⟩

theorem next39_d {w : World} {b : BkP} {y : StepD} {e : EvD} {A : Option Addr} {c n : Nat} (hL0 : Sli 80 0 w.heap.size w A (fl encO2 b.l)) (hDO : DeepO w.heap.size w b.l) (hg : GoodB n b) (hn : n ≤ 900) (hlc : b.l.length ≤ c) (hOp : Sli 0 0 w.heap.size w y.oa (fl encOp y.p.ops)) (hPr : Sli 0 0 w.heap.size w e.pa (fl encK e.prs)) (hy30 : y.p.ops.length ≤ 30) (hp : e.prs.length ≤ 1000) (hr : sOk y.p) (he0 : ¬ e.e = 0) :
    Runs Try.prog 37 #[.agg #[.slice A b.l.length c, .int .i64 b.syn, .bool b.has], .agg #[.int .i64 y.p.kind, .int .i64 y.p.n, .slice y.oa y.p.ops.length y.oc, .slice y.ka y.p.keep.length y.kc, .int .i64 y.p.torn, .int .i64 y.p.cut], .agg #[.int .i64 e.kind, .int .i64 e.e, .int .i64 e.bat, .int .i64 e.syn, .slice e.pa e.prs.length e.pc]] w (fun v_ w' => w.grownBy w' none ∧ ∃ A' c' b', v_ = .tuple #[.agg #[.slice A' b'.l.length c', .int .i64 b'.syn, .bool b'.has], .bool (decide (okB b y e))] ∧ (okB b y e → b' = nxt b y e) ∧ Sli 80 0 w'.heap.size w' A' (fl encO2 b'.l) ∧ b'.l.length ≤ c') := by
  have hB := gb_refl w none
  have hL := hL0
  have hg1 := hg.1
  have hg2 := hg.2.1
  have hno := hg.ops (by omega)
  have hnl : b.l.length ≤ 1000 := by omega
  have hDO0 := hDO
  have hOp0 := hOp
  refine enter Try.func37 Try.ntmps37 rfl rfl ?_
  refine C_seq (C_reg rfl ?_)
  refine L_box (cs := [.slice A b.l.length c, .int .i64 b.syn, .bool b.has]) rfl rfl rfl ?_
  intro g1 w1 eg1 hb1 hs1 hz1
  have ge1 : w.heap.size ≤ g1 := eg_ge hB eg1
  replace hB := gb_tr hB hs1
  replace hL := hL.gb hs1
  replace hDO := hDO.gb hs1
  replace hOp := hOp.gb hs1
  replace hPr := hPr.gb hs1
  refine L_box (cs := [.int .i64 y.p.kind, .int .i64 y.p.n, .slice y.oa y.p.ops.length y.oc, .slice y.ka y.p.keep.length y.kc, .int .i64 y.p.torn, .int .i64 y.p.cut]) rfl rfl rfl ?_
  intro g2 w2 eg2 hb2 hs2 hz2
  have ge2 : w.heap.size ≤ g2 := eg_ge hB eg2
  have lt1 : g1 < g2 := lt_of_eg hb1.lt eg2
  replace hB := gb_tr hB hs2
  replace hL := hL.gb hs2
  replace hDO := hDO.gb hs2
  replace hOp := hOp.gb hs2
  replace hPr := hPr.gb hs2
  replace hb1 := hb1.gb hs2
  refine L_box (cs := [.int .i64 e.kind, .int .i64 e.e, .int .i64 e.bat, .int .i64 e.syn, .slice e.pa e.prs.length e.pc]) rfl rfl rfl ?_
  intro g3 w3 eg3 hb3 hs3 hz3
  have ge3 : w.heap.size ≤ g3 := eg_ge hB eg3
  have lt2 : g1 < g3 := lt_of_eg hb1.lt eg3
  have lt3 : g2 < g3 := lt_of_eg hb2.lt eg3
  replace hB := gb_tr hB hs3
  replace hL := hL.gb hs3
  replace hDO := hDO.gb hs3
  replace hOp := hOp.gb hs3
  replace hPr := hPr.gb hs3
  replace hb1 := hb1.gb hs3
  replace hb2 := hb2.gb hs3
  refine L_alloc (cs := [.slice none 0 0, .int .i64 0, .bool false]) zer96 rfl rfl ?_
  intro g4 w4 eg4 hb4 hs4 hz4
  have ge4 : w.heap.size ≤ g4 := eg_ge hB eg4
  have lt4 : g1 < g4 := lt_of_eg hb1.lt eg4
  have lt5 : g2 < g4 := lt_of_eg hb2.lt eg4
  have lt6 : g3 < g4 := lt_of_eg hb3.lt eg4
  replace hB := gb_tr hB hs4
  replace hL := hL.gb hs4
  replace hDO := hDO.gb hs4
  replace hOp := hOp.gb hs4
  replace hPr := hPr.gb hs4
  replace hb1 := hb1.gb hs4
  replace hb2 := hb2.gb hs4
  replace hb3 := hb3.gb hs4
  refine L_run (R_assign rfl) rfl ?_
  refine L_nil (N_then (C_seq (C_seq (C_reg rfl ?_))))
  refine L_run (R_field (r := 0) rfl fld44_0 rfl) rfl ?_
  refine L_run (R_load1 rfl scl3 (hb3.cell (i := 0) rfl)) rfl ?_
  refine L_run (R_field (r := 0) rfl fld86_0 rfl) rfl ?_
  refine L_run (R_load1 rfl scl3 (hb2.cell (i := 0) rfl)) rfl ?_
  refine L_run (R_neq rfl rfl) rfl ?_
  refine L_nil (N_then ?_)
  refine C_if rfl (fun h1 => ?_) (fun h1 => ?_)
  · refine C_seq (C_reg rfl ?_)
    refine L_run (R_loadA (vs := [.slice A b.l.length c, .int .i64 b.syn, .bool b.has]) rfl agg96 (At.pre (hb1.at_ 0) rfl) rfl) rfl ?_
    refine L_stA (vs := [.slice A b.l.length c, .int .i64 b.syn, .bool b.has]) rfl rfl rfl sz96 rfl hb4 rfl ?_
    intro w5 hb5 hs5 hz5
    replace hB := gb_trg hB hs5 ge4
    replace hL := hL.other hb4 rfl rfl hs5
    replace hDO := hDO.old hs5 ge4
    replace hOp := hOp.old hs5 ge4
    replace hPr := hPr.old hs5 ge4
    replace hb1 := hb1.grown hs5 (ne_lt lt4)
    replace hb2 := hb2.grown hs5 (ne_lt lt5)
    replace hb3 := hb3.grown hs5 (ne_lt lt6)
    refine L_run (R_assign rfl) rfl ?_
    refine L_nil (N_then (C_ret (R_then ?_)))
    refine retC1 (vs := [.slice A b.l.length c, .int .i64 b.syn, .bool b.has]) Try.results37 rfl agg96 (At.pre (hb5.at_ 0) rfl) rfl rfl ?_
    have hno_ : ¬ okB b y e := fun q_ => by have h_ := q_.1; omega
    exact ⟨hB, _, _, (⟨b.l, b.syn, b.has⟩ : BkP), by rw [decide_eq_false hno_], fun q_ => absurd q_ hno_, Sli.zero hL, (by first | omega | (simp only [List.length_take]; omega))⟩
  · refine C_skip (N_then (C_seq (C_seq (C_reg rfl ?_))))
    refine L_run (R_loadA (vs := [.int .i64 y.p.kind, .int .i64 y.p.n, .slice y.oa y.p.ops.length y.oc, .slice y.ka y.p.keep.length y.kc, .int .i64 y.p.torn, .int .i64 y.p.cut]) rfl agg86 (At.pre (hb2.at_ 0) rfl) rfl) rfl ?_
    refine L_call rfl cb56 (ref38_Right (ops := y.p.ops) hOp (by omega)) rfl ?_
    rintro _ w6 ⟨hs6, rfl⟩
    replace hB := gb_tr hB hs6
    replace hL := hL.gb hs6
    replace hDO := hDO.gb hs6
    replace hOp := hOp.gb hs6
    replace hPr := hPr.gb hs6
    replace hb1 := hb1.gb hs6
    replace hb2 := hb2.gb hs6
    replace hb3 := hb3.gb hs6
    replace hb4 := hb4.gb hs6
    refine L_run (R_notD rfl) rfl ?_
    refine L_nil (N_then (C_condF rfl (decide_eq_false (fun hn => hn (show SOk y.p.kind y.p.n y.p.ops y.p.keep.length y.p.torn y.p.cut from hr))) (C_skip (N_then (C_seq (C_reg rfl ?_))))))
    refine L_run (R_field (r := 0) rfl fld86_0 rfl) rfl ?_
    refine L_run (R_load1 rfl scl3 (hb2.cell (i := 0) rfl)) rfl ?_
    refine L_run (R_eql rfl rfl) rfl ?_
    refine L_run (R_move rfl) rfl ?_
    refine L_splitD (p := y.p.kind = 4) (fun h2 => ?_) (fun h2 => ?_)
    · refine L_no rfl rfl rfl (decide_eq_true h2) rfl ?_
      refine L_no rfl rfl rfl (decide_eq_true h2) rfl ?_
      refine L_no rfl rfl rfl (decide_eq_true h2) rfl ?_
      refine L_run (R_pickT rfl (decide_eq_true h2) rfl) rfl ?_
      refine L_run (R_assign rfl) rfl ?_
      refine L_nil (N_then (C_seq (C_seq (C_reg rfl ?_))))
      refine L_run (R_field (r := 1) rfl fld44_1 rfl) rfl ?_
      refine L_run (R_load1 rfl scl42 (hb3.cell (i := 1) rfl)) rfl ?_
      refine L_run (R_neq rfl rfl) rfl ?_
      refine L_nil (N_then (C_condT rfl (decide_eq_true he0) (C_seq (C_reg rfl ?_))))
      refine L_run (R_field (r := 2) rfl fld96_2 rfl) rfl ?_
      refine L_run (R_load1 rfl scl4 (hb1.cell (i := 2) rfl)) rfl ?_
      refine L_run (R_move rfl) rfl ?_
      refine L_split b.has (fun h3 => ?_) (fun h3 => ?_)
      · refine L_yes rfl rfl rfl h3 ?_
        refine L_run (R_move rfl) rfl ?_
        refine L_yes rfl rfl rfl h3 ?_
        refine L_run (R_not rfl) rfl ?_
        refine L_run (R_pickT rfl h3 rfl) rfl ?_
        refine L_run (R_field (r := 2) rfl fld96_2 rfl) rfl ?_
        refine L_st1 rfl rfl rfl sz4 hb1 rfl ?_
        intro w7 hb6 hs7 hz6
        replace hB := gb_trg hB hs7 ge1
        replace hL := hL.other hb1 rfl rfl hs7
        replace hDO := hDO.old hs7 ge1
        replace hOp := hOp.old hs7 ge1
        replace hPr := hPr.old hs7 ge1
        replace hb2 := hb2.grown hs7 (ne_gt lt1)
        replace hb3 := hb3.grown hs7 (ne_gt lt2)
        replace hb4 := hb4.grown hs7 (ne_gt lt4)
        refine L_nil (N_then (C_seq ?_))
        refine C_draw2 rfl mix ?_
        intro w8 hs8 hz7
        replace hB := gb_tr hB hs8
        replace hL := hL.gb hs8
        replace hDO := hDO.gb hs8
        replace hOp := hOp.gb hs8
        replace hPr := hPr.gb hs8
        replace hb6 := hb6.gb hs8
        replace hb2 := hb2.gb hs8
        replace hb3 := hb3.gb hs8
        replace hb4 := hb4.gb hs8
        refine ⟨fun W_ => Blk W_ g1 96 [.slice A b.l.length c, .int .i64 b.syn, .bool false] ∧ Blk W_ g3 44 [.int .i64 e.kind, .int .i64 e.e, .int .i64 e.bat, .int .i64 e.syn, .slice e.pa e.prs.length e.pc] ∧ True, [0, 1, 2, 3, 4, 5, 6, 8, 10], ?_⟩
        refine T_takeA (i := 0) rfl (by kernel_rfl) (by kernel_rfl) (by kernel_rfl) (by kernel_rfl) (Y_of (fun _ ⟨hb6, hb3, _⟩ => R_loadA (vs := [.slice A b.l.length c, .int .i64 b.syn, .bool false]) rfl agg96 (At.pre (hb6.at_ 0) rfl) rfl)) ⟨hb6, hb3, trivial⟩ rfl ?_
        refine T_takeA (i := 1) rfl (by kernel_rfl) (by kernel_rfl) (by kernel_rfl) (by kernel_rfl) (Y_of (fun _ ⟨hb6, hb3, _⟩ => R_field (r := 1) rfl fld44_1 rfl)) ⟨hb6, hb3, trivial⟩ rfl ?_
        refine T_takeA (i := 2) rfl (by kernel_rfl) (by kernel_rfl) (by kernel_rfl) (by kernel_rfl) (Y_of (fun _ ⟨hb6, hb3, _⟩ => R_load1 rfl scl42 (hb3.cell (i := 1) rfl))) ⟨hb6, hb3, trivial⟩ rfl ?_
        refine T_takeA (i := 3) rfl (by kernel_rfl) (by kernel_rfl) (by kernel_rfl) (by kernel_rfl) (Y_of (fun _ ⟨hb6, hb3, _⟩ => R_neq rfl rfl)) ⟨hb6, hb3, trivial⟩ rfl ?_
        refine T_takeA (i := 4) rfl (by kernel_rfl) (by kernel_rfl) (by kernel_rfl) (by kernel_rfl) (Y_of (fun _ ⟨hb6, hb3, _⟩ => R_move rfl)) ⟨hb6, hb3, trivial⟩ rfl ?_
        by_cases h4 : e.e ≠ 13
        · refine T_takeA (i := 5) rfl (by kernel_rfl) (by kernel_rfl) (by kernel_rfl) (by kernel_rfl) (Y_yes rfl rfl rfl (decide_eq_true h4) (fun _ ⟨hb6, hb3, _⟩ => R_loadA (vs := [.slice A b.l.length c, .int .i64 b.syn, .bool false]) rfl agg96 (At.pre (hb6.at_ 0) rfl) rfl)) ⟨hb6, hb3, trivial⟩ rfl ?_
          refine T_takeA (i := 6) rfl (by kernel_rfl) (by kernel_rfl) (by kernel_rfl) (by kernel_rfl) (Y_yes rfl rfl rfl (decide_eq_true h4) (fun _ ⟨hb6, hb3, _⟩ => R_loadA (vs := [.int .i64 e.kind, .int .i64 e.e, .int .i64 e.bat, .int .i64 e.syn, .slice e.pa e.prs.length e.pc]) rfl agg44 (At.pre (hb3.at_ 0) rfl) rfl)) ⟨hb6, hb3, trivial⟩ rfl ?_
          refine T_all (rs := [7]) (by kernel_rfl) rfl (all1 (O_one rfl ?_))
          refine L_yes rfl rfl rfl (decide_eq_true h4) ?_
          refine L_call rfl cb57 (fits39_ok (b := (⟨b.l, b.syn, false⟩ : BkP)) (e := e) (Sli.zero hL) hDO.top hno hnl (Sli.any hPr) (by omega)) rfl ?_
          rintro _ w9 ⟨hs9, rfl⟩
          replace hB := gb_tr hB hs9
          replace hL := hL.gb hs9
          replace hDO := hDO.gb hs9
          replace hOp := hOp.gb hs9
          replace hPr := hPr.gb hs9
          replace hb6 := hb6.gb hs9
          replace hb2 := hb2.gb hs9
          replace hb3 := hb3.gb hs9
          replace hb4 := hb4.gb hs9
          refine L_nil (N_then ⟨fun hN_ => ⟨hb6, hb3, trivial⟩, ?_⟩)
          refine T_takeA (i := 8) rfl (by kernel_rfl) (by kernel_rfl) (by kernel_rfl) (by kernel_rfl) (Y_of (fun _ ⟨hb6, hb3, _⟩ => R_pickT rfl (decide_eq_true h4) rfl)) ⟨hb6, hb3, trivial⟩ rfl ?_
          refine T_all (rs := [9]) (by kernel_rfl) rfl (all1 (O_one rfl ?_))
          refine L_stA (vs := [.slice A b.l.length c, .int .i64 b.syn, .bool false]) rfl rfl rfl sz96 rfl hb4 rfl ?_
          intro w10 hb7 hs10 hz8
          replace hB := gb_trg hB hs10 ge4
          replace hL := hL.other hb4 rfl rfl hs10
          replace hDO := hDO.old hs10 ge4
          replace hOp := hOp.old hs10 ge4
          replace hPr := hPr.old hs10 ge4
          replace hb6 := hb6.grown hs10 (ne_lt lt4)
          replace hb2 := hb2.grown hs10 (ne_lt lt5)
          replace hb3 := hb3.grown hs10 (ne_lt lt6)
          refine L_nil (N_then ⟨fun hN_ => ⟨hb6, hb3, trivial⟩, ?_⟩)
          refine T_takeA (i := 10) rfl (by kernel_rfl) (by kernel_rfl) (by kernel_rfl) (by kernel_rfl) (Y_of (fun _ ⟨hb6, hb3, _⟩ => R_assign rfl)) ⟨hb6, hb3, trivial⟩ rfl ?_
          refine T_done (by kernel_rfl) (CalmE.normal ?_)
          refine N_then (C_ret (R_then ?_))
          refine retC1 (vs := [.slice A b.l.length c, .int .i64 b.syn, .bool false]) Try.results37 rfl agg96 (At.pre (hb7.at_ 0) rfl) rfl rfl ?_
          have eh_ : (b.has && !(decide ((y.p.kind = 4 ∨ y.p.kind = 6) ∧ e.e ≠ 13))) = false := by
            first | (rw [h3]; rfl; done) | (rw [decide_eq_false (show ¬ ((y.p.kind = 4 ∨ y.p.kind = 6) ∧ e.e ≠ 13) by omega)]; simp; done) | (rw [decide_eq_true (show ((y.p.kind = 4 ∨ y.p.kind = 6) ∧ e.e ≠ 13) by omega)]; simp; done) | (simp_all; done)
          have en_ : nxt b y e = (⟨b.l, b.syn, false⟩ : BkP) := by unfold nxt; rw [if_neg (by omega), eh_]
          have hok_ := fits_iff en_ (by omega) ⟨fun q_ => by first | omega | exact absurd q_ hr, fun q_ => by first | exact hr | omega⟩ (fun q_ => by omega)
          exact ⟨hB, _, _, (⟨b.l, b.syn, false⟩ : BkP), by rw [← decE hok_], fun _ => en_.symm, Sli.zero hL, (by first | omega | (simp only [List.length_take]; omega))⟩
        · refine T_takeA (i := 5) rfl (by kernel_rfl) (by kernel_rfl) (by kernel_rfl) (by kernel_rfl) (Y_no rfl rfl rfl (decide_eq_false h4)) ⟨hb6, hb3, trivial⟩ rfl ?_
          refine T_takeA (i := 6) rfl (by kernel_rfl) (by kernel_rfl) (by kernel_rfl) (by kernel_rfl) (Y_no rfl rfl rfl (decide_eq_false h4)) ⟨hb6, hb3, trivial⟩ rfl ?_
          refine T_all (rs := [7]) (by kernel_rfl) rfl (all1 (O_one rfl ?_))
          refine L_no rfl rfl rfl (decide_eq_false h4) rfl ?_
          refine L_nil (N_then ⟨fun hN_ => ⟨hb6, hb3, trivial⟩, ?_⟩)
          refine T_takeA (i := 8) rfl (by kernel_rfl) (by kernel_rfl) (by kernel_rfl) (by kernel_rfl) (Y_of (fun _ ⟨hb6, hb3, _⟩ => R_pickF rfl (decide_eq_false h4) rfl)) ⟨hb6, hb3, trivial⟩ rfl ?_
          refine T_all (rs := [9]) (by kernel_rfl) rfl (all1 (O_one rfl ?_))
          refine L_stA (vs := [.slice A b.l.length c, .int .i64 b.syn, .bool false]) rfl rfl rfl sz96 rfl hb4 rfl ?_
          intro w11 hb8 hs11 hz9
          replace hB := gb_trg hB hs11 ge4
          replace hL := hL.other hb4 rfl rfl hs11
          replace hDO := hDO.old hs11 ge4
          replace hOp := hOp.old hs11 ge4
          replace hPr := hPr.old hs11 ge4
          replace hb6 := hb6.grown hs11 (ne_lt lt4)
          replace hb2 := hb2.grown hs11 (ne_lt lt5)
          replace hb3 := hb3.grown hs11 (ne_lt lt6)
          refine L_nil (N_then ⟨fun hN_ => ⟨hb6, hb3, trivial⟩, ?_⟩)
          refine T_takeA (i := 10) rfl (by kernel_rfl) (by kernel_rfl) (by kernel_rfl) (by kernel_rfl) (Y_of (fun _ ⟨hb6, hb3, _⟩ => R_assign rfl)) ⟨hb6, hb3, trivial⟩ rfl ?_
          refine T_done (by kernel_rfl) (CalmE.normal ?_)
          refine N_then (C_ret (R_then ?_))
          refine retC1 (vs := [.slice A b.l.length c, .int .i64 b.syn, .bool false]) Try.results37 rfl agg96 (At.pre (hb8.at_ 0) rfl) rfl rfl ?_
          have hno_ : ¬ okB b y e := fun q_ => by have h_ := q_.2.1; first | exact hr (h_.2 (by omega)) | exact (h_.1 hr) (by omega)
          exact ⟨hB, _, _, (⟨b.l, b.syn, false⟩ : BkP), by rw [decide_eq_false hno_], fun q_ => absurd q_ hno_, Sli.zero hL, (by first | omega | (simp only [List.length_take]; omega))⟩
      · refine L_no rfl rfl rfl h3 rfl ?_
        refine L_no rfl rfl rfl h3 rfl ?_
        refine L_run (R_pickF rfl h3 rfl) rfl ?_
        refine L_run (R_field (r := 2) rfl fld96_2 rfl) rfl ?_
        refine L_st1 rfl rfl rfl sz4 hb1 rfl ?_
        intro w12 hb9 hs12 hz10
        replace hB := gb_trg hB hs12 ge1
        replace hL := hL.other hb1 rfl rfl hs12
        replace hDO := hDO.old hs12 ge1
        replace hOp := hOp.old hs12 ge1
        replace hPr := hPr.old hs12 ge1
        replace hb2 := hb2.grown hs12 (ne_gt lt1)
        replace hb3 := hb3.grown hs12 (ne_gt lt2)
        replace hb4 := hb4.grown hs12 (ne_gt lt4)
        refine L_nil (N_then (C_seq ?_))
        refine C_draw2 rfl mix ?_
        intro w13 hs13 hz11
        replace hB := gb_tr hB hs13
        replace hL := hL.gb hs13
        replace hDO := hDO.gb hs13
        replace hOp := hOp.gb hs13
        replace hPr := hPr.gb hs13
        replace hb9 := hb9.gb hs13
        replace hb2 := hb2.gb hs13
        replace hb3 := hb3.gb hs13
        replace hb4 := hb4.gb hs13
        refine ⟨fun W_ => Blk W_ g1 96 [.slice A b.l.length c, .int .i64 b.syn, .bool false] ∧ Blk W_ g3 44 [.int .i64 e.kind, .int .i64 e.e, .int .i64 e.bat, .int .i64 e.syn, .slice e.pa e.prs.length e.pc] ∧ True, [0, 1, 2, 3, 4, 5, 6, 8, 10], ?_⟩
        refine T_takeA (i := 0) rfl (by kernel_rfl) (by kernel_rfl) (by kernel_rfl) (by kernel_rfl) (Y_of (fun _ ⟨hb9, hb3, _⟩ => R_loadA (vs := [.slice A b.l.length c, .int .i64 b.syn, .bool false]) rfl agg96 (At.pre (hb9.at_ 0) rfl) rfl)) ⟨hb9, hb3, trivial⟩ rfl ?_
        refine T_takeA (i := 1) rfl (by kernel_rfl) (by kernel_rfl) (by kernel_rfl) (by kernel_rfl) (Y_of (fun _ ⟨hb9, hb3, _⟩ => R_field (r := 1) rfl fld44_1 rfl)) ⟨hb9, hb3, trivial⟩ rfl ?_
        refine T_takeA (i := 2) rfl (by kernel_rfl) (by kernel_rfl) (by kernel_rfl) (by kernel_rfl) (Y_of (fun _ ⟨hb9, hb3, _⟩ => R_load1 rfl scl42 (hb3.cell (i := 1) rfl))) ⟨hb9, hb3, trivial⟩ rfl ?_
        refine T_takeA (i := 3) rfl (by kernel_rfl) (by kernel_rfl) (by kernel_rfl) (by kernel_rfl) (Y_of (fun _ ⟨hb9, hb3, _⟩ => R_neq rfl rfl)) ⟨hb9, hb3, trivial⟩ rfl ?_
        refine T_takeA (i := 4) rfl (by kernel_rfl) (by kernel_rfl) (by kernel_rfl) (by kernel_rfl) (Y_of (fun _ ⟨hb9, hb3, _⟩ => R_move rfl)) ⟨hb9, hb3, trivial⟩ rfl ?_
        by_cases h5 : e.e ≠ 13
        · refine T_takeA (i := 5) rfl (by kernel_rfl) (by kernel_rfl) (by kernel_rfl) (by kernel_rfl) (Y_yes rfl rfl rfl (decide_eq_true h5) (fun _ ⟨hb9, hb3, _⟩ => R_loadA (vs := [.slice A b.l.length c, .int .i64 b.syn, .bool false]) rfl agg96 (At.pre (hb9.at_ 0) rfl) rfl)) ⟨hb9, hb3, trivial⟩ rfl ?_
          refine T_takeA (i := 6) rfl (by kernel_rfl) (by kernel_rfl) (by kernel_rfl) (by kernel_rfl) (Y_yes rfl rfl rfl (decide_eq_true h5) (fun _ ⟨hb9, hb3, _⟩ => R_loadA (vs := [.int .i64 e.kind, .int .i64 e.e, .int .i64 e.bat, .int .i64 e.syn, .slice e.pa e.prs.length e.pc]) rfl agg44 (At.pre (hb3.at_ 0) rfl) rfl)) ⟨hb9, hb3, trivial⟩ rfl ?_
          refine T_all (rs := [7]) (by kernel_rfl) rfl (all1 (O_one rfl ?_))
          refine L_yes rfl rfl rfl (decide_eq_true h5) ?_
          refine L_call rfl cb57 (fits39_ok (b := (⟨b.l, b.syn, false⟩ : BkP)) (e := e) (Sli.zero hL) hDO.top hno hnl (Sli.any hPr) (by omega)) rfl ?_
          rintro _ w14 ⟨hs14, rfl⟩
          replace hB := gb_tr hB hs14
          replace hL := hL.gb hs14
          replace hDO := hDO.gb hs14
          replace hOp := hOp.gb hs14
          replace hPr := hPr.gb hs14
          replace hb9 := hb9.gb hs14
          replace hb2 := hb2.gb hs14
          replace hb3 := hb3.gb hs14
          replace hb4 := hb4.gb hs14
          refine L_nil (N_then ⟨fun hN_ => ⟨hb9, hb3, trivial⟩, ?_⟩)
          refine T_takeA (i := 8) rfl (by kernel_rfl) (by kernel_rfl) (by kernel_rfl) (by kernel_rfl) (Y_of (fun _ ⟨hb9, hb3, _⟩ => R_pickT rfl (decide_eq_true h5) rfl)) ⟨hb9, hb3, trivial⟩ rfl ?_
          refine T_all (rs := [9]) (by kernel_rfl) rfl (all1 (O_one rfl ?_))
          refine L_stA (vs := [.slice A b.l.length c, .int .i64 b.syn, .bool false]) rfl rfl rfl sz96 rfl hb4 rfl ?_
          intro w15 hb10 hs15 hz12
          replace hB := gb_trg hB hs15 ge4
          replace hL := hL.other hb4 rfl rfl hs15
          replace hDO := hDO.old hs15 ge4
          replace hOp := hOp.old hs15 ge4
          replace hPr := hPr.old hs15 ge4
          replace hb9 := hb9.grown hs15 (ne_lt lt4)
          replace hb2 := hb2.grown hs15 (ne_lt lt5)
          replace hb3 := hb3.grown hs15 (ne_lt lt6)
          refine L_nil (N_then ⟨fun hN_ => ⟨hb9, hb3, trivial⟩, ?_⟩)
          refine T_takeA (i := 10) rfl (by kernel_rfl) (by kernel_rfl) (by kernel_rfl) (by kernel_rfl) (Y_of (fun _ ⟨hb9, hb3, _⟩ => R_assign rfl)) ⟨hb9, hb3, trivial⟩ rfl ?_
          refine T_done (by kernel_rfl) (CalmE.normal ?_)
          refine N_then (C_ret (R_then ?_))
          refine retC1 (vs := [.slice A b.l.length c, .int .i64 b.syn, .bool false]) Try.results37 rfl agg96 (At.pre (hb10.at_ 0) rfl) rfl rfl ?_
          have eh_ : (b.has && !(decide ((y.p.kind = 4 ∨ y.p.kind = 6) ∧ e.e ≠ 13))) = false := by
            first | (rw [h3]; rfl; done) | (rw [decide_eq_false (show ¬ ((y.p.kind = 4 ∨ y.p.kind = 6) ∧ e.e ≠ 13) by omega)]; simp; done) | (rw [decide_eq_true (show ((y.p.kind = 4 ∨ y.p.kind = 6) ∧ e.e ≠ 13) by omega)]; simp; done) | (simp_all; done)
          have en_ : nxt b y e = (⟨b.l, b.syn, false⟩ : BkP) := by unfold nxt; rw [if_neg (by omega), eh_]
          have hok_ := fits_iff en_ (by omega) ⟨fun q_ => by first | omega | exact absurd q_ hr, fun q_ => by first | exact hr | omega⟩ (fun q_ => by omega)
          exact ⟨hB, _, _, (⟨b.l, b.syn, false⟩ : BkP), by rw [← decE hok_], fun _ => en_.symm, Sli.zero hL, (by first | omega | (simp only [List.length_take]; omega))⟩
        · refine T_takeA (i := 5) rfl (by kernel_rfl) (by kernel_rfl) (by kernel_rfl) (by kernel_rfl) (Y_no rfl rfl rfl (decide_eq_false h5)) ⟨hb9, hb3, trivial⟩ rfl ?_
          refine T_takeA (i := 6) rfl (by kernel_rfl) (by kernel_rfl) (by kernel_rfl) (by kernel_rfl) (Y_no rfl rfl rfl (decide_eq_false h5)) ⟨hb9, hb3, trivial⟩ rfl ?_
          refine T_all (rs := [7]) (by kernel_rfl) rfl (all1 (O_one rfl ?_))
          refine L_no rfl rfl rfl (decide_eq_false h5) rfl ?_
          refine L_nil (N_then ⟨fun hN_ => ⟨hb9, hb3, trivial⟩, ?_⟩)
          refine T_takeA (i := 8) rfl (by kernel_rfl) (by kernel_rfl) (by kernel_rfl) (by kernel_rfl) (Y_of (fun _ ⟨hb9, hb3, _⟩ => R_pickF rfl (decide_eq_false h5) rfl)) ⟨hb9, hb3, trivial⟩ rfl ?_
          refine T_all (rs := [9]) (by kernel_rfl) rfl (all1 (O_one rfl ?_))
          refine L_stA (vs := [.slice A b.l.length c, .int .i64 b.syn, .bool false]) rfl rfl rfl sz96 rfl hb4 rfl ?_
          intro w16 hb11 hs16 hz13
          replace hB := gb_trg hB hs16 ge4
          replace hL := hL.other hb4 rfl rfl hs16
          replace hDO := hDO.old hs16 ge4
          replace hOp := hOp.old hs16 ge4
          replace hPr := hPr.old hs16 ge4
          replace hb9 := hb9.grown hs16 (ne_lt lt4)
          replace hb2 := hb2.grown hs16 (ne_lt lt5)
          replace hb3 := hb3.grown hs16 (ne_lt lt6)
          refine L_nil (N_then ⟨fun hN_ => ⟨hb9, hb3, trivial⟩, ?_⟩)
          refine T_takeA (i := 10) rfl (by kernel_rfl) (by kernel_rfl) (by kernel_rfl) (by kernel_rfl) (Y_of (fun _ ⟨hb9, hb3, _⟩ => R_assign rfl)) ⟨hb9, hb3, trivial⟩ rfl ?_
          refine T_done (by kernel_rfl) (CalmE.normal ?_)
          refine N_then (C_ret (R_then ?_))
          refine retC1 (vs := [.slice A b.l.length c, .int .i64 b.syn, .bool false]) Try.results37 rfl agg96 (At.pre (hb11.at_ 0) rfl) rfl rfl ?_
          have hno_ : ¬ okB b y e := fun q_ => by have h_ := q_.2.1; first | exact hr (h_.2 (by omega)) | exact (h_.1 hr) (by omega)
          exact ⟨hB, _, _, (⟨b.l, b.syn, false⟩ : BkP), by rw [decide_eq_false hno_], fun q_ => absurd q_ hno_, Sli.zero hL, (by first | omega | (simp only [List.length_take]; omega))⟩
    · refine L_yes rfl rfl rfl (decide_eq_false h2) ?_
      refine L_run (R_field (r := 0) rfl fld86_0 rfl) rfl ?_
      refine L_yes rfl rfl rfl (decide_eq_false h2) ?_
      refine L_run (R_load1 rfl scl3 (hb2.cell (i := 0) rfl)) rfl ?_
      refine L_yes rfl rfl rfl (decide_eq_false h2) ?_
      refine L_run (R_eql rfl rfl) rfl ?_
      refine L_run (R_pickF rfl (decide_eq_false h2) rfl) rfl ?_
      refine L_run (R_assign rfl) rfl ?_
      refine L_nil (N_then (C_seq (C_seq (C_reg rfl ?_))))
      refine L_run (R_field (r := 1) rfl fld44_1 rfl) rfl ?_
      refine L_run (R_load1 rfl scl42 (hb3.cell (i := 1) rfl)) rfl ?_
      refine L_run (R_neq rfl rfl) rfl ?_
      refine L_nil (N_then (C_condT rfl (decide_eq_true he0) (C_seq (C_reg rfl ?_))))
      refine L_run (R_field (r := 2) rfl fld96_2 rfl) rfl ?_
      refine L_run (R_load1 rfl scl4 (hb1.cell (i := 2) rfl)) rfl ?_
      refine L_run (R_move rfl) rfl ?_
      refine L_split b.has (fun h6 => ?_) (fun h6 => ?_)
      · refine L_yes rfl rfl rfl h6 ?_
        refine L_run (R_move rfl) rfl ?_
        refine L_yes rfl rfl rfl h6 ?_
        refine L_run (R_notD rfl) rfl ?_
        refine L_run (R_pickT rfl h6 rfl) rfl ?_
        refine L_run (R_field (r := 2) rfl fld96_2 rfl) rfl ?_
        refine L_st1 rfl rfl rfl sz4 hb1 rfl ?_
        intro w17 hb12 hs17 hz14
        replace hB := gb_trg hB hs17 ge1
        replace hL := hL.other hb1 rfl rfl hs17
        replace hDO := hDO.old hs17 ge1
        replace hOp := hOp.old hs17 ge1
        replace hPr := hPr.old hs17 ge1
        replace hb2 := hb2.grown hs17 (ne_gt lt1)
        replace hb3 := hb3.grown hs17 (ne_gt lt2)
        replace hb4 := hb4.grown hs17 (ne_gt lt4)
        refine L_nil (N_then (C_seq ?_))
        refine C_draw2 rfl mix ?_
        intro w18 hs18 hz15
        replace hB := gb_tr hB hs18
        replace hL := hL.gb hs18
        replace hDO := hDO.gb hs18
        replace hOp := hOp.gb hs18
        replace hPr := hPr.gb hs18
        replace hb12 := hb12.gb hs18
        replace hb2 := hb2.gb hs18
        replace hb3 := hb3.gb hs18
        replace hb4 := hb4.gb hs18
        refine ⟨fun W_ => Blk W_ g1 96 [.slice A b.l.length c, .int .i64 b.syn, .bool (decide (¬ (y.p.kind = 6)))] ∧ Blk W_ g3 44 [.int .i64 e.kind, .int .i64 e.e, .int .i64 e.bat, .int .i64 e.syn, .slice e.pa e.prs.length e.pc] ∧ True, [0, 1, 2, 3, 4, 5, 6, 8, 10], ?_⟩
        refine T_takeA (i := 0) rfl (by kernel_rfl) (by kernel_rfl) (by kernel_rfl) (by kernel_rfl) (Y_of (fun _ ⟨hb12, hb3, _⟩ => R_loadA (vs := [.slice A b.l.length c, .int .i64 b.syn, .bool (decide (¬ (y.p.kind = 6)))]) rfl agg96 (At.pre (hb12.at_ 0) rfl) rfl)) ⟨hb12, hb3, trivial⟩ rfl ?_
        refine T_takeA (i := 1) rfl (by kernel_rfl) (by kernel_rfl) (by kernel_rfl) (by kernel_rfl) (Y_of (fun _ ⟨hb12, hb3, _⟩ => R_field (r := 1) rfl fld44_1 rfl)) ⟨hb12, hb3, trivial⟩ rfl ?_
        refine T_takeA (i := 2) rfl (by kernel_rfl) (by kernel_rfl) (by kernel_rfl) (by kernel_rfl) (Y_of (fun _ ⟨hb12, hb3, _⟩ => R_load1 rfl scl42 (hb3.cell (i := 1) rfl))) ⟨hb12, hb3, trivial⟩ rfl ?_
        refine T_takeA (i := 3) rfl (by kernel_rfl) (by kernel_rfl) (by kernel_rfl) (by kernel_rfl) (Y_of (fun _ ⟨hb12, hb3, _⟩ => R_neq rfl rfl)) ⟨hb12, hb3, trivial⟩ rfl ?_
        refine T_takeA (i := 4) rfl (by kernel_rfl) (by kernel_rfl) (by kernel_rfl) (by kernel_rfl) (Y_of (fun _ ⟨hb12, hb3, _⟩ => R_move rfl)) ⟨hb12, hb3, trivial⟩ rfl ?_
        by_cases h7 : e.e ≠ 13
        · refine T_takeA (i := 5) rfl (by kernel_rfl) (by kernel_rfl) (by kernel_rfl) (by kernel_rfl) (Y_yes rfl rfl rfl (decide_eq_true h7) (fun _ ⟨hb12, hb3, _⟩ => R_loadA (vs := [.slice A b.l.length c, .int .i64 b.syn, .bool (decide (¬ (y.p.kind = 6)))]) rfl agg96 (At.pre (hb12.at_ 0) rfl) rfl)) ⟨hb12, hb3, trivial⟩ rfl ?_
          refine T_takeA (i := 6) rfl (by kernel_rfl) (by kernel_rfl) (by kernel_rfl) (by kernel_rfl) (Y_yes rfl rfl rfl (decide_eq_true h7) (fun _ ⟨hb12, hb3, _⟩ => R_loadA (vs := [.int .i64 e.kind, .int .i64 e.e, .int .i64 e.bat, .int .i64 e.syn, .slice e.pa e.prs.length e.pc]) rfl agg44 (At.pre (hb3.at_ 0) rfl) rfl)) ⟨hb12, hb3, trivial⟩ rfl ?_
          refine T_all (rs := [7]) (by kernel_rfl) rfl (all1 (O_one rfl ?_))
          refine L_yes rfl rfl rfl (decide_eq_true h7) ?_
          refine L_call rfl cb57 (fits39_ok (b := (⟨b.l, b.syn, (decide (¬ (y.p.kind = 6)))⟩ : BkP)) (e := e) (Sli.zero hL) hDO.top hno hnl (Sli.any hPr) (by omega)) rfl ?_
          rintro _ w19 ⟨hs19, rfl⟩
          replace hB := gb_tr hB hs19
          replace hL := hL.gb hs19
          replace hDO := hDO.gb hs19
          replace hOp := hOp.gb hs19
          replace hPr := hPr.gb hs19
          replace hb12 := hb12.gb hs19
          replace hb2 := hb2.gb hs19
          replace hb3 := hb3.gb hs19
          replace hb4 := hb4.gb hs19
          refine L_nil (N_then ⟨fun hN_ => ⟨hb12, hb3, trivial⟩, ?_⟩)
          refine T_takeA (i := 8) rfl (by kernel_rfl) (by kernel_rfl) (by kernel_rfl) (by kernel_rfl) (Y_of (fun _ ⟨hb12, hb3, _⟩ => R_pickT rfl (decide_eq_true h7) rfl)) ⟨hb12, hb3, trivial⟩ rfl ?_
          refine T_all (rs := [9]) (by kernel_rfl) rfl (all1 (O_one rfl ?_))
          refine L_stA (vs := [.slice A b.l.length c, .int .i64 b.syn, .bool (decide (¬ (y.p.kind = 6)))]) rfl rfl rfl sz96 rfl hb4 rfl ?_
          intro w20 hb13 hs20 hz16
          replace hB := gb_trg hB hs20 ge4
          replace hL := hL.other hb4 rfl rfl hs20
          replace hDO := hDO.old hs20 ge4
          replace hOp := hOp.old hs20 ge4
          replace hPr := hPr.old hs20 ge4
          replace hb12 := hb12.grown hs20 (ne_lt lt4)
          replace hb2 := hb2.grown hs20 (ne_lt lt5)
          replace hb3 := hb3.grown hs20 (ne_lt lt6)
          refine L_nil (N_then ⟨fun hN_ => ⟨hb12, hb3, trivial⟩, ?_⟩)
          refine T_takeA (i := 10) rfl (by kernel_rfl) (by kernel_rfl) (by kernel_rfl) (by kernel_rfl) (Y_of (fun _ ⟨hb12, hb3, _⟩ => R_assign rfl)) ⟨hb12, hb3, trivial⟩ rfl ?_
          refine T_done (by kernel_rfl) (CalmE.normal ?_)
          refine N_then (C_ret (R_then ?_))
          refine retC1 (vs := [.slice A b.l.length c, .int .i64 b.syn, .bool (decide (¬ (y.p.kind = 6)))]) Try.results37 rfl agg96 (At.pre (hb13.at_ 0) rfl) rfl rfl ?_
          have eh_ : (b.has && !(decide ((y.p.kind = 4 ∨ y.p.kind = 6) ∧ e.e ≠ 13))) = (decide (¬ (y.p.kind = 6))) := by
            first | (rw [h6]; rfl; done) | (rw [decide_eq_false (show ¬ ((y.p.kind = 4 ∨ y.p.kind = 6) ∧ e.e ≠ 13) by omega)]; simp; done) | (rw [decide_eq_true (show ((y.p.kind = 4 ∨ y.p.kind = 6) ∧ e.e ≠ 13) by omega)]; simp; done) | (simp_all; done)
          have en_ : nxt b y e = (⟨b.l, b.syn, (decide (¬ (y.p.kind = 6)))⟩ : BkP) := by unfold nxt; rw [if_neg (by omega), eh_]
          have hok_ := fits_iff en_ (by omega) ⟨fun q_ => by first | omega | exact absurd q_ hr, fun q_ => by first | exact hr | omega⟩ (fun q_ => by omega)
          exact ⟨hB, _, _, (⟨b.l, b.syn, (decide (¬ (y.p.kind = 6)))⟩ : BkP), by rw [← decE hok_], fun _ => en_.symm, Sli.zero hL, (by first | omega | (simp only [List.length_take]; omega))⟩
        · refine T_takeA (i := 5) rfl (by kernel_rfl) (by kernel_rfl) (by kernel_rfl) (by kernel_rfl) (Y_no rfl rfl rfl (decide_eq_false h7)) ⟨hb12, hb3, trivial⟩ rfl ?_
          refine T_takeA (i := 6) rfl (by kernel_rfl) (by kernel_rfl) (by kernel_rfl) (by kernel_rfl) (Y_no rfl rfl rfl (decide_eq_false h7)) ⟨hb12, hb3, trivial⟩ rfl ?_
          refine T_all (rs := [7]) (by kernel_rfl) rfl (all1 (O_one rfl ?_))
          refine L_no rfl rfl rfl (decide_eq_false h7) rfl ?_
          refine L_nil (N_then ⟨fun hN_ => ⟨hb12, hb3, trivial⟩, ?_⟩)
          refine T_takeA (i := 8) rfl (by kernel_rfl) (by kernel_rfl) (by kernel_rfl) (by kernel_rfl) (Y_of (fun _ ⟨hb12, hb3, _⟩ => R_pickF rfl (decide_eq_false h7) rfl)) ⟨hb12, hb3, trivial⟩ rfl ?_
          refine T_all (rs := [9]) (by kernel_rfl) rfl (all1 (O_one rfl ?_))
          refine L_stA (vs := [.slice A b.l.length c, .int .i64 b.syn, .bool (decide (¬ (y.p.kind = 6)))]) rfl rfl rfl sz96 rfl hb4 rfl ?_
          intro w21 hb14 hs21 hz17
          replace hB := gb_trg hB hs21 ge4
          replace hL := hL.other hb4 rfl rfl hs21
          replace hDO := hDO.old hs21 ge4
          replace hOp := hOp.old hs21 ge4
          replace hPr := hPr.old hs21 ge4
          replace hb12 := hb12.grown hs21 (ne_lt lt4)
          replace hb2 := hb2.grown hs21 (ne_lt lt5)
          replace hb3 := hb3.grown hs21 (ne_lt lt6)
          refine L_nil (N_then ⟨fun hN_ => ⟨hb12, hb3, trivial⟩, ?_⟩)
          refine T_takeA (i := 10) rfl (by kernel_rfl) (by kernel_rfl) (by kernel_rfl) (by kernel_rfl) (Y_of (fun _ ⟨hb12, hb3, _⟩ => R_assign rfl)) ⟨hb12, hb3, trivial⟩ rfl ?_
          refine T_done (by kernel_rfl) (CalmE.normal ?_)
          refine N_then (C_ret (R_then ?_))
          refine retC1 (vs := [.slice A b.l.length c, .int .i64 b.syn, .bool (decide (¬ (y.p.kind = 6)))]) Try.results37 rfl agg96 (At.pre (hb14.at_ 0) rfl) rfl rfl ?_
          have hno_ : ¬ okB b y e := fun q_ => by have h_ := q_.2.1; first | exact hr (h_.2 (by omega)) | exact (h_.1 hr) (by omega)
          exact ⟨hB, _, _, (⟨b.l, b.syn, (decide (¬ (y.p.kind = 6)))⟩ : BkP), by rw [decide_eq_false hno_], fun q_ => absurd q_ hno_, Sli.zero hL, (by first | omega | (simp only [List.length_take]; omega))⟩
      · refine L_no rfl rfl rfl h6 rfl ?_
        refine L_no rfl rfl rfl h6 rfl ?_
        refine L_run (R_pickF rfl h6 rfl) rfl ?_
        refine L_run (R_field (r := 2) rfl fld96_2 rfl) rfl ?_
        refine L_st1 rfl rfl rfl sz4 hb1 rfl ?_
        intro w22 hb15 hs22 hz18
        replace hB := gb_trg hB hs22 ge1
        replace hL := hL.other hb1 rfl rfl hs22
        replace hDO := hDO.old hs22 ge1
        replace hOp := hOp.old hs22 ge1
        replace hPr := hPr.old hs22 ge1
        replace hb2 := hb2.grown hs22 (ne_gt lt1)
        replace hb3 := hb3.grown hs22 (ne_gt lt2)
        replace hb4 := hb4.grown hs22 (ne_gt lt4)
        refine L_nil (N_then (C_seq ?_))
        refine C_draw2 rfl mix ?_
        intro w23 hs23 hz19
        replace hB := gb_tr hB hs23
        replace hL := hL.gb hs23
        replace hDO := hDO.gb hs23
        replace hOp := hOp.gb hs23
        replace hPr := hPr.gb hs23
        replace hb15 := hb15.gb hs23
        replace hb2 := hb2.gb hs23
        replace hb3 := hb3.gb hs23
        replace hb4 := hb4.gb hs23
        refine ⟨fun W_ => Blk W_ g1 96 [.slice A b.l.length c, .int .i64 b.syn, .bool false] ∧ Blk W_ g3 44 [.int .i64 e.kind, .int .i64 e.e, .int .i64 e.bat, .int .i64 e.syn, .slice e.pa e.prs.length e.pc] ∧ True, [0, 1, 2, 3, 4, 5, 6, 8, 10], ?_⟩
        refine T_takeA (i := 0) rfl (by kernel_rfl) (by kernel_rfl) (by kernel_rfl) (by kernel_rfl) (Y_of (fun _ ⟨hb15, hb3, _⟩ => R_loadA (vs := [.slice A b.l.length c, .int .i64 b.syn, .bool false]) rfl agg96 (At.pre (hb15.at_ 0) rfl) rfl)) ⟨hb15, hb3, trivial⟩ rfl ?_
        refine T_takeA (i := 1) rfl (by kernel_rfl) (by kernel_rfl) (by kernel_rfl) (by kernel_rfl) (Y_of (fun _ ⟨hb15, hb3, _⟩ => R_field (r := 1) rfl fld44_1 rfl)) ⟨hb15, hb3, trivial⟩ rfl ?_
        refine T_takeA (i := 2) rfl (by kernel_rfl) (by kernel_rfl) (by kernel_rfl) (by kernel_rfl) (Y_of (fun _ ⟨hb15, hb3, _⟩ => R_load1 rfl scl42 (hb3.cell (i := 1) rfl))) ⟨hb15, hb3, trivial⟩ rfl ?_
        refine T_takeA (i := 3) rfl (by kernel_rfl) (by kernel_rfl) (by kernel_rfl) (by kernel_rfl) (Y_of (fun _ ⟨hb15, hb3, _⟩ => R_neq rfl rfl)) ⟨hb15, hb3, trivial⟩ rfl ?_
        refine T_takeA (i := 4) rfl (by kernel_rfl) (by kernel_rfl) (by kernel_rfl) (by kernel_rfl) (Y_of (fun _ ⟨hb15, hb3, _⟩ => R_move rfl)) ⟨hb15, hb3, trivial⟩ rfl ?_
        by_cases h8 : e.e ≠ 13
        · refine T_takeA (i := 5) rfl (by kernel_rfl) (by kernel_rfl) (by kernel_rfl) (by kernel_rfl) (Y_yes rfl rfl rfl (decide_eq_true h8) (fun _ ⟨hb15, hb3, _⟩ => R_loadA (vs := [.slice A b.l.length c, .int .i64 b.syn, .bool false]) rfl agg96 (At.pre (hb15.at_ 0) rfl) rfl)) ⟨hb15, hb3, trivial⟩ rfl ?_
          refine T_takeA (i := 6) rfl (by kernel_rfl) (by kernel_rfl) (by kernel_rfl) (by kernel_rfl) (Y_yes rfl rfl rfl (decide_eq_true h8) (fun _ ⟨hb15, hb3, _⟩ => R_loadA (vs := [.int .i64 e.kind, .int .i64 e.e, .int .i64 e.bat, .int .i64 e.syn, .slice e.pa e.prs.length e.pc]) rfl agg44 (At.pre (hb3.at_ 0) rfl) rfl)) ⟨hb15, hb3, trivial⟩ rfl ?_
          refine T_all (rs := [7]) (by kernel_rfl) rfl (all1 (O_one rfl ?_))
          refine L_yes rfl rfl rfl (decide_eq_true h8) ?_
          refine L_call rfl cb57 (fits39_ok (b := (⟨b.l, b.syn, false⟩ : BkP)) (e := e) (Sli.zero hL) hDO.top hno hnl (Sli.any hPr) (by omega)) rfl ?_
          rintro _ w24 ⟨hs24, rfl⟩
          replace hB := gb_tr hB hs24
          replace hL := hL.gb hs24
          replace hDO := hDO.gb hs24
          replace hOp := hOp.gb hs24
          replace hPr := hPr.gb hs24
          replace hb15 := hb15.gb hs24
          replace hb2 := hb2.gb hs24
          replace hb3 := hb3.gb hs24
          replace hb4 := hb4.gb hs24
          refine L_nil (N_then ⟨fun hN_ => ⟨hb15, hb3, trivial⟩, ?_⟩)
          refine T_takeA (i := 8) rfl (by kernel_rfl) (by kernel_rfl) (by kernel_rfl) (by kernel_rfl) (Y_of (fun _ ⟨hb15, hb3, _⟩ => R_pickT rfl (decide_eq_true h8) rfl)) ⟨hb15, hb3, trivial⟩ rfl ?_
          refine T_all (rs := [9]) (by kernel_rfl) rfl (all1 (O_one rfl ?_))
          refine L_stA (vs := [.slice A b.l.length c, .int .i64 b.syn, .bool false]) rfl rfl rfl sz96 rfl hb4 rfl ?_
          intro w25 hb16 hs25 hz20
          replace hB := gb_trg hB hs25 ge4
          replace hL := hL.other hb4 rfl rfl hs25
          replace hDO := hDO.old hs25 ge4
          replace hOp := hOp.old hs25 ge4
          replace hPr := hPr.old hs25 ge4
          replace hb15 := hb15.grown hs25 (ne_lt lt4)
          replace hb2 := hb2.grown hs25 (ne_lt lt5)
          replace hb3 := hb3.grown hs25 (ne_lt lt6)
          refine L_nil (N_then ⟨fun hN_ => ⟨hb15, hb3, trivial⟩, ?_⟩)
          refine T_takeA (i := 10) rfl (by kernel_rfl) (by kernel_rfl) (by kernel_rfl) (by kernel_rfl) (Y_of (fun _ ⟨hb15, hb3, _⟩ => R_assign rfl)) ⟨hb15, hb3, trivial⟩ rfl ?_
          refine T_done (by kernel_rfl) (CalmE.normal ?_)
          refine N_then (C_ret (R_then ?_))
          refine retC1 (vs := [.slice A b.l.length c, .int .i64 b.syn, .bool false]) Try.results37 rfl agg96 (At.pre (hb16.at_ 0) rfl) rfl rfl ?_
          have eh_ : (b.has && !(decide ((y.p.kind = 4 ∨ y.p.kind = 6) ∧ e.e ≠ 13))) = false := by
            first | (rw [h6]; rfl; done) | (rw [decide_eq_false (show ¬ ((y.p.kind = 4 ∨ y.p.kind = 6) ∧ e.e ≠ 13) by omega)]; simp; done) | (rw [decide_eq_true (show ((y.p.kind = 4 ∨ y.p.kind = 6) ∧ e.e ≠ 13) by omega)]; simp; done) | (simp_all; done)
          have en_ : nxt b y e = (⟨b.l, b.syn, false⟩ : BkP) := by unfold nxt; rw [if_neg (by omega), eh_]
          have hok_ := fits_iff en_ (by omega) ⟨fun q_ => by first | omega | exact absurd q_ hr, fun q_ => by first | exact hr | omega⟩ (fun q_ => by omega)
          exact ⟨hB, _, _, (⟨b.l, b.syn, false⟩ : BkP), by rw [← decE hok_], fun _ => en_.symm, Sli.zero hL, (by first | omega | (simp only [List.length_take]; omega))⟩
        · refine T_takeA (i := 5) rfl (by kernel_rfl) (by kernel_rfl) (by kernel_rfl) (by kernel_rfl) (Y_no rfl rfl rfl (decide_eq_false h8)) ⟨hb15, hb3, trivial⟩ rfl ?_
          refine T_takeA (i := 6) rfl (by kernel_rfl) (by kernel_rfl) (by kernel_rfl) (by kernel_rfl) (Y_no rfl rfl rfl (decide_eq_false h8)) ⟨hb15, hb3, trivial⟩ rfl ?_
          refine T_all (rs := [7]) (by kernel_rfl) rfl (all1 (O_one rfl ?_))
          refine L_no rfl rfl rfl (decide_eq_false h8) rfl ?_
          refine L_nil (N_then ⟨fun hN_ => ⟨hb15, hb3, trivial⟩, ?_⟩)
          refine T_takeA (i := 8) rfl (by kernel_rfl) (by kernel_rfl) (by kernel_rfl) (by kernel_rfl) (Y_of (fun _ ⟨hb15, hb3, _⟩ => R_pickF rfl (decide_eq_false h8) rfl)) ⟨hb15, hb3, trivial⟩ rfl ?_
          refine T_all (rs := [9]) (by kernel_rfl) rfl (all1 (O_one rfl ?_))
          refine L_stA (vs := [.slice A b.l.length c, .int .i64 b.syn, .bool false]) rfl rfl rfl sz96 rfl hb4 rfl ?_
          intro w26 hb17 hs26 hz21
          replace hB := gb_trg hB hs26 ge4
          replace hL := hL.other hb4 rfl rfl hs26
          replace hDO := hDO.old hs26 ge4
          replace hOp := hOp.old hs26 ge4
          replace hPr := hPr.old hs26 ge4
          replace hb15 := hb15.grown hs26 (ne_lt lt4)
          replace hb2 := hb2.grown hs26 (ne_lt lt5)
          replace hb3 := hb3.grown hs26 (ne_lt lt6)
          refine L_nil (N_then ⟨fun hN_ => ⟨hb15, hb3, trivial⟩, ?_⟩)
          refine T_takeA (i := 10) rfl (by kernel_rfl) (by kernel_rfl) (by kernel_rfl) (by kernel_rfl) (Y_of (fun _ ⟨hb15, hb3, _⟩ => R_assign rfl)) ⟨hb15, hb3, trivial⟩ rfl ?_
          refine T_done (by kernel_rfl) (CalmE.normal ?_)
          refine N_then (C_ret (R_then ?_))
          refine retC1 (vs := [.slice A b.l.length c, .int .i64 b.syn, .bool false]) Try.results37 rfl agg96 (At.pre (hb17.at_ 0) rfl) rfl rfl ?_
          have hno_ : ¬ okB b y e := fun q_ => by have h_ := q_.2.1; first | exact hr (h_.2 (by omega)) | exact (h_.1 hr) (by omega)
          exact ⟨hB, _, _, (⟨b.l, b.syn, false⟩ : BkP), by rw [decide_eq_false hno_], fun q_ => absurd q_ hno_, Sli.zero hL, (by first | omega | (simp only [List.length_take]; omega))⟩

theorem next39_e {w : World} {b : BkP} {y : StepD} {e : EvD} {A : Option Addr} {c n : Nat} (hL0 : Sli 80 0 w.heap.size w A (fl encO2 b.l)) (hDO : DeepO w.heap.size w b.l) (hg : GoodB n b) (hn : n ≤ 900) (hlc : b.l.length ≤ c) (hOp : Sli 0 0 w.heap.size w y.oa (fl encOp y.p.ops)) (hPr : Sli 0 0 w.heap.size w e.pa (fl encK e.prs)) (hy30 : y.p.ops.length ≤ 30) (hp : e.prs.length ≤ 1000) (hr : sOk y.p) (he0 : e.e = 0) :
    Runs Try.prog 37 #[.agg #[.slice A b.l.length c, .int .i64 b.syn, .bool b.has], .agg #[.int .i64 y.p.kind, .int .i64 y.p.n, .slice y.oa y.p.ops.length y.oc, .slice y.ka y.p.keep.length y.kc, .int .i64 y.p.torn, .int .i64 y.p.cut], .agg #[.int .i64 e.kind, .int .i64 e.e, .int .i64 e.bat, .int .i64 e.syn, .slice e.pa e.prs.length e.pc]] w (fun v_ w' => w.grownBy w' none ∧ ∃ A' c' b', v_ = .tuple #[.agg #[.slice A' b'.l.length c', .int .i64 b'.syn, .bool b'.has], .bool (decide (okB b y e))] ∧ (okB b y e → b' = nxt b y e) ∧ Sli 80 0 w'.heap.size w' A' (fl encO2 b'.l) ∧ b'.l.length ≤ c') := by
  have hB := gb_refl w none
  have hL := hL0
  have hg1 := hg.1
  have hg2 := hg.2.1
  have hno := hg.ops (by omega)
  have hnl : b.l.length ≤ 1000 := by omega
  have hDO0 := hDO
  have hOp0 := hOp
  have hE13 : ¬ e.e = 13 := by omega
  have hk6 := SOk_kind (show SOk y.p.kind y.p.n y.p.ops y.p.keep.length y.p.torn y.p.cut from hr)
  refine enter Try.func37 Try.ntmps37 rfl rfl ?_
  refine C_seq (C_reg rfl ?_)
  refine L_box (cs := [.slice A b.l.length c, .int .i64 b.syn, .bool b.has]) rfl rfl rfl ?_
  intro g1 w1 eg1 hb1 hs1 hz1
  have ge1 : w.heap.size ≤ g1 := eg_ge hB eg1
  replace hB := gb_tr hB hs1
  replace hL := hL.gb hs1
  replace hDO := hDO.gb hs1
  replace hOp := hOp.gb hs1
  replace hPr := hPr.gb hs1
  refine L_box (cs := [.int .i64 y.p.kind, .int .i64 y.p.n, .slice y.oa y.p.ops.length y.oc, .slice y.ka y.p.keep.length y.kc, .int .i64 y.p.torn, .int .i64 y.p.cut]) rfl rfl rfl ?_
  intro g2 w2 eg2 hb2 hs2 hz2
  have ge2 : w.heap.size ≤ g2 := eg_ge hB eg2
  have lt1 : g1 < g2 := lt_of_eg hb1.lt eg2
  replace hB := gb_tr hB hs2
  replace hL := hL.gb hs2
  replace hDO := hDO.gb hs2
  replace hOp := hOp.gb hs2
  replace hPr := hPr.gb hs2
  replace hb1 := hb1.gb hs2
  refine L_box (cs := [.int .i64 e.kind, .int .i64 e.e, .int .i64 e.bat, .int .i64 e.syn, .slice e.pa e.prs.length e.pc]) rfl rfl rfl ?_
  intro g3 w3 eg3 hb3 hs3 hz3
  have ge3 : w.heap.size ≤ g3 := eg_ge hB eg3
  have lt2 : g1 < g3 := lt_of_eg hb1.lt eg3
  have lt3 : g2 < g3 := lt_of_eg hb2.lt eg3
  replace hB := gb_tr hB hs3
  replace hL := hL.gb hs3
  replace hDO := hDO.gb hs3
  replace hOp := hOp.gb hs3
  replace hPr := hPr.gb hs3
  replace hb1 := hb1.gb hs3
  replace hb2 := hb2.gb hs3
  refine L_alloc (cs := [.slice none 0 0, .int .i64 0, .bool false]) zer96 rfl rfl ?_
  intro g4 w4 eg4 hb4 hs4 hz4
  have ge4 : w.heap.size ≤ g4 := eg_ge hB eg4
  have lt4 : g1 < g4 := lt_of_eg hb1.lt eg4
  have lt5 : g2 < g4 := lt_of_eg hb2.lt eg4
  have lt6 : g3 < g4 := lt_of_eg hb3.lt eg4
  replace hB := gb_tr hB hs4
  replace hL := hL.gb hs4
  replace hDO := hDO.gb hs4
  replace hOp := hOp.gb hs4
  replace hPr := hPr.gb hs4
  replace hb1 := hb1.gb hs4
  replace hb2 := hb2.gb hs4
  replace hb3 := hb3.gb hs4
  refine L_run (R_assign rfl) rfl ?_
  refine L_nil (N_then (C_seq (C_seq (C_reg rfl ?_))))
  refine L_run (R_field (r := 0) rfl fld44_0 rfl) rfl ?_
  refine L_run (R_load1 rfl scl3 (hb3.cell (i := 0) rfl)) rfl ?_
  refine L_run (R_field (r := 0) rfl fld86_0 rfl) rfl ?_
  refine L_run (R_load1 rfl scl3 (hb2.cell (i := 0) rfl)) rfl ?_
  refine L_run (R_neq rfl rfl) rfl ?_
  refine L_nil (N_then ?_)
  refine C_if rfl (fun h1 => ?_) (fun h1 => ?_)
  · refine C_seq (C_reg rfl ?_)
    refine L_run (R_loadA (vs := [.slice A b.l.length c, .int .i64 b.syn, .bool b.has]) rfl agg96 (At.pre (hb1.at_ 0) rfl) rfl) rfl ?_
    refine L_stA (vs := [.slice A b.l.length c, .int .i64 b.syn, .bool b.has]) rfl rfl rfl sz96 rfl hb4 rfl ?_
    intro w5 hb5 hs5 hz5
    replace hB := gb_trg hB hs5 ge4
    replace hL := hL.other hb4 rfl rfl hs5
    replace hDO := hDO.old hs5 ge4
    replace hOp := hOp.old hs5 ge4
    replace hPr := hPr.old hs5 ge4
    replace hb1 := hb1.grown hs5 (ne_lt lt4)
    replace hb2 := hb2.grown hs5 (ne_lt lt5)
    replace hb3 := hb3.grown hs5 (ne_lt lt6)
    refine L_run (R_assign rfl) rfl ?_
    refine L_nil (N_then (C_ret (R_then ?_)))
    refine retC1 (vs := [.slice A b.l.length c, .int .i64 b.syn, .bool b.has]) Try.results37 rfl agg96 (At.pre (hb5.at_ 0) rfl) rfl rfl ?_
    have hno_ : ¬ okB b y e := fun q_ => by have h_ := q_.1; omega
    exact ⟨hB, _, _, (⟨b.l, b.syn, b.has⟩ : BkP), by rw [decide_eq_false hno_], fun q_ => absurd q_ hno_, Sli.zero hL, (by first | omega | (simp only [List.length_take]; omega))⟩
  · refine C_skip (N_then (C_seq (C_seq (C_reg rfl ?_))))
    refine L_run (R_loadA (vs := [.int .i64 y.p.kind, .int .i64 y.p.n, .slice y.oa y.p.ops.length y.oc, .slice y.ka y.p.keep.length y.kc, .int .i64 y.p.torn, .int .i64 y.p.cut]) rfl agg86 (At.pre (hb2.at_ 0) rfl) rfl) rfl ?_
    refine L_call rfl cb56 (ref38_Right (ops := y.p.ops) hOp (by omega)) rfl ?_
    rintro _ w6 ⟨hs6, rfl⟩
    replace hB := gb_tr hB hs6
    replace hL := hL.gb hs6
    replace hDO := hDO.gb hs6
    replace hOp := hOp.gb hs6
    replace hPr := hPr.gb hs6
    replace hb1 := hb1.gb hs6
    replace hb2 := hb2.gb hs6
    replace hb3 := hb3.gb hs6
    replace hb4 := hb4.gb hs6
    refine L_run (R_notD rfl) rfl ?_
    refine L_nil (N_then (C_condF rfl (decide_eq_false (fun hn => hn (show SOk y.p.kind y.p.n y.p.ops y.p.keep.length y.p.torn y.p.cut from hr))) (C_skip (N_then (C_seq (C_reg rfl ?_))))))
    refine L_run (R_field (r := 0) rfl fld86_0 rfl) rfl ?_
    refine L_run (R_load1 rfl scl3 (hb2.cell (i := 0) rfl)) rfl ?_
    refine L_run (R_eql rfl rfl) rfl ?_
    refine L_run (R_move rfl) rfl ?_
    refine L_splitD (p := y.p.kind = 4) (fun h2 => ?_) (fun h2 => ?_)
    · refine L_no rfl rfl rfl (decide_eq_true h2) rfl ?_
      refine L_no rfl rfl rfl (decide_eq_true h2) rfl ?_
      refine L_no rfl rfl rfl (decide_eq_true h2) rfl ?_
      refine L_run (R_pickT rfl (decide_eq_true h2) rfl) rfl ?_
      refine L_run (R_assign rfl) rfl ?_
      refine L_nil (N_then (C_seq (C_seq (C_reg rfl ?_))))
      refine L_run (R_field (r := 1) rfl fld44_1 rfl) rfl ?_
      refine L_run (R_load1 rfl scl42 (hb3.cell (i := 1) rfl)) rfl ?_
      refine L_run (R_neq rfl rfl) rfl ?_
      refine L_nil (N_then (C_condF rfl (decide_eq_false (fun hn => hn he0)) (C_skip (N_then (C_seq (C_seq (C_reg rfl ?_)))))))
      refine L_run (R_field (r := 0) rfl fld86_0 rfl) rfl ?_
      refine L_run (R_load1 rfl scl3 (hb2.cell (i := 0) rfl)) rfl ?_
      refine L_run (R_eql rfl rfl) rfl ?_
      refine L_nil (N_then ?_)
      refine C_if rfl (fun h3 => ?_) (fun h3 => ?_)
      · exfalso; omega
      · refine C_skip (N_then (C_seq (C_seq (C_reg rfl ?_))))
        refine L_run (R_field (r := 0) rfl fld86_0 rfl) rfl ?_
        refine L_run (R_load1 rfl scl3 (hb2.cell (i := 0) rfl)) rfl ?_
        refine L_run (R_eql rfl rfl) rfl ?_
        refine L_run (R_move rfl) rfl ?_
        refine L_splitD (p := y.p.kind = 2) (fun h4 => ?_) (fun h4 => ?_)
        · exfalso; omega
        · refine L_yes rfl rfl rfl (decide_eq_false h4) ?_
          refine L_run (R_field (r := 0) rfl fld86_0 rfl) rfl ?_
          refine L_yes rfl rfl rfl (decide_eq_false h4) ?_
          refine L_run (R_load1 rfl scl3 (hb2.cell (i := 0) rfl)) rfl ?_
          refine L_yes rfl rfl rfl (decide_eq_false h4) ?_
          refine L_run (R_eql rfl rfl) rfl ?_
          refine L_run (R_pickF rfl (decide_eq_false h4) rfl) rfl ?_
          refine L_nil (N_then ?_)
          refine C_if rfl (fun h5 => ?_) (fun h5 => ?_)
          · exfalso; omega
          · refine C_skip (N_then (C_seq (C_seq (C_reg rfl ?_))))
            refine L_run (R_move rfl) rfl ?_
            refine L_nil (N_then (C_condT rfl rfl (C_seq (C_seq (C_reg rfl ?_)))))
            refine L_run (R_field (r := 2) rfl fld44_2 rfl) rfl ?_
            refine L_run (R_load1 rfl scl3 (hb3.cell (i := 2) rfl)) rfl ?_
            refine L_run (R_field (r := 1) rfl fld96_1 rfl) rfl ?_
            refine L_run (R_load1 rfl scl3 (hb1.cell (i := 1) rfl)) rfl ?_
            refine L_run (R_lss rfl rfl) rfl ?_
            refine L_run (R_move rfl) rfl ?_
            refine L_splitD (p := e.bat < b.syn) (fun h6 => ?_) (fun h6 => ?_)
            · refine L_no rfl rfl rfl (decide_eq_true h6) rfl ?_
              refine L_no rfl rfl rfl (decide_eq_true h6) rfl ?_
              refine L_no rfl rfl rfl (decide_eq_true h6) rfl ?_
              refine L_no rfl rfl rfl (decide_eq_true h6) rfl ?_
              refine L_no rfl rfl rfl (decide_eq_true h6) rfl ?_
              refine L_no rfl rfl rfl (decide_eq_true h6) rfl ?_
              refine L_run (R_pickT rfl (decide_eq_true h6) rfl) rfl ?_
              refine L_nil (N_then (C_condT rfl rfl (C_seq (C_reg rfl ?_))))
              refine L_run (R_loadA (vs := [.slice A b.l.length c, .int .i64 b.syn, .bool b.has]) rfl agg96 (At.pre (hb1.at_ 0) rfl) rfl) rfl ?_
              refine L_stA (vs := [.slice A b.l.length c, .int .i64 b.syn, .bool b.has]) rfl rfl rfl sz96 rfl hb4 rfl ?_
              intro w7 hb6 hs7 hz6
              replace hB := gb_trg hB hs7 ge4
              replace hL := hL.other hb4 rfl rfl hs7
              replace hDO := hDO.old hs7 ge4
              replace hOp := hOp.old hs7 ge4
              replace hPr := hPr.old hs7 ge4
              replace hb1 := hb1.grown hs7 (ne_lt lt4)
              replace hb2 := hb2.grown hs7 (ne_lt lt5)
              replace hb3 := hb3.grown hs7 (ne_lt lt6)
              refine L_run (R_assign rfl) rfl ?_
              refine L_nil (N_then (C_ret (R_then (R_then ?_))))
              refine retC1 (vs := [.slice A b.l.length c, .int .i64 b.syn, .bool b.has]) Try.results37 rfl agg96 (At.pre (hb6.at_ 0) rfl) rfl rfl ?_
              have hno_ : ¬ okB b y e := fun q_ => by have h_ := q_.2.2.1 he0; have h1_ := h_.1; omega
              exact ⟨hB, _, _, (⟨b.l, b.syn, b.has⟩ : BkP), by rw [decide_eq_false hno_], fun q_ => absurd q_ hno_, Sli.zero hL, (by first | omega | (simp only [List.length_take]; omega))⟩
            · refine L_yes rfl rfl rfl (decide_eq_false h6) ?_
              refine L_run (R_field (r := 2) rfl fld44_2 rfl) rfl ?_
              refine L_yes rfl rfl rfl (decide_eq_false h6) ?_
              refine L_run (R_load1 rfl scl3 (hb3.cell (i := 2) rfl)) rfl ?_
              refine L_yes rfl rfl rfl (decide_eq_false h6) ?_
              refine L_run (R_field (r := 0) rfl fld96_0 rfl) rfl ?_
              refine L_yes rfl rfl rfl (decide_eq_false h6) ?_
              refine L_run (R_load1 rfl scl90 (hb1.cell (i := 0) rfl)) rfl ?_
              refine L_yes rfl rfl rfl (decide_eq_false h6) ?_
              refine L_run (R_lenSl rfl slc90) rfl ?_
              refine L_yes rfl rfl rfl (decide_eq_false h6) ?_
              refine L_run (R_gtr rfl rfl) rfl ?_
              refine L_run (R_pickF rfl (decide_eq_false h6) rfl) rfl ?_
              refine L_nil (N_then ?_)
              refine C_if rfl (fun h7 => ?_) (fun h7 => ?_)
              · refine C_seq (C_reg rfl ?_)
                refine L_run (R_loadA (vs := [.slice A b.l.length c, .int .i64 b.syn, .bool b.has]) rfl agg96 (At.pre (hb1.at_ 0) rfl) rfl) rfl ?_
                refine L_stA (vs := [.slice A b.l.length c, .int .i64 b.syn, .bool b.has]) rfl rfl rfl sz96 rfl hb4 rfl ?_
                intro w8 hb7 hs8 hz7
                replace hB := gb_trg hB hs8 ge4
                replace hL := hL.other hb4 rfl rfl hs8
                replace hDO := hDO.old hs8 ge4
                replace hOp := hOp.old hs8 ge4
                replace hPr := hPr.old hs8 ge4
                replace hb1 := hb1.grown hs8 (ne_lt lt4)
                replace hb2 := hb2.grown hs8 (ne_lt lt5)
                replace hb3 := hb3.grown hs8 (ne_lt lt6)
                refine L_run (R_assign rfl) rfl ?_
                refine L_nil (N_then (C_ret (R_then (R_then ?_))))
                refine retC1 (vs := [.slice A b.l.length c, .int .i64 b.syn, .bool b.has]) Try.results37 rfl agg96 (At.pre (hb7.at_ 0) rfl) rfl rfl ?_
                have hno_ : ¬ okB b y e := fun q_ => by have h_ := q_.2.2.1 he0; have h1_ := h_.1; omega
                exact ⟨hB, _, _, (⟨b.l, b.syn, b.has⟩ : BkP), by rw [decide_eq_false hno_], fun q_ => absurd q_ hno_, Sli.zero hL, (by first | omega | (simp only [List.length_take]; omega))⟩
              · refine C_skip (N_then (C_seq (C_reg rfl ?_)))
                refine L_run (R_field (r := 0) rfl fld96_0 rfl) rfl ?_
                refine L_run (R_load1 rfl scl90 (hb1.cell (i := 0) rfl)) rfl ?_
                refine L_run (R_field (r := 2) rfl fld44_2 rfl) rfl ?_
                refine L_run (R_load1 rfl scl3 (hb3.cell (i := 2) rfl)) rfl ?_
                refine T_slH (xs := b.l) (j := e.bat.toNat) EncO2 rfl rfl (by omega) slc90 (by omega) hlc hL rfl ?_
                intro A_1 hS_1
                refine L_run (R_field (r := 0) rfl fld96_0 rfl) rfl ?_
                refine L_st1 rfl rfl rfl sz90 hb1 rfl ?_
                intro w9 hb8 hs9 hz8
                replace hB := gb_trg hB hs9 ge1
                replace hL := hL.other hb1 rfl rfl hs9
                replace hDO := hDO.old hs9 ge1
                replace hOp := hOp.old hs9 ge1
                replace hPr := hPr.old hs9 ge1
                replace hb2 := hb2.grown hs9 (ne_gt lt1)
                replace hb3 := hb3.grown hs9 (ne_gt lt2)
                replace hb4 := hb4.grown hs9 (ne_gt lt4)
                replace hS_1 := hS_1.other hb1 rfl rfl hs9
                refine L_nil (N_then (C_reg rfl ?_))
                refine L_run (R_field (r := 2) rfl fld44_2 rfl) rfl ?_
                refine L_run (R_load1 rfl scl3 (hb3.cell (i := 2) rfl)) rfl ?_
                refine L_run (R_field (r := 1) rfl fld96_1 rfl) rfl ?_
                refine L_st1 rfl rfl rfl sz3 hb8 rfl ?_
                intro w10 hb9 hs10 hz9
                replace hB := gb_trg hB hs10 ge1
                replace hL := hL.other hb8 rfl rfl hs10
                replace hDO := hDO.old hs10 ge1
                replace hOp := hOp.old hs10 ge1
                replace hPr := hPr.old hs10 ge1
                replace hb2 := hb2.grown hs10 (ne_gt lt1)
                replace hb3 := hb3.grown hs10 (ne_gt lt2)
                replace hb4 := hb4.grown hs10 (ne_gt lt4)
                replace hS_1 := hS_1.other hb8 rfl rfl hs10
                refine L_nil (N_then (C_seq (C_seq (C_reg rfl ?_))))
                refine L_run (R_field (r := 0) rfl fld86_0 rfl) rfl ?_
                refine L_run (R_load1 rfl scl3 (hb2.cell (i := 0) rfl)) rfl ?_
                refine L_run (R_lss rfl rfl) rfl ?_
                refine L_run (R_move rfl) rfl ?_
                refine L_splitD (p := y.p.kind < 4) (fun h8 => ?_) (fun h8 => ?_)
                · exfalso; omega
                · refine L_no rfl rfl rfl (decide_eq_false h8) rfl ?_
                  refine L_no rfl rfl rfl (decide_eq_false h8) rfl ?_
                  refine L_no rfl rfl rfl (decide_eq_false h8) rfl ?_
                  refine L_run (R_pickF rfl (decide_eq_false h8) rfl) rfl ?_
                  refine L_nil (N_then (C_condF rfl rfl (C_skip (N_then (C_seq (C_reg rfl ?_))))))
                  have hDO : DeepO w.heap.size w10 (b.l.take e.bat.toNat) := hDO0.take.gb hB
                  have hno : opsN (b.l.take e.bat.toNat) ≤ 700000 := Nat.le_trans opsN_take hno
                  have hnl : (b.l.take e.bat.toNat).length ≤ 1000 := by rw [List.length_take]; omega
                  refine L_run (R_field (r := 2) rfl fld96_2 rfl) rfl ?_
                  refine L_run (R_load1 rfl scl4 (hb9.cell (i := 2) rfl)) rfl ?_
                  refine L_run (R_move rfl) rfl ?_
                  refine L_split b.has (fun h9 => ?_) (fun h9 => ?_)
                  · refine L_no rfl rfl rfl h9 rfl ?_
                    refine L_run (R_pickT rfl h9 rfl) rfl ?_
                    refine L_run (R_field (r := 2) rfl fld96_2 rfl) rfl ?_
                    refine L_st1 rfl rfl rfl sz4 hb9 rfl ?_
                    intro w11 hb10 hs11 hz10
                    replace hB := gb_trg hB hs11 ge1
                    replace hL := hL.other hb9 rfl rfl hs11
                    replace hOp := hOp.old hs11 ge1
                    replace hPr := hPr.old hs11 ge1
                    replace hb2 := hb2.grown hs11 (ne_gt lt1)
                    replace hb3 := hb3.grown hs11 (ne_gt lt2)
                    replace hb4 := hb4.grown hs11 (ne_gt lt4)
                    replace hS_1 := hS_1.other hb9 rfl rfl hs11
                    replace hDO := hDO.old hs11 ge1
                    refine L_nil (N_then (C_seq ?_))
                    refine C_draw2 rfl mix ?_
                    intro w12 hs12 hz11
                    replace hB := gb_tr hB hs12
                    replace hL := hL.gb hs12
                    replace hOp := hOp.gb hs12
                    replace hPr := hPr.gb hs12
                    replace hb10 := hb10.gb hs12
                    replace hb2 := hb2.gb hs12
                    replace hb3 := hb3.gb hs12
                    replace hb4 := hb4.gb hs12
                    replace hS_1 := hS_1.gb hs12
                    replace hDO := hDO.gb hs12
                    refine ⟨fun W_ => Blk W_ g1 96 [.slice A_1 ((b.l.take e.bat.toNat).length) c, .int .i64 e.bat, .bool true] ∧ Blk W_ g3 44 [.int .i64 e.kind, .int .i64 e.e, .int .i64 e.bat, .int .i64 e.syn, .slice e.pa e.prs.length e.pc] ∧ True, [0, 1, 2, 5], ?_⟩
                    refine T_takeA (i := 0) rfl (by kernel_rfl) (by kernel_rfl) (by kernel_rfl) (by kernel_rfl) (Y_of (fun _ ⟨hb10, hb3, _⟩ => R_loadA (vs := [.slice A_1 ((b.l.take e.bat.toNat).length) c, .int .i64 e.bat, .bool true]) rfl agg96 (At.pre (hb10.at_ 0) rfl) rfl)) ⟨hb10, hb3, trivial⟩ rfl ?_
                    refine T_takeA (i := 1) rfl (by kernel_rfl) (by kernel_rfl) (by kernel_rfl) (by kernel_rfl) (Y_of (fun _ ⟨hb10, hb3, _⟩ => R_loadA (vs := [.slice A_1 ((b.l.take e.bat.toNat).length) c, .int .i64 e.bat, .bool true]) rfl agg96 (At.pre (hb10.at_ 0) rfl) rfl)) ⟨hb10, hb3, trivial⟩ rfl ?_
                    refine T_takeA (i := 2) rfl (by kernel_rfl) (by kernel_rfl) (by kernel_rfl) (by kernel_rfl) (Y_of (fun _ ⟨hb10, hb3, _⟩ => R_loadA (vs := [.int .i64 e.kind, .int .i64 e.e, .int .i64 e.bat, .int .i64 e.syn, .slice e.pa e.prs.length e.pc]) rfl agg44 (At.pre (hb3.at_ 0) rfl) rfl)) ⟨hb10, hb3, trivial⟩ rfl ?_
                    refine T_all (rs := [3]) (by kernel_rfl) rfl (all1 (O_one rfl ?_))
                    refine L_call rfl cb57 (fits39_ok (b := (⟨b.l.take e.bat.toNat, e.bat, true⟩ : BkP)) (e := e) (Sli.zero hS_1) hDO.top hno hnl (Sli.any hPr) (by omega)) rfl ?_
                    rintro _ w13 ⟨hs13, rfl⟩
                    replace hB := gb_tr hB hs13
                    replace hL := hL.gb hs13
                    replace hOp := hOp.gb hs13
                    replace hPr := hPr.gb hs13
                    replace hb10 := hb10.gb hs13
                    replace hb2 := hb2.gb hs13
                    replace hb3 := hb3.gb hs13
                    replace hb4 := hb4.gb hs13
                    replace hS_1 := hS_1.gb hs13
                    replace hDO := hDO.gb hs13
                    refine L_nil (N_then ⟨fun hN_ => ⟨hb10, hb3, trivial⟩, ?_⟩)
                    refine T_all (rs := [4]) (by kernel_rfl) rfl (all1 (O_one rfl ?_))
                    refine L_stA (vs := [.slice A_1 ((b.l.take e.bat.toNat).length) c, .int .i64 e.bat, .bool true]) rfl rfl rfl sz96 rfl hb4 rfl ?_
                    intro w14 hb11 hs14 hz12
                    replace hB := gb_trg hB hs14 ge4
                    replace hL := hL.other hb4 rfl rfl hs14
                    replace hOp := hOp.old hs14 ge4
                    replace hPr := hPr.old hs14 ge4
                    replace hb10 := hb10.grown hs14 (ne_lt lt4)
                    replace hb2 := hb2.grown hs14 (ne_lt lt5)
                    replace hb3 := hb3.grown hs14 (ne_lt lt6)
                    replace hS_1 := hS_1.other hb4 rfl rfl hs14
                    replace hDO := hDO.old hs14 ge4
                    refine L_nil (N_then ⟨fun hN_ => ⟨hb10, hb3, trivial⟩, ?_⟩)
                    refine T_takeA (i := 5) rfl (by kernel_rfl) (by kernel_rfl) (by kernel_rfl) (by kernel_rfl) (Y_of (fun _ ⟨hb10, hb3, _⟩ => R_assign rfl)) ⟨hb10, hb3, trivial⟩ rfl ?_
                    refine T_done (by kernel_rfl) (CalmE.normal ?_)
                    refine N_then (C_ret ?_)
                    refine retC1 (vs := [.slice A_1 ((b.l.take e.bat.toNat).length) c, .int .i64 e.bat, .bool true]) Try.results37 rfl agg96 (At.pre (hb11.at_ 0) rfl) rfl rfl ?_
                    have en_ : nxt b y e = (⟨b.l.take e.bat.toNat, e.bat, true⟩ : BkP) := by
                      unfold nxt
                      rw [if_pos he0]
                      unfold doneB opsOf
                      first | (rw [if_pos (by omega)]; done) | (rw [if_pos (by omega), h9]; done) | (rw [if_neg (by omega), if_pos (by omega)]; done) | (rw [if_neg (by omega), if_pos (by omega), h9]; done) | (rw [if_neg (by omega), if_neg (by omega), if_pos (by omega)]; done) | (rw [if_neg (by omega), if_neg (by omega), if_pos (by omega), h9]; done) | (rw [if_neg (by omega), if_neg (by omega), if_neg (by omega)]; done) | (rw [if_neg (by omega), if_neg (by omega), if_neg (by omega), h9]; done) | (rw [if_neg (by omega), if_neg (by omega), if_neg (by omega)]; cases b; simp_all; done)
                    have hok_ := fits_iff en_ (by omega) ⟨fun q_ => by first | omega | exact absurd q_ hr, fun q_ => by first | exact hr | omega⟩ (fun _ => ⟨fun q_ => ⟨by omega, by omega⟩, by
                      rw [show doneB b y e = (⟨b.l.take e.bat.toNat, e.bat, true⟩ : BkP) from by rw [← en_]; unfold nxt; rw [if_pos he0]]
                      first | exact .inl rfl | exact .inr (by omega) | exact .inl h9 | (exfalso; omega)⟩)
                    exact ⟨hB, _, _, (⟨b.l.take e.bat.toNat, e.bat, true⟩ : BkP), by rw [← decE hok_], fun _ => en_.symm, Sli.zero hS_1, (by first | omega | (simp only [List.length_take]; omega))⟩
                  · refine L_yes rfl rfl rfl h9 ?_
                    refine L_run (R_move rfl) rfl ?_
                    refine L_run (R_pickF rfl h9 rfl) rfl ?_
                    refine L_run (R_field (r := 2) rfl fld96_2 rfl) rfl ?_
                    refine L_st1 rfl rfl rfl sz4 hb9 rfl ?_
                    intro w15 hb12 hs15 hz13
                    replace hB := gb_trg hB hs15 ge1
                    replace hL := hL.other hb9 rfl rfl hs15
                    replace hOp := hOp.old hs15 ge1
                    replace hPr := hPr.old hs15 ge1
                    replace hb2 := hb2.grown hs15 (ne_gt lt1)
                    replace hb3 := hb3.grown hs15 (ne_gt lt2)
                    replace hb4 := hb4.grown hs15 (ne_gt lt4)
                    replace hS_1 := hS_1.other hb9 rfl rfl hs15
                    replace hDO := hDO.old hs15 ge1
                    refine L_nil (N_then (C_seq ?_))
                    refine C_draw2 rfl mix ?_
                    intro w16 hs16 hz14
                    replace hB := gb_tr hB hs16
                    replace hL := hL.gb hs16
                    replace hOp := hOp.gb hs16
                    replace hPr := hPr.gb hs16
                    replace hb12 := hb12.gb hs16
                    replace hb2 := hb2.gb hs16
                    replace hb3 := hb3.gb hs16
                    replace hb4 := hb4.gb hs16
                    replace hS_1 := hS_1.gb hs16
                    replace hDO := hDO.gb hs16
                    refine ⟨fun W_ => Blk W_ g1 96 [.slice A_1 ((b.l.take e.bat.toNat).length) c, .int .i64 e.bat, .bool true] ∧ Blk W_ g3 44 [.int .i64 e.kind, .int .i64 e.e, .int .i64 e.bat, .int .i64 e.syn, .slice e.pa e.prs.length e.pc] ∧ True, [0, 1, 2, 5], ?_⟩
                    refine T_takeA (i := 0) rfl (by kernel_rfl) (by kernel_rfl) (by kernel_rfl) (by kernel_rfl) (Y_of (fun _ ⟨hb12, hb3, _⟩ => R_loadA (vs := [.slice A_1 ((b.l.take e.bat.toNat).length) c, .int .i64 e.bat, .bool true]) rfl agg96 (At.pre (hb12.at_ 0) rfl) rfl)) ⟨hb12, hb3, trivial⟩ rfl ?_
                    refine T_takeA (i := 1) rfl (by kernel_rfl) (by kernel_rfl) (by kernel_rfl) (by kernel_rfl) (Y_of (fun _ ⟨hb12, hb3, _⟩ => R_loadA (vs := [.slice A_1 ((b.l.take e.bat.toNat).length) c, .int .i64 e.bat, .bool true]) rfl agg96 (At.pre (hb12.at_ 0) rfl) rfl)) ⟨hb12, hb3, trivial⟩ rfl ?_
                    refine T_takeA (i := 2) rfl (by kernel_rfl) (by kernel_rfl) (by kernel_rfl) (by kernel_rfl) (Y_of (fun _ ⟨hb12, hb3, _⟩ => R_loadA (vs := [.int .i64 e.kind, .int .i64 e.e, .int .i64 e.bat, .int .i64 e.syn, .slice e.pa e.prs.length e.pc]) rfl agg44 (At.pre (hb3.at_ 0) rfl) rfl)) ⟨hb12, hb3, trivial⟩ rfl ?_
                    refine T_all (rs := [3]) (by kernel_rfl) rfl (all1 (O_one rfl ?_))
                    refine L_call rfl cb57 (fits39_ok (b := (⟨b.l.take e.bat.toNat, e.bat, true⟩ : BkP)) (e := e) (Sli.zero hS_1) hDO.top hno hnl (Sli.any hPr) (by omega)) rfl ?_
                    rintro _ w17 ⟨hs17, rfl⟩
                    replace hB := gb_tr hB hs17
                    replace hL := hL.gb hs17
                    replace hOp := hOp.gb hs17
                    replace hPr := hPr.gb hs17
                    replace hb12 := hb12.gb hs17
                    replace hb2 := hb2.gb hs17
                    replace hb3 := hb3.gb hs17
                    replace hb4 := hb4.gb hs17
                    replace hS_1 := hS_1.gb hs17
                    replace hDO := hDO.gb hs17
                    refine L_nil (N_then ⟨fun hN_ => ⟨hb12, hb3, trivial⟩, ?_⟩)
                    refine T_all (rs := [4]) (by kernel_rfl) rfl (all1 (O_one rfl ?_))
                    refine L_stA (vs := [.slice A_1 ((b.l.take e.bat.toNat).length) c, .int .i64 e.bat, .bool true]) rfl rfl rfl sz96 rfl hb4 rfl ?_
                    intro w18 hb13 hs18 hz15
                    replace hB := gb_trg hB hs18 ge4
                    replace hL := hL.other hb4 rfl rfl hs18
                    replace hOp := hOp.old hs18 ge4
                    replace hPr := hPr.old hs18 ge4
                    replace hb12 := hb12.grown hs18 (ne_lt lt4)
                    replace hb2 := hb2.grown hs18 (ne_lt lt5)
                    replace hb3 := hb3.grown hs18 (ne_lt lt6)
                    replace hS_1 := hS_1.other hb4 rfl rfl hs18
                    replace hDO := hDO.old hs18 ge4
                    refine L_nil (N_then ⟨fun hN_ => ⟨hb12, hb3, trivial⟩, ?_⟩)
                    refine T_takeA (i := 5) rfl (by kernel_rfl) (by kernel_rfl) (by kernel_rfl) (by kernel_rfl) (Y_of (fun _ ⟨hb12, hb3, _⟩ => R_assign rfl)) ⟨hb12, hb3, trivial⟩ rfl ?_
                    refine T_done (by kernel_rfl) (CalmE.normal ?_)
                    refine N_then (C_ret ?_)
                    refine retC1 (vs := [.slice A_1 ((b.l.take e.bat.toNat).length) c, .int .i64 e.bat, .bool true]) Try.results37 rfl agg96 (At.pre (hb13.at_ 0) rfl) rfl rfl ?_
                    have en_ : nxt b y e = (⟨b.l.take e.bat.toNat, e.bat, true⟩ : BkP) := by
                      unfold nxt
                      rw [if_pos he0]
                      unfold doneB opsOf
                      first | (rw [if_pos (by omega)]; done) | (rw [if_pos (by omega), h9]; done) | (rw [if_neg (by omega), if_pos (by omega)]; done) | (rw [if_neg (by omega), if_pos (by omega), h9]; done) | (rw [if_neg (by omega), if_neg (by omega), if_pos (by omega)]; done) | (rw [if_neg (by omega), if_neg (by omega), if_pos (by omega), h9]; done) | (rw [if_neg (by omega), if_neg (by omega), if_neg (by omega)]; done) | (rw [if_neg (by omega), if_neg (by omega), if_neg (by omega), h9]; done) | (rw [if_neg (by omega), if_neg (by omega), if_neg (by omega)]; cases b; simp_all; done)
                    have hok_ := fits_iff en_ (by omega) ⟨fun q_ => by first | omega | exact absurd q_ hr, fun q_ => by first | exact hr | omega⟩ (fun _ => ⟨fun q_ => ⟨by omega, by omega⟩, by
                      rw [show doneB b y e = (⟨b.l.take e.bat.toNat, e.bat, true⟩ : BkP) from by rw [← en_]; unfold nxt; rw [if_pos he0]]
                      first | exact .inl rfl | exact .inr (by omega) | exact .inl h9 | (exfalso; omega)⟩)
                    exact ⟨hB, _, _, (⟨b.l.take e.bat.toNat, e.bat, true⟩ : BkP), by rw [← decE hok_], fun _ => en_.symm, Sli.zero hS_1, (by first | omega | (simp only [List.length_take]; omega))⟩
    · refine L_yes rfl rfl rfl (decide_eq_false h2) ?_
      refine L_run (R_field (r := 0) rfl fld86_0 rfl) rfl ?_
      refine L_yes rfl rfl rfl (decide_eq_false h2) ?_
      refine L_run (R_load1 rfl scl3 (hb2.cell (i := 0) rfl)) rfl ?_
      refine L_yes rfl rfl rfl (decide_eq_false h2) ?_
      refine L_run (R_eql rfl rfl) rfl ?_
      refine L_run (R_pickF rfl (decide_eq_false h2) rfl) rfl ?_
      refine L_run (R_assign rfl) rfl ?_
      refine L_nil (N_then (C_seq (C_seq (C_reg rfl ?_))))
      refine L_run (R_field (r := 1) rfl fld44_1 rfl) rfl ?_
      refine L_run (R_load1 rfl scl42 (hb3.cell (i := 1) rfl)) rfl ?_
      refine L_run (R_neq rfl rfl) rfl ?_
      refine L_nil (N_then (C_condF rfl (decide_eq_false (fun hn => hn he0)) (C_skip (N_then (C_seq (C_seq (C_reg rfl ?_)))))))
      refine L_run (R_field (r := 0) rfl fld86_0 rfl) rfl ?_
      refine L_run (R_load1 rfl scl3 (hb2.cell (i := 0) rfl)) rfl ?_
      refine L_run (R_eql rfl rfl) rfl ?_
      refine L_nil (N_then ?_)
      refine C_if rfl (fun h10 => ?_) (fun h10 => ?_)
      · refine C_join (fun a_ w_ => (∃ (σ_ : Nat → Value) (A_3 : Option Addr) (c_2 : Nat), a_ = Ac 121 σ_ [] [(0, .agg #[.slice A b.l.length c, .int .i64 b.syn, .bool b.has]), (1, .agg #[.int .i64 y.p.kind, .int .i64 y.p.n, .slice y.oa y.p.ops.length y.oc, .slice y.ka y.p.keep.length y.kc, .int .i64 y.p.torn, .int .i64 y.p.cut]), (2, .agg #[.int .i64 e.kind, .int .i64 e.e, .int .i64 e.bat, .int .i64 e.syn, .slice e.pa e.prs.length e.pc]), (3, .pointer (some ⟨g1, 0, none⟩)), (4, .pointer (some ⟨g2, 0, none⟩)), (5, .pointer (some ⟨g3, 0, none⟩)), (6, .pointer (some ⟨g4, 0, none⟩)), (7, .bool false), (8, .bool (decide (y.p.kind = 6))), (9, .pointer (some ⟨g3, 0, none⟩)), (10, .int .i64 e.kind), (11, .pointer (some ⟨g2, 0, none⟩)), (12, .int .i64 y.p.kind), (13, .bool (decide (e.kind ≠ y.p.kind))), (15, .agg #[.int .i64 y.p.kind, .int .i64 y.p.n, .slice y.oa y.p.ops.length y.oc, .slice y.ka y.p.keep.length y.kc, .int .i64 y.p.torn, .int .i64 y.p.cut]), (16, .bool (decide (SOk y.p.kind y.p.n y.p.ops y.p.keep.length y.p.torn y.p.cut))), (17, .bool (decide (¬ (SOk y.p.kind y.p.n y.p.ops y.p.keep.length y.p.torn y.p.cut)))), (27, .pointer (some ⟨g2, 0, none⟩)), (28, .int .i64 y.p.kind), (29, .bool (decide (y.p.kind = 4))), (30, .bool (decide (y.p.kind = 4))), (31, .pointer (some ⟨g2, 0, none⟩)), (32, .int .i64 y.p.kind), (33, .bool (decide (y.p.kind = 6))), (34, .bool (decide (y.p.kind = 6))), (35, .pointer (some ⟨g3, 1, none⟩)), (36, .int .i64 e.e), (37, .bool (decide (e.e ≠ 0))), (54, .pointer (some ⟨g2, 0, none⟩)), (55, .int .i64 y.p.kind), (56, .bool (decide (y.p.kind = 1)))] ∧ w.grownBy w_ none ∧ Sli 80 0 w.heap.size w_ A (fl encO2 b.l) ∧ DeepO w.heap.size w_ b.l ∧ Sli 0 0 w.heap.size w_ y.oa (fl encOp y.p.ops) ∧ Sli 0 0 w.heap.size w_ e.pa (fl encK e.prs) ∧ Blk w_ g1 96 [.slice A_3 ((b.l ++ ([(⟨y.oa, y.oc, y.p.ops⟩ : OpsD)])).length) c_2, .int .i64 b.syn, .bool b.has] ∧ Blk w_ g2 86 [.int .i64 y.p.kind, .int .i64 y.p.n, .slice y.oa y.p.ops.length y.oc, .slice y.ka y.p.keep.length y.kc, .int .i64 y.p.torn, .int .i64 y.p.cut] ∧ Blk w_ g3 44 [.int .i64 e.kind, .int .i64 e.e, .int .i64 e.bat, .int .i64 e.syn, .slice e.pa e.prs.length e.pc] ∧ Blk w_ g4 96 [.slice none 0 0, .int .i64 0, .bool false] ∧ World.ownsRow w_ w.heap.size 80 1 (.slice A_3 (b.l ++ ([(⟨y.oa, y.oc, y.p.ops⟩ : OpsD)])).length c_2) (b.l ++ ([(⟨y.oa, y.oc, y.p.ops⟩ : OpsD)])).length (fl encO2 (b.l ++ ([(⟨y.oa, y.oc, y.p.ops⟩ : OpsD)]))))) ?_ ?_
        · refine C_draw2 rfl mix ?_
          intro w19 hs19 hz16
          replace hB := gb_tr hB hs19
          replace hL := hL.gb hs19
          replace hDO := hDO.gb hs19
          replace hOp := hOp.gb hs19
          replace hPr := hPr.gb hs19
          replace hb1 := hb1.gb hs19
          replace hb2 := hb2.gb hs19
          replace hb3 := hb3.gb hs19
          replace hb4 := hb4.gb hs19
          refine ⟨fun W_ => Blk W_ g1 96 [.slice A b.l.length c, .int .i64 b.syn, .bool b.has] ∧ Blk W_ g2 86 [.int .i64 y.p.kind, .int .i64 y.p.n, .slice y.oa y.p.ops.length y.oc, .slice y.ka y.p.keep.length y.kc, .int .i64 y.p.torn, .int .i64 y.p.cut] ∧ True, [1, 2, 4, 5, 8], ?_⟩
          refine T_takeA (i := 1) rfl (by kernel_rfl) (by kernel_rfl) (by kernel_rfl) (by kernel_rfl) (Y_of (fun _ ⟨hb1, hb2, _⟩ => R_field (r := 0) rfl fld96_0 rfl)) ⟨hb1, hb2, trivial⟩ rfl ?_
          refine T_takeA (i := 2) rfl (by kernel_rfl) (by kernel_rfl) (by kernel_rfl) (by kernel_rfl) (Y_of (fun _ ⟨hb1, hb2, _⟩ => R_load1 rfl scl90 (hb1.cell (i := 0) rfl))) ⟨hb1, hb2, trivial⟩ rfl ?_
          refine T_takeA (i := 4) rfl (by kernel_rfl) (by kernel_rfl) (by kernel_rfl) (by kernel_rfl) (Y_of (fun _ ⟨hb1, hb2, _⟩ => R_field (r := 2) rfl fld86_2 rfl)) ⟨hb1, hb2, trivial⟩ rfl ?_
          refine T_takeA (i := 5) rfl (by kernel_rfl) (by kernel_rfl) (by kernel_rfl) (by kernel_rfl) (Y_of (fun _ ⟨hb1, hb2, _⟩ => R_load1 rfl scl80 (hb2.cell (i := 2) rfl))) ⟨hb1, hb2, trivial⟩ rfl ?_
          refine T_all (rs := [0, 6]) (by kernel_rfl) rfl (all2 (O_one rfl ?_) (O_one rfl ?_))
          · refine L_buildSlice (pv := []) (cs := []) slc90 zer80 rfl rfl (by kernel_rfl) rfl ?_
            intro g5 w20 eg5 hb14 hs20 hz17
            have ge5 : w.heap.size ≤ g5 := eg_ge hB eg5
            have lt7 : g1 < g5 := lt_of_eg hb1.lt eg5
            have lt8 : g2 < g5 := lt_of_eg hb2.lt eg5
            have lt9 : g3 < g5 := lt_of_eg hb3.lt eg5
            have lt10 : g4 < g5 := lt_of_eg hb4.lt eg5
            replace hB := gb_tr hB hs20
            replace hL := hL.gb hs20
            replace hDO := hDO.gb hs20
            replace hOp := hOp.gb hs20
            replace hPr := hPr.gb hs20
            replace hb1 := hb1.gb hs20
            replace hb2 := hb2.gb hs20
            replace hb3 := hb3.gb hs20
            replace hb4 := hb4.gb hs20
            refine L_nil (N_then ⟨fun hN_ => ⟨hb1, hb2, trivial⟩, ?_⟩)
            refine T_all (rs := [3, 6]) (by kernel_rfl) rfl (all2 (O_one rfl ?_) (O_one rfl ?_))
            · have hlo1 : g5 ≤ w20.heap.size := Nat.le_of_lt hb14.lt
              have ho1 : World.ownsRow w20 g5 80 1 (.slice (some ⟨g5, 0, none⟩) ([] : List OpsD).length 0) ([] : List OpsD).length (fl encO2 []) := Blk.own (sz := 1) (m := 0) hb14 (by decide) rfl (Nat.le_refl _)
              refine T_append (xs := []) (ys := b.l) EncO2 slc90 rfl rfl ho1 hL (by simp; omega) hlo1 rfl ?_
              intro A_2 c_1 w21 ho2 hs21 hat1
              replace hB := gb_tro hB ho1 hs21 ge5
              replace hL := hL.grown hs21 (fun k hk => .inr (Nat.le_trans ge5 (World.ownsRow.lt ho1 k hk).1))
              replace hDO := hDO.own ho1 ge5 hs21
              replace hOp := hOp.grown hs21 (fun k hk => .inr (Nat.le_trans ge5 (World.ownsRow.lt ho1 k hk).1))
              replace hPr := hPr.grown hs21 (fun k hk => .inr (Nat.le_trans ge5 (World.ownsRow.lt ho1 k hk).1))
              replace hb1 := blk_own hb1 ho1 rfl hs21
              replace hb2 := blk_own hb2 ho1 rfl hs21
              replace hb3 := blk_own hb3 ho1 rfl hs21
              replace hb4 := blk_own hb4 ho1 rfl hs21
              replace hlo1 := Nat.le_trans hlo1 hs21.size
              simp only [List.nil_append] at ho2 ⊢
              refine L_nil (N_then ⟨fun hN_ => ⟨hb1, hb2, trivial⟩, ?_⟩)
              refine T_all (rs := [6]) (by kernel_rfl) rfl (all1 (O_one rfl ?_))
              refine L_buildSlice (pv := [(0, .slice y.oa y.p.ops.length y.oc)]) (cs := [.slice y.oa y.p.ops.length y.oc]) slc90 zer80 rfl rfl (by kernel_rfl) rfl ?_
              intro g6 w22 eg6 hb15 hs22 hz18
              have ge6 : w.heap.size ≤ g6 := eg_ge hB eg6
              have lt11 : g1 < g6 := lt_of_eg hb1.lt eg6
              have lt12 : g2 < g6 := lt_of_eg hb2.lt eg6
              have lt13 : g3 < g6 := lt_of_eg hb3.lt eg6
              have lt14 : g4 < g6 := lt_of_eg hb4.lt eg6
              have hap1 : ∀ k_, (Value.slice A_2 b.l.length c_1).ownBlock = some k_ → k_ ≠ g6 := fun k_ hk => by have h_ := (World.ownsRow.lt ho2 k_ hk).2; omega
              replace hB := gb_tr hB hs22
              replace hL := hL.gb hs22
              replace hDO := hDO.gb hs22
              replace hOp := hOp.gb hs22
              replace hPr := hPr.gb hs22
              replace hb1 := hb1.gb hs22
              replace hb2 := hb2.gb hs22
              replace hb3 := hb3.gb hs22
              replace hb4 := hb4.gb hs22
              replace hlo1 := Nat.le_trans hlo1 hs22.size
              replace ho2 := own_gb ho2 hs22
              refine L_nil (N_then ⟨fun hN_ => ⟨hb1, hb2, trivial⟩, ?_⟩)
              refine T_all (rs := [7]) (by kernel_rfl) rfl (all1 (O_one rfl ?_))
              refine T_append (xs := b.l) (ys := [(⟨y.oa, y.oc, y.p.ops⟩ : OpsD)]) EncO2 slc90 rfl rfl ho2 (Blk.sli (m := 0) hb15) (by simp; omega) hlo1 rfl ?_
              intro A_3 c_2 w23 ho3 hs23 hat2
              replace hB := gb_tro hB ho2 hs23 ge5
              replace hL := hL.grown hs23 (fun k hk => .inr (Nat.le_trans ge5 (World.ownsRow.lt ho2 k hk).1))
              replace hDO := hDO.own ho2 ge5 hs23
              replace hOp := hOp.grown hs23 (fun k hk => .inr (Nat.le_trans ge5 (World.ownsRow.lt ho2 k hk).1))
              replace hPr := hPr.grown hs23 (fun k hk => .inr (Nat.le_trans ge5 (World.ownsRow.lt ho2 k hk).1))
              replace hb1 := blk_own hb1 ho2 rfl hs23
              replace hb2 := blk_own hb2 ho2 rfl hs23
              replace hb3 := blk_own hb3 ho2 rfl hs23
              replace hb4 := blk_own hb4 ho2 rfl hs23
              replace hlo1 := Nat.le_trans hlo1 hs23.size
              refine L_nil (N_then ⟨fun hN_ => ⟨hb1, hb2, trivial⟩, ?_⟩)
              refine T_takeA (i := 8) rfl (by kernel_rfl) (by kernel_rfl) (by kernel_rfl) (by kernel_rfl) (Y_of (fun _ ⟨hb1, hb2, _⟩ => R_field (r := 0) rfl fld96_0 rfl)) ⟨hb1, hb2, trivial⟩ rfl ?_
              refine T_switch (S' := fun _ => True) (qs' := []) (by kernel_rfl) ?_
              refine T_all (rs := [9]) (by kernel_rfl) rfl (all1 (O_one rfl ?_))
              refine L_st1 rfl rfl rfl sz90 hb1 rfl ?_
              intro w24 hb16 hs24 hz19
              replace hB := gb_trg hB hs24 ge1
              replace hL := hL.other hb1 rfl rfl hs24
              replace hDO := hDO.old hs24 ge1
              replace hOp := hOp.old hs24 ge1
              replace hPr := hPr.old hs24 ge1
              replace hb2 := hb2.grown hs24 (ne_gt lt1)
              replace hb3 := hb3.grown hs24 (ne_gt lt2)
              replace hb4 := hb4.grown hs24 (ne_gt lt4)
              replace hlo1 := Nat.le_trans hlo1 hs24.size
              replace ho3 := own_other ho3 hb1 rfl hs24
              refine L_nil (N_then ⟨fun hN_ => trivial, ?_⟩)
              refine T_done (by kernel_rfl) (CalmE.normal ?_)
              exact ⟨rfl, ⟨_, A_3, c_2, Ac_frg ⟨rfl, rfl, rfl, rfl, rfl, rfl, rfl, rfl, rfl, rfl, rfl, rfl, rfl, rfl, rfl, rfl, rfl, rfl, rfl, rfl, rfl, rfl, rfl, rfl, rfl, rfl, rfl, rfl, rfl, rfl, rfl, trivial⟩, hB, hL, hDO, hOp, hPr, hb16, hb2, hb3, hb4, (own_lo ho3 ge5)⟩⟩
            · refine L_buildSlice (pv := [(0, .slice y.oa y.p.ops.length y.oc)]) (cs := [.slice y.oa y.p.ops.length y.oc]) slc90 zer80 rfl rfl (by kernel_rfl) rfl ?_
              intro g7 w25 eg7 hb17 hs25 hz20
              have ge7 : w.heap.size ≤ g7 := eg_ge hB eg7
              have lt15 : g1 < g7 := lt_of_eg hb1.lt eg7
              have lt16 : g2 < g7 := lt_of_eg hb2.lt eg7
              have lt17 : g3 < g7 := lt_of_eg hb3.lt eg7
              have lt18 : g4 < g7 := lt_of_eg hb4.lt eg7
              have lt19 : g5 < g7 := lt_of_eg hb14.lt eg7
              replace hB := gb_tr hB hs25
              replace hL := hL.gb hs25
              replace hDO := hDO.gb hs25
              replace hOp := hOp.gb hs25
              replace hPr := hPr.gb hs25
              replace hb1 := hb1.gb hs25
              replace hb2 := hb2.gb hs25
              replace hb3 := hb3.gb hs25
              replace hb4 := hb4.gb hs25
              replace hb14 := hb14.gb hs25
              refine L_nil (N_then ⟨fun hN_ => ⟨hb1, hb2, trivial⟩, ?_⟩)
              refine T_all (rs := [3]) (by kernel_rfl) rfl (all1 (O_one rfl ?_))
              have hlo2 : g5 ≤ w25.heap.size := Nat.le_of_lt hb14.lt
              have ho4 : World.ownsRow w25 g5 80 1 (.slice (some ⟨g5, 0, none⟩) ([] : List OpsD).length 0) ([] : List OpsD).length (fl encO2 []) := Blk.own (sz := 1) (m := 0) hb14 (by decide) rfl (Nat.le_refl _)
              have hap2 : ∀ k_, (Value.slice (some ⟨g5, 0, none⟩) ([] : List OpsD).length 0).ownBlock = some k_ → k_ ≠ g7 := fun k_ hk => by (have h_ : some g5 = some k_ := hk); injection h_; omega
              refine T_append (xs := []) (ys := b.l) EncO2 slc90 rfl rfl ho4 hL (by simp; omega) hlo2 rfl ?_
              intro A_4 c_3 w26 ho5 hs26 hat3
              have lt20 := hb17.lt
              replace hB := gb_tro hB ho4 hs26 ge5
              replace hL := hL.grown hs26 (fun k hk => .inr (Nat.le_trans ge5 (World.ownsRow.lt ho4 k hk).1))
              replace hDO := hDO.own ho4 ge5 hs26
              replace hOp := hOp.grown hs26 (fun k hk => .inr (Nat.le_trans ge5 (World.ownsRow.lt ho4 k hk).1))
              replace hPr := hPr.grown hs26 (fun k hk => .inr (Nat.le_trans ge5 (World.ownsRow.lt ho4 k hk).1))
              replace hb1 := blk_own hb1 ho4 rfl hs26
              replace hb2 := blk_own hb2 ho4 rfl hs26
              replace hb3 := blk_own hb3 ho4 rfl hs26
              replace hb4 := blk_own hb4 ho4 rfl hs26
              replace hb17 := hb17.grown hs26 (fun e_ => hap2 _ e_.symm rfl)
              replace hlo2 := Nat.le_trans hlo2 hs26.size
              have hap3 : ∀ k_, (Value.slice A_4 (([]) ++ b.l).length c_3).ownBlock = some k_ → k_ ≠ g7 := fun k_ hk => by rcases hat3 with h_ | h_ <;> rw [h_] at hk <;> first | exact hap2 k_ hk | (injection hk with hk; omega)
              simp only [List.nil_append] at ho5 ⊢
              refine L_nil (N_then ⟨fun hN_ => ⟨hb1, hb2, trivial⟩, ?_⟩)
              refine T_all (rs := [7]) (by kernel_rfl) rfl (all1 (O_one rfl ?_))
              refine T_append (xs := b.l) (ys := [(⟨y.oa, y.oc, y.p.ops⟩ : OpsD)]) EncO2 slc90 rfl rfl ho5 (Blk.sli (m := 0) hb17) (by simp; omega) hlo2 rfl ?_
              intro A_5 c_4 w27 ho6 hs27 hat4
              replace hB := gb_tro hB ho5 hs27 ge5
              replace hL := hL.grown hs27 (fun k hk => .inr (Nat.le_trans ge5 (World.ownsRow.lt ho5 k hk).1))
              replace hDO := hDO.own ho5 ge5 hs27
              replace hOp := hOp.grown hs27 (fun k hk => .inr (Nat.le_trans ge5 (World.ownsRow.lt ho5 k hk).1))
              replace hPr := hPr.grown hs27 (fun k hk => .inr (Nat.le_trans ge5 (World.ownsRow.lt ho5 k hk).1))
              replace hb1 := blk_own hb1 ho5 rfl hs27
              replace hb2 := blk_own hb2 ho5 rfl hs27
              replace hb3 := blk_own hb3 ho5 rfl hs27
              replace hb4 := blk_own hb4 ho5 rfl hs27
              replace hlo2 := Nat.le_trans hlo2 hs27.size
              refine L_nil (N_then ⟨fun hN_ => ⟨hb1, hb2, trivial⟩, ?_⟩)
              refine T_takeA (i := 8) rfl (by kernel_rfl) (by kernel_rfl) (by kernel_rfl) (by kernel_rfl) (Y_of (fun _ ⟨hb1, hb2, _⟩ => R_field (r := 0) rfl fld96_0 rfl)) ⟨hb1, hb2, trivial⟩ rfl ?_
              refine T_switch (S' := fun _ => True) (qs' := []) (by kernel_rfl) ?_
              refine T_all (rs := [9]) (by kernel_rfl) rfl (all1 (O_one rfl ?_))
              refine L_st1 rfl rfl rfl sz90 hb1 rfl ?_
              intro w28 hb18 hs28 hz21
              replace hB := gb_trg hB hs28 ge1
              replace hL := hL.other hb1 rfl rfl hs28
              replace hDO := hDO.old hs28 ge1
              replace hOp := hOp.old hs28 ge1
              replace hPr := hPr.old hs28 ge1
              replace hb2 := hb2.grown hs28 (ne_gt lt1)
              replace hb3 := hb3.grown hs28 (ne_gt lt2)
              replace hb4 := hb4.grown hs28 (ne_gt lt4)
              replace hlo2 := Nat.le_trans hlo2 hs28.size
              replace ho6 := own_other ho6 hb1 rfl hs28
              refine L_nil (N_then ⟨fun hN_ => trivial, ?_⟩)
              refine T_done (by kernel_rfl) (CalmE.normal ?_)
              exact ⟨rfl, ⟨_, A_5, c_4, Ac_frg ⟨rfl, rfl, rfl, rfl, rfl, rfl, rfl, rfl, rfl, rfl, rfl, rfl, rfl, rfl, rfl, rfl, rfl, rfl, rfl, rfl, rfl, rfl, rfl, rfl, rfl, rfl, rfl, rfl, rfl, rfl, rfl, trivial⟩, hB, hL, hDO, hOp, hPr, hb18, hb2, hb3, hb4, (own_lo ho6 ge5)⟩⟩
          · refine L_buildSlice (pv := [(0, .slice y.oa y.p.ops.length y.oc)]) (cs := [.slice y.oa y.p.ops.length y.oc]) slc90 zer80 rfl rfl (by kernel_rfl) rfl ?_
            intro g8 w29 eg8 hb19 hs29 hz22
            have ge8 : w.heap.size ≤ g8 := eg_ge hB eg8
            have lt21 : g1 < g8 := lt_of_eg hb1.lt eg8
            have lt22 : g2 < g8 := lt_of_eg hb2.lt eg8
            have lt23 : g3 < g8 := lt_of_eg hb3.lt eg8
            have lt24 : g4 < g8 := lt_of_eg hb4.lt eg8
            replace hB := gb_tr hB hs29
            replace hL := hL.gb hs29
            replace hDO := hDO.gb hs29
            replace hOp := hOp.gb hs29
            replace hPr := hPr.gb hs29
            replace hb1 := hb1.gb hs29
            replace hb2 := hb2.gb hs29
            replace hb3 := hb3.gb hs29
            replace hb4 := hb4.gb hs29
            refine L_nil (N_then ⟨fun hN_ => ⟨hb1, hb2, trivial⟩, ?_⟩)
            refine T_all (rs := [0]) (by kernel_rfl) rfl (all1 (O_one rfl ?_))
            refine L_buildSlice (pv := []) (cs := []) slc90 zer80 rfl rfl (by kernel_rfl) rfl ?_
            intro g9 w30 eg9 hb20 hs30 hz23
            have ge9 : w.heap.size ≤ g9 := eg_ge hB eg9
            have lt25 : g1 < g9 := lt_of_eg hb1.lt eg9
            have lt26 : g2 < g9 := lt_of_eg hb2.lt eg9
            have lt27 : g3 < g9 := lt_of_eg hb3.lt eg9
            have lt28 : g4 < g9 := lt_of_eg hb4.lt eg9
            have lt29 : g8 < g9 := lt_of_eg hb19.lt eg9
            replace hB := gb_tr hB hs30
            replace hL := hL.gb hs30
            replace hDO := hDO.gb hs30
            replace hOp := hOp.gb hs30
            replace hPr := hPr.gb hs30
            replace hb1 := hb1.gb hs30
            replace hb2 := hb2.gb hs30
            replace hb3 := hb3.gb hs30
            replace hb4 := hb4.gb hs30
            replace hb19 := hb19.gb hs30
            refine L_nil (N_then ⟨fun hN_ => ⟨hb1, hb2, trivial⟩, ?_⟩)
            refine T_all (rs := [3]) (by kernel_rfl) rfl (all1 (O_one rfl ?_))
            have hlo3 : g9 ≤ w30.heap.size := Nat.le_of_lt hb20.lt
            have ho7 : World.ownsRow w30 g9 80 1 (.slice (some ⟨g9, 0, none⟩) ([] : List OpsD).length 0) ([] : List OpsD).length (fl encO2 []) := Blk.own (sz := 1) (m := 0) hb20 (by decide) rfl (Nat.le_refl _)
            have hap4 : ∀ k_, (Value.slice (some ⟨g9, 0, none⟩) ([] : List OpsD).length 0).ownBlock = some k_ → k_ ≠ g8 := fun k_ hk => by (have h_ : some g9 = some k_ := hk); injection h_; omega
            refine T_append (xs := []) (ys := b.l) EncO2 slc90 rfl rfl ho7 hL (by simp; omega) hlo3 rfl ?_
            intro A_6 c_5 w31 ho8 hs31 hat5
            have lt30 := hb19.lt
            replace hB := gb_tro hB ho7 hs31 ge9
            replace hL := hL.grown hs31 (fun k hk => .inr (Nat.le_trans ge9 (World.ownsRow.lt ho7 k hk).1))
            replace hDO := hDO.own ho7 ge9 hs31
            replace hOp := hOp.grown hs31 (fun k hk => .inr (Nat.le_trans ge9 (World.ownsRow.lt ho7 k hk).1))
            replace hPr := hPr.grown hs31 (fun k hk => .inr (Nat.le_trans ge9 (World.ownsRow.lt ho7 k hk).1))
            replace hb1 := blk_own hb1 ho7 rfl hs31
            replace hb2 := blk_own hb2 ho7 rfl hs31
            replace hb3 := blk_own hb3 ho7 rfl hs31
            replace hb4 := blk_own hb4 ho7 rfl hs31
            replace hb19 := hb19.grown hs31 (fun e_ => hap4 _ e_.symm rfl)
            replace hlo3 := Nat.le_trans hlo3 hs31.size
            have hap5 : ∀ k_, (Value.slice A_6 (([]) ++ b.l).length c_5).ownBlock = some k_ → k_ ≠ g8 := fun k_ hk => by rcases hat5 with h_ | h_ <;> rw [h_] at hk <;> first | exact hap4 k_ hk | (injection hk with hk; omega)
            simp only [List.nil_append] at ho8 ⊢
            refine L_nil (N_then ⟨fun hN_ => ⟨hb1, hb2, trivial⟩, ?_⟩)
            refine T_all (rs := [7]) (by kernel_rfl) rfl (all1 (O_one rfl ?_))
            refine T_append (xs := b.l) (ys := [(⟨y.oa, y.oc, y.p.ops⟩ : OpsD)]) EncO2 slc90 rfl rfl ho8 (Blk.sli (m := 0) hb19) (by simp; omega) hlo3 rfl ?_
            intro A_7 c_6 w32 ho9 hs32 hat6
            replace hB := gb_tro hB ho8 hs32 ge9
            replace hL := hL.grown hs32 (fun k hk => .inr (Nat.le_trans ge9 (World.ownsRow.lt ho8 k hk).1))
            replace hDO := hDO.own ho8 ge9 hs32
            replace hOp := hOp.grown hs32 (fun k hk => .inr (Nat.le_trans ge9 (World.ownsRow.lt ho8 k hk).1))
            replace hPr := hPr.grown hs32 (fun k hk => .inr (Nat.le_trans ge9 (World.ownsRow.lt ho8 k hk).1))
            replace hb1 := blk_own hb1 ho8 rfl hs32
            replace hb2 := blk_own hb2 ho8 rfl hs32
            replace hb3 := blk_own hb3 ho8 rfl hs32
            replace hb4 := blk_own hb4 ho8 rfl hs32
            replace hlo3 := Nat.le_trans hlo3 hs32.size
            refine L_nil (N_then ⟨fun hN_ => ⟨hb1, hb2, trivial⟩, ?_⟩)
            refine T_takeA (i := 8) rfl (by kernel_rfl) (by kernel_rfl) (by kernel_rfl) (by kernel_rfl) (Y_of (fun _ ⟨hb1, hb2, _⟩ => R_field (r := 0) rfl fld96_0 rfl)) ⟨hb1, hb2, trivial⟩ rfl ?_
            refine T_switch (S' := fun _ => True) (qs' := []) (by kernel_rfl) ?_
            refine T_all (rs := [9]) (by kernel_rfl) rfl (all1 (O_one rfl ?_))
            refine L_st1 rfl rfl rfl sz90 hb1 rfl ?_
            intro w33 hb21 hs33 hz24
            replace hB := gb_trg hB hs33 ge1
            replace hL := hL.other hb1 rfl rfl hs33
            replace hDO := hDO.old hs33 ge1
            replace hOp := hOp.old hs33 ge1
            replace hPr := hPr.old hs33 ge1
            replace hb2 := hb2.grown hs33 (ne_gt lt1)
            replace hb3 := hb3.grown hs33 (ne_gt lt2)
            replace hb4 := hb4.grown hs33 (ne_gt lt4)
            replace hlo3 := Nat.le_trans hlo3 hs33.size
            replace ho9 := own_other ho9 hb1 rfl hs33
            refine L_nil (N_then ⟨fun hN_ => trivial, ?_⟩)
            refine T_done (by kernel_rfl) (CalmE.normal ?_)
            exact ⟨rfl, ⟨_, A_7, c_6, Ac_frg ⟨rfl, rfl, rfl, rfl, rfl, rfl, rfl, rfl, rfl, rfl, rfl, rfl, rfl, rfl, rfl, rfl, rfl, rfl, rfl, rfl, rfl, rfl, rfl, rfl, rfl, rfl, rfl, rfl, rfl, rfl, rfl, trivial⟩, hB, hL, hDO, hOp, hPr, hb21, hb2, hb3, hb4, (own_lo ho9 ge9)⟩⟩
        · clear hB
          clear hL hDO hOp hPr hb1 hb2 hb3 hb4
          rintro a_ w34 ⟨σ_, A_3, c_2, rfl, hB, hL, hDO, hOp, hPr, hj1, hb2, hb3, hb4, hj2⟩
          refine N_then (C_seq (C_seq (C_reg rfl ?_)))
          refine L_run (R_field (r := 0) rfl fld86_0 rfl) rfl ?_
          refine L_run (R_load1 rfl scl3 (hb2.cell (i := 0) rfl)) rfl ?_
          refine L_run (R_eql rfl rfl) rfl ?_
          refine L_run (R_move rfl) rfl ?_
          refine L_splitD (p := y.p.kind = 2) (fun h11 => ?_) (fun h11 => ?_)
          · exfalso; omega
          · refine L_yes rfl rfl rfl (decide_eq_false h11) ?_
            refine L_run (R_field (r := 0) rfl fld86_0 rfl) rfl ?_
            refine L_yes rfl rfl rfl (decide_eq_false h11) ?_
            refine L_run (R_load1 rfl scl3 (hb2.cell (i := 0) rfl)) rfl ?_
            refine L_yes rfl rfl rfl (decide_eq_false h11) ?_
            refine L_run (R_eql rfl rfl) rfl ?_
            refine L_run (R_pickF rfl (decide_eq_false h11) rfl) rfl ?_
            refine L_nil (N_then ?_)
            refine C_if rfl (fun h12 => ?_) (fun h12 => ?_)
            · exfalso; omega
            · refine C_skip (N_then (C_seq (C_seq (C_reg rfl ?_))))
              refine L_run (R_move rfl) rfl ?_
              refine L_nil (N_then ?_)
              refine C_if rfl (fun h13 => ?_) (fun h13 => ?_)
              · exfalso; omega
              · refine C_skip (N_then (C_seq (C_seq (C_reg rfl ?_))))
                refine L_run (R_field (r := 0) rfl fld86_0 rfl) rfl ?_
                refine L_run (R_load1 rfl scl3 (hb2.cell (i := 0) rfl)) rfl ?_
                refine L_run (R_lss rfl rfl) rfl ?_
                refine L_run (R_move rfl) rfl ?_
                refine L_splitD (p := y.p.kind < 4) (fun h14 => ?_) (fun h14 => ?_)
                · refine L_yes rfl rfl rfl (decide_eq_true h14) ?_
                  refine L_run (R_field (r := 2) rfl fld96_2 rfl) rfl ?_
                  refine L_yes rfl rfl rfl (decide_eq_true h14) ?_
                  refine L_run (R_load1 rfl scl4 (hj1.cell (i := 2) rfl)) rfl ?_
                  refine L_yes rfl rfl rfl (decide_eq_true h14) ?_
                  refine L_run (R_not rfl) rfl ?_
                  refine L_run (R_pickT rfl (decide_eq_true h14) rfl) rfl ?_
                  refine L_nil (N_then ?_)
                  refine C_cond rfl (fun h15 => ?_) (fun h15 => ?_)
                  · refine C_seq (C_reg rfl ?_)
                    refine L_run (R_loadA (vs := [.slice A_3 ((b.l ++ ([(⟨y.oa, y.oc, y.p.ops⟩ : OpsD)])).length) c_2, .int .i64 b.syn, .bool b.has]) rfl agg96 (At.pre (hj1.at_ 0) rfl) rfl) rfl ?_
                    refine L_stA (vs := [.slice A_3 ((b.l ++ ([(⟨y.oa, y.oc, y.p.ops⟩ : OpsD)])).length) c_2, .int .i64 b.syn, .bool b.has]) rfl rfl rfl sz96 rfl hb4 rfl ?_
                    intro w35 hb22 hs34 hz25
                    replace hB := gb_trg hB hs34 ge4
                    replace hL := hL.other hb4 rfl rfl hs34
                    replace hDO := hDO.old hs34 ge4
                    replace hOp := hOp.old hs34 ge4
                    replace hPr := hPr.old hs34 ge4
                    replace hj1 := hj1.grown hs34 (ne_lt lt4)
                    replace hb2 := hb2.grown hs34 (ne_lt lt5)
                    replace hb3 := hb3.grown hs34 (ne_lt lt6)
                    replace hj2 := own_other hj2 hb4 rfl hs34
                    refine L_run (R_assign rfl) rfl ?_
                    refine L_nil (N_then (C_ret (R_then ?_)))
                    refine retC1 (vs := [.slice A_3 ((b.l ++ ([(⟨y.oa, y.oc, y.p.ops⟩ : OpsD)])).length) c_2, .int .i64 b.syn, .bool b.has]) Try.results37 rfl agg96 (At.pre (hb22.at_ 0) rfl) rfl rfl ?_
                    have hno_ : ¬ okB b y e := fun q_ => by have h_ := q_.2.2.1 he0; have h1_ := h_.1; have h2_ := h_.2; first | omega | (rw [show (doneB b y e).has = false from (by unfold doneB; first | (rw [if_pos (by omega)]; exact (tnot h15)) | (rw [if_neg (by omega), if_pos (by omega)]; exact (tnot h15)))] at h2_; simp at h2_; omega)
                    exact ⟨hB, _, _, (⟨b.l ++ ([(⟨y.oa, y.oc, y.p.ops⟩ : OpsD)]), b.syn, b.has⟩ : BkP), by rw [decide_eq_false hno_], fun q_ => absurd q_ hno_, Sli.zero (own_of hj2).2.2, (own_cap hj2)⟩
                  · refine C_skip (N_then (C_seq (C_reg rfl ?_)))
                    have hDO : DeepO w.heap.size w34 (b.l ++ ([(⟨y.oa, y.oc, y.p.ops⟩ : OpsD)])) := (hDO0.snoc hOp0).gb hB
                    have hno : opsN (b.l ++ ([(⟨y.oa, y.oc, y.p.ops⟩ : OpsD)])) ≤ 700000 := by
                      have h_ := opsN_b (l := b.l ++ ([(⟨y.oa, y.oc, y.p.ops⟩ : OpsD)])) (fun x hx => by rcases List.mem_append.1 hx with hx | hx; exact hg.2.2 x hx; rw [List.mem_singleton.1 hx]; exact hy30)
                      rw [List.length_append, List.length_cons, List.length_nil] at h_; omega
                    have hnl : (b.l ++ ([(⟨y.oa, y.oc, y.p.ops⟩ : OpsD)])).length ≤ 1000 := by rw [List.length_append, List.length_cons, List.length_nil]; omega
                    refine L_run (R_field (r := 2) rfl fld96_2 rfl) rfl ?_
                    refine L_run (R_load1 rfl scl4 (hj1.cell (i := 2) rfl)) rfl ?_
                    refine L_run (R_move rfl) rfl ?_
                    refine L_no rfl rfl rfl (by simpa using h15) rfl ?_
                    refine L_run (R_pickT rfl (by simpa using h15) rfl) rfl ?_
                    refine L_run (R_field (r := 2) rfl fld96_2 rfl) rfl ?_
                    refine L_st1 rfl rfl rfl sz4 hj1 rfl ?_
                    intro w36 hb23 hs35 hz26
                    replace hB := gb_trg hB hs35 ge1
                    replace hL := hL.other hj1 rfl rfl hs35
                    replace hOp := hOp.old hs35 ge1
                    replace hPr := hPr.old hs35 ge1
                    replace hb2 := hb2.grown hs35 (ne_gt lt1)
                    replace hb3 := hb3.grown hs35 (ne_gt lt2)
                    replace hb4 := hb4.grown hs35 (ne_gt lt4)
                    replace hj2 := own_other hj2 hj1 rfl hs35
                    replace hDO := hDO.old hs35 ge1
                    refine L_nil (N_then (C_seq ?_))
                    refine C_draw2 rfl mix ?_
                    intro w37 hs36 hz27
                    replace hB := gb_tr hB hs36
                    replace hL := hL.gb hs36
                    replace hOp := hOp.gb hs36
                    replace hPr := hPr.gb hs36
                    replace hb23 := hb23.gb hs36
                    replace hb2 := hb2.gb hs36
                    replace hb3 := hb3.gb hs36
                    replace hb4 := hb4.gb hs36
                    replace hj2 := own_gb hj2 hs36
                    replace hDO := hDO.gb hs36
                    refine ⟨fun W_ => Blk W_ g1 96 [.slice A_3 ((b.l ++ ([(⟨y.oa, y.oc, y.p.ops⟩ : OpsD)])).length) c_2, .int .i64 b.syn, .bool true] ∧ Blk W_ g3 44 [.int .i64 e.kind, .int .i64 e.e, .int .i64 e.bat, .int .i64 e.syn, .slice e.pa e.prs.length e.pc] ∧ True, [0, 1, 2, 5], ?_⟩
                    refine T_takeA (i := 0) rfl (by kernel_rfl) (by kernel_rfl) (by kernel_rfl) (by kernel_rfl) (Y_of (fun _ ⟨hb23, hb3, _⟩ => R_loadA (vs := [.slice A_3 ((b.l ++ ([(⟨y.oa, y.oc, y.p.ops⟩ : OpsD)])).length) c_2, .int .i64 b.syn, .bool true]) rfl agg96 (At.pre (hb23.at_ 0) rfl) rfl)) ⟨hb23, hb3, trivial⟩ rfl ?_
                    refine T_takeA (i := 1) rfl (by kernel_rfl) (by kernel_rfl) (by kernel_rfl) (by kernel_rfl) (Y_of (fun _ ⟨hb23, hb3, _⟩ => R_loadA (vs := [.slice A_3 ((b.l ++ ([(⟨y.oa, y.oc, y.p.ops⟩ : OpsD)])).length) c_2, .int .i64 b.syn, .bool true]) rfl agg96 (At.pre (hb23.at_ 0) rfl) rfl)) ⟨hb23, hb3, trivial⟩ rfl ?_
                    refine T_takeA (i := 2) rfl (by kernel_rfl) (by kernel_rfl) (by kernel_rfl) (by kernel_rfl) (Y_of (fun _ ⟨hb23, hb3, _⟩ => R_loadA (vs := [.int .i64 e.kind, .int .i64 e.e, .int .i64 e.bat, .int .i64 e.syn, .slice e.pa e.prs.length e.pc]) rfl agg44 (At.pre (hb3.at_ 0) rfl) rfl)) ⟨hb23, hb3, trivial⟩ rfl ?_
                    refine T_all (rs := [3]) (by kernel_rfl) rfl (all1 (O_one rfl ?_))
                    refine L_call rfl cb57 (fits39_ok (b := (⟨b.l ++ ([(⟨y.oa, y.oc, y.p.ops⟩ : OpsD)]), b.syn, true⟩ : BkP)) (e := e) (Sli.zero (own_of hj2).2.2) hDO.top hno hnl (Sli.any hPr) (by omega)) rfl ?_
                    rintro _ w38 ⟨hs37, rfl⟩
                    replace hB := gb_tr hB hs37
                    replace hL := hL.gb hs37
                    replace hOp := hOp.gb hs37
                    replace hPr := hPr.gb hs37
                    replace hb23 := hb23.gb hs37
                    replace hb2 := hb2.gb hs37
                    replace hb3 := hb3.gb hs37
                    replace hb4 := hb4.gb hs37
                    replace hj2 := own_gb hj2 hs37
                    replace hDO := hDO.gb hs37
                    refine L_nil (N_then ⟨fun hN_ => ⟨hb23, hb3, trivial⟩, ?_⟩)
                    refine T_all (rs := [4]) (by kernel_rfl) rfl (all1 (O_one rfl ?_))
                    refine L_stA (vs := [.slice A_3 ((b.l ++ ([(⟨y.oa, y.oc, y.p.ops⟩ : OpsD)])).length) c_2, .int .i64 b.syn, .bool true]) rfl rfl rfl sz96 rfl hb4 rfl ?_
                    intro w39 hb24 hs38 hz28
                    replace hB := gb_trg hB hs38 ge4
                    replace hL := hL.other hb4 rfl rfl hs38
                    replace hOp := hOp.old hs38 ge4
                    replace hPr := hPr.old hs38 ge4
                    replace hb23 := hb23.grown hs38 (ne_lt lt4)
                    replace hb2 := hb2.grown hs38 (ne_lt lt5)
                    replace hb3 := hb3.grown hs38 (ne_lt lt6)
                    replace hj2 := own_other hj2 hb4 rfl hs38
                    replace hDO := hDO.old hs38 ge4
                    refine L_nil (N_then ⟨fun hN_ => ⟨hb23, hb3, trivial⟩, ?_⟩)
                    refine T_takeA (i := 5) rfl (by kernel_rfl) (by kernel_rfl) (by kernel_rfl) (by kernel_rfl) (Y_of (fun _ ⟨hb23, hb3, _⟩ => R_assign rfl)) ⟨hb23, hb3, trivial⟩ rfl ?_
                    refine T_done (by kernel_rfl) (CalmE.normal ?_)
                    refine N_then (C_ret ?_)
                    refine retC1 (vs := [.slice A_3 ((b.l ++ ([(⟨y.oa, y.oc, y.p.ops⟩ : OpsD)])).length) c_2, .int .i64 b.syn, .bool true]) Try.results37 rfl agg96 (At.pre (hb24.at_ 0) rfl) rfl rfl ?_
                    have en_ : nxt b y e = (⟨b.l ++ ([(⟨y.oa, y.oc, y.p.ops⟩ : OpsD)]), b.syn, true⟩ : BkP) := by
                      unfold nxt
                      rw [if_pos he0]
                      unfold doneB opsOf
                      first | (rw [if_pos (by omega)]; done) | (rw [if_pos (by omega), (tnot' h15)]; done) | (rw [if_neg (by omega), if_pos (by omega)]; done) | (rw [if_neg (by omega), if_pos (by omega), (tnot' h15)]; done) | (rw [if_neg (by omega), if_neg (by omega), if_pos (by omega)]; done) | (rw [if_neg (by omega), if_neg (by omega), if_pos (by omega), (tnot' h15)]; done) | (rw [if_neg (by omega), if_neg (by omega), if_neg (by omega)]; done) | (rw [if_neg (by omega), if_neg (by omega), if_neg (by omega), (tnot' h15)]; done) | (rw [if_neg (by omega), if_neg (by omega), if_neg (by omega)]; cases b; simp_all; done)
                    have hok_ := fits_iff en_ (by omega) ⟨fun q_ => by first | omega | exact absurd q_ hr, fun q_ => by first | exact hr | omega⟩ (fun _ => ⟨fun q_ => ⟨by omega, by omega⟩, by
                      rw [show doneB b y e = (⟨b.l ++ ([(⟨y.oa, y.oc, y.p.ops⟩ : OpsD)]), b.syn, true⟩ : BkP) from by rw [← en_]; unfold nxt; rw [if_pos he0]]
                      first | exact .inl rfl | exact .inr (by omega) | exact .inl (tnot' h15) | (exfalso; omega)⟩)
                    exact ⟨hB, _, _, (⟨b.l ++ ([(⟨y.oa, y.oc, y.p.ops⟩ : OpsD)]), b.syn, true⟩ : BkP), by rw [← decE hok_], fun _ => en_.symm, Sli.zero (own_of hj2).2.2, (own_cap hj2)⟩
                · exfalso; omega
      · refine C_skip (N_then (C_seq (C_seq (C_reg rfl ?_))))
        refine L_run (R_field (r := 0) rfl fld86_0 rfl) rfl ?_
        refine L_run (R_load1 rfl scl3 (hb2.cell (i := 0) rfl)) rfl ?_
        refine L_run (R_eql rfl rfl) rfl ?_
        refine L_run (R_move rfl) rfl ?_
        refine L_splitD (p := y.p.kind = 2) (fun h16 => ?_) (fun h16 => ?_)
        · refine L_no rfl rfl rfl (decide_eq_true h16) rfl ?_
          refine L_no rfl rfl rfl (decide_eq_true h16) rfl ?_
          refine L_no rfl rfl rfl (decide_eq_true h16) rfl ?_
          refine L_run (R_pickT rfl (decide_eq_true h16) rfl) rfl ?_
          refine L_nil (N_then (C_condT rfl rfl (C_reg rfl ?_)))
          refine L_run (R_field (r := 0) rfl fld96_0 rfl) rfl ?_
          refine L_run (R_load1 rfl scl90 (hb1.cell (i := 0) rfl)) rfl ?_
          refine L_run (R_lenSl rfl slc90) rfl ?_
          refine L_run (R_field (r := 1) rfl fld96_1 rfl) rfl ?_
          refine L_st1 rfl rfl rfl sz3 hb1 rfl ?_
          intro w40 hb25 hs39 hz29
          replace hB := gb_trg hB hs39 ge1
          replace hL := hL.other hb1 rfl rfl hs39
          replace hDO := hDO.old hs39 ge1
          replace hOp := hOp.old hs39 ge1
          replace hPr := hPr.old hs39 ge1
          replace hb2 := hb2.grown hs39 (ne_gt lt1)
          replace hb3 := hb3.grown hs39 (ne_gt lt2)
          replace hb4 := hb4.grown hs39 (ne_gt lt4)
          refine L_nil (N_then (C_seq (C_seq (C_reg rfl ?_))))
          refine L_run (R_move rfl) rfl ?_
          refine L_nil (N_then ?_)
          refine C_if rfl (fun h17 => ?_) (fun h17 => ?_)
          · exfalso; omega
          · refine C_skip (N_then (C_seq (C_seq (C_reg rfl ?_))))
            refine L_run (R_field (r := 0) rfl fld86_0 rfl) rfl ?_
            refine L_run (R_load1 rfl scl3 (hb2.cell (i := 0) rfl)) rfl ?_
            refine L_run (R_lss rfl rfl) rfl ?_
            refine L_run (R_move rfl) rfl ?_
            refine L_splitD (p := y.p.kind < 4) (fun h18 => ?_) (fun h18 => ?_)
            · refine L_yes rfl rfl rfl (decide_eq_true h18) ?_
              refine L_run (R_field (r := 2) rfl fld96_2 rfl) rfl ?_
              refine L_yes rfl rfl rfl (decide_eq_true h18) ?_
              refine L_run (R_load1 rfl scl4 (hb25.cell (i := 2) rfl)) rfl ?_
              refine L_yes rfl rfl rfl (decide_eq_true h18) ?_
              refine L_run (R_not rfl) rfl ?_
              refine L_run (R_pickT rfl (decide_eq_true h18) rfl) rfl ?_
              refine L_nil (N_then ?_)
              refine C_cond rfl (fun h19 => ?_) (fun h19 => ?_)
              · refine C_seq (C_reg rfl ?_)
                refine L_run (R_loadA (vs := [.slice A b.l.length c, .int .i64 (b.l.length : Int), .bool b.has]) rfl agg96 (At.pre (hb25.at_ 0) rfl) rfl) rfl ?_
                refine L_stA (vs := [.slice A b.l.length c, .int .i64 (b.l.length : Int), .bool b.has]) rfl rfl rfl sz96 rfl hb4 rfl ?_
                intro w41 hb26 hs40 hz30
                replace hB := gb_trg hB hs40 ge4
                replace hL := hL.other hb4 rfl rfl hs40
                replace hDO := hDO.old hs40 ge4
                replace hOp := hOp.old hs40 ge4
                replace hPr := hPr.old hs40 ge4
                replace hb25 := hb25.grown hs40 (ne_lt lt4)
                replace hb2 := hb2.grown hs40 (ne_lt lt5)
                replace hb3 := hb3.grown hs40 (ne_lt lt6)
                refine L_run (R_assign rfl) rfl ?_
                refine L_nil (N_then (C_ret (R_then ?_)))
                refine retC1 (vs := [.slice A b.l.length c, .int .i64 (b.l.length : Int), .bool b.has]) Try.results37 rfl agg96 (At.pre (hb26.at_ 0) rfl) rfl rfl ?_
                have hno_ : ¬ okB b y e := fun q_ => by have h_ := q_.2.2.1 he0; have h1_ := h_.1; have h2_ := h_.2; first | omega | (rw [show (doneB b y e).has = false from (by unfold doneB; first | (rw [if_pos (by omega)]; exact (tnot h19)) | (rw [if_neg (by omega), if_pos (by omega)]; exact (tnot h19)))] at h2_; simp at h2_; omega)
                exact ⟨hB, _, _, (⟨b.l, (b.l.length : Int), b.has⟩ : BkP), by rw [decide_eq_false hno_], fun q_ => absurd q_ hno_, Sli.zero hL, (by first | omega | (simp only [List.length_take]; omega))⟩
              · refine C_skip (N_then (C_seq (C_reg rfl ?_)))
                have hDO : DeepO w.heap.size w40 (b.l) := hDO0.gb hB
                refine L_run (R_field (r := 2) rfl fld96_2 rfl) rfl ?_
                refine L_run (R_load1 rfl scl4 (hb25.cell (i := 2) rfl)) rfl ?_
                refine L_run (R_move rfl) rfl ?_
                refine L_no rfl rfl rfl (by simpa using h19) rfl ?_
                refine L_run (R_pickT rfl (by simpa using h19) rfl) rfl ?_
                refine L_run (R_field (r := 2) rfl fld96_2 rfl) rfl ?_
                refine L_st1 rfl rfl rfl sz4 hb25 rfl ?_
                intro w42 hb27 hs41 hz31
                replace hB := gb_trg hB hs41 ge1
                replace hL := hL.other hb25 rfl rfl hs41
                replace hOp := hOp.old hs41 ge1
                replace hPr := hPr.old hs41 ge1
                replace hb2 := hb2.grown hs41 (ne_gt lt1)
                replace hb3 := hb3.grown hs41 (ne_gt lt2)
                replace hb4 := hb4.grown hs41 (ne_gt lt4)
                replace hDO := hDO.old hs41 ge1
                refine L_nil (N_then (C_seq ?_))
                refine C_draw2 rfl mix ?_
                intro w43 hs42 hz32
                replace hB := gb_tr hB hs42
                replace hL := hL.gb hs42
                replace hOp := hOp.gb hs42
                replace hPr := hPr.gb hs42
                replace hb27 := hb27.gb hs42
                replace hb2 := hb2.gb hs42
                replace hb3 := hb3.gb hs42
                replace hb4 := hb4.gb hs42
                replace hDO := hDO.gb hs42
                refine ⟨fun W_ => Blk W_ g1 96 [.slice A b.l.length c, .int .i64 (b.l.length : Int), .bool true] ∧ Blk W_ g3 44 [.int .i64 e.kind, .int .i64 e.e, .int .i64 e.bat, .int .i64 e.syn, .slice e.pa e.prs.length e.pc] ∧ True, [0, 1, 2, 5], ?_⟩
                refine T_takeA (i := 0) rfl (by kernel_rfl) (by kernel_rfl) (by kernel_rfl) (by kernel_rfl) (Y_of (fun _ ⟨hb27, hb3, _⟩ => R_loadA (vs := [.slice A b.l.length c, .int .i64 (b.l.length : Int), .bool true]) rfl agg96 (At.pre (hb27.at_ 0) rfl) rfl)) ⟨hb27, hb3, trivial⟩ rfl ?_
                refine T_takeA (i := 1) rfl (by kernel_rfl) (by kernel_rfl) (by kernel_rfl) (by kernel_rfl) (Y_of (fun _ ⟨hb27, hb3, _⟩ => R_loadA (vs := [.slice A b.l.length c, .int .i64 (b.l.length : Int), .bool true]) rfl agg96 (At.pre (hb27.at_ 0) rfl) rfl)) ⟨hb27, hb3, trivial⟩ rfl ?_
                refine T_takeA (i := 2) rfl (by kernel_rfl) (by kernel_rfl) (by kernel_rfl) (by kernel_rfl) (Y_of (fun _ ⟨hb27, hb3, _⟩ => R_loadA (vs := [.int .i64 e.kind, .int .i64 e.e, .int .i64 e.bat, .int .i64 e.syn, .slice e.pa e.prs.length e.pc]) rfl agg44 (At.pre (hb3.at_ 0) rfl) rfl)) ⟨hb27, hb3, trivial⟩ rfl ?_
                refine T_all (rs := [3]) (by kernel_rfl) rfl (all1 (O_one rfl ?_))
                refine L_call rfl cb57 (fits39_ok (b := (⟨b.l, (b.l.length : Int), true⟩ : BkP)) (e := e) (Sli.zero hL) hDO.top hno hnl (Sli.any hPr) (by omega)) rfl ?_
                rintro _ w44 ⟨hs43, rfl⟩
                replace hB := gb_tr hB hs43
                replace hL := hL.gb hs43
                replace hOp := hOp.gb hs43
                replace hPr := hPr.gb hs43
                replace hb27 := hb27.gb hs43
                replace hb2 := hb2.gb hs43
                replace hb3 := hb3.gb hs43
                replace hb4 := hb4.gb hs43
                replace hDO := hDO.gb hs43
                refine L_nil (N_then ⟨fun hN_ => ⟨hb27, hb3, trivial⟩, ?_⟩)
                refine T_all (rs := [4]) (by kernel_rfl) rfl (all1 (O_one rfl ?_))
                refine L_stA (vs := [.slice A b.l.length c, .int .i64 (b.l.length : Int), .bool true]) rfl rfl rfl sz96 rfl hb4 rfl ?_
                intro w45 hb28 hs44 hz33
                replace hB := gb_trg hB hs44 ge4
                replace hL := hL.other hb4 rfl rfl hs44
                replace hOp := hOp.old hs44 ge4
                replace hPr := hPr.old hs44 ge4
                replace hb27 := hb27.grown hs44 (ne_lt lt4)
                replace hb2 := hb2.grown hs44 (ne_lt lt5)
                replace hb3 := hb3.grown hs44 (ne_lt lt6)
                replace hDO := hDO.old hs44 ge4
                refine L_nil (N_then ⟨fun hN_ => ⟨hb27, hb3, trivial⟩, ?_⟩)
                refine T_takeA (i := 5) rfl (by kernel_rfl) (by kernel_rfl) (by kernel_rfl) (by kernel_rfl) (Y_of (fun _ ⟨hb27, hb3, _⟩ => R_assign rfl)) ⟨hb27, hb3, trivial⟩ rfl ?_
                refine T_done (by kernel_rfl) (CalmE.normal ?_)
                refine N_then (C_ret ?_)
                refine retC1 (vs := [.slice A b.l.length c, .int .i64 (b.l.length : Int), .bool true]) Try.results37 rfl agg96 (At.pre (hb28.at_ 0) rfl) rfl rfl ?_
                have en_ : nxt b y e = (⟨b.l, (b.l.length : Int), true⟩ : BkP) := by
                  unfold nxt
                  rw [if_pos he0]
                  unfold doneB opsOf
                  first | (rw [if_pos (by omega)]; done) | (rw [if_pos (by omega), (tnot' h19)]; done) | (rw [if_neg (by omega), if_pos (by omega)]; done) | (rw [if_neg (by omega), if_pos (by omega), (tnot' h19)]; done) | (rw [if_neg (by omega), if_neg (by omega), if_pos (by omega)]; done) | (rw [if_neg (by omega), if_neg (by omega), if_pos (by omega), (tnot' h19)]; done) | (rw [if_neg (by omega), if_neg (by omega), if_neg (by omega)]; done) | (rw [if_neg (by omega), if_neg (by omega), if_neg (by omega), (tnot' h19)]; done) | (rw [if_neg (by omega), if_neg (by omega), if_neg (by omega)]; cases b; simp_all; done)
                have hok_ := fits_iff en_ (by omega) ⟨fun q_ => by first | omega | exact absurd q_ hr, fun q_ => by first | exact hr | omega⟩ (fun _ => ⟨fun q_ => ⟨by omega, by omega⟩, by
                  rw [show doneB b y e = (⟨b.l, (b.l.length : Int), true⟩ : BkP) from by rw [← en_]; unfold nxt; rw [if_pos he0]]
                  first | exact .inl rfl | exact .inr (by omega) | exact .inl (tnot' h19) | (exfalso; omega)⟩)
                exact ⟨hB, _, _, (⟨b.l, (b.l.length : Int), true⟩ : BkP), by rw [← decE hok_], fun _ => en_.symm, Sli.zero hL, (by first | omega | (simp only [List.length_take]; omega))⟩
            · exfalso; omega
        · refine L_yes rfl rfl rfl (decide_eq_false h16) ?_
          refine L_run (R_field (r := 0) rfl fld86_0 rfl) rfl ?_
          refine L_yes rfl rfl rfl (decide_eq_false h16) ?_
          refine L_run (R_load1 rfl scl3 (hb2.cell (i := 0) rfl)) rfl ?_
          refine L_yes rfl rfl rfl (decide_eq_false h16) ?_
          refine L_run (R_eql rfl rfl) rfl ?_
          refine L_run (R_pickF rfl (decide_eq_false h16) rfl) rfl ?_
          refine L_nil (N_then ?_)
          refine C_if rfl (fun h20 => ?_) (fun h20 => ?_)
          · refine C_reg rfl ?_
            refine L_run (R_field (r := 0) rfl fld96_0 rfl) rfl ?_
            refine L_run (R_load1 rfl scl90 (hb1.cell (i := 0) rfl)) rfl ?_
            refine L_run (R_lenSl rfl slc90) rfl ?_
            refine L_run (R_field (r := 1) rfl fld96_1 rfl) rfl ?_
            refine L_st1 rfl rfl rfl sz3 hb1 rfl ?_
            intro w46 hb29 hs45 hz34
            replace hB := gb_trg hB hs45 ge1
            replace hL := hL.other hb1 rfl rfl hs45
            replace hDO := hDO.old hs45 ge1
            replace hOp := hOp.old hs45 ge1
            replace hPr := hPr.old hs45 ge1
            replace hb2 := hb2.grown hs45 (ne_gt lt1)
            replace hb3 := hb3.grown hs45 (ne_gt lt2)
            replace hb4 := hb4.grown hs45 (ne_gt lt4)
            refine L_nil (N_then (C_seq (C_seq (C_reg rfl ?_))))
            refine L_run (R_move rfl) rfl ?_
            refine L_nil (N_then ?_)
            refine C_if rfl (fun h21 => ?_) (fun h21 => ?_)
            · exfalso; omega
            · refine C_skip (N_then (C_seq (C_seq (C_reg rfl ?_))))
              refine L_run (R_field (r := 0) rfl fld86_0 rfl) rfl ?_
              refine L_run (R_load1 rfl scl3 (hb2.cell (i := 0) rfl)) rfl ?_
              refine L_run (R_lss rfl rfl) rfl ?_
              refine L_run (R_move rfl) rfl ?_
              refine L_splitD (p := y.p.kind < 4) (fun h22 => ?_) (fun h22 => ?_)
              · refine L_yes rfl rfl rfl (decide_eq_true h22) ?_
                refine L_run (R_field (r := 2) rfl fld96_2 rfl) rfl ?_
                refine L_yes rfl rfl rfl (decide_eq_true h22) ?_
                refine L_run (R_load1 rfl scl4 (hb29.cell (i := 2) rfl)) rfl ?_
                refine L_yes rfl rfl rfl (decide_eq_true h22) ?_
                refine L_run (R_not rfl) rfl ?_
                refine L_run (R_pickT rfl (decide_eq_true h22) rfl) rfl ?_
                refine L_nil (N_then ?_)
                refine C_cond rfl (fun h23 => ?_) (fun h23 => ?_)
                · refine C_seq (C_reg rfl ?_)
                  refine L_run (R_loadA (vs := [.slice A b.l.length c, .int .i64 (b.l.length : Int), .bool b.has]) rfl agg96 (At.pre (hb29.at_ 0) rfl) rfl) rfl ?_
                  refine L_stA (vs := [.slice A b.l.length c, .int .i64 (b.l.length : Int), .bool b.has]) rfl rfl rfl sz96 rfl hb4 rfl ?_
                  intro w47 hb30 hs46 hz35
                  replace hB := gb_trg hB hs46 ge4
                  replace hL := hL.other hb4 rfl rfl hs46
                  replace hDO := hDO.old hs46 ge4
                  replace hOp := hOp.old hs46 ge4
                  replace hPr := hPr.old hs46 ge4
                  replace hb29 := hb29.grown hs46 (ne_lt lt4)
                  replace hb2 := hb2.grown hs46 (ne_lt lt5)
                  replace hb3 := hb3.grown hs46 (ne_lt lt6)
                  refine L_run (R_assign rfl) rfl ?_
                  refine L_nil (N_then (C_ret (R_then ?_)))
                  refine retC1 (vs := [.slice A b.l.length c, .int .i64 (b.l.length : Int), .bool b.has]) Try.results37 rfl agg96 (At.pre (hb30.at_ 0) rfl) rfl rfl ?_
                  have hno_ : ¬ okB b y e := fun q_ => by have h_ := q_.2.2.1 he0; have h1_ := h_.1; have h2_ := h_.2; first | omega | (rw [show (doneB b y e).has = false from (by unfold doneB; first | (rw [if_pos (by omega)]; exact (tnot h23)) | (rw [if_neg (by omega), if_pos (by omega)]; exact (tnot h23)))] at h2_; simp at h2_; omega)
                  exact ⟨hB, _, _, (⟨b.l, (b.l.length : Int), b.has⟩ : BkP), by rw [decide_eq_false hno_], fun q_ => absurd q_ hno_, Sli.zero hL, (by first | omega | (simp only [List.length_take]; omega))⟩
                · refine C_skip (N_then (C_seq (C_reg rfl ?_)))
                  have hDO : DeepO w.heap.size w46 (b.l) := hDO0.gb hB
                  refine L_run (R_field (r := 2) rfl fld96_2 rfl) rfl ?_
                  refine L_run (R_load1 rfl scl4 (hb29.cell (i := 2) rfl)) rfl ?_
                  refine L_run (R_move rfl) rfl ?_
                  refine L_no rfl rfl rfl (by simpa using h23) rfl ?_
                  refine L_run (R_pickT rfl (by simpa using h23) rfl) rfl ?_
                  refine L_run (R_field (r := 2) rfl fld96_2 rfl) rfl ?_
                  refine L_st1 rfl rfl rfl sz4 hb29 rfl ?_
                  intro w48 hb31 hs47 hz36
                  replace hB := gb_trg hB hs47 ge1
                  replace hL := hL.other hb29 rfl rfl hs47
                  replace hOp := hOp.old hs47 ge1
                  replace hPr := hPr.old hs47 ge1
                  replace hb2 := hb2.grown hs47 (ne_gt lt1)
                  replace hb3 := hb3.grown hs47 (ne_gt lt2)
                  replace hb4 := hb4.grown hs47 (ne_gt lt4)
                  replace hDO := hDO.old hs47 ge1
                  refine L_nil (N_then (C_seq ?_))
                  refine C_draw2 rfl mix ?_
                  intro w49 hs48 hz37
                  replace hB := gb_tr hB hs48
                  replace hL := hL.gb hs48
                  replace hOp := hOp.gb hs48
                  replace hPr := hPr.gb hs48
                  replace hb31 := hb31.gb hs48
                  replace hb2 := hb2.gb hs48
                  replace hb3 := hb3.gb hs48
                  replace hb4 := hb4.gb hs48
                  replace hDO := hDO.gb hs48
                  refine ⟨fun W_ => Blk W_ g1 96 [.slice A b.l.length c, .int .i64 (b.l.length : Int), .bool true] ∧ Blk W_ g3 44 [.int .i64 e.kind, .int .i64 e.e, .int .i64 e.bat, .int .i64 e.syn, .slice e.pa e.prs.length e.pc] ∧ True, [0, 1, 2, 5], ?_⟩
                  refine T_takeA (i := 0) rfl (by kernel_rfl) (by kernel_rfl) (by kernel_rfl) (by kernel_rfl) (Y_of (fun _ ⟨hb31, hb3, _⟩ => R_loadA (vs := [.slice A b.l.length c, .int .i64 (b.l.length : Int), .bool true]) rfl agg96 (At.pre (hb31.at_ 0) rfl) rfl)) ⟨hb31, hb3, trivial⟩ rfl ?_
                  refine T_takeA (i := 1) rfl (by kernel_rfl) (by kernel_rfl) (by kernel_rfl) (by kernel_rfl) (Y_of (fun _ ⟨hb31, hb3, _⟩ => R_loadA (vs := [.slice A b.l.length c, .int .i64 (b.l.length : Int), .bool true]) rfl agg96 (At.pre (hb31.at_ 0) rfl) rfl)) ⟨hb31, hb3, trivial⟩ rfl ?_
                  refine T_takeA (i := 2) rfl (by kernel_rfl) (by kernel_rfl) (by kernel_rfl) (by kernel_rfl) (Y_of (fun _ ⟨hb31, hb3, _⟩ => R_loadA (vs := [.int .i64 e.kind, .int .i64 e.e, .int .i64 e.bat, .int .i64 e.syn, .slice e.pa e.prs.length e.pc]) rfl agg44 (At.pre (hb3.at_ 0) rfl) rfl)) ⟨hb31, hb3, trivial⟩ rfl ?_
                  refine T_all (rs := [3]) (by kernel_rfl) rfl (all1 (O_one rfl ?_))
                  refine L_call rfl cb57 (fits39_ok (b := (⟨b.l, (b.l.length : Int), true⟩ : BkP)) (e := e) (Sli.zero hL) hDO.top hno hnl (Sli.any hPr) (by omega)) rfl ?_
                  rintro _ w50 ⟨hs49, rfl⟩
                  replace hB := gb_tr hB hs49
                  replace hL := hL.gb hs49
                  replace hOp := hOp.gb hs49
                  replace hPr := hPr.gb hs49
                  replace hb31 := hb31.gb hs49
                  replace hb2 := hb2.gb hs49
                  replace hb3 := hb3.gb hs49
                  replace hb4 := hb4.gb hs49
                  replace hDO := hDO.gb hs49
                  refine L_nil (N_then ⟨fun hN_ => ⟨hb31, hb3, trivial⟩, ?_⟩)
                  refine T_all (rs := [4]) (by kernel_rfl) rfl (all1 (O_one rfl ?_))
                  refine L_stA (vs := [.slice A b.l.length c, .int .i64 (b.l.length : Int), .bool true]) rfl rfl rfl sz96 rfl hb4 rfl ?_
                  intro w51 hb32 hs50 hz38
                  replace hB := gb_trg hB hs50 ge4
                  replace hL := hL.other hb4 rfl rfl hs50
                  replace hOp := hOp.old hs50 ge4
                  replace hPr := hPr.old hs50 ge4
                  replace hb31 := hb31.grown hs50 (ne_lt lt4)
                  replace hb2 := hb2.grown hs50 (ne_lt lt5)
                  replace hb3 := hb3.grown hs50 (ne_lt lt6)
                  replace hDO := hDO.old hs50 ge4
                  refine L_nil (N_then ⟨fun hN_ => ⟨hb31, hb3, trivial⟩, ?_⟩)
                  refine T_takeA (i := 5) rfl (by kernel_rfl) (by kernel_rfl) (by kernel_rfl) (by kernel_rfl) (Y_of (fun _ ⟨hb31, hb3, _⟩ => R_assign rfl)) ⟨hb31, hb3, trivial⟩ rfl ?_
                  refine T_done (by kernel_rfl) (CalmE.normal ?_)
                  refine N_then (C_ret ?_)
                  refine retC1 (vs := [.slice A b.l.length c, .int .i64 (b.l.length : Int), .bool true]) Try.results37 rfl agg96 (At.pre (hb32.at_ 0) rfl) rfl rfl ?_
                  have en_ : nxt b y e = (⟨b.l, (b.l.length : Int), true⟩ : BkP) := by
                    unfold nxt
                    rw [if_pos he0]
                    unfold doneB opsOf
                    first | (rw [if_pos (by omega)]; done) | (rw [if_pos (by omega), (tnot' h23)]; done) | (rw [if_neg (by omega), if_pos (by omega)]; done) | (rw [if_neg (by omega), if_pos (by omega), (tnot' h23)]; done) | (rw [if_neg (by omega), if_neg (by omega), if_pos (by omega)]; done) | (rw [if_neg (by omega), if_neg (by omega), if_pos (by omega), (tnot' h23)]; done) | (rw [if_neg (by omega), if_neg (by omega), if_neg (by omega)]; done) | (rw [if_neg (by omega), if_neg (by omega), if_neg (by omega), (tnot' h23)]; done) | (rw [if_neg (by omega), if_neg (by omega), if_neg (by omega)]; cases b; simp_all; done)
                  have hok_ := fits_iff en_ (by omega) ⟨fun q_ => by first | omega | exact absurd q_ hr, fun q_ => by first | exact hr | omega⟩ (fun _ => ⟨fun q_ => ⟨by omega, by omega⟩, by
                    rw [show doneB b y e = (⟨b.l, (b.l.length : Int), true⟩ : BkP) from by rw [← en_]; unfold nxt; rw [if_pos he0]]
                    first | exact .inl rfl | exact .inr (by omega) | exact .inl (tnot' h23) | (exfalso; omega)⟩)
                  exact ⟨hB, _, _, (⟨b.l, (b.l.length : Int), true⟩ : BkP), by rw [← decE hok_], fun _ => en_.symm, Sli.zero hL, (by first | omega | (simp only [List.length_take]; omega))⟩
              · exfalso; omega
          · refine C_skip (N_then (C_seq (C_seq (C_reg rfl ?_))))
            refine L_run (R_move rfl) rfl ?_
            refine L_nil (N_then ?_)
            refine C_if rfl (fun h24 => ?_) (fun h24 => ?_)
            · refine C_seq (C_seq (C_reg rfl ?_))
              refine L_run (R_field (r := 2) rfl fld44_2 rfl) rfl ?_
              refine L_run (R_load1 rfl scl3 (hb3.cell (i := 2) rfl)) rfl ?_
              refine L_run (R_field (r := 1) rfl fld96_1 rfl) rfl ?_
              refine L_run (R_load1 rfl scl3 (hb1.cell (i := 1) rfl)) rfl ?_
              refine L_run (R_lss rfl rfl) rfl ?_
              refine L_run (R_move rfl) rfl ?_
              refine L_splitD (p := e.bat < b.syn) (fun h25 => ?_) (fun h25 => ?_)
              · refine L_no rfl rfl rfl (decide_eq_true h25) rfl ?_
                refine L_no rfl rfl rfl (decide_eq_true h25) rfl ?_
                refine L_no rfl rfl rfl (decide_eq_true h25) rfl ?_
                refine L_no rfl rfl rfl (decide_eq_true h25) rfl ?_
                refine L_no rfl rfl rfl (decide_eq_true h25) rfl ?_
                refine L_no rfl rfl rfl (decide_eq_true h25) rfl ?_
                refine L_run (R_pickT rfl (decide_eq_true h25) rfl) rfl ?_
                refine L_nil (N_then (C_condT rfl rfl (C_seq (C_reg rfl ?_))))
                refine L_run (R_loadA (vs := [.slice A b.l.length c, .int .i64 b.syn, .bool b.has]) rfl agg96 (At.pre (hb1.at_ 0) rfl) rfl) rfl ?_
                refine L_stA (vs := [.slice A b.l.length c, .int .i64 b.syn, .bool b.has]) rfl rfl rfl sz96 rfl hb4 rfl ?_
                intro w52 hb33 hs51 hz39
                replace hB := gb_trg hB hs51 ge4
                replace hL := hL.other hb4 rfl rfl hs51
                replace hDO := hDO.old hs51 ge4
                replace hOp := hOp.old hs51 ge4
                replace hPr := hPr.old hs51 ge4
                replace hb1 := hb1.grown hs51 (ne_lt lt4)
                replace hb2 := hb2.grown hs51 (ne_lt lt5)
                replace hb3 := hb3.grown hs51 (ne_lt lt6)
                refine L_run (R_assign rfl) rfl ?_
                refine L_nil (N_then (C_ret (R_then (R_then ?_))))
                refine retC1 (vs := [.slice A b.l.length c, .int .i64 b.syn, .bool b.has]) Try.results37 rfl agg96 (At.pre (hb33.at_ 0) rfl) rfl rfl ?_
                have hno_ : ¬ okB b y e := fun q_ => by have h_ := q_.2.2.1 he0; have h1_ := h_.1; omega
                exact ⟨hB, _, _, (⟨b.l, b.syn, b.has⟩ : BkP), by rw [decide_eq_false hno_], fun q_ => absurd q_ hno_, Sli.zero hL, (by first | omega | (simp only [List.length_take]; omega))⟩
              · refine L_yes rfl rfl rfl (decide_eq_false h25) ?_
                refine L_run (R_field (r := 2) rfl fld44_2 rfl) rfl ?_
                refine L_yes rfl rfl rfl (decide_eq_false h25) ?_
                refine L_run (R_load1 rfl scl3 (hb3.cell (i := 2) rfl)) rfl ?_
                refine L_yes rfl rfl rfl (decide_eq_false h25) ?_
                refine L_run (R_field (r := 0) rfl fld96_0 rfl) rfl ?_
                refine L_yes rfl rfl rfl (decide_eq_false h25) ?_
                refine L_run (R_load1 rfl scl90 (hb1.cell (i := 0) rfl)) rfl ?_
                refine L_yes rfl rfl rfl (decide_eq_false h25) ?_
                refine L_run (R_lenSl rfl slc90) rfl ?_
                refine L_yes rfl rfl rfl (decide_eq_false h25) ?_
                refine L_run (R_gtr rfl rfl) rfl ?_
                refine L_run (R_pickF rfl (decide_eq_false h25) rfl) rfl ?_
                refine L_nil (N_then ?_)
                refine C_if rfl (fun h26 => ?_) (fun h26 => ?_)
                · refine C_seq (C_reg rfl ?_)
                  refine L_run (R_loadA (vs := [.slice A b.l.length c, .int .i64 b.syn, .bool b.has]) rfl agg96 (At.pre (hb1.at_ 0) rfl) rfl) rfl ?_
                  refine L_stA (vs := [.slice A b.l.length c, .int .i64 b.syn, .bool b.has]) rfl rfl rfl sz96 rfl hb4 rfl ?_
                  intro w53 hb34 hs52 hz40
                  replace hB := gb_trg hB hs52 ge4
                  replace hL := hL.other hb4 rfl rfl hs52
                  replace hDO := hDO.old hs52 ge4
                  replace hOp := hOp.old hs52 ge4
                  replace hPr := hPr.old hs52 ge4
                  replace hb1 := hb1.grown hs52 (ne_lt lt4)
                  replace hb2 := hb2.grown hs52 (ne_lt lt5)
                  replace hb3 := hb3.grown hs52 (ne_lt lt6)
                  refine L_run (R_assign rfl) rfl ?_
                  refine L_nil (N_then (C_ret (R_then (R_then ?_))))
                  refine retC1 (vs := [.slice A b.l.length c, .int .i64 b.syn, .bool b.has]) Try.results37 rfl agg96 (At.pre (hb34.at_ 0) rfl) rfl rfl ?_
                  have hno_ : ¬ okB b y e := fun q_ => by have h_ := q_.2.2.1 he0; have h1_ := h_.1; omega
                  exact ⟨hB, _, _, (⟨b.l, b.syn, b.has⟩ : BkP), by rw [decide_eq_false hno_], fun q_ => absurd q_ hno_, Sli.zero hL, (by first | omega | (simp only [List.length_take]; omega))⟩
                · refine C_skip (N_then (C_seq (C_reg rfl ?_)))
                  refine L_run (R_field (r := 0) rfl fld96_0 rfl) rfl ?_
                  refine L_run (R_load1 rfl scl90 (hb1.cell (i := 0) rfl)) rfl ?_
                  refine L_run (R_field (r := 2) rfl fld44_2 rfl) rfl ?_
                  refine L_run (R_load1 rfl scl3 (hb3.cell (i := 2) rfl)) rfl ?_
                  refine T_slH (xs := b.l) (j := e.bat.toNat) EncO2 rfl rfl (by omega) slc90 (by omega) hlc hL rfl ?_
                  intro A_8 hS_2
                  refine L_run (R_field (r := 0) rfl fld96_0 rfl) rfl ?_
                  refine L_st1 rfl rfl rfl sz90 hb1 rfl ?_
                  intro w54 hb35 hs53 hz41
                  replace hB := gb_trg hB hs53 ge1
                  replace hL := hL.other hb1 rfl rfl hs53
                  replace hDO := hDO.old hs53 ge1
                  replace hOp := hOp.old hs53 ge1
                  replace hPr := hPr.old hs53 ge1
                  replace hb2 := hb2.grown hs53 (ne_gt lt1)
                  replace hb3 := hb3.grown hs53 (ne_gt lt2)
                  replace hb4 := hb4.grown hs53 (ne_gt lt4)
                  replace hS_2 := hS_2.other hb1 rfl rfl hs53
                  refine L_nil (N_then (C_reg rfl ?_))
                  refine L_run (R_field (r := 2) rfl fld44_2 rfl) rfl ?_
                  refine L_run (R_load1 rfl scl3 (hb3.cell (i := 2) rfl)) rfl ?_
                  refine L_run (R_field (r := 1) rfl fld96_1 rfl) rfl ?_
                  refine L_st1 rfl rfl rfl sz3 hb35 rfl ?_
                  intro w55 hb36 hs54 hz42
                  replace hB := gb_trg hB hs54 ge1
                  replace hL := hL.other hb35 rfl rfl hs54
                  replace hDO := hDO.old hs54 ge1
                  replace hOp := hOp.old hs54 ge1
                  replace hPr := hPr.old hs54 ge1
                  replace hb2 := hb2.grown hs54 (ne_gt lt1)
                  replace hb3 := hb3.grown hs54 (ne_gt lt2)
                  replace hb4 := hb4.grown hs54 (ne_gt lt4)
                  replace hS_2 := hS_2.other hb35 rfl rfl hs54
                  refine L_nil (N_then (C_seq (C_seq (C_reg rfl ?_))))
                  refine L_run (R_field (r := 0) rfl fld86_0 rfl) rfl ?_
                  refine L_run (R_load1 rfl scl3 (hb2.cell (i := 0) rfl)) rfl ?_
                  refine L_run (R_lss rfl rfl) rfl ?_
                  refine L_run (R_move rfl) rfl ?_
                  refine L_splitD (p := y.p.kind < 4) (fun h27 => ?_) (fun h27 => ?_)
                  · exfalso; omega
                  · refine L_no rfl rfl rfl (decide_eq_false h27) rfl ?_
                    refine L_no rfl rfl rfl (decide_eq_false h27) rfl ?_
                    refine L_no rfl rfl rfl (decide_eq_false h27) rfl ?_
                    refine L_run (R_pickF rfl (decide_eq_false h27) rfl) rfl ?_
                    refine L_nil (N_then (C_condF rfl rfl (C_skip (N_then (C_seq (C_reg rfl ?_))))))
                    have hDO : DeepO w.heap.size w55 (b.l.take e.bat.toNat) := hDO0.take.gb hB
                    have hno : opsN (b.l.take e.bat.toNat) ≤ 700000 := Nat.le_trans opsN_take hno
                    have hnl : (b.l.take e.bat.toNat).length ≤ 1000 := by rw [List.length_take]; omega
                    refine L_run (R_field (r := 2) rfl fld96_2 rfl) rfl ?_
                    refine L_run (R_load1 rfl scl4 (hb36.cell (i := 2) rfl)) rfl ?_
                    refine L_run (R_move rfl) rfl ?_
                    refine L_split b.has (fun h28 => ?_) (fun h28 => ?_)
                    · refine L_no rfl rfl rfl h28 rfl ?_
                      refine L_run (R_pickT rfl h28 rfl) rfl ?_
                      refine L_run (R_field (r := 2) rfl fld96_2 rfl) rfl ?_
                      refine L_st1 rfl rfl rfl sz4 hb36 rfl ?_
                      intro w56 hb37 hs55 hz43
                      replace hB := gb_trg hB hs55 ge1
                      replace hL := hL.other hb36 rfl rfl hs55
                      replace hOp := hOp.old hs55 ge1
                      replace hPr := hPr.old hs55 ge1
                      replace hb2 := hb2.grown hs55 (ne_gt lt1)
                      replace hb3 := hb3.grown hs55 (ne_gt lt2)
                      replace hb4 := hb4.grown hs55 (ne_gt lt4)
                      replace hS_2 := hS_2.other hb36 rfl rfl hs55
                      replace hDO := hDO.old hs55 ge1
                      refine L_nil (N_then (C_seq ?_))
                      refine C_draw2 rfl mix ?_
                      intro w57 hs56 hz44
                      replace hB := gb_tr hB hs56
                      replace hL := hL.gb hs56
                      replace hOp := hOp.gb hs56
                      replace hPr := hPr.gb hs56
                      replace hb37 := hb37.gb hs56
                      replace hb2 := hb2.gb hs56
                      replace hb3 := hb3.gb hs56
                      replace hb4 := hb4.gb hs56
                      replace hS_2 := hS_2.gb hs56
                      replace hDO := hDO.gb hs56
                      refine ⟨fun W_ => Blk W_ g1 96 [.slice A_8 ((b.l.take e.bat.toNat).length) c, .int .i64 e.bat, .bool true] ∧ Blk W_ g3 44 [.int .i64 e.kind, .int .i64 e.e, .int .i64 e.bat, .int .i64 e.syn, .slice e.pa e.prs.length e.pc] ∧ True, [0, 1, 2, 5], ?_⟩
                      refine T_takeA (i := 0) rfl (by kernel_rfl) (by kernel_rfl) (by kernel_rfl) (by kernel_rfl) (Y_of (fun _ ⟨hb37, hb3, _⟩ => R_loadA (vs := [.slice A_8 ((b.l.take e.bat.toNat).length) c, .int .i64 e.bat, .bool true]) rfl agg96 (At.pre (hb37.at_ 0) rfl) rfl)) ⟨hb37, hb3, trivial⟩ rfl ?_
                      refine T_takeA (i := 1) rfl (by kernel_rfl) (by kernel_rfl) (by kernel_rfl) (by kernel_rfl) (Y_of (fun _ ⟨hb37, hb3, _⟩ => R_loadA (vs := [.slice A_8 ((b.l.take e.bat.toNat).length) c, .int .i64 e.bat, .bool true]) rfl agg96 (At.pre (hb37.at_ 0) rfl) rfl)) ⟨hb37, hb3, trivial⟩ rfl ?_
                      refine T_takeA (i := 2) rfl (by kernel_rfl) (by kernel_rfl) (by kernel_rfl) (by kernel_rfl) (Y_of (fun _ ⟨hb37, hb3, _⟩ => R_loadA (vs := [.int .i64 e.kind, .int .i64 e.e, .int .i64 e.bat, .int .i64 e.syn, .slice e.pa e.prs.length e.pc]) rfl agg44 (At.pre (hb3.at_ 0) rfl) rfl)) ⟨hb37, hb3, trivial⟩ rfl ?_
                      refine T_all (rs := [3]) (by kernel_rfl) rfl (all1 (O_one rfl ?_))
                      refine L_call rfl cb57 (fits39_ok (b := (⟨b.l.take e.bat.toNat, e.bat, true⟩ : BkP)) (e := e) (Sli.zero hS_2) hDO.top hno hnl (Sli.any hPr) (by omega)) rfl ?_
                      rintro _ w58 ⟨hs57, rfl⟩
                      replace hB := gb_tr hB hs57
                      replace hL := hL.gb hs57
                      replace hOp := hOp.gb hs57
                      replace hPr := hPr.gb hs57
                      replace hb37 := hb37.gb hs57
                      replace hb2 := hb2.gb hs57
                      replace hb3 := hb3.gb hs57
                      replace hb4 := hb4.gb hs57
                      replace hS_2 := hS_2.gb hs57
                      replace hDO := hDO.gb hs57
                      refine L_nil (N_then ⟨fun hN_ => ⟨hb37, hb3, trivial⟩, ?_⟩)
                      refine T_all (rs := [4]) (by kernel_rfl) rfl (all1 (O_one rfl ?_))
                      refine L_stA (vs := [.slice A_8 ((b.l.take e.bat.toNat).length) c, .int .i64 e.bat, .bool true]) rfl rfl rfl sz96 rfl hb4 rfl ?_
                      intro w59 hb38 hs58 hz45
                      replace hB := gb_trg hB hs58 ge4
                      replace hL := hL.other hb4 rfl rfl hs58
                      replace hOp := hOp.old hs58 ge4
                      replace hPr := hPr.old hs58 ge4
                      replace hb37 := hb37.grown hs58 (ne_lt lt4)
                      replace hb2 := hb2.grown hs58 (ne_lt lt5)
                      replace hb3 := hb3.grown hs58 (ne_lt lt6)
                      replace hS_2 := hS_2.other hb4 rfl rfl hs58
                      replace hDO := hDO.old hs58 ge4
                      refine L_nil (N_then ⟨fun hN_ => ⟨hb37, hb3, trivial⟩, ?_⟩)
                      refine T_takeA (i := 5) rfl (by kernel_rfl) (by kernel_rfl) (by kernel_rfl) (by kernel_rfl) (Y_of (fun _ ⟨hb37, hb3, _⟩ => R_assign rfl)) ⟨hb37, hb3, trivial⟩ rfl ?_
                      refine T_done (by kernel_rfl) (CalmE.normal ?_)
                      refine N_then (C_ret ?_)
                      refine retC1 (vs := [.slice A_8 ((b.l.take e.bat.toNat).length) c, .int .i64 e.bat, .bool true]) Try.results37 rfl agg96 (At.pre (hb38.at_ 0) rfl) rfl rfl ?_
                      have en_ : nxt b y e = (⟨b.l.take e.bat.toNat, e.bat, true⟩ : BkP) := by
                        unfold nxt
                        rw [if_pos he0]
                        unfold doneB opsOf
                        first | (rw [if_pos (by omega)]; done) | (rw [if_pos (by omega), h28]; done) | (rw [if_neg (by omega), if_pos (by omega)]; done) | (rw [if_neg (by omega), if_pos (by omega), h28]; done) | (rw [if_neg (by omega), if_neg (by omega), if_pos (by omega)]; done) | (rw [if_neg (by omega), if_neg (by omega), if_pos (by omega), h28]; done) | (rw [if_neg (by omega), if_neg (by omega), if_neg (by omega)]; done) | (rw [if_neg (by omega), if_neg (by omega), if_neg (by omega), h28]; done) | (rw [if_neg (by omega), if_neg (by omega), if_neg (by omega)]; cases b; simp_all; done)
                      have hok_ := fits_iff en_ (by omega) ⟨fun q_ => by first | omega | exact absurd q_ hr, fun q_ => by first | exact hr | omega⟩ (fun _ => ⟨fun q_ => ⟨by omega, by omega⟩, by
                        rw [show doneB b y e = (⟨b.l.take e.bat.toNat, e.bat, true⟩ : BkP) from by rw [← en_]; unfold nxt; rw [if_pos he0]]
                        first | exact .inl rfl | exact .inr (by omega) | exact .inl h28 | (exfalso; omega)⟩)
                      exact ⟨hB, _, _, (⟨b.l.take e.bat.toNat, e.bat, true⟩ : BkP), by rw [← decE hok_], fun _ => en_.symm, Sli.zero hS_2, (by first | omega | (simp only [List.length_take]; omega))⟩
                    · refine L_yes rfl rfl rfl h28 ?_
                      refine L_run (R_move rfl) rfl ?_
                      refine L_run (R_pickF rfl h28 rfl) rfl ?_
                      refine L_run (R_field (r := 2) rfl fld96_2 rfl) rfl ?_
                      refine L_st1 rfl rfl rfl sz4 hb36 rfl ?_
                      intro w60 hb39 hs59 hz46
                      replace hB := gb_trg hB hs59 ge1
                      replace hL := hL.other hb36 rfl rfl hs59
                      replace hOp := hOp.old hs59 ge1
                      replace hPr := hPr.old hs59 ge1
                      replace hb2 := hb2.grown hs59 (ne_gt lt1)
                      replace hb3 := hb3.grown hs59 (ne_gt lt2)
                      replace hb4 := hb4.grown hs59 (ne_gt lt4)
                      replace hS_2 := hS_2.other hb36 rfl rfl hs59
                      replace hDO := hDO.old hs59 ge1
                      refine L_nil (N_then (C_seq ?_))
                      refine C_draw2 rfl mix ?_
                      intro w61 hs60 hz47
                      replace hB := gb_tr hB hs60
                      replace hL := hL.gb hs60
                      replace hOp := hOp.gb hs60
                      replace hPr := hPr.gb hs60
                      replace hb39 := hb39.gb hs60
                      replace hb2 := hb2.gb hs60
                      replace hb3 := hb3.gb hs60
                      replace hb4 := hb4.gb hs60
                      replace hS_2 := hS_2.gb hs60
                      replace hDO := hDO.gb hs60
                      refine ⟨fun W_ => Blk W_ g1 96 [.slice A_8 ((b.l.take e.bat.toNat).length) c, .int .i64 e.bat, .bool (decide (y.p.kind = 6))] ∧ Blk W_ g3 44 [.int .i64 e.kind, .int .i64 e.e, .int .i64 e.bat, .int .i64 e.syn, .slice e.pa e.prs.length e.pc] ∧ True, [0, 1, 2, 5], ?_⟩
                      refine T_takeA (i := 0) rfl (by kernel_rfl) (by kernel_rfl) (by kernel_rfl) (by kernel_rfl) (Y_of (fun _ ⟨hb39, hb3, _⟩ => R_loadA (vs := [.slice A_8 ((b.l.take e.bat.toNat).length) c, .int .i64 e.bat, .bool (decide (y.p.kind = 6))]) rfl agg96 (At.pre (hb39.at_ 0) rfl) rfl)) ⟨hb39, hb3, trivial⟩ rfl ?_
                      refine T_takeA (i := 1) rfl (by kernel_rfl) (by kernel_rfl) (by kernel_rfl) (by kernel_rfl) (Y_of (fun _ ⟨hb39, hb3, _⟩ => R_loadA (vs := [.slice A_8 ((b.l.take e.bat.toNat).length) c, .int .i64 e.bat, .bool (decide (y.p.kind = 6))]) rfl agg96 (At.pre (hb39.at_ 0) rfl) rfl)) ⟨hb39, hb3, trivial⟩ rfl ?_
                      refine T_takeA (i := 2) rfl (by kernel_rfl) (by kernel_rfl) (by kernel_rfl) (by kernel_rfl) (Y_of (fun _ ⟨hb39, hb3, _⟩ => R_loadA (vs := [.int .i64 e.kind, .int .i64 e.e, .int .i64 e.bat, .int .i64 e.syn, .slice e.pa e.prs.length e.pc]) rfl agg44 (At.pre (hb3.at_ 0) rfl) rfl)) ⟨hb39, hb3, trivial⟩ rfl ?_
                      refine T_all (rs := [3]) (by kernel_rfl) rfl (all1 (O_one rfl ?_))
                      refine L_call rfl cb57 (fits39_ok (b := (⟨b.l.take e.bat.toNat, e.bat, (decide (y.p.kind = 6))⟩ : BkP)) (e := e) (Sli.zero hS_2) hDO.top hno hnl (Sli.any hPr) (by omega)) rfl ?_
                      rintro _ w62 ⟨hs61, rfl⟩
                      replace hB := gb_tr hB hs61
                      replace hL := hL.gb hs61
                      replace hOp := hOp.gb hs61
                      replace hPr := hPr.gb hs61
                      replace hb39 := hb39.gb hs61
                      replace hb2 := hb2.gb hs61
                      replace hb3 := hb3.gb hs61
                      replace hb4 := hb4.gb hs61
                      replace hS_2 := hS_2.gb hs61
                      replace hDO := hDO.gb hs61
                      refine L_nil (N_then ⟨fun hN_ => ⟨hb39, hb3, trivial⟩, ?_⟩)
                      refine T_all (rs := [4]) (by kernel_rfl) rfl (all1 (O_one rfl ?_))
                      refine L_stA (vs := [.slice A_8 ((b.l.take e.bat.toNat).length) c, .int .i64 e.bat, .bool (decide (y.p.kind = 6))]) rfl rfl rfl sz96 rfl hb4 rfl ?_
                      intro w63 hb40 hs62 hz48
                      replace hB := gb_trg hB hs62 ge4
                      replace hL := hL.other hb4 rfl rfl hs62
                      replace hOp := hOp.old hs62 ge4
                      replace hPr := hPr.old hs62 ge4
                      replace hb39 := hb39.grown hs62 (ne_lt lt4)
                      replace hb2 := hb2.grown hs62 (ne_lt lt5)
                      replace hb3 := hb3.grown hs62 (ne_lt lt6)
                      replace hS_2 := hS_2.other hb4 rfl rfl hs62
                      replace hDO := hDO.old hs62 ge4
                      refine L_nil (N_then ⟨fun hN_ => ⟨hb39, hb3, trivial⟩, ?_⟩)
                      refine T_takeA (i := 5) rfl (by kernel_rfl) (by kernel_rfl) (by kernel_rfl) (by kernel_rfl) (Y_of (fun _ ⟨hb39, hb3, _⟩ => R_assign rfl)) ⟨hb39, hb3, trivial⟩ rfl ?_
                      refine T_done (by kernel_rfl) (CalmE.normal ?_)
                      refine N_then (C_ret ?_)
                      refine retC1 (vs := [.slice A_8 ((b.l.take e.bat.toNat).length) c, .int .i64 e.bat, .bool (decide (y.p.kind = 6))]) Try.results37 rfl agg96 (At.pre (hb40.at_ 0) rfl) rfl rfl ?_
                      have en_ : nxt b y e = (⟨b.l.take e.bat.toNat, e.bat, (decide (y.p.kind = 6))⟩ : BkP) := by
                        rw [show (decide (y.p.kind = 6)) = true from (decide_eq_true h24)]; unfold nxt
                        rw [if_pos he0]
                        unfold doneB opsOf
                        first | (rw [if_pos (by omega)]; done) | (rw [if_pos (by omega), h28]; done) | (rw [if_neg (by omega), if_pos (by omega)]; done) | (rw [if_neg (by omega), if_pos (by omega), h28]; done) | (rw [if_neg (by omega), if_neg (by omega), if_pos (by omega)]; done) | (rw [if_neg (by omega), if_neg (by omega), if_pos (by omega), h28]; done) | (rw [if_neg (by omega), if_neg (by omega), if_neg (by omega)]; done) | (rw [if_neg (by omega), if_neg (by omega), if_neg (by omega), h28]; done) | (rw [if_neg (by omega), if_neg (by omega), if_neg (by omega)]; cases b; simp_all; done)
                      have hok_ := fits_iff en_ (by omega) ⟨fun q_ => by first | omega | exact absurd q_ hr, fun q_ => by first | exact hr | omega⟩ (fun _ => ⟨fun q_ => ⟨by omega, by omega⟩, by
                        rw [show doneB b y e = (⟨b.l.take e.bat.toNat, e.bat, (decide (y.p.kind = 6))⟩ : BkP) from by rw [← en_]; unfold nxt; rw [if_pos he0]]
                        first | exact .inl rfl | exact .inr (by omega) | exact .inl (decide_eq_true h24) | (exfalso; omega)⟩)
                      exact ⟨hB, _, _, (⟨b.l.take e.bat.toNat, e.bat, (decide (y.p.kind = 6))⟩ : BkP), by rw [← decE hok_], fun _ => en_.symm, Sli.zero hS_2, (by first | omega | (simp only [List.length_take]; omega))⟩
            · refine C_skip (N_then (C_seq (C_seq (C_reg rfl ?_))))
              refine L_run (R_field (r := 0) rfl fld86_0 rfl) rfl ?_
              refine L_run (R_load1 rfl scl3 (hb2.cell (i := 0) rfl)) rfl ?_
              refine L_run (R_lss rfl rfl) rfl ?_
              refine L_run (R_move rfl) rfl ?_
              refine L_splitD (p := y.p.kind < 4) (fun h29 => ?_) (fun h29 => ?_)
              · exfalso; omega
              · refine L_no rfl rfl rfl (decide_eq_false h29) rfl ?_
                refine L_no rfl rfl rfl (decide_eq_false h29) rfl ?_
                refine L_no rfl rfl rfl (decide_eq_false h29) rfl ?_
                refine L_run (R_pickF rfl (decide_eq_false h29) rfl) rfl ?_
                refine L_nil (N_then (C_condF rfl rfl (C_skip (N_then (C_seq (C_reg rfl ?_))))))
                have hDO : DeepO w.heap.size w6 (b.l) := hDO0.gb hB
                refine L_run (R_field (r := 2) rfl fld96_2 rfl) rfl ?_
                refine L_run (R_load1 rfl scl4 (hb1.cell (i := 2) rfl)) rfl ?_
                refine L_run (R_move rfl) rfl ?_
                refine L_split b.has (fun h30 => ?_) (fun h30 => ?_)
                · refine L_no rfl rfl rfl h30 rfl ?_
                  refine L_run (R_pickT rfl h30 rfl) rfl ?_
                  refine L_run (R_field (r := 2) rfl fld96_2 rfl) rfl ?_
                  refine L_st1 rfl rfl rfl sz4 hb1 rfl ?_
                  intro w64 hb41 hs63 hz49
                  replace hB := gb_trg hB hs63 ge1
                  replace hL := hL.other hb1 rfl rfl hs63
                  replace hOp := hOp.old hs63 ge1
                  replace hPr := hPr.old hs63 ge1
                  replace hb2 := hb2.grown hs63 (ne_gt lt1)
                  replace hb3 := hb3.grown hs63 (ne_gt lt2)
                  replace hb4 := hb4.grown hs63 (ne_gt lt4)
                  replace hDO := hDO.old hs63 ge1
                  refine L_nil (N_then (C_seq ?_))
                  refine C_draw2 rfl mix ?_
                  intro w65 hs64 hz50
                  replace hB := gb_tr hB hs64
                  replace hL := hL.gb hs64
                  replace hOp := hOp.gb hs64
                  replace hPr := hPr.gb hs64
                  replace hb41 := hb41.gb hs64
                  replace hb2 := hb2.gb hs64
                  replace hb3 := hb3.gb hs64
                  replace hb4 := hb4.gb hs64
                  replace hDO := hDO.gb hs64
                  refine ⟨fun W_ => Blk W_ g1 96 [.slice A b.l.length c, .int .i64 b.syn, .bool true] ∧ Blk W_ g3 44 [.int .i64 e.kind, .int .i64 e.e, .int .i64 e.bat, .int .i64 e.syn, .slice e.pa e.prs.length e.pc] ∧ True, [0, 1, 2, 5], ?_⟩
                  refine T_takeA (i := 0) rfl (by kernel_rfl) (by kernel_rfl) (by kernel_rfl) (by kernel_rfl) (Y_of (fun _ ⟨hb41, hb3, _⟩ => R_loadA (vs := [.slice A b.l.length c, .int .i64 b.syn, .bool true]) rfl agg96 (At.pre (hb41.at_ 0) rfl) rfl)) ⟨hb41, hb3, trivial⟩ rfl ?_
                  refine T_takeA (i := 1) rfl (by kernel_rfl) (by kernel_rfl) (by kernel_rfl) (by kernel_rfl) (Y_of (fun _ ⟨hb41, hb3, _⟩ => R_loadA (vs := [.slice A b.l.length c, .int .i64 b.syn, .bool true]) rfl agg96 (At.pre (hb41.at_ 0) rfl) rfl)) ⟨hb41, hb3, trivial⟩ rfl ?_
                  refine T_takeA (i := 2) rfl (by kernel_rfl) (by kernel_rfl) (by kernel_rfl) (by kernel_rfl) (Y_of (fun _ ⟨hb41, hb3, _⟩ => R_loadA (vs := [.int .i64 e.kind, .int .i64 e.e, .int .i64 e.bat, .int .i64 e.syn, .slice e.pa e.prs.length e.pc]) rfl agg44 (At.pre (hb3.at_ 0) rfl) rfl)) ⟨hb41, hb3, trivial⟩ rfl ?_
                  refine T_all (rs := [3]) (by kernel_rfl) rfl (all1 (O_one rfl ?_))
                  refine L_call rfl cb57 (fits39_ok (b := (⟨b.l, b.syn, true⟩ : BkP)) (e := e) (Sli.zero hL) hDO.top hno hnl (Sli.any hPr) (by omega)) rfl ?_
                  rintro _ w66 ⟨hs65, rfl⟩
                  replace hB := gb_tr hB hs65
                  replace hL := hL.gb hs65
                  replace hOp := hOp.gb hs65
                  replace hPr := hPr.gb hs65
                  replace hb41 := hb41.gb hs65
                  replace hb2 := hb2.gb hs65
                  replace hb3 := hb3.gb hs65
                  replace hb4 := hb4.gb hs65
                  replace hDO := hDO.gb hs65
                  refine L_nil (N_then ⟨fun hN_ => ⟨hb41, hb3, trivial⟩, ?_⟩)
                  refine T_all (rs := [4]) (by kernel_rfl) rfl (all1 (O_one rfl ?_))
                  refine L_stA (vs := [.slice A b.l.length c, .int .i64 b.syn, .bool true]) rfl rfl rfl sz96 rfl hb4 rfl ?_
                  intro w67 hb42 hs66 hz51
                  replace hB := gb_trg hB hs66 ge4
                  replace hL := hL.other hb4 rfl rfl hs66
                  replace hOp := hOp.old hs66 ge4
                  replace hPr := hPr.old hs66 ge4
                  replace hb41 := hb41.grown hs66 (ne_lt lt4)
                  replace hb2 := hb2.grown hs66 (ne_lt lt5)
                  replace hb3 := hb3.grown hs66 (ne_lt lt6)
                  replace hDO := hDO.old hs66 ge4
                  refine L_nil (N_then ⟨fun hN_ => ⟨hb41, hb3, trivial⟩, ?_⟩)
                  refine T_takeA (i := 5) rfl (by kernel_rfl) (by kernel_rfl) (by kernel_rfl) (by kernel_rfl) (Y_of (fun _ ⟨hb41, hb3, _⟩ => R_assign rfl)) ⟨hb41, hb3, trivial⟩ rfl ?_
                  refine T_done (by kernel_rfl) (CalmE.normal ?_)
                  refine N_then (C_ret ?_)
                  refine retC1 (vs := [.slice A b.l.length c, .int .i64 b.syn, .bool true]) Try.results37 rfl agg96 (At.pre (hb42.at_ 0) rfl) rfl rfl ?_
                  have en_ : nxt b y e = (⟨b.l, b.syn, true⟩ : BkP) := by
                    unfold nxt
                    rw [if_pos he0]
                    unfold doneB opsOf
                    first | (rw [if_pos (by omega)]; done) | (rw [if_pos (by omega), h30]; done) | (rw [if_neg (by omega), if_pos (by omega)]; done) | (rw [if_neg (by omega), if_pos (by omega), h30]; done) | (rw [if_neg (by omega), if_neg (by omega), if_pos (by omega)]; done) | (rw [if_neg (by omega), if_neg (by omega), if_pos (by omega), h30]; done) | (rw [if_neg (by omega), if_neg (by omega), if_neg (by omega)]; done) | (rw [if_neg (by omega), if_neg (by omega), if_neg (by omega), h30]; done) | (rw [if_neg (by omega), if_neg (by omega), if_neg (by omega)]; cases b; simp_all; done)
                  have hok_ := fits_iff en_ (by omega) ⟨fun q_ => by first | omega | exact absurd q_ hr, fun q_ => by first | exact hr | omega⟩ (fun _ => ⟨fun q_ => ⟨by omega, by omega⟩, by
                    rw [show doneB b y e = (⟨b.l, b.syn, true⟩ : BkP) from by rw [← en_]; unfold nxt; rw [if_pos he0]]
                    first | exact .inl rfl | exact .inr (by omega) | exact .inl h30 | (exfalso; omega)⟩)
                  exact ⟨hB, _, _, (⟨b.l, b.syn, true⟩ : BkP), by rw [← decE hok_], fun _ => en_.symm, Sli.zero hL, (by first | omega | (simp only [List.length_take]; omega))⟩
                · refine L_yes rfl rfl rfl h30 ?_
                  refine L_run (R_move rfl) rfl ?_
                  refine L_run (R_pickF rfl h30 rfl) rfl ?_
                  refine L_run (R_field (r := 2) rfl fld96_2 rfl) rfl ?_
                  refine L_st1 rfl rfl rfl sz4 hb1 rfl ?_
                  intro w68 hb43 hs67 hz52
                  replace hB := gb_trg hB hs67 ge1
                  replace hL := hL.other hb1 rfl rfl hs67
                  replace hOp := hOp.old hs67 ge1
                  replace hPr := hPr.old hs67 ge1
                  replace hb2 := hb2.grown hs67 (ne_gt lt1)
                  replace hb3 := hb3.grown hs67 (ne_gt lt2)
                  replace hb4 := hb4.grown hs67 (ne_gt lt4)
                  replace hDO := hDO.old hs67 ge1
                  refine L_nil (N_then (C_seq ?_))
                  refine C_draw2 rfl mix ?_
                  intro w69 hs68 hz53
                  replace hB := gb_tr hB hs68
                  replace hL := hL.gb hs68
                  replace hOp := hOp.gb hs68
                  replace hPr := hPr.gb hs68
                  replace hb43 := hb43.gb hs68
                  replace hb2 := hb2.gb hs68
                  replace hb3 := hb3.gb hs68
                  replace hb4 := hb4.gb hs68
                  replace hDO := hDO.gb hs68
                  refine ⟨fun W_ => Blk W_ g1 96 [.slice A b.l.length c, .int .i64 b.syn, .bool (decide (y.p.kind = 6))] ∧ Blk W_ g3 44 [.int .i64 e.kind, .int .i64 e.e, .int .i64 e.bat, .int .i64 e.syn, .slice e.pa e.prs.length e.pc] ∧ True, [0, 1, 2, 5], ?_⟩
                  refine T_takeA (i := 0) rfl (by kernel_rfl) (by kernel_rfl) (by kernel_rfl) (by kernel_rfl) (Y_of (fun _ ⟨hb43, hb3, _⟩ => R_loadA (vs := [.slice A b.l.length c, .int .i64 b.syn, .bool (decide (y.p.kind = 6))]) rfl agg96 (At.pre (hb43.at_ 0) rfl) rfl)) ⟨hb43, hb3, trivial⟩ rfl ?_
                  refine T_takeA (i := 1) rfl (by kernel_rfl) (by kernel_rfl) (by kernel_rfl) (by kernel_rfl) (Y_of (fun _ ⟨hb43, hb3, _⟩ => R_loadA (vs := [.slice A b.l.length c, .int .i64 b.syn, .bool (decide (y.p.kind = 6))]) rfl agg96 (At.pre (hb43.at_ 0) rfl) rfl)) ⟨hb43, hb3, trivial⟩ rfl ?_
                  refine T_takeA (i := 2) rfl (by kernel_rfl) (by kernel_rfl) (by kernel_rfl) (by kernel_rfl) (Y_of (fun _ ⟨hb43, hb3, _⟩ => R_loadA (vs := [.int .i64 e.kind, .int .i64 e.e, .int .i64 e.bat, .int .i64 e.syn, .slice e.pa e.prs.length e.pc]) rfl agg44 (At.pre (hb3.at_ 0) rfl) rfl)) ⟨hb43, hb3, trivial⟩ rfl ?_
                  refine T_all (rs := [3]) (by kernel_rfl) rfl (all1 (O_one rfl ?_))
                  refine L_call rfl cb57 (fits39_ok (b := (⟨b.l, b.syn, (decide (y.p.kind = 6))⟩ : BkP)) (e := e) (Sli.zero hL) hDO.top hno hnl (Sli.any hPr) (by omega)) rfl ?_
                  rintro _ w70 ⟨hs69, rfl⟩
                  replace hB := gb_tr hB hs69
                  replace hL := hL.gb hs69
                  replace hOp := hOp.gb hs69
                  replace hPr := hPr.gb hs69
                  replace hb43 := hb43.gb hs69
                  replace hb2 := hb2.gb hs69
                  replace hb3 := hb3.gb hs69
                  replace hb4 := hb4.gb hs69
                  replace hDO := hDO.gb hs69
                  refine L_nil (N_then ⟨fun hN_ => ⟨hb43, hb3, trivial⟩, ?_⟩)
                  refine T_all (rs := [4]) (by kernel_rfl) rfl (all1 (O_one rfl ?_))
                  refine L_stA (vs := [.slice A b.l.length c, .int .i64 b.syn, .bool (decide (y.p.kind = 6))]) rfl rfl rfl sz96 rfl hb4 rfl ?_
                  intro w71 hb44 hs70 hz54
                  replace hB := gb_trg hB hs70 ge4
                  replace hL := hL.other hb4 rfl rfl hs70
                  replace hOp := hOp.old hs70 ge4
                  replace hPr := hPr.old hs70 ge4
                  replace hb43 := hb43.grown hs70 (ne_lt lt4)
                  replace hb2 := hb2.grown hs70 (ne_lt lt5)
                  replace hb3 := hb3.grown hs70 (ne_lt lt6)
                  replace hDO := hDO.old hs70 ge4
                  refine L_nil (N_then ⟨fun hN_ => ⟨hb43, hb3, trivial⟩, ?_⟩)
                  refine T_takeA (i := 5) rfl (by kernel_rfl) (by kernel_rfl) (by kernel_rfl) (by kernel_rfl) (Y_of (fun _ ⟨hb43, hb3, _⟩ => R_assign rfl)) ⟨hb43, hb3, trivial⟩ rfl ?_
                  refine T_done (by kernel_rfl) (CalmE.normal ?_)
                  refine N_then (C_ret ?_)
                  refine retC1 (vs := [.slice A b.l.length c, .int .i64 b.syn, .bool (decide (y.p.kind = 6))]) Try.results37 rfl agg96 (At.pre (hb44.at_ 0) rfl) rfl rfl ?_
                  have en_ : nxt b y e = (⟨b.l, b.syn, (decide (y.p.kind = 6))⟩ : BkP) := by
                    rw [show (decide (y.p.kind = 6)) = false from (decide_eq_false h24)]; unfold nxt
                    rw [if_pos he0]
                    unfold doneB opsOf
                    first | (rw [if_pos (by omega)]; done) | (rw [if_pos (by omega), h30]; done) | (rw [if_neg (by omega), if_pos (by omega)]; done) | (rw [if_neg (by omega), if_pos (by omega), h30]; done) | (rw [if_neg (by omega), if_neg (by omega), if_pos (by omega)]; done) | (rw [if_neg (by omega), if_neg (by omega), if_pos (by omega), h30]; done) | (rw [if_neg (by omega), if_neg (by omega), if_neg (by omega)]; done) | (rw [if_neg (by omega), if_neg (by omega), if_neg (by omega), h30]; done) | (rw [if_neg (by omega), if_neg (by omega), if_neg (by omega)]; cases b; simp_all; done)
                  have hok_ := fits_iff en_ (by omega) ⟨fun q_ => by first | omega | exact absurd q_ hr, fun q_ => by first | exact hr | omega⟩ (fun _ => ⟨fun q_ => ⟨by omega, by omega⟩, by
                    rw [show doneB b y e = (⟨b.l, b.syn, (decide (y.p.kind = 6))⟩ : BkP) from by rw [← en_]; unfold nxt; rw [if_pos he0]]
                    first | exact .inl rfl | exact .inr (by omega) | exact .inl (decide_eq_false h24) | (exfalso; omega)⟩)
                  exact ⟨hB, _, _, (⟨b.l, b.syn, (decide (y.p.kind = 6))⟩ : BkP), by rw [← decE hok_], fun _ => en_.symm, Sli.zero hL, (by first | omega | (simp only [List.length_take]; omega))⟩

end Go.Proofs.Ytbmohojdlgedpaa
