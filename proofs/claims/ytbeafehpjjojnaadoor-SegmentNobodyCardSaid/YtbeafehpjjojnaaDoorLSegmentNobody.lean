/-
  For every number and every header the law SegmentNobody returns true, and changes nothing that was there.
-/
import Derived.Test.YtbeafehpjjojnaaDoorSg
import Derived.Test.YtbeafehpjjojnaaDoorVc
import Derived.Test.YtbeafehpjjojnaaDoorEp
import Derived.Test.YtbeafehpjjojnaaDoorTie
import Derived.Test.YtbeafehpjjojnaaDoorCards
import Derived.WalkKit
import Derived.ProofKit
import Derived.OpenShut
import Derived.ShutString
import Derived.ChangeOld
import Derived.Below
import Derived.SizedLaws
import Derived.LaidMore
import Derived.SevenTiedAt
import Derived.Stop.Joined
namespace Go.Proofs.YtbeafehpjjojnaaDoor.LSegmentNobody
open Go.RowKit Gw Pl
set_option linter.unusedVariables false
set_option linter.unusedSimpArgs false
theorem cb10 : callB Tryd.prog 10 = true := by kernel_rfl
theorem cb11 : callB Tryd.prog 11 = true := by kernel_rfl
theorem cb12 : callB Tryd.prog 12 = true := by kernel_rfl
theorem cb13 : callB Tryd.prog 13 = true := by kernel_rfl
theorem half_laid {W : World} (h : laidMetH Tryd.prog Rows.segmentNobodyRow.laid W) : ∃ T fz, W.heap[0]? = some (.cells Gw.tblV.toArray T fz) :=
  Ev.table_at (nm := "strandline/crc.half") (G := 0) (t := 195) (te := 96) (ks := [0, 274646895, 549293790, 820201905, 1098587580, 1361435347, 1640403810, 1905808397, 2197175160, 2460548119, 2722870694, 2987750089, 3280807620, 3553878443, 3811616794, 4084100981]) (by kernel_rfl) (by kernel_rfl) Tryd.underlying195 Tryd.underlying96 (by kernel_rfl) (by kernel_rfl) h

theorem halfT {w w' : World} (h : ∃ T fz, w.heap[0]? = some (.cells Gw.tblV.toArray T fz)) (hb : w.grownBy w' none) : ∃ T fz, w'.heap[0]? = some (.cells Gw.tblV.toArray T fz) := by
  obtain ⟨T, fz, h⟩ := h
  exact ⟨T, fz, (hb.block 0 (Array.getElem?_eq_some_iff.1 h).1 (by simp)).trans h⟩
set_option maxRecDepth 100000 in
theorem awake22 {w : World} (hT : ∃ T fz, w.heap[0]? = some (.cells Gw.tblV.toArray T fz)) : Runs Tryd.prog 13 #[] w (fun v w' => w.grownBy w' none ∧ v = .bool true) := by
  obtain ⟨T, fz, hw⟩ := hT
  exact Ev.closedG (mu := fun f => Nat.beq f 60) (ov := Ev.noov) (fuel := 100000) (d := 60) (xs := []) (T := 0) (vs := Gw.tblV) hw (by kernel_rfl) Ev.noov_ok (by kernel_rfl)

theorem walk0 {w : World} (hT : ∃ T fz, w.heap[0]? = some (.cells Gw.tblV.toArray T fz)) {n : Int} (hg0 : (Lit.int .i64 n).wf = true) {z : Int × Int × Int × (Nat → Int) × Unit}  (hq : 1 ≤ n ∧ n ≤ 2147483647) (hk : OkH z.1 z.2.1 z.2.2.1 z.2.2.2.1) :
    Runs Tryd.prog 4 #[.int .i64 n, .agg #[.int .u64 z.1, .int .i64 z.2.1, .int .i64 z.2.2.1, .int .i64 (z.2.2.2.1 0), .int .i64 (z.2.2.2.1 1), .int .i64 (z.2.2.2.1 2), .int .i64 (z.2.2.2.1 3)]] w (fun v w' => w.grownBy w' none ∧ v = .bool true) := by
  have hB := gb_refl w none
  refine enter Tryd.func4 Tryd.ntmps4 rfl rfl ?_
  refine C_seq (C_reg rfl ?_)
  refine L_box (cs := [.int .u64 z.1, .int .i64 z.2.1, .int .i64 z.2.2.1, .int .i64 (z.2.2.2.1 0), .int .i64 (z.2.2.2.1 1), .int .i64 (z.2.2.2.1 2), .int .i64 (z.2.2.2.1 3)]) rfl rfl rfl ?_
  intro g1 w1 eg1 hb1 hs1 hz1
  have ge1 : w.heap.size ≤ g1 := eg_ge hB eg1
  replace hB := gb_tr hB hs1
  refine L_run (R_assign rfl) rfl ?_
  refine L_nil (N_then (C_seq (C_reg rfl ?_)))
  refine L_call rfl cb9 (hdr_in (n := 1) (by omega) (by omega)) rfl ?_
  rintro _ w2 ⟨hs2, rfl⟩
  replace hB := gb_tr hB hs2
  replace hb1 := hb1.gb hs2
  refine L_run (R_move rfl) rfl ?_
  refine L_run (R_extract rfl rfl) rfl ?_
  refine L_run (R_extract rfl rfl) rfl ?_
  refine L_alloc (cs := [.int .u64 0, .int .i64 0, .int .i64 0, .int .i64 0, .int .i64 0, .int .i64 0, .int .i64 0]) zer36 rfl rfl ?_
  intro g2 w3 eg2 hb2 hs3 hz2
  have ge2 : w.heap.size ≤ g2 := eg_ge hB eg2
  have lt1 : g1 < g2 := lt_of_eg hb1.lt eg2
  replace hB := gb_tr hB hs3
  replace hb1 := hb1.gb hs3
  refine L_stA (vs := [.int .u64 0, .int .i64 0, .int .i64 0, .int .i64 0, .int .i64 0, .int .i64 0, .int .i64 0]) rfl rfl rfl sz36 rfl hb2 rfl ?_
  intro w4 hb3 hs4 hz3
  replace hB := gb_trg hB hs4 ge2
  replace hb1 := hb1.grown hs4 (ne_lt lt1)
  refine L_run (R_assign rfl) rfl ?_
  refine L_nil (N_then (C_seq (C_reg rfl ?_)))
  refine L_call rfl cb10 (sec_nil) rfl ?_
  rintro _ w5 ⟨hs5, rfl⟩
  replace hB := gb_tr hB hs5
  replace hb1 := hb1.gb hs5
  replace hb3 := hb3.gb hs5
  refine L_run (R_move rfl) rfl ?_
  refine L_run (R_extract rfl rfl) rfl ?_
  refine L_run (R_extract rfl rfl) rfl ?_
  refine L_run (R_assign rfl) rfl ?_
  refine L_run (R_assign rfl) rfl ?_
  refine L_nil (N_then (C_seq (C_reg rfl ?_)))
  refine L_run (R_move rfl) rfl ?_
  refine L_call rfl cb9 (hdr_in (n := n) (wf64 hg0) hq) rfl ?_
  rintro _ w6 ⟨hs6, rfl⟩
  replace hB := gb_tr hB hs6
  replace hb1 := hb1.gb hs6
  replace hb3 := hb3.gb hs6
  refine L_run (R_move rfl) rfl ?_
  refine L_run (R_extract rfl rfl) rfl ?_
  refine L_run (R_extract rfl rfl) rfl ?_
  refine L_alloc (cs := [.int .u64 0, .int .i64 0, .int .i64 0, .int .i64 0, .int .i64 0, .int .i64 0, .int .i64 0]) zer36 rfl rfl ?_
  intro g3 w7 eg3 hb4 hs7 hz4
  have ge3 : w.heap.size ≤ g3 := eg_ge hB eg3
  have lt2 : g1 < g3 := lt_of_eg hb1.lt eg3
  have lt3 : g2 < g3 := lt_of_eg hb3.lt eg3
  replace hB := gb_tr hB hs7
  replace hb1 := hb1.gb hs7
  replace hb3 := hb3.gb hs7
  refine L_stA (vs := [.int .u64 0, .int .i64 0, .int .i64 0, .int .i64 0, .int .i64 0, .int .i64 0, .int .i64 0]) rfl rfl rfl sz36 rfl hb4 rfl ?_
  intro w8 hb5 hs8 hz5
  replace hB := gb_trg hB hs8 ge3
  replace hb1 := hb1.grown hs8 (ne_lt lt2)
  replace hb3 := hb3.grown hs8 (ne_lt lt3)
  refine L_run (R_assign rfl) rfl ?_
  refine L_nil (N_then (C_seq (C_reg rfl ?_)))
  refine L_run (R_loadA (vs := [.int .u64 z.1, .int .i64 z.2.1, .int .i64 z.2.2.1, .int .i64 (z.2.2.2.1 0), .int .i64 (z.2.2.2.1 1), .int .i64 (z.2.2.2.1 2), .int .i64 (z.2.2.2.1 3)]) rfl agg36 (At.pre (hb1.at_ 0) rfl) rfl) rfl ?_
  refine L_call rfl cb11 (beg_in hk) rfl ?_
  rintro _ w9 ⟨hs9, rfl⟩
  replace hB := gb_tr hB hs9
  replace hb1 := hb1.gb hs9
  replace hb3 := hb3.gb hs9
  replace hb5 := hb5.gb hs9
  refine L_run (R_assign rfl) rfl ?_
  refine L_nil (N_then (C_seq (C_reg rfl ?_)))
  refine L_run (R_move rfl) rfl ?_
  refine L_run (R_eqv (R_eql rfl rfl) (v' := .bool true) rfl) rfl ?_
  refine L_run (R_move rfl) rfl ?_
  refine L_yes rfl rfl rfl rfl ?_
  refine L_run (R_move rfl) rfl ?_
  refine L_yes rfl rfl rfl rfl ?_
  refine L_run (R_eqv (R_eql rfl rfl) (v' := .bool true) rfl) rfl ?_
  refine L_run (R_pickT rfl rfl rfl) rfl ?_
  refine L_run (R_move rfl) rfl ?_
  refine L_yes rfl rfl rfl rfl ?_
  refine L_run (R_move rfl) rfl ?_
  refine L_yes rfl rfl rfl rfl ?_
  refine L_run (R_eqv (R_eql rfl rfl) (v' := .bool true) rfl) rfl ?_
  refine L_yes rfl rfl rfl rfl ?_
  refine L_run (R_move rfl) rfl ?_
  refine L_no rfl rfl rfl rfl rfl ?_
  refine L_no rfl rfl rfl rfl rfl ?_
  refine L_yes rfl rfl rfl rfl ?_
  refine L_run (R_pickT rfl rfl rfl) rfl ?_
  refine L_run (R_pickT rfl rfl rfl) rfl ?_
  refine L_run (R_move rfl) rfl ?_
  refine L_yes rfl rfl rfl rfl ?_
  refine L_run (R_move rfl) rfl ?_
  refine L_yes rfl rfl rfl rfl ?_
  refine L_run (R_eqv (R_eql rfl rfl) (v' := .bool true) rfl) rfl ?_
  refine L_yes rfl rfl rfl rfl ?_
  refine L_run (R_move rfl) rfl ?_
  refine L_no rfl rfl rfl rfl rfl ?_
  refine L_no rfl rfl rfl rfl rfl ?_
  refine L_yes rfl rfl rfl rfl ?_
  refine L_run (R_pickT rfl rfl rfl) rfl ?_
  refine L_run (R_pickT rfl rfl rfl) rfl ?_
  refine L_run (R_move rfl) rfl ?_
  refine L_yes rfl rfl rfl rfl ?_
  refine L_call rfl cb12 (newest_nil) rfl ?_
  rintro _ w10 ⟨hs10, rfl⟩
  replace hB := gb_tr hB hs10
  replace hb1 := hb1.gb hs10
  replace hb3 := hb3.gb hs10
  replace hb5 := hb5.gb hs10
  refine L_yes rfl rfl rfl rfl ?_
  refine L_run (R_eqv (R_eql rfl rfl) (v' := .bool true) rfl) rfl ?_
  refine L_run (R_pickT rfl rfl rfl) rfl ?_
  refine L_run (R_move rfl) rfl ?_
  refine L_yes rfl rfl rfl rfl ?_
  refine L_call rfl cb13 (awake22 (halfT hT hB)) rfl ?_
  rintro _ w11 ⟨hs11, rfl⟩
  replace hB := gb_tr hB hs11
  replace hb1 := hb1.gb hs11
  replace hb3 := hb3.gb hs11
  replace hb5 := hb5.gb hs11
  refine L_run (R_pickT rfl rfl rfl) rfl ?_
  refine L_run (R_assign rfl) rfl ?_
  refine L_nil (N_then (C_ret ?_))
  refine ret1 Tryd.results4 rfl ?_
  exact ⟨hB, rfl⟩

theorem walk1 {w : World} (hT : ∃ T fz, w.heap[0]? = some (.cells Gw.tblV.toArray T fz)) {n : Int} (hg0 : (Lit.int .i64 n).wf = true) {z : Int × Int × Int × (Nat → Int) × Unit}  (hq : 1 ≤ n ∧ n ≤ 2147483647) (hk : ¬ (OkH z.1 z.2.1 z.2.2.1 z.2.2.2.1)) :
    Runs Tryd.prog 4 #[.int .i64 n, .agg #[.int .u64 z.1, .int .i64 z.2.1, .int .i64 z.2.2.1, .int .i64 (z.2.2.2.1 0), .int .i64 (z.2.2.2.1 1), .int .i64 (z.2.2.2.1 2), .int .i64 (z.2.2.2.1 3)]] w (fun v w' => w.grownBy w' none ∧ v = .bool true) := by
  have hB := gb_refl w none
  refine enter Tryd.func4 Tryd.ntmps4 rfl rfl ?_
  refine C_seq (C_reg rfl ?_)
  refine L_box (cs := [.int .u64 z.1, .int .i64 z.2.1, .int .i64 z.2.2.1, .int .i64 (z.2.2.2.1 0), .int .i64 (z.2.2.2.1 1), .int .i64 (z.2.2.2.1 2), .int .i64 (z.2.2.2.1 3)]) rfl rfl rfl ?_
  intro g1 w1 eg1 hb1 hs1 hz1
  have ge1 : w.heap.size ≤ g1 := eg_ge hB eg1
  replace hB := gb_tr hB hs1
  refine L_run (R_assign rfl) rfl ?_
  refine L_nil (N_then (C_seq (C_reg rfl ?_)))
  refine L_call rfl cb9 (hdr_in (n := 1) (by omega) (by omega)) rfl ?_
  rintro _ w2 ⟨hs2, rfl⟩
  replace hB := gb_tr hB hs2
  replace hb1 := hb1.gb hs2
  refine L_run (R_move rfl) rfl ?_
  refine L_run (R_extract rfl rfl) rfl ?_
  refine L_run (R_extract rfl rfl) rfl ?_
  refine L_alloc (cs := [.int .u64 0, .int .i64 0, .int .i64 0, .int .i64 0, .int .i64 0, .int .i64 0, .int .i64 0]) zer36 rfl rfl ?_
  intro g2 w3 eg2 hb2 hs3 hz2
  have ge2 : w.heap.size ≤ g2 := eg_ge hB eg2
  have lt1 : g1 < g2 := lt_of_eg hb1.lt eg2
  replace hB := gb_tr hB hs3
  replace hb1 := hb1.gb hs3
  refine L_stA (vs := [.int .u64 0, .int .i64 0, .int .i64 0, .int .i64 0, .int .i64 0, .int .i64 0, .int .i64 0]) rfl rfl rfl sz36 rfl hb2 rfl ?_
  intro w4 hb3 hs4 hz3
  replace hB := gb_trg hB hs4 ge2
  replace hb1 := hb1.grown hs4 (ne_lt lt1)
  refine L_run (R_assign rfl) rfl ?_
  refine L_nil (N_then (C_seq (C_reg rfl ?_)))
  refine L_call rfl cb10 (sec_nil) rfl ?_
  rintro _ w5 ⟨hs5, rfl⟩
  replace hB := gb_tr hB hs5
  replace hb1 := hb1.gb hs5
  replace hb3 := hb3.gb hs5
  refine L_run (R_move rfl) rfl ?_
  refine L_run (R_extract rfl rfl) rfl ?_
  refine L_run (R_extract rfl rfl) rfl ?_
  refine L_run (R_assign rfl) rfl ?_
  refine L_run (R_assign rfl) rfl ?_
  refine L_nil (N_then (C_seq (C_reg rfl ?_)))
  refine L_run (R_move rfl) rfl ?_
  refine L_call rfl cb9 (hdr_in (n := n) (wf64 hg0) hq) rfl ?_
  rintro _ w6 ⟨hs6, rfl⟩
  replace hB := gb_tr hB hs6
  replace hb1 := hb1.gb hs6
  replace hb3 := hb3.gb hs6
  refine L_run (R_move rfl) rfl ?_
  refine L_run (R_extract rfl rfl) rfl ?_
  refine L_run (R_extract rfl rfl) rfl ?_
  refine L_alloc (cs := [.int .u64 0, .int .i64 0, .int .i64 0, .int .i64 0, .int .i64 0, .int .i64 0, .int .i64 0]) zer36 rfl rfl ?_
  intro g3 w7 eg3 hb4 hs7 hz4
  have ge3 : w.heap.size ≤ g3 := eg_ge hB eg3
  have lt2 : g1 < g3 := lt_of_eg hb1.lt eg3
  have lt3 : g2 < g3 := lt_of_eg hb3.lt eg3
  replace hB := gb_tr hB hs7
  replace hb1 := hb1.gb hs7
  replace hb3 := hb3.gb hs7
  refine L_stA (vs := [.int .u64 0, .int .i64 0, .int .i64 0, .int .i64 0, .int .i64 0, .int .i64 0, .int .i64 0]) rfl rfl rfl sz36 rfl hb4 rfl ?_
  intro w8 hb5 hs8 hz5
  replace hB := gb_trg hB hs8 ge3
  replace hb1 := hb1.grown hs8 (ne_lt lt2)
  replace hb3 := hb3.grown hs8 (ne_lt lt3)
  refine L_run (R_assign rfl) rfl ?_
  refine L_nil (N_then (C_seq (C_reg rfl ?_)))
  refine L_run (R_loadA (vs := [.int .u64 z.1, .int .i64 z.2.1, .int .i64 z.2.2.1, .int .i64 (z.2.2.2.1 0), .int .i64 (z.2.2.2.1 1), .int .i64 (z.2.2.2.1 2), .int .i64 (z.2.2.2.1 3)]) rfl agg36 (At.pre (hb1.at_ 0) rfl) rfl) rfl ?_
  refine L_call rfl cb11 (beg_out hk) rfl ?_
  rintro _ w9 ⟨hs9, rfl⟩
  replace hB := gb_tr hB hs9
  replace hb1 := hb1.gb hs9
  replace hb3 := hb3.gb hs9
  replace hb5 := hb5.gb hs9
  refine L_run (R_assign rfl) rfl ?_
  refine L_nil (N_then (C_seq (C_reg rfl ?_)))
  refine L_run (R_move rfl) rfl ?_
  refine L_run (R_eqv (R_eql rfl rfl) (v' := .bool true) rfl) rfl ?_
  refine L_run (R_move rfl) rfl ?_
  refine L_yes rfl rfl rfl rfl ?_
  refine L_run (R_move rfl) rfl ?_
  refine L_yes rfl rfl rfl rfl ?_
  refine L_run (R_eqv (R_eql rfl rfl) (v' := .bool true) rfl) rfl ?_
  refine L_run (R_pickT rfl rfl rfl) rfl ?_
  refine L_run (R_move rfl) rfl ?_
  refine L_yes rfl rfl rfl rfl ?_
  refine L_run (R_move rfl) rfl ?_
  refine L_yes rfl rfl rfl rfl ?_
  refine L_run (R_eqv (R_eql rfl rfl) (v' := .bool true) rfl) rfl ?_
  refine L_yes rfl rfl rfl rfl ?_
  refine L_run (R_move rfl) rfl ?_
  refine L_no rfl rfl rfl rfl rfl ?_
  refine L_no rfl rfl rfl rfl rfl ?_
  refine L_yes rfl rfl rfl rfl ?_
  refine L_run (R_pickT rfl rfl rfl) rfl ?_
  refine L_run (R_pickT rfl rfl rfl) rfl ?_
  refine L_run (R_move rfl) rfl ?_
  refine L_yes rfl rfl rfl rfl ?_
  refine L_run (R_move rfl) rfl ?_
  refine L_yes rfl rfl rfl rfl ?_
  refine L_run (R_eqv (R_eql rfl rfl) (v' := .bool false) rfl) rfl ?_
  refine L_yes rfl rfl rfl rfl ?_
  refine L_run (R_move rfl) rfl ?_
  refine L_yes rfl rfl rfl rfl ?_
  refine L_run (R_move rfl) rfl ?_
  refine L_yes rfl rfl rfl rfl ?_
  refine L_run (R_eqv (R_eql rfl rfl) (v' := .bool true) rfl) rfl ?_
  refine L_yes rfl rfl rfl rfl ?_
  refine L_run (R_pickF rfl rfl rfl) rfl ?_
  refine L_run (R_pickT rfl rfl rfl) rfl ?_
  refine L_run (R_move rfl) rfl ?_
  refine L_yes rfl rfl rfl rfl ?_
  refine L_call rfl cb12 (newest_nil) rfl ?_
  rintro _ w10 ⟨hs10, rfl⟩
  replace hB := gb_tr hB hs10
  replace hb1 := hb1.gb hs10
  replace hb3 := hb3.gb hs10
  replace hb5 := hb5.gb hs10
  refine L_yes rfl rfl rfl rfl ?_
  refine L_run (R_eqv (R_eql rfl rfl) (v' := .bool true) rfl) rfl ?_
  refine L_run (R_pickT rfl rfl rfl) rfl ?_
  refine L_run (R_move rfl) rfl ?_
  refine L_yes rfl rfl rfl rfl ?_
  refine L_call rfl cb13 (awake22 (halfT hT hB)) rfl ?_
  rintro _ w11 ⟨hs11, rfl⟩
  replace hB := gb_tr hB hs11
  replace hb1 := hb1.gb hs11
  replace hb3 := hb3.gb hs11
  replace hb5 := hb5.gb hs11
  refine L_run (R_pickT rfl rfl rfl) rfl ?_
  refine L_run (R_assign rfl) rfl ?_
  refine L_nil (N_then (C_ret ?_))
  refine ret1 Tryd.results4 rfl ?_
  exact ⟨hB, rfl⟩

theorem walk2 {w : World} (hT : ∃ T fz, w.heap[0]? = some (.cells Gw.tblV.toArray T fz)) {n : Int} (hg0 : (Lit.int .i64 n).wf = true) {z : Int × Int × Int × (Nat → Int) × Unit}  (hq : ¬ (1 ≤ n ∧ n ≤ 2147483647)) (hk : OkH z.1 z.2.1 z.2.2.1 z.2.2.2.1) :
    Runs Tryd.prog 4 #[.int .i64 n, .agg #[.int .u64 z.1, .int .i64 z.2.1, .int .i64 z.2.2.1, .int .i64 (z.2.2.2.1 0), .int .i64 (z.2.2.2.1 1), .int .i64 (z.2.2.2.1 2), .int .i64 (z.2.2.2.1 3)]] w (fun v w' => w.grownBy w' none ∧ v = .bool true) := by
  have hB := gb_refl w none
  refine enter Tryd.func4 Tryd.ntmps4 rfl rfl ?_
  refine C_seq (C_reg rfl ?_)
  refine L_box (cs := [.int .u64 z.1, .int .i64 z.2.1, .int .i64 z.2.2.1, .int .i64 (z.2.2.2.1 0), .int .i64 (z.2.2.2.1 1), .int .i64 (z.2.2.2.1 2), .int .i64 (z.2.2.2.1 3)]) rfl rfl rfl ?_
  intro g1 w1 eg1 hb1 hs1 hz1
  have ge1 : w.heap.size ≤ g1 := eg_ge hB eg1
  replace hB := gb_tr hB hs1
  refine L_run (R_assign rfl) rfl ?_
  refine L_nil (N_then (C_seq (C_reg rfl ?_)))
  refine L_call rfl cb9 (hdr_in (n := 1) (by omega) (by omega)) rfl ?_
  rintro _ w2 ⟨hs2, rfl⟩
  replace hB := gb_tr hB hs2
  replace hb1 := hb1.gb hs2
  refine L_run (R_move rfl) rfl ?_
  refine L_run (R_extract rfl rfl) rfl ?_
  refine L_run (R_extract rfl rfl) rfl ?_
  refine L_alloc (cs := [.int .u64 0, .int .i64 0, .int .i64 0, .int .i64 0, .int .i64 0, .int .i64 0, .int .i64 0]) zer36 rfl rfl ?_
  intro g2 w3 eg2 hb2 hs3 hz2
  have ge2 : w.heap.size ≤ g2 := eg_ge hB eg2
  have lt1 : g1 < g2 := lt_of_eg hb1.lt eg2
  replace hB := gb_tr hB hs3
  replace hb1 := hb1.gb hs3
  refine L_stA (vs := [.int .u64 0, .int .i64 0, .int .i64 0, .int .i64 0, .int .i64 0, .int .i64 0, .int .i64 0]) rfl rfl rfl sz36 rfl hb2 rfl ?_
  intro w4 hb3 hs4 hz3
  replace hB := gb_trg hB hs4 ge2
  replace hb1 := hb1.grown hs4 (ne_lt lt1)
  refine L_run (R_assign rfl) rfl ?_
  refine L_nil (N_then (C_seq (C_reg rfl ?_)))
  refine L_call rfl cb10 (sec_nil) rfl ?_
  rintro _ w5 ⟨hs5, rfl⟩
  replace hB := gb_tr hB hs5
  replace hb1 := hb1.gb hs5
  replace hb3 := hb3.gb hs5
  refine L_run (R_move rfl) rfl ?_
  refine L_run (R_extract rfl rfl) rfl ?_
  refine L_run (R_extract rfl rfl) rfl ?_
  refine L_run (R_assign rfl) rfl ?_
  refine L_run (R_assign rfl) rfl ?_
  refine L_nil (N_then (C_seq (C_reg rfl ?_)))
  refine L_run (R_move rfl) rfl ?_
  refine L_call rfl cb9 (hdr_out (n := n) (wf64 hg0) hq) rfl ?_
  rintro _ w6 ⟨hs6, rfl⟩
  replace hB := gb_tr hB hs6
  replace hb1 := hb1.gb hs6
  replace hb3 := hb3.gb hs6
  refine L_run (R_move rfl) rfl ?_
  refine L_run (R_extract rfl rfl) rfl ?_
  refine L_run (R_extract rfl rfl) rfl ?_
  refine L_alloc (cs := [.int .u64 0, .int .i64 0, .int .i64 0, .int .i64 0, .int .i64 0, .int .i64 0, .int .i64 0]) zer36 rfl rfl ?_
  intro g3 w7 eg3 hb4 hs7 hz4
  have ge3 : w.heap.size ≤ g3 := eg_ge hB eg3
  have lt2 : g1 < g3 := lt_of_eg hb1.lt eg3
  have lt3 : g2 < g3 := lt_of_eg hb3.lt eg3
  replace hB := gb_tr hB hs7
  replace hb1 := hb1.gb hs7
  replace hb3 := hb3.gb hs7
  refine L_stA (vs := [.int .u64 0, .int .i64 0, .int .i64 0, .int .i64 0, .int .i64 0, .int .i64 0, .int .i64 0]) rfl rfl rfl sz36 rfl hb4 rfl ?_
  intro w8 hb5 hs8 hz5
  replace hB := gb_trg hB hs8 ge3
  replace hb1 := hb1.grown hs8 (ne_lt lt2)
  replace hb3 := hb3.grown hs8 (ne_lt lt3)
  refine L_run (R_assign rfl) rfl ?_
  refine L_nil (N_then (C_seq (C_reg rfl ?_)))
  refine L_run (R_loadA (vs := [.int .u64 z.1, .int .i64 z.2.1, .int .i64 z.2.2.1, .int .i64 (z.2.2.2.1 0), .int .i64 (z.2.2.2.1 1), .int .i64 (z.2.2.2.1 2), .int .i64 (z.2.2.2.1 3)]) rfl agg36 (At.pre (hb1.at_ 0) rfl) rfl) rfl ?_
  refine L_call rfl cb11 (beg_in hk) rfl ?_
  rintro _ w9 ⟨hs9, rfl⟩
  replace hB := gb_tr hB hs9
  replace hb1 := hb1.gb hs9
  replace hb3 := hb3.gb hs9
  replace hb5 := hb5.gb hs9
  refine L_run (R_assign rfl) rfl ?_
  refine L_nil (N_then (C_seq (C_reg rfl ?_)))
  refine L_run (R_move rfl) rfl ?_
  refine L_run (R_eqv (R_eql rfl rfl) (v' := .bool true) rfl) rfl ?_
  refine L_run (R_move rfl) rfl ?_
  refine L_yes rfl rfl rfl rfl ?_
  refine L_run (R_move rfl) rfl ?_
  refine L_yes rfl rfl rfl rfl ?_
  refine L_run (R_eqv (R_eql rfl rfl) (v' := .bool true) rfl) rfl ?_
  refine L_run (R_pickT rfl rfl rfl) rfl ?_
  refine L_run (R_move rfl) rfl ?_
  refine L_yes rfl rfl rfl rfl ?_
  refine L_run (R_move rfl) rfl ?_
  refine L_yes rfl rfl rfl rfl ?_
  refine L_run (R_eqv (R_eql rfl rfl) (v' := .bool false) rfl) rfl ?_
  refine L_yes rfl rfl rfl rfl ?_
  refine L_run (R_move rfl) rfl ?_
  refine L_yes rfl rfl rfl rfl ?_
  refine L_run (R_move rfl) rfl ?_
  refine L_yes rfl rfl rfl rfl ?_
  refine L_run (R_eqv (R_eql rfl rfl) (v' := .bool true) rfl) rfl ?_
  refine L_yes rfl rfl rfl rfl ?_
  refine L_run (R_pickF rfl rfl rfl) rfl ?_
  refine L_run (R_pickT rfl rfl rfl) rfl ?_
  refine L_run (R_move rfl) rfl ?_
  refine L_yes rfl rfl rfl rfl ?_
  refine L_run (R_move rfl) rfl ?_
  refine L_yes rfl rfl rfl rfl ?_
  refine L_run (R_eqv (R_eql rfl rfl) (v' := .bool true) rfl) rfl ?_
  refine L_yes rfl rfl rfl rfl ?_
  refine L_run (R_move rfl) rfl ?_
  refine L_no rfl rfl rfl rfl rfl ?_
  refine L_no rfl rfl rfl rfl rfl ?_
  refine L_yes rfl rfl rfl rfl ?_
  refine L_run (R_pickT rfl rfl rfl) rfl ?_
  refine L_run (R_pickT rfl rfl rfl) rfl ?_
  refine L_run (R_move rfl) rfl ?_
  refine L_yes rfl rfl rfl rfl ?_
  refine L_call rfl cb12 (newest_nil) rfl ?_
  rintro _ w10 ⟨hs10, rfl⟩
  replace hB := gb_tr hB hs10
  replace hb1 := hb1.gb hs10
  replace hb3 := hb3.gb hs10
  replace hb5 := hb5.gb hs10
  refine L_yes rfl rfl rfl rfl ?_
  refine L_run (R_eqv (R_eql rfl rfl) (v' := .bool true) rfl) rfl ?_
  refine L_run (R_pickT rfl rfl rfl) rfl ?_
  refine L_run (R_move rfl) rfl ?_
  refine L_yes rfl rfl rfl rfl ?_
  refine L_call rfl cb13 (awake22 (halfT hT hB)) rfl ?_
  rintro _ w11 ⟨hs11, rfl⟩
  replace hB := gb_tr hB hs11
  replace hb1 := hb1.gb hs11
  replace hb3 := hb3.gb hs11
  replace hb5 := hb5.gb hs11
  refine L_run (R_pickT rfl rfl rfl) rfl ?_
  refine L_run (R_assign rfl) rfl ?_
  refine L_nil (N_then (C_ret ?_))
  refine ret1 Tryd.results4 rfl ?_
  exact ⟨hB, rfl⟩

theorem walk3 {w : World} (hT : ∃ T fz, w.heap[0]? = some (.cells Gw.tblV.toArray T fz)) {n : Int} (hg0 : (Lit.int .i64 n).wf = true) {z : Int × Int × Int × (Nat → Int) × Unit}  (hq : ¬ (1 ≤ n ∧ n ≤ 2147483647)) (hk : ¬ (OkH z.1 z.2.1 z.2.2.1 z.2.2.2.1)) :
    Runs Tryd.prog 4 #[.int .i64 n, .agg #[.int .u64 z.1, .int .i64 z.2.1, .int .i64 z.2.2.1, .int .i64 (z.2.2.2.1 0), .int .i64 (z.2.2.2.1 1), .int .i64 (z.2.2.2.1 2), .int .i64 (z.2.2.2.1 3)]] w (fun v w' => w.grownBy w' none ∧ v = .bool true) := by
  have hB := gb_refl w none
  refine enter Tryd.func4 Tryd.ntmps4 rfl rfl ?_
  refine C_seq (C_reg rfl ?_)
  refine L_box (cs := [.int .u64 z.1, .int .i64 z.2.1, .int .i64 z.2.2.1, .int .i64 (z.2.2.2.1 0), .int .i64 (z.2.2.2.1 1), .int .i64 (z.2.2.2.1 2), .int .i64 (z.2.2.2.1 3)]) rfl rfl rfl ?_
  intro g1 w1 eg1 hb1 hs1 hz1
  have ge1 : w.heap.size ≤ g1 := eg_ge hB eg1
  replace hB := gb_tr hB hs1
  refine L_run (R_assign rfl) rfl ?_
  refine L_nil (N_then (C_seq (C_reg rfl ?_)))
  refine L_call rfl cb9 (hdr_in (n := 1) (by omega) (by omega)) rfl ?_
  rintro _ w2 ⟨hs2, rfl⟩
  replace hB := gb_tr hB hs2
  replace hb1 := hb1.gb hs2
  refine L_run (R_move rfl) rfl ?_
  refine L_run (R_extract rfl rfl) rfl ?_
  refine L_run (R_extract rfl rfl) rfl ?_
  refine L_alloc (cs := [.int .u64 0, .int .i64 0, .int .i64 0, .int .i64 0, .int .i64 0, .int .i64 0, .int .i64 0]) zer36 rfl rfl ?_
  intro g2 w3 eg2 hb2 hs3 hz2
  have ge2 : w.heap.size ≤ g2 := eg_ge hB eg2
  have lt1 : g1 < g2 := lt_of_eg hb1.lt eg2
  replace hB := gb_tr hB hs3
  replace hb1 := hb1.gb hs3
  refine L_stA (vs := [.int .u64 0, .int .i64 0, .int .i64 0, .int .i64 0, .int .i64 0, .int .i64 0, .int .i64 0]) rfl rfl rfl sz36 rfl hb2 rfl ?_
  intro w4 hb3 hs4 hz3
  replace hB := gb_trg hB hs4 ge2
  replace hb1 := hb1.grown hs4 (ne_lt lt1)
  refine L_run (R_assign rfl) rfl ?_
  refine L_nil (N_then (C_seq (C_reg rfl ?_)))
  refine L_call rfl cb10 (sec_nil) rfl ?_
  rintro _ w5 ⟨hs5, rfl⟩
  replace hB := gb_tr hB hs5
  replace hb1 := hb1.gb hs5
  replace hb3 := hb3.gb hs5
  refine L_run (R_move rfl) rfl ?_
  refine L_run (R_extract rfl rfl) rfl ?_
  refine L_run (R_extract rfl rfl) rfl ?_
  refine L_run (R_assign rfl) rfl ?_
  refine L_run (R_assign rfl) rfl ?_
  refine L_nil (N_then (C_seq (C_reg rfl ?_)))
  refine L_run (R_move rfl) rfl ?_
  refine L_call rfl cb9 (hdr_out (n := n) (wf64 hg0) hq) rfl ?_
  rintro _ w6 ⟨hs6, rfl⟩
  replace hB := gb_tr hB hs6
  replace hb1 := hb1.gb hs6
  replace hb3 := hb3.gb hs6
  refine L_run (R_move rfl) rfl ?_
  refine L_run (R_extract rfl rfl) rfl ?_
  refine L_run (R_extract rfl rfl) rfl ?_
  refine L_alloc (cs := [.int .u64 0, .int .i64 0, .int .i64 0, .int .i64 0, .int .i64 0, .int .i64 0, .int .i64 0]) zer36 rfl rfl ?_
  intro g3 w7 eg3 hb4 hs7 hz4
  have ge3 : w.heap.size ≤ g3 := eg_ge hB eg3
  have lt2 : g1 < g3 := lt_of_eg hb1.lt eg3
  have lt3 : g2 < g3 := lt_of_eg hb3.lt eg3
  replace hB := gb_tr hB hs7
  replace hb1 := hb1.gb hs7
  replace hb3 := hb3.gb hs7
  refine L_stA (vs := [.int .u64 0, .int .i64 0, .int .i64 0, .int .i64 0, .int .i64 0, .int .i64 0, .int .i64 0]) rfl rfl rfl sz36 rfl hb4 rfl ?_
  intro w8 hb5 hs8 hz5
  replace hB := gb_trg hB hs8 ge3
  replace hb1 := hb1.grown hs8 (ne_lt lt2)
  replace hb3 := hb3.grown hs8 (ne_lt lt3)
  refine L_run (R_assign rfl) rfl ?_
  refine L_nil (N_then (C_seq (C_reg rfl ?_)))
  refine L_run (R_loadA (vs := [.int .u64 z.1, .int .i64 z.2.1, .int .i64 z.2.2.1, .int .i64 (z.2.2.2.1 0), .int .i64 (z.2.2.2.1 1), .int .i64 (z.2.2.2.1 2), .int .i64 (z.2.2.2.1 3)]) rfl agg36 (At.pre (hb1.at_ 0) rfl) rfl) rfl ?_
  refine L_call rfl cb11 (beg_out hk) rfl ?_
  rintro _ w9 ⟨hs9, rfl⟩
  replace hB := gb_tr hB hs9
  replace hb1 := hb1.gb hs9
  replace hb3 := hb3.gb hs9
  replace hb5 := hb5.gb hs9
  refine L_run (R_assign rfl) rfl ?_
  refine L_nil (N_then (C_seq (C_reg rfl ?_)))
  refine L_run (R_move rfl) rfl ?_
  refine L_run (R_eqv (R_eql rfl rfl) (v' := .bool true) rfl) rfl ?_
  refine L_run (R_move rfl) rfl ?_
  refine L_yes rfl rfl rfl rfl ?_
  refine L_run (R_move rfl) rfl ?_
  refine L_yes rfl rfl rfl rfl ?_
  refine L_run (R_eqv (R_eql rfl rfl) (v' := .bool true) rfl) rfl ?_
  refine L_run (R_pickT rfl rfl rfl) rfl ?_
  refine L_run (R_move rfl) rfl ?_
  refine L_yes rfl rfl rfl rfl ?_
  refine L_run (R_move rfl) rfl ?_
  refine L_yes rfl rfl rfl rfl ?_
  refine L_run (R_eqv (R_eql rfl rfl) (v' := .bool false) rfl) rfl ?_
  refine L_yes rfl rfl rfl rfl ?_
  refine L_run (R_move rfl) rfl ?_
  refine L_yes rfl rfl rfl rfl ?_
  refine L_run (R_move rfl) rfl ?_
  refine L_yes rfl rfl rfl rfl ?_
  refine L_run (R_eqv (R_eql rfl rfl) (v' := .bool true) rfl) rfl ?_
  refine L_yes rfl rfl rfl rfl ?_
  refine L_run (R_pickF rfl rfl rfl) rfl ?_
  refine L_run (R_pickT rfl rfl rfl) rfl ?_
  refine L_run (R_move rfl) rfl ?_
  refine L_yes rfl rfl rfl rfl ?_
  refine L_run (R_move rfl) rfl ?_
  refine L_yes rfl rfl rfl rfl ?_
  refine L_run (R_eqv (R_eql rfl rfl) (v' := .bool false) rfl) rfl ?_
  refine L_yes rfl rfl rfl rfl ?_
  refine L_run (R_move rfl) rfl ?_
  refine L_yes rfl rfl rfl rfl ?_
  refine L_run (R_move rfl) rfl ?_
  refine L_yes rfl rfl rfl rfl ?_
  refine L_run (R_eqv (R_eql rfl rfl) (v' := .bool true) rfl) rfl ?_
  refine L_yes rfl rfl rfl rfl ?_
  refine L_run (R_pickF rfl rfl rfl) rfl ?_
  refine L_run (R_pickT rfl rfl rfl) rfl ?_
  refine L_run (R_move rfl) rfl ?_
  refine L_yes rfl rfl rfl rfl ?_
  refine L_call rfl cb12 (newest_nil) rfl ?_
  rintro _ w10 ⟨hs10, rfl⟩
  replace hB := gb_tr hB hs10
  replace hb1 := hb1.gb hs10
  replace hb3 := hb3.gb hs10
  replace hb5 := hb5.gb hs10
  refine L_yes rfl rfl rfl rfl ?_
  refine L_run (R_eqv (R_eql rfl rfl) (v' := .bool true) rfl) rfl ?_
  refine L_run (R_pickT rfl rfl rfl) rfl ?_
  refine L_run (R_move rfl) rfl ?_
  refine L_yes rfl rfl rfl rfl ?_
  refine L_call rfl cb13 (awake22 (halfT hT hB)) rfl ?_
  rintro _ w11 ⟨hs11, rfl⟩
  replace hB := gb_tr hB hs11
  replace hb1 := hb1.gb hs11
  replace hb3 := hb3.gb hs11
  replace hb5 := hb5.gb hs11
  refine L_run (R_pickT rfl rfl rfl) rfl ?_
  refine L_run (R_assign rfl) rfl ?_
  refine L_nil (N_then (C_ret ?_))
  refine ret1 Tryd.results4 rfl ?_
  exact ⟨hB, rfl⟩

theorem walk {w : World} (hT : ∃ T fz, w.heap[0]? = some (.cells Gw.tblV.toArray T fz)) {n : Int} (hg0 : (Lit.int .i64 n).wf = true) {z : Int × Int × Int × (Nat → Int) × Unit}  {p : Prop} (hg1 : p) : Runs Tryd.prog 4 #[.int .i64 n, .agg #[.int .u64 z.1, .int .i64 z.2.1, .int .i64 z.2.2.1, .int .i64 (z.2.2.2.1 0), .int .i64 (z.2.2.2.1 1), .int .i64 (z.2.2.2.1 2), .int .i64 (z.2.2.2.1 3)]] w (fun v w' => w.grownBy w' none ∧ v = .bool true) := by
  by_cases hq : 1 ≤ n ∧ n ≤ 2147483647
  · by_cases hk : OkH z.1 z.2.1 z.2.2.1 z.2.2.2.1
    · exact walk0 hT hg0 hq hk
    · exact walk1 hT hg0 hq hk
  · by_cases hk : OkH z.1 z.2.1 z.2.2.1 z.2.2.2.1
    · exact walk2 hT hg0 hq hk
    · exact walk3 hT hg0 hq hk

open Go.ChangeShapes Go.WideShapes Go.ChangeAt
theorem own : ownKnob Tryd.prog.godebug = none := by kernel_rfl
theorem laidOut : laidOutB Tryd.prog = true := by kernel_rfl
theorem door_met (os : Os) (args : Array Value) : laidMetH Tryd.prog Rows.segmentNobodyRow.laid ((World.doorLaid Tryd.prog 14 os).forCall (fun _ _ => 0) ⟨#[], args, []⟩).memory :=
  laidMetH_of_parts3 (fuel := 8) (laidMet_of_run' 8 (by kernel_rfl) (by kernel_rfl)) (by kernel_rfl) (by kernel_rfl)
set_option maxRecDepth 100000 in
theorem lifted (os : Os) (started : os.Started) (H : Type) (enc : TypeId × Value → H) :
    ReturnsInHanded {} Tryd.checked os 4 .any (fun w args => (Rows.segmentNobodySpec.pre enc Tryd.prog Tryd.f4 [] false w args ∧ laidMetH Tryd.prog Rows.segmentNobodyRow.laid w) ∧ sizedMet enc Tryd.prog Tryd.f4 (OpenSpec.ofChange Rows.segmentNobodySpec) false w args) (Rows.segmentNobodySpec.post enc Tryd.prog Tryd.f4 false true false false) := by
  refine returnsInHanded_of_change_and (C := Tryd.checked) (X := fun w _ => laidMetH Tryd.prog Rows.segmentNobodyRow.laid w) (fun _ _ _ hh h => h.of_heap hh) own started (by kernel_rfl) Tryd.func4
    (ChangeSpec.witness_shaped (enc := enc) (C := Tryd.checked) (os := os) (X := fun w _ => laidMetH Tryd.prog Rows.segmentNobodyRow.laid w) false (World.doorLaid Tryd.prog 14 os) #[.int .i64 0, .agg #[.int .u64 0, .int .i64 0, .int .i64 0, .int .i64 0, .int .i64 0, .int .i64 0, .int .i64 0]] 8 rfl (World.shaped_of_RefB (by kernel_rfl) (by kernel_rfl)) (by kernel_rfl) (by kernel_rfl) (by kernel_rfl) (door_met os _)) ?_
  intro W base args ds gs before hval0 hW hcnd hsz0 hL _
  have hsz : (DataW.weightsEach Tryd.prog (Tryd.f4.params.toList ++ Rows.segmentNobodySpec.plain.varTypes Tryd.prog) (ds ++ gs)).all (· ≤ reachBytes) = true := hsz0
  have hval : ∀ (j : Nat) t v, Tryd.f4.params[j]? = some t → args[j]? = some v → Value.okWide Tryd.prog W .any base t v := hval0
  have hW' := hW
  obtain ⟨p, q, hA0, hV, rfl, hfz, hnd⟩ := hW
  have hA : DataW.TrodAll enc Tryd.prog W 0 (fun _ => true) true Tryd.f4.params.toList args.toList ds p := hA0
  rw [Tryd.params4] at hA hval hsz
  obtain ⟨v0, vs0, d0, ds0, p0, q0, hargs, rfl, rfl, h0, r0⟩ := trodAll_cons hA
  obtain ⟨v1, vs1, d1, ds1, p1, q1, rfl, rfl, rfl, h1, r1⟩ := trodAll_cons r0
  obtain ⟨rfl, rfl, rfl⟩ := trodAll_nil r1
  obtain rfl : args = #[v0, v1] := by cases args; simp_all
  obtain ⟨rfl, rfl⟩ := trodVars_none hV
  have lt0 : ∀ x ∈ p0, x.block < W.heap.size := by obtain ⟨m, hm⟩ := h0; exact DataW.trod_lt m _ _ _ hm
  obtain ⟨n, e0, hg0⟩ := Rdr.arg (enc := enc) (P := Tryd.prog) (W := W) (Rdr.int Tryd.underlying3) hsz (j := 0) rfl rfl h0
  obtain rfl := of_cell e0 (by intro cs e_; obtain ⟨a_, e2_⟩ := okWide_int Tryd.underlying3 (hval 0 3 v0 rfl rfl); rw [e2_] at e_; cases e_)
  have lt1 : ∀ x ∈ p1, x.block < W.heap.size := by obtain ⟨m, hm⟩ := h1; exact DataW.trod_lt m _ _ _ hm
  obtain ⟨z, e1, hg1⟩ := Rdr.arg (enc := enc) (P := Tryd.prog) (W := W) (Rdr.struct Tryd.underlying36 rfl (by kernel_rfl) (Rds.cons (off := 0) (sz := 1) (Rdr.int Tryd.underlying33) (by kernel_rfl) rfl (by decide) (Rds.cons (off := 1) (sz := 1) (Rdr.int Tryd.underlying3) (by kernel_rfl) rfl (by decide) (Rds.cons (off := 2) (sz := 1) (Rdr.int Tryd.underlying3) (by kernel_rfl) rfl (by decide) (Rds.cons (off := 3) (sz := 4) (Rdr.arrf Tryd.underlying34 Tryd.underlying3 (by kernel_rfl) (by kernel_rfl)) (by kernel_rfl) rfl (by decide) (Rds.nil)))))) hsz (j := 1) rfl rfl h1
  obtain ⟨cs1, rfl, _⟩ := okWide_struct Tryd.underlying36 (hval 1 36 v1 rfl rfl)
  obtain rfl := of_agg e1
  refine (walk (w := W) (half_laid hL) hg0 hg1).calls.mono fun e W' ⟨v_, he, hgb, hv_⟩ => ?_
  subst he
  subst hv_
  have bel := gb_below hgb
  exact ⟨_, rfl, _, _, _, [], _, [], hW', trodAll_mk1 (shut_bool Tryd.underlying4 _), (trodAll_cons_mk (Below.trod laidOut (by kernel_rfl) (of_decide_eq_true (by kernel_rfl)) h0 bel lt0) (trodAll_cons_mk (Below.trod laidOut (by kernel_rfl) (of_decide_eq_true (by kernel_rfl)) h1 bel lt1) trodAll_mk0)), rfl, bel.frame _, fun h => by cases h⟩
theorem over : Rows.segmentNobodyRow.holds Tryd.pinned (OpenSpec.ofChange Rows.segmentNobodySpec) :=
  OpenClaim.holds_of_wide 4 Tryd.f4 rfl rfl rfl rfl rfl rfl rfl ⟨rfl, rfl, rfl, rfl, rfl⟩ rfl rfl rfl rfl rfl (by kernel_rfl) Tryd.func4 (by kernel_rfl)
    (of_decide_eq_true (by kernel_rfl)) (by unfold Func.isWrapper; first | (rw [if_pos (by decide +kernel)]; kernel_rfl) | (rw [if_neg (by decide +kernel)]; exact ⟨rfl, rfl⟩))
    (fun os started H enc _ => lifted os started H enc)
/-- The given statement. -/
theorem proved : Rows.SegmentNobodyCardSaid :=
  Claim7.holds_tied_plain_at .later [] [.data] true (true, "568546b6311336c297fe1dd1354b88986b0e9aff68158e9ee4a33eff6200239d") false
    over (fun _ h => by cases h) (by kernel_rfl) (fun _ h => by cases h) segmentNobody_row_tie rfl ⟨rfl, rfl⟩ (by kernel_rfl) rfl
    (fun f fn hf hfn => by
      obtain rfl : f = 4 := Option.some.inj ((show Tryd.prog.funcNamed "strandline/strandlinelaw22.SegmentNobody" = some 4 by kernel_rfl).symm.trans hf) |>.symm
      obtain rfl : fn = Tryd.f4 := (Option.some.inj (Tryd.func4.symm.trans hfn)).symm
      exact ⟨by kernel_rfl, fun j t ht => by
        rw [Tryd.params4] at ht
        have hm : t ∈ [3, 36] := by simpa using Array.mem_of_getElem? ht
        have hall : ([3, 36].all fun u => !Tryd.prog.wantsStandIn u) = true := by kernel_rfl
        exact (show Tryd.prog.wantsStandIn t = false by simpa using List.all_eq_true.1 hall t hm)⟩)
    (by kernel_rfl)
#print axioms proved

end Go.Proofs.YtbeafehpjjojnaaDoor.LSegmentNobody
