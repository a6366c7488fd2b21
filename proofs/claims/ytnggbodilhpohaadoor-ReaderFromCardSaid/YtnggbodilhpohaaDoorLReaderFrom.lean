/-
  For every number, every list of sectors and every place the law ReaderFrom returns true, and changes nothing that was there.
-/
import Derived.Test.YtnggbodilhpohaaDoorSs
import Derived.Test.YtnggbodilhpohaaDoorEt
import Derived.Test.YtnggbodilhpohaaDoorTie
import Derived.Test.YtnggbodilhpohaaDoorCards
import Derived.WalkKit
import Derived.ProofKit
import Derived.OpenShut
import Derived.ShutString
import Derived.ChangeOld
import Derived.Below
import Derived.SizedLaws
import Derived.LaidMore
import Derived.SevenTiedAt
import Derived.Stop.Joined
namespace Go.Proofs.YtnggbodilhpohaaDoor.LReaderFrom
open Go.RowKit Gw Pl
set_option linter.unusedVariables false
set_option linter.unusedSimpArgs false
theorem cb4 : callB Tryd.prog 4 = true := by kernel_rfl
theorem cb6 : callB Tryd.prog 6 = true := by kernel_rfl
theorem cb7 : callB Tryd.prog 7 = true := by kernel_rfl
theorem half_laid {W : World} (h : laidMetH Tryd.prog Rows.readerFromRow.laid W) : ∃ T fz, W.heap[0]? = some (.cells Gw.tblV.toArray T fz) :=
  Ev.table_at (nm := "strandline/crc.half") (G := 0) (t := 100) (te := 41) (ks := [0, 274646895, 549293790, 820201905, 1098587580, 1361435347, 1640403810, 1905808397, 2197175160, 2460548119, 2722870694, 2987750089, 3280807620, 3553878443, 3811616794, 4084100981]) (by kernel_rfl) (by kernel_rfl) Tryd.underlying100 Tryd.underlying41 (by kernel_rfl) (by kernel_rfl) h

theorem walkN {w : World} (hW : ∃ T fz, w.heap[0]? = some (.cells tblV.toArray T fz)) (hT : Tbw w) {n : Nat} (hn : n < 18446744073709551616) {A1 : Option Addr} {c1 : Nat} {xs1 : List Sx} (hS1 : Sli 0 0 w.heap.size w A1 (fl encX xs1)) (hl1 : xs1.length ≤ c1) (hm1 : c1 * 64 ≤ 140737488351232) {z : Int} (hz : -9223372036854775808 ≤ z ∧ z ≤ 9223372036854775807) :
    Runs Tryd.prog 3 #[.int .u64 (n : Int), .slice A1 xs1.length c1, .int .i64 z] w (fun v w' => w.grownBy w' none ∧ v = .bool true) := by
  have hB := gb_refl w none
  refine enter Tryd.func3 Tryd.ntmps3 rfl rfl ?_
  refine C_seq (C_reg rfl ?_)
  refine L_run (R_assign rfl) rfl ?_
  refine L_nil (N_then (C_seq (C_seq (C_reg rfl ?_))))
  refine L_run (R_move rfl) rfl ?_
  refine L_run (R_lenSl rfl slc23) rfl ?_
  refine L_run (R_gtr rfl rfl) rfl ?_
  refine L_nil (N_then ?_)
  refine C_if rfl (fun h1 => ?_) (fun h1 => ?_)
  · refine C_seq (C_reg rfl ?_)
    refine L_call rfl cb4 (awakeT (halfT hW hB)) rfl ?_
    rintro _ w1 ⟨hs1, rfl⟩
    replace hB := gb_tr hB hs1
    replace hS1 := hS1.gb hs1
    refine L_run (R_assign rfl) rfl ?_
    refine L_nil (N_then (C_ret (R_then ?_)))
    refine ret1 Tryd.results3 rfl ?_
    exact ⟨hB, rfl⟩
  · refine C_skip (N_then (C_seq (C_reg rfl ?_)))
    refine L_run (R_move rfl) rfl ?_
    refine L_run (R_move rfl) rfl ?_
    refine L_run (R_move rfl) rfl ?_
    have ge1 : w.heap.size ≤ w.heap.size := hB.size
    refine L_call rfl cb5 (from_ok (e := n) (ss := xs1) (z := z) hS1 (by first | omega | (simp; done) | (simp; omega)) (hT.gb hB)) rfl ?_
    rintro _ w2 ⟨hs2, A_1, c_1, rfl, ho1⟩
    replace hB := gb_tr hB hs2
    replace hS1 := hS1.gb hs2
    have hlo1 : w.heap.size ≤ w2.heap.size := hs2.size
    refine L_run (R_move rfl) rfl ?_
    refine L_run (R_extract rfl rfl) rfl ?_
    refine L_run (R_extract rfl rfl) rfl ?_
    refine L_run (R_extract rfl rfl) rfl ?_
    refine L_run (R_assign rfl) rfl ?_
    refine L_run (R_assign rfl) rfl ?_
    refine L_run (R_assign rfl) rfl ?_
    refine L_nil (N_then (C_seq (C_reg rfl ?_)))
    refine L_run (R_move rfl) rfl ?_
    refine L_run (R_move rfl) rfl ?_
    refine L_run (R_move rfl) rfl ?_
    have ge2 : w.heap.size ≤ w2.heap.size := hB.size
    refine L_call rfl cb6 (re_ok (e := n) (ss := xs1) (z := z) hS1 (by first | omega | (simp; done) | (simp; omega)) ) rfl ?_
    rintro _ w3 ⟨hs3, A_2, c_2, rfl, ho2⟩
    replace hB := gb_tr hB hs3
    replace hS1 := hS1.gb hs3
    replace ho1 := own_gb ho1 hs3
    replace hlo1 := Nat.le_trans hlo1 hs3.size
    have hlo2 : w2.heap.size ≤ w3.heap.size := hs3.size
    refine L_run (R_move rfl) rfl ?_
    refine L_run (R_extract rfl rfl) rfl ?_
    refine L_run (R_extract rfl rfl) rfl ?_
    refine L_run (R_extract rfl rfl) rfl ?_
    refine L_run (R_assign rfl) rfl ?_
    refine L_run (R_assign rfl) rfl ?_
    refine L_run (R_assign rfl) rfl ?_
    refine L_nil (N_then (C_seq (C_seq (C_reg rfl ?_))))
    refine L_run (R_move rfl) rfl ?_
    refine L_run (R_b2s' (bs := xb (fromR xs1 n z)) rfl slc25 int5 str9 (own_of ho1).2.2) rfl ?_
    refine L_run (R_move rfl) rfl ?_
    refine L_run (R_b2s' (bs := xb (fromR xs1 n z)) rfl slc25 int5 str9 (own_of ho2).2.2) rfl ?_
    refine L_run (R_eqv (R_neqS rfl rfl) (v' := .bool false) (bF' (fun h => h rfl))) rfl ?_
    refine L_run (R_move rfl) rfl ?_
    refine L_yes rfl rfl rfl rfl ?_
    refine L_run (R_move rfl) rfl ?_
    refine L_yes rfl rfl rfl rfl ?_
    refine L_run (R_move rfl) rfl ?_
    refine L_yes rfl rfl rfl rfl ?_
    refine L_run (R_eqv (R_neq rfl rfl) (v' := .bool false) (bF' (fun h => h rfl))) rfl ?_
    refine L_run (R_pickF rfl rfl rfl) rfl ?_
    refine L_run (R_move rfl) rfl ?_
    refine L_yes rfl rfl rfl rfl ?_
    refine L_run (R_move rfl) rfl ?_
    refine L_yes rfl rfl rfl rfl ?_
    refine L_run (R_move rfl) rfl ?_
    refine L_yes rfl rfl rfl rfl ?_
    refine L_run (R_eqv (R_neqB rfl rfl boo4) (v' := .bool false) (by simp)) rfl ?_
    refine L_run (R_pickF rfl rfl rfl) rfl ?_
    refine L_nil (N_then (C_condF rfl rfl (C_skip (N_then (C_seq (C_reg rfl ?_))))))
    refine L_run (R_move rfl) rfl ?_
    refine L_run (R_move rfl) rfl ?_
    have ge3 : w.heap.size ≤ w3.heap.size := hB.size
    refine L_call rfl cb7 (scan_ok (e := n) (ss := xs1) hS1 (by first | omega | (simp; done) | (simp; omega))) rfl ?_
    rintro _ w4 ⟨hs4, R1, Pl1, A_3, c_3, A_4, c_4, en1, kd1, rfl, ho3, hDY1, ho4, hG1, hRb⟩
    replace hB := gb_tr hB hs4
    replace hS1 := hS1.gb hs4
    replace ho1 := own_gb ho1 hs4
    replace hlo1 := Nat.le_trans hlo1 hs4.size
    replace ho2 := own_gb ho2 hs4
    replace hlo2 := Nat.le_trans hlo2 hs4.size
    have hlo3 : w3.heap.size ≤ w4.heap.size := hs4.size
    refine L_alloc (cs := [.slice none 0 0, .slice none 0 0, .int .i64 0, .int .i64 0]) zer31 rfl rfl ?_
    intro g1 w5 eg1 hb1 hs5 hz1
    have ge4 : w.heap.size ≤ g1 := eg_ge hB eg1
    replace hB := gb_tr hB hs5
    replace hS1 := hS1.gb hs5
    replace ho1 := own_gb ho1 hs5
    replace hlo1 := Nat.le_trans hlo1 hs5.size
    replace ho2 := own_gb ho2 hs5
    replace hlo2 := Nat.le_trans hlo2 hs5.size
    replace ho3 := own_gb ho3 hs5
    replace hDY1 := hDY1.gb hs5
    replace ho4 := own_gb ho4 hs5
    replace hlo3 := Nat.le_trans hlo3 hs5.size
    refine L_stA (vs := [.slice A_3 R1.length c_3, .slice A_4 Pl1.length c_4, .int .i64 en1, .int .i64 kd1]) rfl rfl rfl sz31 rfl hb1 rfl ?_
    intro w6 hb2 hs6 hz2
    replace hB := gb_trg hB hs6 ge4
    replace hS1 := hS1.old hs6 ge4
    replace ho1 := own_other ho1 hb1 rfl hs6
    replace hlo1 := Nat.le_trans hlo1 hs6.size
    replace ho2 := own_other ho2 hb1 rfl hs6
    replace hlo2 := Nat.le_trans hlo2 hs6.size
    replace ho3 := own_other ho3 hb1 rfl hs6
    replace hDY1 := hDY1.other hb1 rfl rfl hs6
    replace ho4 := own_other ho4 hb1 rfl hs6
    replace hlo3 := Nat.le_trans hlo3 hs6.size
    refine L_nil (N_then (C_seq (C_seq (C_reg rfl ?_))))
    refine L_run (R_assign rfl) rfl ?_
    refine L_nil (N_then (C_block ?_))
    refine C_loop (fun m_ a_ w_ => ∃ (σ_ : Nat → Value) (i : Nat), a_ = Ac 89 σ_ [] [(0, .int .u64 (n : Int)), (1, .slice A1 xs1.length c1), (13, .pointer (some ⟨g1, 0, none⟩)), (14, .int .i64 (i : Int))] ∧ w.grownBy w_ none ∧ Sli 0 0 w.heap.size w_ A1 (fl encX xs1) ∧ World.ownsRow w_ w.heap.size 5 1 (.slice A_1 (xb (fromR xs1 n z)).length c_1) (xb (fromR xs1 n z)).length (fl encB (xb (fromR xs1 n z))) ∧ w.heap.size ≤ w_.heap.size ∧ World.ownsRow w_ w2.heap.size 5 1 (.slice A_2 (xb (fromR xs1 n z)).length c_2) (xb (fromR xs1 n z)).length (fl encB (xb (fromR xs1 n z))) ∧ w2.heap.size ≤ w_.heap.size ∧ World.ownsRow w_ w3.heap.size 25 1 (.slice A_3 R1.length c_3) R1.length (fl encY R1) ∧ DeepY 5 w_ R1 ∧ World.ownsRow w_ w3.heap.size 3 1 (.slice A_4 Pl1.length c_4) Pl1.length (fl encZ Pl1) ∧ w3.heap.size ≤ w_.heap.size ∧ Blk w_ g1 31 [.slice A_3 R1.length c_3, .slice A_4 Pl1.length c_4, .int .i64 en1, .int .i64 kd1] ∧ (i ≤ R1.length) ∧ R1.length - i = m_) (R1.length - 0) ?_ ?_
    · exact ⟨_, 0, Ac_frg ⟨rfl, rfl, rfl, (agr rfl (by first | rfl | (congr 1; omega) | (congr 1; simp; done) | (congr 1; simp only [IntKind.wrap_u64, IntKind.wrap_i64, IntKind.wrap_u8]; omega) | (congr 1 <;> omega))), trivial⟩, hB, hS1, ho1, hlo1, ho2, hlo2, ho3, hDY1, ho4, hlo3, hb2, (by omega), rfl⟩
    · clear hB
      clear hS1 ho1 hlo1 ho2 hlo2 ho3 hDY1 ho4 hlo3 hb2
      rintro m_ a_ w7 ⟨σ_, i, rfl, hB, hS1, ho1, hlo1, ho2, hlo2, ho3, hDY1, ho4, hlo3, hb2, hi, rfl⟩
      refine C_seq (C_seq (C_reg rfl ?_))
      refine L_run (R_move rfl) rfl ?_
      refine L_run (R_field (r := 0) rfl fld31_0 rfl) rfl ?_
      refine L_run (R_load1 rfl scl28 (hb2.cell (i := 0) rfl)) rfl ?_
      refine L_run (R_lenSl rfl slc28) rfl ?_
      refine L_run (R_lss rfl rfl) rfl ?_
      refine L_nil (N_then ?_)
      refine C_if rfl (fun h2 => ?_) (fun h2 => ?_)
      · refine C_skip (N_then (C_seq (C_block (C_seq (C_reg rfl ?_)))))
        refine L_run (R_move rfl) rfl ?_
        refine L_run (R_move rfl) rfl ?_
        refine L_run (R_field (r := 1) rfl fld31_1 rfl) rfl ?_
        refine L_run (R_load1 rfl scl29 (hb2.cell (i := 1) rfl)) rfl ?_
        refine L_run (R_move rfl) rfl ?_
        have hl1 : i < Pl1.length := (by have h_ := hG1.1; omega)
        refine T_index (xs := Pl1) (i := i) EncZ rfl rfl (by first | rfl | omega) slc29 hl1 (own_of ho4).2.2 rfl ?_
        intro g2 o1 ha1
        refine L_run (R_load1 rfl scl3 (ha1 0 _ rfl)) rfl ?_
        obtain ⟨en2, hen1⟩ := GoodR.get (i := i) hG1 (by omega) (by have h_ := hG1.1; omega)
        have ge5 : w.heap.size ≤ w7.heap.size := hB.size
        refine L_call rfl cb5 (from_good (e := n) (ss := xs1) (z := Pl1[i]) hS1 (by first | omega | (simp; done) | (simp; omega)) (hT.gb hB) hen1) rfl ?_
        rintro _ w8 ⟨hs7, A_5, c_5, rfl, ho5⟩
        replace hB := gb_tr hB hs7
        replace hS1 := hS1.gb hs7
        replace ho1 := own_gb ho1 hs7
        replace hlo1 := Nat.le_trans hlo1 hs7.size
        replace ho2 := own_gb ho2 hs7
        replace hlo2 := Nat.le_trans hlo2 hs7.size
        replace ho3 := own_gb ho3 hs7
        replace hDY1 := hDY1.gb hs7
        replace ho4 := own_gb ho4 hs7
        replace hlo3 := Nat.le_trans hlo3 hs7.size
        replace hb2 := hb2.gb hs7
        replace ha1 := At.gb ha1 hs7 (by simp)
        have hlo4 : w7.heap.size ≤ w8.heap.size := hs7.size
        refine L_run (R_move rfl) rfl ?_
        refine L_run (R_extract rfl rfl) rfl ?_
        refine L_run (R_extract rfl rfl) rfl ?_
        refine L_run (R_extract rfl rfl) rfl ?_
        refine L_run (R_assign rfl) rfl ?_
        refine L_run (R_assign rfl) rfl ?_
        refine L_run (R_assign rfl) rfl ?_
        refine L_nil (N_then (C_seq ?_))
        refine C_draw2 rfl mix ?_
        intro w9 hs8 hz3
        replace hB := gb_tr hB hs8
        replace hS1 := hS1.gb hs8
        replace ho1 := own_gb ho1 hs8
        replace hlo1 := Nat.le_trans hlo1 hs8.size
        replace ho2 := own_gb ho2 hs8
        replace hlo2 := Nat.le_trans hlo2 hs8.size
        replace ho3 := own_gb ho3 hs8
        replace hDY1 := hDY1.gb hs8
        replace ho4 := own_gb ho4 hs8
        replace hlo3 := Nat.le_trans hlo3 hs8.size
        replace hb2 := hb2.gb hs8
        replace ha1 := At.gb ha1 hs8 (by simp)
        replace ho5 := own_gb ho5 hs8
        replace hlo4 := Nat.le_trans hlo4 hs8.size
        have hl2 : i < R1.length := by first | omega | (simp; omega)
        obtain ⟨g3, o2, r1, eA1, er1, ha2⟩ := Sli.place' (xs := R1) (i := i) EncY (own_of ho3).2.2 hl2 rfl
        refine ⟨fun W_ => DeepY 5 W_ R1 ∧ Blk W_ g1 31 [.slice A_3 R1.length c_3, .slice A_4 Pl1.length c_4, .int .i64 en1, .int .i64 kd1] ∧ World.ownsRow W_ w7.heap.size 5 1 (.slice A_5 ((R1[i]).xs).length c_5) ((R1[i]).xs).length (fl encB ((R1[i]).xs)) ∧ At W_ g3 r1 [.slice ((R1[i]).a) ((R1[i]).xs.length) ((R1[i]).c)] ∧ True, [0, 1, 2, 3, 4, 5, 6, 7, 8, 9, 10, 11, 12], ?_⟩
        refine T_takeA (i := 0) rfl rfl (by kernel_rfl) (by kernel_rfl) (by kernel_rfl) (Y_of (fun _ ⟨hDY1, hb2, ho5, ha2, _⟩ => R_move rfl)) ⟨hDY1, hb2, ho5, ha2, trivial⟩ rfl ?_
        refine T_takeA (i := 1) rfl rfl (by kernel_rfl) (by kernel_rfl) (by kernel_rfl) (Y_of (fun _ ⟨hDY1, hb2, ho5, ha2, _⟩ => R_not rfl)) ⟨hDY1, hb2, ho5, ha2, trivial⟩ rfl ?_
        refine T_takeA (i := 2) rfl rfl (by kernel_rfl) (by kernel_rfl) (by kernel_rfl) (Y_of (fun _ ⟨hDY1, hb2, ho5, ha2, _⟩ => R_move rfl)) ⟨hDY1, hb2, ho5, ha2, trivial⟩ rfl ?_
        refine T_takeA (i := 3) rfl rfl (by kernel_rfl) (by kernel_rfl) (by kernel_rfl) (Y_yes rfl rfl rfl rfl (fun _ ⟨hDY1, hb2, ho5, ha2, _⟩ => R_move rfl)) ⟨hDY1, hb2, ho5, ha2, trivial⟩ rfl ?_
        refine T_takeA (i := 4) rfl rfl (by kernel_rfl) (by kernel_rfl) (by kernel_rfl) (Y_yes rfl rfl rfl rfl (fun _ ⟨hDY1, hb2, ho5, ha2, _⟩ => R_b2s' (bs := (R1[i]).xs) rfl slc25 int5 str9 (own_of ho5).2.2)) ⟨hDY1, hb2, ho5, ha2, trivial⟩ rfl ?_
        refine T_takeA (i := 5) rfl rfl (by kernel_rfl) (by kernel_rfl) (by kernel_rfl) (Y_yes rfl rfl rfl rfl (fun _ ⟨hDY1, hb2, ho5, ha2, _⟩ => R_field (r := 0) rfl fld31_0 rfl)) ⟨hDY1, hb2, ho5, ha2, trivial⟩ rfl ?_
        refine T_takeA (i := 6) rfl rfl (by kernel_rfl) (by kernel_rfl) (by kernel_rfl) (Y_yes rfl rfl rfl rfl (fun _ ⟨hDY1, hb2, ho5, ha2, _⟩ => R_load1 rfl scl28 (hb2.cell (i := 0) rfl))) ⟨hDY1, hb2, ho5, ha2, trivial⟩ rfl ?_
        refine T_takeA (i := 7) rfl rfl (by kernel_rfl) (by kernel_rfl) (by kernel_rfl) (Y_yes rfl rfl rfl rfl (fun _ ⟨hDY1, hb2, ho5, ha2, _⟩ => R_move rfl)) ⟨hDY1, hb2, ho5, ha2, trivial⟩ rfl ?_
        refine T_takeA (i := 8) rfl rfl (by kernel_rfl) (by kernel_rfl) (by kernel_rfl) (Y_yes rfl rfl rfl rfl (fun _ ⟨hDY1, hb2, ho5, ha2, _⟩ => R_indexE rfl rfl (by first | rfl | omega) slc28 hl2 eA1 er1)) ⟨hDY1, hb2, ho5, ha2, trivial⟩ rfl ?_
        refine T_takeA (i := 9) rfl rfl (by kernel_rfl) (by kernel_rfl) (by kernel_rfl) (Y_yes rfl rfl rfl rfl (fun _ ⟨hDY1, hb2, ho5, ha2, _⟩ => R_load1 rfl scl25 (ha2 0 _ rfl))) ⟨hDY1, hb2, ho5, ha2, trivial⟩ rfl ?_
        refine T_takeA (i := 10) rfl rfl (by kernel_rfl) (by kernel_rfl) (by kernel_rfl) (Y_yes rfl rfl rfl rfl (fun _ ⟨hDY1, hb2, ho5, ha2, _⟩ => R_b2s' (bs := (R1[i]).xs) rfl slc25 int5 str9 (hDY1.get (i := i) (by first | assumption | omega | (simp; omega))))) ⟨hDY1, hb2, ho5, ha2, trivial⟩ rfl ?_
        refine T_takeA (i := 11) rfl rfl (by kernel_rfl) (by kernel_rfl) (by kernel_rfl) (Y_yes rfl rfl rfl rfl (fun _ ⟨hDY1, hb2, ho5, ha2, _⟩ => R_eqv (R_neqS rfl rfl) (v' := .bool false) (bF' (fun h => h rfl)))) ⟨hDY1, hb2, ho5, ha2, trivial⟩ rfl ?_
        refine T_takeA (i := 12) rfl rfl (by kernel_rfl) (by kernel_rfl) (by kernel_rfl) (Y_of (fun _ ⟨hDY1, hb2, ho5, ha2, _⟩ => R_pickF rfl rfl rfl)) ⟨hDY1, hb2, ho5, ha2, trivial⟩ rfl ?_
        refine T_done (by kernel_rfl) (CalmE.normal ?_)
        refine N_then (C_condF rfl rfl (C_skip (N_in (N_then (C_reg rfl ?_)))))
        refine L_run (R_move rfl) rfl ?_
        refine L_run (R_add64 rfl rfl (by omega)) rfl ?_
        refine L_run (R_assign rfl) rfl ?_
        refine L_nil (N_then ?_)
        exact ⟨R1.length - (i + 1), by omega, _, (i + 1), Ac_frg ⟨rfl, rfl, rfl, (agr rfl (by first | rfl | (congr 1; omega) | (congr 1; simp; done) | (congr 1; simp only [IntKind.wrap_u64, IntKind.wrap_i64, IntKind.wrap_u8]; omega) | (congr 1 <;> omega))), trivial⟩, hB, hS1, ho1, hlo1, ho2, hlo2, ho3, hDY1, ho4, hlo3, hb2, (by omega), rfl⟩
      · refine C_exit (X_then (X_then (X_hit (N_then (C_seq (C_reg rfl ?_))))))
        refine L_call rfl cb4 (awakeT (halfT hW hB)) rfl ?_
        rintro _ w10 ⟨hs9, rfl⟩
        replace hB := gb_tr hB hs9
        replace hS1 := hS1.gb hs9
        replace ho1 := own_gb ho1 hs9
        replace hlo1 := Nat.le_trans hlo1 hs9.size
        replace ho2 := own_gb ho2 hs9
        replace hlo2 := Nat.le_trans hlo2 hs9.size
        replace ho3 := own_gb ho3 hs9
        replace hDY1 := hDY1.gb hs9
        replace ho4 := own_gb ho4 hs9
        replace hlo3 := Nat.le_trans hlo3 hs9.size
        replace hb2 := hb2.gb hs9
        refine L_run (R_assign rfl) rfl ?_
        refine L_nil (N_then (C_ret ?_))
        refine ret1 Tryd.results3 rfl ?_
        exact ⟨hB, rfl⟩

theorem walk {w : World} (hW : ∃ T fz, w.heap[0]? = some (.cells tblV.toArray T fz)) {e0 : Int} (hg0 : (Lit.int .u64 e0).wf = true) {A1 : Option Addr} {c1 : Nat} {xs1 : List Sx} (hS1 : Sli 0 0 w.heap.size w A1 (fl encX xs1)) (hl1 : xs1.length ≤ c1) (hm1 : c1 * 64 ≤ 140737488351232) (hg1 : ∀ x ∈ xs1, True) {z : Int} (hg2 : (Lit.int .i64 z).wf = true) : Runs Tryd.prog 3 #[.int .u64 e0, .slice A1 xs1.length c1, .int .i64 z] w (fun v w' => w.grownBy w' none ∧ v = .bool true) := by
  obtain ⟨n, rfl, hn⟩ := wfu hg0
  exact walkN hW (Tbw.of hW) hn hS1 hl1 hm1 (wf64 hg2)
open Go.ChangeShapes Go.WideShapes Go.ChangeAt
theorem own : ownKnob Tryd.prog.godebug = none := by kernel_rfl
theorem laidOut : laidOutB Tryd.prog = true := by kernel_rfl
theorem door_met (os : Os) (args : Array Value) : laidMetH Tryd.prog Rows.readerFromRow.laid ((World.doorLaid Tryd.prog 14 os).forCall (fun _ _ => 0) ⟨#[], args, []⟩).memory :=
  laidMetH_of_parts3 (fuel := 8) (laidMet_of_run' 8 (by kernel_rfl) (by kernel_rfl)) (by kernel_rfl) (by kernel_rfl)
set_option maxRecDepth 100000 in
theorem lifted (os : Os) (started : os.Started) (H : Type) (enc : TypeId × Value → H) :
    ReturnsInHanded {} Tryd.checked os 3 .any (fun w args => (Rows.readerFromSpec.pre enc Tryd.prog Tryd.f3 [] false w args ∧ laidMetH Tryd.prog Rows.readerFromRow.laid w) ∧ sizedMet enc Tryd.prog Tryd.f3 (OpenSpec.ofChange Rows.readerFromSpec) false w args) (Rows.readerFromSpec.post enc Tryd.prog Tryd.f3 false true false false) := by
  refine returnsInHanded_of_change_and (C := Tryd.checked) (X := fun w _ => laidMetH Tryd.prog Rows.readerFromRow.laid w) (fun _ _ _ hh h => h.of_heap hh) own started (by kernel_rfl) Tryd.func3
    (ChangeSpec.witness_shaped (enc := enc) (C := Tryd.checked) (os := os) (X := fun w _ => laidMetH Tryd.prog Rows.readerFromRow.laid w) false (World.doorLaid Tryd.prog 14 os) #[.int .u64 0, .slice none 0 0, .int .i64 0] 8 rfl (World.shaped_of_RefB (by kernel_rfl) (by kernel_rfl)) (by kernel_rfl) (by kernel_rfl) (by kernel_rfl) (door_met os _)) ?_
  intro W base args ds gs before hval0 hW hcnd hsz0 hL _
  have hsz : (DataW.weightsEach Tryd.prog (Tryd.f3.params.toList ++ Rows.readerFromSpec.plain.varTypes Tryd.prog) (ds ++ gs)).all (· ≤ reachBytes) = true := hsz0
  have hval : ∀ (j : Nat) t v, Tryd.f3.params[j]? = some t → args[j]? = some v → Value.okWide Tryd.prog W .any base t v := hval0
  have hW' := hW
  obtain ⟨p, q, hA0, hV, rfl, hfz, hnd⟩ := hW
  have hA : DataW.TrodAll enc Tryd.prog W 0 (fun _ => true) true Tryd.f3.params.toList args.toList ds p := hA0
  rw [Tryd.params3] at hA hval hsz
  obtain ⟨v0, vs0, d0, ds0, p0, q0, hargs, rfl, rfl, h0, r0⟩ := trodAll_cons hA
  obtain ⟨v1, vs1, d1, ds1, p1, q1, rfl, rfl, rfl, h1, r1⟩ := trodAll_cons r0
  obtain ⟨v2, vs2, d2, ds2, p2, q2, rfl, rfl, rfl, h2, r2⟩ := trodAll_cons r1
  obtain ⟨rfl, rfl, rfl⟩ := trodAll_nil r2
  obtain rfl : args = #[v0, v1, v2] := by cases args; simp_all
  obtain ⟨rfl, rfl⟩ := trodVars_none hV
  have lt0 : ∀ x ∈ p0, x.block < W.heap.size := by obtain ⟨m, hm⟩ := h0; exact DataW.trod_lt m _ _ _ hm
  obtain ⟨e0, e0, hg0⟩ := Rdr.arg (enc := enc) (P := Tryd.prog) (W := W) (Rdr.int Tryd.underlying22) hsz (j := 0) rfl rfl h0
  obtain rfl := of_cell e0 (by intro cs e_; obtain ⟨a_, e2_⟩ := okWide_int Tryd.underlying22 (hval 0 22 v0 rfl rfl); rw [e2_] at e_; cases e_)
  have lt1 : ∀ x ∈ p1, x.block < W.heap.size := by obtain ⟨m, hm⟩ := h1; exact DataW.trod_lt m _ _ _ hm
  obtain ⟨⟨A1, c1, xs1⟩, e1, hS1, hl1, hm1, hg1⟩ := Rdr.arg (enc := enc) (P := Tryd.prog) (W := W) (Rdr.slice (ec := encX) (sz := 64) (by_ := 64) (Rdr.arrB Tryd.underlying70 Tryd.underlying5 (by kernel_rfl) (by kernel_rfl)) EncX Tryd.underlying23 (by kernel_rfl) (by kernel_rfl)) hsz (j := 1) rfl rfl h1
  obtain rfl := of_cell e1 (by intro cs e_; obtain ⟨a_, l_, k_, e2_⟩ := okWide_slice Tryd.underlying23 (hval 1 23 v1 rfl rfl); rw [e2_] at e_; cases e_)
  have lt2 : ∀ x ∈ p2, x.block < W.heap.size := by obtain ⟨m, hm⟩ := h2; exact DataW.trod_lt m _ _ _ hm
  obtain ⟨z, e2, hg2⟩ := Rdr.arg (enc := enc) (P := Tryd.prog) (W := W) (Rdr.int Tryd.underlying3) hsz (j := 2) rfl rfl h2
  obtain rfl := of_cell e2 (by intro cs e_; obtain ⟨a_, e2_⟩ := okWide_int Tryd.underlying3 (hval 2 3 v2 rfl rfl); rw [e2_] at e_; cases e_)
  refine (walk (w := W) (half_laid hL) hg0 hS1 hl1 hm1 hg1 hg2).calls.mono fun e W' ⟨v_, he, hgb, hv_⟩ => ?_
  subst he
  subst hv_
  have bel := gb_below hgb
  exact ⟨_, rfl, _, _, _, [], _, [], hW', trodAll_mk1 (shut_bool Tryd.underlying4 _), (trodAll_cons_mk (Below.trod laidOut (by kernel_rfl) (of_decide_eq_true (by kernel_rfl)) h0 bel lt0) (trodAll_cons_mk (Below.trod laidOut (by kernel_rfl) (of_decide_eq_true (by kernel_rfl)) h1 bel lt1) (trodAll_cons_mk (Below.trod laidOut (by kernel_rfl) (of_decide_eq_true (by kernel_rfl)) h2 bel lt2) trodAll_mk0))), rfl, bel.frame _, fun h => by cases h⟩
theorem over : Rows.readerFromRow.holds Tryd.pinned (OpenSpec.ofChange Rows.readerFromSpec) :=
  OpenClaim.holds_of_wide 3 Tryd.f3 rfl rfl rfl rfl rfl rfl rfl ⟨rfl, rfl, rfl, rfl, rfl⟩ rfl rfl rfl rfl rfl (by kernel_rfl) Tryd.func3 (by kernel_rfl)
    (of_decide_eq_true (by kernel_rfl)) (by unfold Func.isWrapper; first | (rw [if_pos (by decide +kernel)]; kernel_rfl) | (rw [if_neg (by decide +kernel)]; exact ⟨rfl, rfl⟩))
    (fun os started H enc _ => lifted os started H enc)
/-- The given statement. -/
theorem proved : Rows.ReaderFromCardSaid :=
  Claim7.holds_tied_plain_at .later [] [.data] true (true, "c09d75e93caed79d573c303d92b63424dc27b585ceadbf905cd6c5c7141731ac") false
    over (fun _ h => by cases h) (by kernel_rfl) (fun _ h => by cases h) readerFrom_row_tie rfl ⟨rfl, rfl⟩ (by kernel_rfl) rfl
    (fun f fn hf hfn => by
      obtain rfl : f = 3 := Option.some.inj ((show Tryd.prog.funcNamed "strandline/strandlinelaw24.ReaderFrom" = some 3 by kernel_rfl).symm.trans hf) |>.symm
      obtain rfl : fn = Tryd.f3 := (Option.some.inj (Tryd.func3.symm.trans hfn)).symm
      exact ⟨by kernel_rfl, fun j t ht => by
        rw [Tryd.params3] at ht
        have hm : t ∈ [22, 23, 3] := by simpa using Array.mem_of_getElem? ht
        have hall : ([22, 23, 3].all fun u => !Tryd.prog.wantsStandIn u) = true := by kernel_rfl
        exact (show Tryd.prog.wantsStandIn t = false by simpa using List.all_eq_true.1 hall t hm)⟩)
    (by kernel_rfl)
#print axioms proved

end Go.Proofs.YtnggbodilhpohaaDoor.LReaderFrom
