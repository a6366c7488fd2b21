/-
  Contracts of the package stamp: sectors read and opened.
-/
import Derived.Test.YtnggbodilhpohaaDoorSd
namespace Go.Proofs.YtnggbodilhpohaaDoor
open Go.RowKit Gw Pl
set_option linter.unusedVariables false
set_option linter.unusedSimpArgs false
theorem any41 : anyB Tryd.prog 41 = true := by kernel_rfl
theorem cb36 : callB Tryd.prog 36 = true := by kernel_rfl
theorem cb47 : callB Tryd.prog 47 = true := by kernel_rfl
theorem int41 : intB Tryd.prog 41 .u32 = true := by kernel_rfl
theorem conv3 {n : Nat} (h : n < 4294967296) : Value.int .i64 (IntKind.i64.wrap (n : Int)) = .int .i64 (n : Int) := by
  refine congrArg (Value.int .i64) ?_
  rw [IntKind.wrap_i64]
  omega
theorem spl_all {X Y : List UInt8} {n : Nat} (hx : X.length = n) (hy : Y.length = n) : spl X 0 (Y.take n) = Y := by
  unfold spl
  rw [List.take_of_length_le (by omega : Y.length ≤ n), List.take_zero, List.drop_of_length_le (by omega)]
  simp
theorem get4_lt {s : List UInt8} : getN ((((s.drop 8).take 4)).take 8) < 4294967296 := by
  have h := getN_lt (((s.drop 8).take 4).take 8)
  have h2 : (((s.drop 8).take 4).take 8).length ≤ 4 := by rw [List.length_take, List.length_take]; omega
  have h3 : 256 ^ (((s.drop 8).take 4).take 8).length ≤ 256 ^ 4 := Nat.pow_le_pow_right (by omega) h2
  omega
theorem take48 {s : List UInt8} : ((s.drop 8).take 4).take 8 = (s.drop 8).take 4 := by rw [List.take_take]; rfl
theorem take88 {s : List UInt8} : (s.take 8).take 8 = s.take 8 := by rw [List.take_take]; rfl
theorem read_ok {w : World} {s : List UInt8} (hs : s.length = 64) :
    Runs Tryd.prog 47 #[.agg (fl encB s).toArray] w (fun v w' => w.grownBy w' none ∧ ∃ g, w.heap.size ≤ g ∧ v = .tuple #[.int .u64 ((getN (s.take 8) : Nat) : Int), .int .i64 ((getN ((s.drop 8).take 4) : Nat) : Int), .slice (some ⟨g, 0, none⟩) (s.drop 12).length 52] ∧ Blk w' g 5 (fl encB (s.drop 12))) := by
  have hB := gb_refl w none
  refine enter Tryd.func47 Tryd.ntmps47 rfl rfl ?_
  refine C_seq (C_reg rfl ?_)
  refine L_box (cs := fl encB s) rfl rfl rfl ?_
  intro g1 w1 eg1 hb1 hs1 hz1
  have ge1 : w.heap.size ≤ g1 := eg_ge hB eg1
  replace hB := gb_tr hB hs1
  refine L_run (R_assign rfl) rfl ?_
  refine L_run (R_assign rfl) rfl ?_
  refine L_run (R_assign rfl) rfl ?_
  refine L_nil (N_then (C_seq (C_reg rfl ?_)))
  refine L_make (enc := encB) (m := 52) (x0 := (0 : UInt8)) slc25 zer5 rfl rfl rfl EncB (by omega) (by omega) rfl ?_
  intro g2 w2 eg2 hb2 hs2 hz2
  have ge2 : w.heap.size ≤ g2 := eg_ge hB eg2
  have lt1 : g1 < g2 := lt_of_eg hb1.lt eg2
  replace hB := gb_tr hB hs2
  replace hb1 := hb1.gb hs2
  refine L_run (R_assign rfl) rfl ?_
  refine L_nil (N_then (C_seq (C_reg rfl ?_)))
  refine L_run (R_move rfl) rfl ?_
  refine T_slArr (bs := s) (i := 12) rfl rfl (by first | rfl | omega) arr70 (by omega) hb1 (by first | omega | (simp; omega)) rfl ?_
  intro A_1 hS_1
  refine T_copy (xs := (List.replicate 52 (0 : UInt8))) (ys := s.drop 12) (o := 0) (m := 52) EncB slc25 rfl rfl hb2 (fun _ => rfl) (by rw [List.length_replicate]; first | omega | (simp; omega)) hS_1 rfl ?_
  intro w3 hb3 hs3 hz3
  replace hB := gb_trg hB hs3 ge2
  replace hb1 := hb1.grown hs3 (ne_lt lt1)
  replace hS_1 := hS_1.grown hs3 (by rintro _ ⟨rfl⟩; omega)
  refine L_nil (N_then (C_seq ?_))
  refine C_join (fun a_ w_ => (∃ (σ_ : Nat → Value), a_ = Ac 16 σ_ [] [(0, .agg (fl encB s).toArray), (1, .pointer (some ⟨g1, 0, none⟩)), (2, .int .u64 ((getN ((s.take 8).take 8) : Nat) : Int)), (3, .int .i64 ((getN (((s.drop 8).take 4).take 8) : Nat) : Int)), (4, .slice (some ⟨g2, 0, none⟩) 52 52), (5, .slice (some ⟨g2, 0, none⟩) 52 52), (6, .slice (some ⟨g2, 0, none⟩) 52 52), (7, .slice (some ⟨g2, 0, none⟩) 52 52), (8, .slice A_1 ((s.drop 12).length) (64 - 12))] ∧ w.grownBy w_ none ∧ Blk w_ g1 70 (fl encB s) ∧ Blk w_ g2 5 (fl encB (spl (List.replicate 52 (0 : UInt8)) 0 ((s.drop 12).take 52))) ∧ Sli 0 g1 (g1 + 1) w_ A_1 (fl encB (s.drop 12)))) ?_ ?_
  · refine C_draw2 rfl mix ?_
    intro w4 hs4 hz4
    replace hB := gb_tr hB hs4
    replace hb1 := hb1.gb hs4
    replace hb3 := hb3.gb hs4
    replace hS_1 := hS_1.gb hs4
    refine ⟨fun W_ => True, [4, 5, 6, 7, 8], ?_⟩
    refine T_takeA (i := 5) rfl rfl (by kernel_rfl) (by kernel_rfl) (by kernel_rfl) (Y_of (fun _ _ => R_move rfl)) trivial rfl ?_
    refine T_all (rs := [0, 2]) (by kernel_rfl) rfl (all2 (O_one rfl ?_) (O_one rfl ?_))
    · refine T_slArrG (bs := s) (i := 0) (j := 8) (k := .i64) (k' := .i64) (a := 0) (b := 0) EncB arr70 rfl hb1 hs (by omega) (by omega) rfl rfl ⟨_, rfl⟩ ?_
      intro A_2 hS_2
      have e_ : (s.drop 0).take (8 - 0) = s.take 8 := rfl
      rw [e_] at hS_2 ⊢; clear e_
      refine L_nil (N_then ⟨fun hN_ => trivial, ?_⟩)
      refine T_all (rs := [1, 2]) (by kernel_rfl) rfl (all2 (O_one rfl ?_) (O_one rfl ?_))
      · refine L_call rfl cb36 (word_get (bs := s.take 8) hS_2 (by first | omega | (simp; done) | (simp; omega))) rfl ?_
        rintro _ w5 ⟨hs5, rfl⟩
        replace hB := gb_tr hB hs5
        replace hb1 := hb1.gb hs5
        replace hb3 := hb3.gb hs5
        replace hS_1 := hS_1.gb hs5
        replace hS_2 := hS_2.gb hs5
        refine L_nil (N_then ⟨fun hN_ => trivial, ?_⟩)
        refine T_all (rs := [2]) (by kernel_rfl) rfl (all1 (O_one rfl ?_))
        refine T_slArrG (bs := s) (i := 8) (j := 12) (k := .i64) (k' := .i64) (a := 0) (b := 0) EncB arr70 rfl hb1 hs (by omega) (by omega) rfl ⟨_, rfl⟩ ⟨_, rfl⟩ ?_
        intro A_3 hS_3
        have e_ : (s.drop 8).take (12 - 8) = (s.drop 8).take 4 := rfl
        rw [e_] at hS_3 ⊢; clear e_
        refine L_nil (N_then ⟨fun hN_ => trivial, ?_⟩)
        refine T_all (rs := [3]) (by kernel_rfl) rfl (all1 (O_one rfl ?_))
        refine L_call rfl cb36 (word_get (bs := (s.drop 8).take 4) hS_3 (by first | omega | (simp; done) | (simp; omega))) rfl ?_
        rintro _ w6 ⟨hs6, rfl⟩
        replace hB := gb_tr hB hs6
        replace hb1 := hb1.gb hs6
        replace hb3 := hb3.gb hs6
        replace hS_1 := hS_1.gb hs6
        replace hS_2 := hS_2.gb hs6
        replace hS_3 := hS_3.gb hs6
        refine L_nil (N_then ⟨fun hN_ => trivial, ?_⟩)
        refine T_takeA (i := 4) rfl rfl (by kernel_rfl) (by kernel_rfl) (by kernel_rfl) (Y_of (fun _ _ => R_eqv (R_conv rfl any22 int3) (v' := .int .i64 ((getN (((s.drop 8).take 4).take 8) : Nat) : Int)) (conv3 get4_lt))) trivial rfl ?_
        refine T_takeA (i := 6) rfl rfl (by kernel_rfl) (by kernel_rfl) (by kernel_rfl) (Y_of (fun _ _ => R_assign rfl)) trivial rfl ?_
        refine T_takeA (i := 7) rfl rfl (by kernel_rfl) (by kernel_rfl) (by kernel_rfl) (Y_of (fun _ _ => R_assign rfl)) trivial rfl ?_
        refine T_takeA (i := 8) rfl rfl (by kernel_rfl) (by kernel_rfl) (by kernel_rfl) (Y_of (fun _ _ => R_assign rfl)) trivial rfl ?_
        refine T_done (by kernel_rfl) (CalmE.normal ?_)
        exact ⟨rfl, ⟨_, Ac_frg ⟨rfl, rfl, rfl, rfl, rfl, rfl, rfl, rfl, rfl, trivial⟩, hB, hb1, hb3, hS_1⟩⟩
      · refine T_slArrG (bs := s) (i := 8) (j := 12) (k := .i64) (k' := .i64) (a := 0) (b := 0) EncB arr70 rfl hb1 hs (by omega) (by omega) rfl ⟨_, rfl⟩ ⟨_, rfl⟩ ?_
        intro A_4 hS_4
        have e_ : (s.drop 8).take (12 - 8) = (s.drop 8).take 4 := rfl
        rw [e_] at hS_4 ⊢; clear e_
        refine L_nil (N_then ⟨fun hN_ => trivial, ?_⟩)
        refine T_all (rs := [1]) (by kernel_rfl) rfl (all1 (O_one rfl ?_))
        refine L_call rfl cb36 (word_get (bs := s.take 8) hS_2 (by first | omega | (simp; done) | (simp; omega))) rfl ?_
        rintro _ w7 ⟨hs7, rfl⟩
        replace hB := gb_tr hB hs7
        replace hb1 := hb1.gb hs7
        replace hb3 := hb3.gb hs7
        replace hS_1 := hS_1.gb hs7
        replace hS_2 := hS_2.gb hs7
        replace hS_4 := hS_4.gb hs7
        refine L_nil (N_then ⟨fun hN_ => trivial, ?_⟩)
        refine T_all (rs := [3]) (by kernel_rfl) rfl (all1 (O_one rfl ?_))
        refine L_call rfl cb36 (word_get (bs := (s.drop 8).take 4) hS_4 (by first | omega | (simp; done) | (simp; omega))) rfl ?_
        rintro _ w8 ⟨hs8, rfl⟩
        replace hB := gb_tr hB hs8
        replace hb1 := hb1.gb hs8
        replace hb3 := hb3.gb hs8
        replace hS_1 := hS_1.gb hs8
        replace hS_2 := hS_2.gb hs8
        replace hS_4 := hS_4.gb hs8
        refine L_nil (N_then ⟨fun hN_ => trivial, ?_⟩)
        refine T_takeA (i := 4) rfl rfl (by kernel_rfl) (by kernel_rfl) (by kernel_rfl) (Y_of (fun _ _ => R_eqv (R_conv rfl any22 int3) (v' := .int .i64 ((getN (((s.drop 8).take 4).take 8) : Nat) : Int)) (conv3 get4_lt))) trivial rfl ?_
        refine T_takeA (i := 6) rfl rfl (by kernel_rfl) (by kernel_rfl) (by kernel_rfl) (Y_of (fun _ _ => R_assign rfl)) trivial rfl ?_
        refine T_takeA (i := 7) rfl rfl (by kernel_rfl) (by kernel_rfl) (by kernel_rfl) (Y_of (fun _ _ => R_assign rfl)) trivial rfl ?_
        refine T_takeA (i := 8) rfl rfl (by kernel_rfl) (by kernel_rfl) (by kernel_rfl) (Y_of (fun _ _ => R_assign rfl)) trivial rfl ?_
        refine T_done (by kernel_rfl) (CalmE.normal ?_)
        exact ⟨rfl, ⟨_, Ac_frg ⟨rfl, rfl, rfl, rfl, rfl, rfl, rfl, rfl, rfl, trivial⟩, hB, hb1, hb3, hS_1⟩⟩
    · refine T_slArrG (bs := s) (i := 8) (j := 12) (k := .i64) (k' := .i64) (a := 0) (b := 0) EncB arr70 rfl hb1 hs (by omega) (by omega) rfl ⟨_, rfl⟩ ⟨_, rfl⟩ ?_
      intro A_5 hS_5
      have e_ : (s.drop 8).take (12 - 8) = (s.drop 8).take 4 := rfl
      rw [e_] at hS_5 ⊢; clear e_
      refine L_nil (N_then ⟨fun hN_ => trivial, ?_⟩)
      refine T_all (rs := [0]) (by kernel_rfl) rfl (all1 (O_one rfl ?_))
      refine T_slArrG (bs := s) (i := 0) (j := 8) (k := .i64) (k' := .i64) (a := 0) (b := 0) EncB arr70 rfl hb1 hs (by omega) (by omega) rfl rfl ⟨_, rfl⟩ ?_
      intro A_6 hS_6
      have e_ : (s.drop 0).take (8 - 0) = s.take 8 := rfl
      rw [e_] at hS_6 ⊢; clear e_
      refine L_nil (N_then ⟨fun hN_ => trivial, ?_⟩)
      refine T_all (rs := [1]) (by kernel_rfl) rfl (all1 (O_one rfl ?_))
      refine L_call rfl cb36 (word_get (bs := s.take 8) hS_6 (by first | omega | (simp; done) | (simp; omega))) rfl ?_
      rintro _ w9 ⟨hs9, rfl⟩
      replace hB := gb_tr hB hs9
      replace hb1 := hb1.gb hs9
      replace hb3 := hb3.gb hs9
      replace hS_1 := hS_1.gb hs9
      replace hS_5 := hS_5.gb hs9
      replace hS_6 := hS_6.gb hs9
      refine L_nil (N_then ⟨fun hN_ => trivial, ?_⟩)
      refine T_all (rs := [3]) (by kernel_rfl) rfl (all1 (O_one rfl ?_))
      refine L_call rfl cb36 (word_get (bs := (s.drop 8).take 4) hS_5 (by first | omega | (simp; done) | (simp; omega))) rfl ?_
      rintro _ w10 ⟨hs10, rfl⟩
      replace hB := gb_tr hB hs10
      replace hb1 := hb1.gb hs10
      replace hb3 := hb3.gb hs10
      replace hS_1 := hS_1.gb hs10
      replace hS_5 := hS_5.gb hs10
      replace hS_6 := hS_6.gb hs10
      refine L_nil (N_then ⟨fun hN_ => trivial, ?_⟩)
      refine T_takeA (i := 4) rfl rfl (by kernel_rfl) (by kernel_rfl) (by kernel_rfl) (Y_of (fun _ _ => R_eqv (R_conv rfl any22 int3) (v' := .int .i64 ((getN (((s.drop 8).take 4).take 8) : Nat) : Int)) (conv3 get4_lt))) trivial rfl ?_
      refine T_takeA (i := 6) rfl rfl (by kernel_rfl) (by kernel_rfl) (by kernel_rfl) (Y_of (fun _ _ => R_assign rfl)) trivial rfl ?_
      refine T_takeA (i := 7) rfl rfl (by kernel_rfl) (by kernel_rfl) (by kernel_rfl) (Y_of (fun _ _ => R_assign rfl)) trivial rfl ?_
      refine T_takeA (i := 8) rfl rfl (by kernel_rfl) (by kernel_rfl) (by kernel_rfl) (Y_of (fun _ _ => R_assign rfl)) trivial rfl ?_
      refine T_done (by kernel_rfl) (CalmE.normal ?_)
      exact ⟨rfl, ⟨_, Ac_frg ⟨rfl, rfl, rfl, rfl, rfl, rfl, rfl, rfl, rfl, trivial⟩, hB, hb1, hb3, hS_1⟩⟩
  · clear hB
    clear hb1 hb3 hS_1
    rintro a_ w11 ⟨σ_, rfl, hB, hb1, hb3, hS_1⟩
    refine N_then (C_ret ?_)
    refine ret3 Tryd.results47 rfl rfl rfl ?_
    rw [spl_all List.length_replicate (by rw [List.length_drop, hs])] at hb3
    refine ⟨hB, g2, ge2, ?_, hb3⟩
    rw [take88, take48, show (s.drop 12).length = 52 by rw [List.length_drop, hs]]

theorem open_y {w : World} {s : List UInt8} {e i : Nat} (hs : s.length = 64) (he : e < 18446744073709551616) (hi4 : i < 4294967296) (hq : getN (s.take 8) = e ∧ getN ((s.drop 8).take 4) = i) :
    Runs Tryd.prog 34 #[.agg (fl encB s).toArray, .int .u64 (e : Int), .int .i64 (i : Int)] w (fun v w' => w.grownBy w' none ∧ ∃ g, w.heap.size ≤ g ∧ v = .tuple #[.slice (some ⟨g, 0, none⟩) (s.drop 12).length 52, .bool true] ∧ Blk w' g 5 (fl encB (s.drop 12))) := by
  have hB := gb_refl w none
  refine enter Tryd.func34 Tryd.ntmps34 rfl rfl ?_
  refine C_seq (C_reg rfl ?_)
  refine L_box (cs := fl encB s) rfl rfl rfl ?_
  intro g1 w1 eg1 hb1 hs1 hz1
  have ge1 : w.heap.size ≤ g1 := eg_ge hB eg1
  replace hB := gb_tr hB hs1
  refine L_run (R_assign rfl) rfl ?_
  refine L_run (R_assign rfl) rfl ?_
  refine L_nil (N_then (C_seq (C_reg rfl ?_)))
  refine L_run (R_loadA (vs := fl encB s) rfl agg70 (hb1.at_ 0) (flB_lenE hs)) rfl ?_
  have ge2 : w.heap.size ≤ w1.heap.size := hB.size
  refine L_call rfl cb47 (read_ok (s := s) hs) rfl ?_
  rintro _ w2 ⟨hs2, g2, hg1, rfl, hb2⟩
  have lt1 : g1 < g2 := Nat.lt_of_lt_of_le hb1.lt hg1
  replace hB := gb_tr hB hs2
  replace hb1 := hb1.gb hs2
  refine L_run (R_move rfl) rfl ?_
  refine L_run (R_extract rfl rfl) rfl ?_
  refine L_run (R_extract rfl rfl) rfl ?_
  refine L_run (R_extract rfl rfl) rfl ?_
  refine L_run (R_assign rfl) rfl ?_
  refine L_run (R_assign rfl) rfl ?_
  refine L_run (R_assign rfl) rfl ?_
  refine L_nil (N_then (C_seq (C_seq (C_reg rfl ?_))))
  refine L_run (R_move rfl) rfl ?_
  refine L_run (R_move rfl) rfl ?_
  refine L_run (R_neq rfl rfl) rfl ?_
  refine L_run (R_move rfl) rfl ?_
  refine L_yes rfl rfl rfl (decide_eq_false (by omega)) ?_
  refine L_run (R_move rfl) rfl ?_
  refine L_yes rfl rfl rfl (decide_eq_false (by omega)) ?_
  refine L_run (R_move rfl) rfl ?_
  refine L_yes rfl rfl rfl (decide_eq_false (by omega)) ?_
  refine L_run (R_eqv (R_conv rfl any3 int41) (v' := .int .u32 (i : Int)) (congrArg _ (by rw [IntKind.wrap_u32]; omega))) rfl ?_
  refine L_yes rfl rfl rfl (decide_eq_false (by omega)) ?_
  refine L_run (R_eqv (R_conv rfl any41 int3) (v' := .int .i64 (i : Int)) (conv3 hi4)) rfl ?_
  refine L_yes rfl rfl rfl (decide_eq_false (by omega)) ?_
  refine L_run (R_neq rfl rfl) rfl ?_
  refine L_run (R_pickF rfl (decide_eq_false (by omega)) rfl) rfl ?_
  refine L_nil (N_then (C_condF rfl (decide_eq_false (by omega)) (C_skip (N_then (C_seq (C_reg rfl ?_))))))
  refine L_run (R_move rfl) rfl ?_
  refine L_run (R_assign rfl) rfl ?_
  refine L_run (R_assign rfl) rfl ?_
  refine L_nil (N_then (C_ret ?_))
  refine ret2 Tryd.results34 rfl rfl ?_
  exact ⟨hB, g2, (Nat.le_trans ge2 hg1), rfl, hb2⟩

theorem open_n {w : World} {s : List UInt8} {e i : Nat} (hs : s.length = 64) (he : e < 18446744073709551616) (hi4 : i < 4294967296) (hq : ¬ (getN (s.take 8) = e ∧ getN ((s.drop 8).take 4) = i)) :
    Runs Tryd.prog 34 #[.agg (fl encB s).toArray, .int .u64 (e : Int), .int .i64 (i : Int)] w (fun v w' => w.grownBy w' none ∧ v = .tuple #[.slice none 0 0, .bool false]) := by
  have hB := gb_refl w none
  refine enter Tryd.func34 Tryd.ntmps34 rfl rfl ?_
  refine C_seq (C_reg rfl ?_)
  refine L_box (cs := fl encB s) rfl rfl rfl ?_
  intro g1 w1 eg1 hb1 hs1 hz1
  have ge1 : w.heap.size ≤ g1 := eg_ge hB eg1
  replace hB := gb_tr hB hs1
  refine L_run (R_assign rfl) rfl ?_
  refine L_run (R_assign rfl) rfl ?_
  refine L_nil (N_then (C_seq (C_reg rfl ?_)))
  refine L_run (R_loadA (vs := fl encB s) rfl agg70 (hb1.at_ 0) (flB_lenE hs)) rfl ?_
  have ge2 : w.heap.size ≤ w1.heap.size := hB.size
  refine L_call rfl cb47 (read_ok (s := s) hs) rfl ?_
  rintro _ w2 ⟨hs2, g2, hg1, rfl, hb2⟩
  have lt1 : g1 < g2 := Nat.lt_of_lt_of_le hb1.lt hg1
  replace hB := gb_tr hB hs2
  replace hb1 := hb1.gb hs2
  refine L_run (R_move rfl) rfl ?_
  refine L_run (R_extract rfl rfl) rfl ?_
  refine L_run (R_extract rfl rfl) rfl ?_
  refine L_run (R_extract rfl rfl) rfl ?_
  refine L_run (R_assign rfl) rfl ?_
  refine L_run (R_assign rfl) rfl ?_
  refine L_run (R_assign rfl) rfl ?_
  refine L_nil (N_then (C_seq (C_seq (C_reg rfl ?_))))
  refine L_run (R_move rfl) rfl ?_
  refine L_run (R_move rfl) rfl ?_
  refine L_run (R_neq rfl rfl) rfl ?_
  refine L_run (R_move rfl) rfl ?_
  refine L_splitD (p := ((getN (s.take 8) : Nat) : Int) ≠ (e : Int)) (fun h1 => ?_) (fun h1 => ?_)
  · refine L_no rfl rfl rfl (decide_eq_true h1) rfl ?_
    refine L_no rfl rfl rfl (decide_eq_true h1) rfl ?_
    refine L_no rfl rfl rfl (decide_eq_true h1) rfl ?_
    refine L_no rfl rfl rfl (decide_eq_true h1) rfl ?_
    refine L_no rfl rfl rfl (decide_eq_true h1) rfl ?_
    refine L_run (R_pickT rfl (decide_eq_true h1) rfl) rfl ?_
    refine L_nil (N_then (C_condT rfl rfl (C_seq (C_reg rfl ?_))))
    refine L_run (R_assign rfl) rfl ?_
    refine L_run (R_assign rfl) rfl ?_
    refine L_nil (N_then (C_ret (R_then ?_)))
    refine ret2 Tryd.results34 rfl rfl ?_
    exact ⟨hB, rfl⟩
  · refine L_yes rfl rfl rfl (decide_eq_false h1) ?_
    refine L_run (R_move rfl) rfl ?_
    refine L_yes rfl rfl rfl (decide_eq_false h1) ?_
    refine L_run (R_move rfl) rfl ?_
    refine L_yes rfl rfl rfl (decide_eq_false h1) ?_
    refine L_run (R_eqv (R_conv rfl any3 int41) (v' := .int .u32 (i : Int)) (congrArg _ (by rw [IntKind.wrap_u32]; omega))) rfl ?_
    refine L_yes rfl rfl rfl (decide_eq_false h1) ?_
    refine L_run (R_eqv (R_conv rfl any41 int3) (v' := .int .i64 (i : Int)) (conv3 hi4)) rfl ?_
    refine L_yes rfl rfl rfl (decide_eq_false h1) ?_
    refine L_run (R_neq rfl rfl) rfl ?_
    refine L_run (R_pickF rfl (decide_eq_false h1) rfl) rfl ?_
    refine L_nil (N_then ?_)
    refine C_if rfl (fun h2 => ?_) (fun h2 => ?_)
    · refine C_seq (C_reg rfl ?_)
      refine L_run (R_assign rfl) rfl ?_
      refine L_run (R_assign rfl) rfl ?_
      refine L_nil (N_then (C_ret (R_then ?_)))
      refine ret2 Tryd.results34 rfl rfl ?_
      exact ⟨hB, rfl⟩
    · refine C_skip (N_then (C_seq (C_reg rfl ?_)))
      refine L_run (R_move rfl) rfl ?_
      refine L_run (R_assign rfl) rfl ?_
      refine L_run (R_assign rfl) rfl ?_
      refine L_nil (N_then (C_ret ?_))
      refine ret2 Tryd.results34 rfl rfl ?_
      exfalso; omega

end Go.Proofs.YtnggbodilhpohaaDoor
