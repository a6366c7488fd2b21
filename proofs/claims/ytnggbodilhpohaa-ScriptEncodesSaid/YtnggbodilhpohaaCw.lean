/-
  Contracts of the reference's own: what bytes are as steps.
-/
import Derived.Test.YtnggbodilhpohaaCu
namespace Go.Proofs.Ytnggbodilhpohaa
open Go.RowKit Gw Pl
set_option linter.unusedVariables false
set_option linter.unusedSimpArgs false
theorem cb49 : callB Try.prog 49 = true := by kernel_rfl
theorem cb52 : callB Try.prog 52 = true := by kernel_rfl
theorem cb54 : callB Try.prog 54 = true := by kernel_rfl
theorem cb55 : callB Try.prog 55 = true := by kernel_rfl
theorem cb79 : callB Try.prog 79 = true := by kernel_rfl
theorem ref38_one {w : World} {t1 lo hi : Nat} {A : Option Addr} {c : Nat} {bs : List UInt8} (hS : Sli t1 lo hi w A (fl encB bs)) (hl : bs.length ≤ 1000000) (hc : bs.length ≤ c) (h0 : 0 < bs.length) :
    Runs Try.prog 79 #[.slice A bs.length c] w (fun v w' => w.grownBy w' none ∧ ∃ y : StepD, v = .tuple #[.agg (encS y).toArray, .int .i64 ((sget bs).2.1 : Int), .int .i64 (sget bs).2.2] ∧ Got 44 5 w' ((sget bs).2.2 = 0) y (sget bs).1) := by
  have hB := gb_refl w none
  have hfb := (fget_bound (bs.drop 1)).1
  rw [List.length_drop] at hfb
  replace hS := hS.top
  refine enter Try.func79 Try.ntmps79 rfl rfl ?_
  refine C_seq (C_reg ?_)
  refine L_alloc (cs := [.int .i64 0, .int .i64 0, .slice none 0 0, .slice none 0 0, .int .i64 0, .int .i64 0]) zer65 rfl rfl ?_
  intro g1 w1 eg1 hb1 hs1 hz1
  have ge1 : w.heap.size ≤ g1 := eg_ge hB eg1
  replace hB := gb_tr hB hs1
  replace hS := hS.gb hs1
  refine L_run (R_assign rfl) rfl ?_
  refine L_run (R_assign rfl) rfl ?_
  refine L_nil (N_then (C_seq (C_reg ?_)))
  refine L_run (R_move rfl) rfl ?_
  have hl1 : 0 < bs.length := by first | omega | (simp; omega)
  refine T_index (xs := bs) (i := 0) EncB rfl rfl (by first | rfl | omega) slc42 hl1 hS rfl ?_
  intro g2 o1 ha1
  refine L_run (R_load1 rfl scl5 (ha1 0 _ rfl)) rfl ?_
  refine L_run (R_eqv (R_conv rfl any5 int3) (v' := .int .i64 (bs[0].toNat : Int)) (congrArg _ (i64_fit (by have := bs[0].toNat_lt; omega)))) rfl ?_
  refine L_run (R_build (pv := [(0, .int .i64 (bs[0].toNat : Int))]) (cs := [.int .i64 (bs[0].toNat : Int), .int .i64 0, .slice none 0 0, .slice none 0 0, .int .i64 0, .int .i64 0]) rfl (by kernel_rfl)) rfl ?_
  refine L_alloc (cs := [.int .i64 0, .int .i64 0, .slice none 0 0, .slice none 0 0, .int .i64 0, .int .i64 0]) zer65 rfl rfl ?_
  intro g3 w2 eg2 hb2 hs2 hz2
  have ge2 : w.heap.size ≤ g3 := eg_ge hB eg2
  have lt1 : g1 < g3 := lt_of_eg hb1.lt eg2
  replace hB := gb_tr hB hs2
  replace hS := hS.gb hs2
  replace hb1 := hb1.gb hs2
  replace ha1 := At.gb ha1 hs2 (by simp)
  refine L_stA (vs := [.int .i64 (bs[0].toNat : Int), .int .i64 0, .slice none 0 0, .slice none 0 0, .int .i64 0, .int .i64 0]) rfl rfl rfl sz65 rfl hb2 rfl ?_
  intro w3 hb3 hs3 hz3
  replace hB := gb_trg hB hs3 ge2
  replace hS := hS.old hs3 ge2
  replace hb1 := hb1.grown hs3 (ne_lt lt1)
  refine L_nil (N_then (C_seq (C_reg ?_)))
  refine L_run (R_assign rfl) rfl ?_
  refine L_nil (N_then (C_seq (C_seq (C_reg ?_))))
  refine L_run (R_field (r := 0) rfl fld65_0 rfl) rfl ?_
  refine L_run (R_load1 rfl scl3 (hb3.cell (i := 0) rfl)) rfl ?_
  refine L_run (R_eql rfl rfl) rfl ?_
  refine L_run (R_move rfl) rfl ?_
  refine L_splitD (p := (bs[0].toNat : Int) = 1) (fun h1 => ?_) (fun h1 => ?_)
  · refine L_no rfl rfl rfl (decide_eq_true h1) rfl ?_
    refine L_no rfl rfl rfl (decide_eq_true h1) rfl ?_
    refine L_no rfl rfl rfl (decide_eq_true h1) rfl ?_
    refine L_run (R_pickT rfl (decide_eq_true h1) rfl) rfl ?_
    refine L_nil (N_then (C_condT rfl rfl (C_seq (C_reg ?_))))
    refine L_run (R_move rfl) rfl ?_
    refine T_slL (xs := bs) (i := 1) EncB rfl rfl (by first | rfl | omega) slc42 (by first | omega | (simp; done) | (simp; omega)) (by first | omega | (simp; done) | (simp; omega)) hS rfl ?_
    intro A_1 hS_1
    have ge3 : w.heap.size ≤ w3.heap.size := hB.size
    refine L_call rfl cb75 (ref04_Get (bs := (bs.drop 1)) hS_1 (by simp; omega) (by simp; omega)) rfl ?_
    rintro _ w4 ⟨hs4, A_2, c_1, rfl, ho1⟩
    replace hB := gb_tr hB hs4
    replace hS := hS.gb hs4
    replace hb1 := hb1.gb hs4
    replace hb3 := hb3.gb hs4
    replace hS_1 := hS_1.gb hs4
    have hlo1 : w3.heap.size ≤ w4.heap.size := hs4.size
    refine L_run (R_move rfl) rfl ?_
    refine L_run (R_extract rfl rfl) rfl ?_
    refine L_run (R_extract rfl rfl) rfl ?_
    refine L_run (R_extract rfl rfl) rfl ?_
    refine L_run (R_assign rfl) rfl ?_
    refine L_run (R_assign rfl) rfl ?_
    refine L_run (R_assign rfl) rfl ?_
    refine L_nil (N_then (C_seq (C_seq (C_reg ?_))))
    refine L_run (R_move rfl) rfl ?_
    refine L_run (R_neq rfl rfl) rfl ?_
    refine L_nil (N_then ?_)
    refine C_if rfl (fun h2 => ?_) (fun h2 => ?_)
    · refine C_seq (C_reg ?_)
      refine L_run (R_loadA (vs := [.int .i64 (bs[0].toNat : Int), .int .i64 0, .slice none 0 0, .slice none 0 0, .int .i64 0, .int .i64 0]) rfl agg65 (At.pre (hb3.at_ 0) rfl) rfl) rfl ?_
      refine L_run (R_move rfl) rfl ?_
      refine L_stA (vs := [.int .i64 (bs[0].toNat : Int), .int .i64 0, .slice none 0 0, .slice none 0 0, .int .i64 0, .int .i64 0]) rfl rfl rfl sz65 rfl hb1 rfl ?_
      intro w5 hb4 hs5 hz4
      replace hB := gb_trg hB hs5 ge1
      replace hS := hS.old hs5 ge1
      replace hb3 := hb3.grown hs5 (ne_gt lt1)
      replace hS_1 := hS_1.old hs5 ge1
      replace ho1 := own_other ho1 hb1 rfl hs5
      replace hlo1 := Nat.le_trans hlo1 hs5.size
      refine L_run (R_assign rfl) rfl ?_
      refine L_run (R_assign rfl) rfl ?_
      refine L_nil (N_then (C_ret (R_then (R_then ?_))))
      refine retC2 (vs := [.int .i64 (bs[0].toNat : Int), .int .i64 0, .slice none 0 0, .slice none 0 0, .int .i64 0, .int .i64 0]) Try.results79 rfl agg65 (At.pre (hb4.at_ 0) rfl) rfl rfl rfl ?_
      first
        | (exfalso; omega)
        | (have e_ : sget bs = (p0, 0, (fget (bs.drop 1)).2.2) := by
             first
               | exact sget_1e (by omega) (by omega) (by assumption)
               | exact sget_5e (by omega) (by omega) (by rw [List.length_drop]; omega)
               | exact sget_4e (by omega) (by omega) (by assumption)
               | exact sget_4s (by omega) (by omega) (by omega) (by omega)
               | (rw [sgetK_1 (by omega) (by omega) (by omega)]; exact sfin_n (by assumption))
               | (rw [sgetK_5 (by omega) (by omega) (List.getElem?_eq_getElem (by omega))]; exact sfin_n (by assumption))
               | (rw [sgetK_4 (by omega) (by omega) (by omega) (List.getElem?_eq_getElem (by omega)) (List.getElem?_eq_getElem (by omega))]; exact sfin_n (by assumption))
               | (rw [sget_o (by omega) (by omega) (by omega) (by omega)]; exact sfin_n (by assumption))
           rw [e_]
           exact ⟨hB, (⟨none, 0, none, 0, ⟨(bs[0].toNat : Int), 0, [], [], 0, 0⟩⟩ : StepD), rfl, fun h_ => absurd h_ (by first | assumption | simp)⟩)
    · refine C_skip (N_then (C_seq (C_reg ?_)))
      refine L_run (R_move rfl) rfl ?_
      refine L_run (R_move rfl) rfl ?_
      refine L_run (R_eqv (R_add64 rfl rfl (by first | omega | (have h_ := (bs[(1 + (fget (bs.drop 1)).2.1)]'(by omega)).toNat_lt; omega))) (v' := .int .i64 ((1 + (fget (bs.drop 1)).2.1 : Nat) : Int)) (by congr 1)) rfl ?_
      refine L_run (R_assign rfl) rfl ?_
      refine L_nil (N_then (C_seq (C_reg ?_)))
      refine L_run (R_field (r := 0) rfl fld65_0 rfl) rfl ?_
      refine L_run (R_load1 rfl scl3 (hb3.cell (i := 0) rfl)) rfl ?_
      refine L_run (R_eql rfl rfl) rfl ?_
      refine L_nil (N_then (C_condT rfl (decide_eq_true h1) (C_reg ?_)))
      refine L_run (R_move rfl) rfl ?_
      have ge4 : w.heap.size ≤ w4.heap.size := hB.size
      refine L_call rfl cb49 (ref12_Decode (bs := ((fget (bs.drop 1)).1)) (own_of ho1).2.2 (by have h_ := (fget_bound (bs.drop 1)).2.2.2; rw [List.length_drop] at h_; omega) (own_cap ho1)) rfl ?_
      rintro _ w6 ⟨hs6, A_3, c_2, rfl, ho2⟩
      replace hB := gb_tr hB hs6
      replace hS := hS.gb hs6
      replace hb1 := hb1.gb hs6
      replace hb3 := hb3.gb hs6
      replace hS_1 := hS_1.gb hs6
      replace ho1 := own_gb ho1 hs6
      replace hlo1 := Nat.le_trans hlo1 hs6.size
      have hlo2 : w4.heap.size ≤ w6.heap.size := hs6.size
      refine L_run (R_move rfl) rfl ?_
      refine L_run (R_extract rfl rfl) rfl ?_
      refine L_run (R_extract rfl rfl) rfl ?_
      refine L_run (R_field (r := 2) rfl fld65_2 rfl) rfl ?_
      refine L_st1 rfl rfl rfl sz22 hb3 rfl ?_
      intro w7 hb5 hs7 hz5
      replace hB := gb_trg hB hs7 ge2
      replace hS := hS.old hs7 ge2
      replace hb1 := hb1.grown hs7 (ne_lt lt1)
      replace hS_1 := hS_1.old hs7 ge2
      replace ho1 := own_other ho1 hb3 rfl hs7
      replace hlo1 := Nat.le_trans hlo1 hs7.size
      replace ho2 := own_other ho2 hb3 rfl hs7
      replace hlo2 := Nat.le_trans hlo2 hs7.size
      refine L_nil (N_then (C_seq (C_reg ?_)))
      refine L_run (R_assign rfl) rfl ?_
      refine L_nil (N_then (C_seq (C_seq (C_reg ?_))))
      refine L_run (R_field (r := 0) rfl fld65_0 rfl) rfl ?_
      refine L_run (R_load1 rfl scl3 (hb5.cell (i := 0) rfl)) rfl ?_
      refine L_run (R_eql rfl rfl) rfl ?_
      refine L_nil (N_then ?_)
      refine C_if rfl (fun h3 => ?_) (fun h3 => ?_)
      · refine C_reg ?_
        refine L_run (R_assign rfl) rfl ?_
        refine L_nil (N_then (C_seq (C_seq (C_reg ?_))))
        refine L_run (R_field (r := 0) rfl fld65_0 rfl) rfl ?_
        refine L_run (R_load1 rfl scl3 (hb5.cell (i := 0) rfl)) rfl ?_
        refine L_run (R_eql rfl rfl) rfl ?_
        refine L_nil (N_then ?_)
        refine C_if rfl (fun h4 => ?_) (fun h4 => ?_)
        · refine C_reg ?_
          refine L_run (R_assign rfl) rfl ?_
          refine L_nil (N_then (C_seq (C_seq (C_reg ?_))))
          refine L_run (R_move rfl) rfl ?_
          refine L_run (R_lenSl rfl slc42) rfl ?_
          refine L_run (R_move rfl) rfl ?_
          refine L_run (R_move rfl) rfl ?_
          refine L_run (R_add64 rfl rfl (by first | omega | (have h_ := (bs[(1 + (fget (bs.drop 1)).2.1)]'(by omega)).toNat_lt; omega))) rfl ?_
          refine L_run (R_lss rfl rfl) rfl ?_
          refine L_nil (N_then ?_)
          refine C_if rfl (fun h5 => ?_) (fun h5 => ?_)
          · refine C_seq (C_reg ?_)
            refine L_run (R_loadA (vs := [.int .i64 (bs[0].toNat : Int), .int .i64 0, .slice A_3 (((bget ((fget (bs.drop 1)).1)).1).length) c_2, .slice none 0 0, .int .i64 0, .int .i64 0]) rfl agg65 (At.pre (hb5.at_ 0) rfl) rfl) rfl ?_
            refine L_stA (vs := [.int .i64 (bs[0].toNat : Int), .int .i64 0, .slice A_3 (((bget ((fget (bs.drop 1)).1)).1).length) c_2, .slice none 0 0, .int .i64 0, .int .i64 0]) rfl rfl rfl sz65 rfl hb1 rfl ?_
            intro w8 hb6 hs8 hz6
            replace hB := gb_trg hB hs8 ge1
            replace hS := hS.old hs8 ge1
            replace hb5 := hb5.grown hs8 (ne_gt lt1)
            replace hS_1 := hS_1.old hs8 ge1
            replace ho1 := own_other ho1 hb1 rfl hs8
            replace hlo1 := Nat.le_trans hlo1 hs8.size
            replace ho2 := own_other ho2 hb1 rfl hs8
            replace hlo2 := Nat.le_trans hlo2 hs8.size
            refine L_run (R_assign rfl) rfl ?_
            refine L_run (R_assign rfl) rfl ?_
            refine L_nil (N_then (C_ret (R_then ?_)))
            refine retC2 (vs := [.int .i64 (bs[0].toNat : Int), .int .i64 0, .slice A_3 (((bget ((fget (bs.drop 1)).1)).1).length) c_2, .slice none 0 0, .int .i64 0, .int .i64 0]) Try.results79 rfl agg65 (At.pre (hb6.at_ 0) rfl) rfl rfl rfl ?_
            first
              | (exfalso; omega)
              | (have e_ : sget bs = (p0, 0, 1) := by
                   first
                     | exact sget_1e (by omega) (by omega) (by assumption)
                     | exact sget_5e (by omega) (by omega) (by rw [List.length_drop]; omega)
                     | exact sget_4e (by omega) (by omega) (by assumption)
                     | exact sget_4s (by omega) (by omega) (by omega) (by omega)
                     | (rw [sgetK_1 (by omega) (by omega) (by omega)]; exact sfin_n (by assumption))
                     | (rw [sgetK_5 (by omega) (by omega) (List.getElem?_eq_getElem (by omega))]; exact sfin_n (by assumption))
                     | (rw [sgetK_4 (by omega) (by omega) (by omega) (List.getElem?_eq_getElem (by omega)) (List.getElem?_eq_getElem (by omega))]; exact sfin_n (by assumption))
                     | (rw [sget_o (by omega) (by omega) (by omega) (by omega)]; exact sfin_n (by assumption))
                 rw [e_]
                 exact ⟨hB, (⟨A_3, c_2, none, 0, ⟨(bs[0].toNat : Int), 0, (bget ((fget (bs.drop 1)).1)).1, [], 0, 0⟩⟩ : StepD), rfl, fun h_ => absurd h_ (by first | assumption | simp)⟩)
          · refine C_skip (N_then (C_seq (C_seq (C_reg ?_))))
            refine L_run (R_field (r := 0) rfl fld65_0 rfl) rfl ?_
            refine L_run (R_load1 rfl scl3 (hb5.cell (i := 0) rfl)) rfl ?_
            refine L_run (R_eql rfl rfl) rfl ?_
            refine L_nil (N_then (C_condT rfl (decide_eq_true h3) (C_seq (C_reg ?_))))
            refine L_run (R_move rfl) rfl ?_
            refine L_run (R_move rfl) rfl ?_
            have hl2 : (1 + (fget (bs.drop 1)).2.1) < bs.length := by first | omega | (simp; omega)
            refine T_index (xs := bs) (i := (1 + (fget (bs.drop 1)).2.1)) EncB rfl rfl (by first | rfl | omega) slc42 hl2 hS rfl ?_
            intro g4 o2 ha2
            refine L_run (R_load1 rfl scl5 (ha2 0 _ rfl)) rfl ?_
            refine L_run (R_eqv (R_conv rfl any5 int3) (v' := .int .i64 (bs[(1 + (fget (bs.drop 1)).2.1)].toNat : Int)) (congrArg _ (i64_fit (by have := (bs[(1 + (fget (bs.drop 1)).2.1)]'(by omega)).toNat_lt; omega)))) rfl ?_
            refine L_run (R_sub64 rfl rfl (by first | omega | (have h_ := (bs[(1 + (fget (bs.drop 1)).2.1)]'(by omega)).toNat_lt; omega))) rfl ?_
            refine L_run (R_field (r := 3) rfl fld65_3 rfl) rfl ?_
            refine L_run (R_field (r := 4) rfl fld63_1 rfl) rfl ?_
            refine L_st1 rfl rfl rfl sz3 hb5 rfl ?_
            intro w9 hb7 hs9 hz7
            replace hB := gb_trg hB hs9 ge2
            replace hS := hS.old hs9 ge2
            replace hb1 := hb1.grown hs9 (ne_lt lt1)
            replace hS_1 := hS_1.old hs9 ge2
            replace ho1 := own_other ho1 hb5 rfl hs9
            replace hlo1 := Nat.le_trans hlo1 hs9.size
            replace ho2 := own_other ho2 hb5 rfl hs9
            replace hlo2 := Nat.le_trans hlo2 hs9.size
            refine L_nil (N_then (C_reg ?_))
            refine L_run (R_move rfl) rfl ?_
            refine L_run (R_move rfl) rfl ?_
            refine L_run (R_add64 rfl rfl (by first | omega | (have h_ := (bs[(1 + (fget (bs.drop 1)).2.1)]'(by omega)).toNat_lt; omega))) rfl ?_
            have hl3 : ((1 + (fget (bs.drop 1)).2.1) + 1) < bs.length := by first | omega | (simp; omega)
            refine T_index (xs := bs) (i := ((1 + (fget (bs.drop 1)).2.1) + 1)) EncB rfl rfl (by first | rfl | omega) slc42 hl3 hS rfl ?_
            intro g5 o3 ha3
            refine L_run (R_load1 rfl scl5 (ha3 0 _ rfl)) rfl ?_
            refine L_run (R_eqv (R_conv rfl any5 int3) (v' := .int .i64 (bs[((1 + (fget (bs.drop 1)).2.1) + 1)].toNat : Int)) (congrArg _ (i64_fit (by have := (bs[((1 + (fget (bs.drop 1)).2.1) + 1)]'(by omega)).toNat_lt; omega)))) rfl ?_
            refine L_run (R_field (r := 3) rfl fld65_3 rfl) rfl ?_
            refine L_run (R_field (r := 5) rfl fld63_2 rfl) rfl ?_
            refine L_st1 rfl rfl rfl sz3 hb7 rfl ?_
            intro w10 hb8 hs10 hz8
            replace hB := gb_trg hB hs10 ge2
            replace hS := hS.old hs10 ge2
            replace hb1 := hb1.grown hs10 (ne_lt lt1)
            replace hS_1 := hS_1.old hs10 ge2
            replace ho1 := own_other ho1 hb7 rfl hs10
            replace hlo1 := Nat.le_trans hlo1 hs10.size
            replace ho2 := own_other ho2 hb7 rfl hs10
            replace hlo2 := Nat.le_trans hlo2 hs10.size
            refine L_nil (N_then (C_seq (C_seq (C_reg ?_))))
            refine L_run (R_field (r := 0) rfl fld65_0 rfl) rfl ?_
            refine L_run (R_load1 rfl scl3 (hb8.cell (i := 0) rfl)) rfl ?_
            refine L_run (R_eql rfl rfl) rfl ?_
            refine L_nil (N_then (C_condT rfl (decide_eq_true h4) (C_reg ?_)))
            refine L_run (R_move rfl) rfl ?_
            refine L_run (R_move rfl) rfl ?_
            have hl4 : (1 + (fget (bs.drop 1)).2.1) < bs.length := by first | omega | (simp; omega)
            refine T_index (xs := bs) (i := (1 + (fget (bs.drop 1)).2.1)) EncB rfl rfl (by first | rfl | omega) slc42 hl4 hS rfl ?_
            intro g6 o4 ha4
            refine L_run (R_load1 rfl scl5 (ha4 0 _ rfl)) rfl ?_
            refine L_run (R_eqv (R_conv rfl any5 int3) (v' := .int .i64 (bs[(1 + (fget (bs.drop 1)).2.1)].toNat : Int)) (congrArg _ (i64_fit (by first | (have := (bs[1]'(by omega)).toNat_lt; omega) | (have := (bs[(1 + (fget (bs.drop 1)).2.1)]'(by omega)).toNat_lt; omega))))) rfl ?_
            refine L_run (R_field (r := 1) rfl fld65_1 rfl) rfl ?_
            refine L_st1 rfl rfl rfl sz3 hb8 rfl ?_
            intro w11 hb9 hs11 hz9
            replace hB := gb_trg hB hs11 ge2
            replace hS := hS.old hs11 ge2
            replace hb1 := hb1.grown hs11 (ne_lt lt1)
            replace hS_1 := hS_1.old hs11 ge2
            replace ho1 := own_other ho1 hb8 rfl hs11
            replace hlo1 := Nat.le_trans hlo1 hs11.size
            replace ho2 := own_other ho2 hb8 rfl hs11
            replace hlo2 := Nat.le_trans hlo2 hs11.size
            refine L_nil (N_then (C_seq (C_seq (C_reg ?_))))
            refine L_run (R_loadA (vs := [.int .i64 (bs[0].toNat : Int), .int .i64 (bs[(1 + (fget (bs.drop 1)).2.1)].toNat : Int), .slice A_3 (((bget ((fget (bs.drop 1)).1)).1).length) c_2, .slice none 0 0, .int .i64 ((bs[(1 + (fget (bs.drop 1)).2.1)].toNat : Int) - 1), .int .i64 (bs[((1 + (fget (bs.drop 1)).2.1) + 1)].toNat : Int)]) rfl agg65 (At.pre (hb9.at_ 0) rfl) rfl) rfl ?_
            refine L_call rfl cb54 (ref38_Right (ops := (bget ((fget (bs.drop 1)).1)).1) (own_of ho2).2.2 (by first | omega | (simp; done) | (have h_ := bget_len (fget (bs.drop 1)).1; omega))) rfl ?_
            rintro _ w12 ⟨hs12, rfl⟩
            replace hB := gb_tr hB hs12
            replace hS := hS.gb hs12
            replace hb1 := hb1.gb hs12
            replace hb9 := hb9.gb hs12
            replace hS_1 := hS_1.gb hs12
            replace ho1 := own_gb ho1 hs12
            replace hlo1 := Nat.le_trans hlo1 hs12.size
            replace ho2 := own_gb ho2 hs12
            replace hlo2 := Nat.le_trans hlo2 hs12.size
            refine L_run (R_notD rfl) rfl ?_
            refine L_nil (N_then ?_)
            refine C_ifN rfl (fun h6 => ?_) (fun h6 => ?_)
            · refine C_seq (C_reg ?_)
              refine L_run (R_loadA (vs := [.int .i64 (bs[0].toNat : Int), .int .i64 (bs[(1 + (fget (bs.drop 1)).2.1)].toNat : Int), .slice A_3 (((bget ((fget (bs.drop 1)).1)).1).length) c_2, .slice none 0 0, .int .i64 ((bs[(1 + (fget (bs.drop 1)).2.1)].toNat : Int) - 1), .int .i64 (bs[((1 + (fget (bs.drop 1)).2.1) + 1)].toNat : Int)]) rfl agg65 (At.pre (hb9.at_ 0) rfl) rfl) rfl ?_
              refine L_stA (vs := [.int .i64 (bs[0].toNat : Int), .int .i64 (bs[(1 + (fget (bs.drop 1)).2.1)].toNat : Int), .slice A_3 (((bget ((fget (bs.drop 1)).1)).1).length) c_2, .slice none 0 0, .int .i64 ((bs[(1 + (fget (bs.drop 1)).2.1)].toNat : Int) - 1), .int .i64 (bs[((1 + (fget (bs.drop 1)).2.1) + 1)].toNat : Int)]) rfl rfl rfl sz65 rfl hb1 rfl ?_
              intro w13 hb10 hs13 hz10
              replace hB := gb_trg hB hs13 ge1
              replace hS := hS.old hs13 ge1
              replace hb9 := hb9.grown hs13 (ne_gt lt1)
              replace hS_1 := hS_1.old hs13 ge1
              replace ho1 := own_other ho1 hb1 rfl hs13
              replace hlo1 := Nat.le_trans hlo1 hs13.size
              replace ho2 := own_other ho2 hb1 rfl hs13
              replace hlo2 := Nat.le_trans hlo2 hs13.size
              refine L_run (R_assign rfl) rfl ?_
              refine L_run (R_assign rfl) rfl ?_
              refine L_nil (N_then (C_ret (R_then ?_)))
              refine retC2 (vs := [.int .i64 (bs[0].toNat : Int), .int .i64 (bs[(1 + (fget (bs.drop 1)).2.1)].toNat : Int), .slice A_3 (((bget ((fget (bs.drop 1)).1)).1).length) c_2, .slice none 0 0, .int .i64 ((bs[(1 + (fget (bs.drop 1)).2.1)].toNat : Int) - 1), .int .i64 (bs[((1 + (fget (bs.drop 1)).2.1) + 1)].toNat : Int)]) Try.results79 rfl agg65 (At.pre (hb10.at_ 0) rfl) rfl rfl rfl ?_
              first
                | (exfalso; omega)
                | (have e_ : sget bs = (p0, 0, 2) := by
                     first
                       | exact sget_1e (by omega) (by omega) (by assumption)
                       | exact sget_5e (by omega) (by omega) (by rw [List.length_drop]; omega)
                       | exact sget_4e (by omega) (by omega) (by assumption)
                       | exact sget_4s (by omega) (by omega) (by omega) (by omega)
                       | (rw [sgetK_1 (by omega) (by omega) (by omega)]; exact sfin_n (by assumption))
                       | (rw [sgetK_5 (by omega) (by omega) (List.getElem?_eq_getElem (by omega))]; exact sfin_n (by assumption))
                       | (rw [sgetK_4 (by omega) (by omega) (by omega) (List.getElem?_eq_getElem (by omega)) (List.getElem?_eq_getElem (by omega))]; exact sfin_n (by assumption))
                       | (rw [sget_o (by omega) (by omega) (by omega) (by omega)]; exact sfin_n (by assumption))
                   rw [e_]
                   exact ⟨hB, (⟨A_3, c_2, none, 0, ⟨(bs[0].toNat : Int), (bs[(1 + (fget (bs.drop 1)).2.1)].toNat : Int), (bget ((fget (bs.drop 1)).1)).1, [], ((bs[(1 + (fget (bs.drop 1)).2.1)].toNat : Int) - 1), (bs[((1 + (fget (bs.drop 1)).2.1) + 1)].toNat : Int)⟩⟩ : StepD), rfl, fun h_ => absurd h_ (by first | assumption | simp)⟩)
            · refine C_skip (N_then (C_seq (C_reg ?_)))
              refine L_run (R_loadA (vs := [.int .i64 (bs[0].toNat : Int), .int .i64 (bs[(1 + (fget (bs.drop 1)).2.1)].toNat : Int), .slice A_3 (((bget ((fget (bs.drop 1)).1)).1).length) c_2, .slice none 0 0, .int .i64 ((bs[(1 + (fget (bs.drop 1)).2.1)].toNat : Int) - 1), .int .i64 (bs[((1 + (fget (bs.drop 1)).2.1) + 1)].toNat : Int)]) rfl agg65 (At.pre (hb9.at_ 0) rfl) rfl) rfl ?_
              refine L_run (R_move rfl) rfl ?_
              refine L_run (R_move rfl) rfl ?_
              refine L_run (R_add64 rfl rfl (by first | omega | (have h_ := (bs[(1 + (fget (bs.drop 1)).2.1)]'(by omega)).toNat_lt; omega))) rfl ?_
              refine L_stA (vs := [.int .i64 (bs[0].toNat : Int), .int .i64 (bs[(1 + (fget (bs.drop 1)).2.1)].toNat : Int), .slice A_3 (((bget ((fget (bs.drop 1)).1)).1).length) c_2, .slice none 0 0, .int .i64 ((bs[(1 + (fget (bs.drop 1)).2.1)].toNat : Int) - 1), .int .i64 (bs[((1 + (fget (bs.drop 1)).2.1) + 1)].toNat : Int)]) rfl rfl rfl sz65 rfl hb1 rfl ?_
              intro w14 hb11 hs14 hz11
              replace hB := gb_trg hB hs14 ge1
              replace hS := hS.old hs14 ge1
              replace hb9 := hb9.grown hs14 (ne_gt lt1)
              replace hS_1 := hS_1.old hs14 ge1
              replace ho1 := own_other ho1 hb1 rfl hs14
              replace hlo1 := Nat.le_trans hlo1 hs14.size
              replace ho2 := own_other ho2 hb1 rfl hs14
              replace hlo2 := Nat.le_trans hlo2 hs14.size
              refine L_run (R_assign rfl) rfl ?_
              refine L_run (R_assign rfl) rfl ?_
              refine L_nil (N_then (C_ret ?_))
              refine retC2 (vs := [.int .i64 (bs[0].toNat : Int), .int .i64 (bs[(1 + (fget (bs.drop 1)).2.1)].toNat : Int), .slice A_3 (((bget ((fget (bs.drop 1)).1)).1).length) c_2, .slice none 0 0, .int .i64 ((bs[(1 + (fget (bs.drop 1)).2.1)].toNat : Int) - 1), .int .i64 (bs[((1 + (fget (bs.drop 1)).2.1) + 1)].toNat : Int)]) Try.results79 rfl agg65 (At.pre (hb11.at_ 0) rfl) rfl rfl rfl ?_
              first
                | (exfalso; omega)
                | (have e_ : sget bs = ((⟨(bs[0].toNat : Int), (bs[(1 + (fget (bs.drop 1)).2.1)].toNat : Int), (bget ((fget (bs.drop 1)).1)).1, [], ((bs[(1 + (fget (bs.drop 1)).2.1)].toNat : Int) - 1), (bs[((1 + (fget (bs.drop 1)).2.1) + 1)].toNat : Int)⟩ : StepP), ((1 + (fget (bs.drop 1)).2.1) + 1), 0) := by
                     refine Eq.trans (b := sfin (⟨(bs[0].toNat : Int), (bs[(1 + (fget (bs.drop 1)).2.1)].toNat : Int), (bget ((fget (bs.drop 1)).1)).1, [], ((bs[(1 + (fget (bs.drop 1)).2.1)].toNat : Int) - 1), (bs[((1 + (fget (bs.drop 1)).2.1) + 1)].toNat : Int)⟩ : StepP) ((1 + (fget (bs.drop 1)).2.1) + 1)) ?_ (sfin_y (p := (⟨(bs[0].toNat : Int), (bs[(1 + (fget (bs.drop 1)).2.1)].toNat : Int), (bget ((fget (bs.drop 1)).1)).1, [], ((bs[(1 + (fget (bs.drop 1)).2.1)].toNat : Int) - 1), (bs[((1 + (fget (bs.drop 1)).2.1) + 1)].toNat : Int)⟩ : StepP)) (by first | assumption | exact Decidable.not_not.1 (by assumption)))
                     first
                       | exact sgetK_1 (by omega) (by omega) (by omega)
                       | exact sgetK_5 (by omega) (by omega) (List.getElem?_eq_getElem (by omega))
                       | exact sgetK_4 (by omega) (by omega) (by omega) (List.getElem?_eq_getElem (by omega)) (List.getElem?_eq_getElem (by omega))
                       | exact sget_o (by omega) (by omega) (by omega) (by omega)
                   have ek : ((((1 + (fget (bs.drop 1)).2.1 : Nat) : Int) + 1) : Int) = ((((1 + (fget (bs.drop 1)).2.1) + 1) : Nat) : Int) := by omega
                   rw [e_, ek]
                   exact ⟨hB, (⟨A_3, c_2, none, 0, ⟨(bs[0].toNat : Int), (bs[(1 + (fget (bs.drop 1)).2.1)].toNat : Int), (bget ((fget (bs.drop 1)).1)).1, [], ((bs[(1 + (fget (bs.drop 1)).2.1)].toNat : Int) - 1), (bs[((1 + (fget (bs.drop 1)).2.1) + 1)].toNat : Int)⟩⟩ : StepD), rfl, fun _ => ⟨rfl, (own_of ho2).2.2.zero, Sli.nil⟩⟩)
        · refine C_skip (N_then (C_seq (C_seq (C_reg ?_))))
          refine L_run (R_move rfl) rfl ?_
          refine L_run (R_lenSl rfl slc42) rfl ?_
          refine L_run (R_move rfl) rfl ?_
          refine L_run (R_move rfl) rfl ?_
          refine L_run (R_add64 rfl rfl (by first | omega | (have h_ := (bs[(1 + (fget (bs.drop 1)).2.1)]'(by omega)).toNat_lt; omega))) rfl ?_
          refine L_run (R_lss rfl rfl) rfl ?_
          refine L_nil (N_then ?_)
          refine C_if rfl (fun h7 => ?_) (fun h7 => ?_)
          · refine C_seq (C_reg ?_)
            refine L_run (R_loadA (vs := [.int .i64 (bs[0].toNat : Int), .int .i64 0, .slice A_3 (((bget ((fget (bs.drop 1)).1)).1).length) c_2, .slice none 0 0, .int .i64 0, .int .i64 0]) rfl agg65 (At.pre (hb5.at_ 0) rfl) rfl) rfl ?_
            refine L_stA (vs := [.int .i64 (bs[0].toNat : Int), .int .i64 0, .slice A_3 (((bget ((fget (bs.drop 1)).1)).1).length) c_2, .slice none 0 0, .int .i64 0, .int .i64 0]) rfl rfl rfl sz65 rfl hb1 rfl ?_
            intro w15 hb12 hs15 hz12
            replace hB := gb_trg hB hs15 ge1
            replace hS := hS.old hs15 ge1
            replace hb5 := hb5.grown hs15 (ne_gt lt1)
            replace hS_1 := hS_1.old hs15 ge1
            replace ho1 := own_other ho1 hb1 rfl hs15
            replace hlo1 := Nat.le_trans hlo1 hs15.size
            replace ho2 := own_other ho2 hb1 rfl hs15
            replace hlo2 := Nat.le_trans hlo2 hs15.size
            refine L_run (R_assign rfl) rfl ?_
            refine L_run (R_assign rfl) rfl ?_
            refine L_nil (N_then (C_ret (R_then ?_)))
            refine retC2 (vs := [.int .i64 (bs[0].toNat : Int), .int .i64 0, .slice A_3 (((bget ((fget (bs.drop 1)).1)).1).length) c_2, .slice none 0 0, .int .i64 0, .int .i64 0]) Try.results79 rfl agg65 (At.pre (hb12.at_ 0) rfl) rfl rfl rfl ?_
            first
              | (exfalso; omega)
              | (have e_ : sget bs = (p0, 0, 1) := by
                   first
                     | exact sget_1e (by omega) (by omega) (by assumption)
                     | exact sget_5e (by omega) (by omega) (by rw [List.length_drop]; omega)
                     | exact sget_4e (by omega) (by omega) (by assumption)
                     | exact sget_4s (by omega) (by omega) (by omega) (by omega)
                     | (rw [sgetK_1 (by omega) (by omega) (by omega)]; exact sfin_n (by assumption))
                     | (rw [sgetK_5 (by omega) (by omega) (List.getElem?_eq_getElem (by omega))]; exact sfin_n (by assumption))
                     | (rw [sgetK_4 (by omega) (by omega) (by omega) (List.getElem?_eq_getElem (by omega)) (List.getElem?_eq_getElem (by omega))]; exact sfin_n (by assumption))
                     | (rw [sget_o (by omega) (by omega) (by omega) (by omega)]; exact sfin_n (by assumption))
                 rw [e_]
                 exact ⟨hB, (⟨A_3, c_2, none, 0, ⟨(bs[0].toNat : Int), 0, (bget ((fget (bs.drop 1)).1)).1, [], 0, 0⟩⟩ : StepD), rfl, fun h_ => absurd h_ (by first | assumption | simp)⟩)
          · refine C_skip (N_then (C_seq (C_seq (C_reg ?_))))
            refine L_run (R_field (r := 0) rfl fld65_0 rfl) rfl ?_
            refine L_run (R_load1 rfl scl3 (hb5.cell (i := 0) rfl)) rfl ?_
            refine L_run (R_eql rfl rfl) rfl ?_
            refine L_nil (N_then (C_condT rfl (decide_eq_true h3) (C_seq (C_reg ?_))))
            refine L_run (R_move rfl) rfl ?_
            refine L_run (R_move rfl) rfl ?_
            have hl5 : (1 + (fget (bs.drop 1)).2.1) < bs.length := by first | omega | (simp; omega)
            refine T_index (xs := bs) (i := (1 + (fget (bs.drop 1)).2.1)) EncB rfl rfl (by first | rfl | omega) slc42 hl5 hS rfl ?_
            intro g7 o5 ha5
            refine L_run (R_load1 rfl scl5 (ha5 0 _ rfl)) rfl ?_
            refine L_run (R_eqv (R_conv rfl any5 int3) (v' := .int .i64 (bs[(1 + (fget (bs.drop 1)).2.1)].toNat : Int)) (congrArg _ (i64_fit (by have := (bs[(1 + (fget (bs.drop 1)).2.1)]'(by omega)).toNat_lt; omega)))) rfl ?_
            refine L_run (R_sub64 rfl rfl (by first | omega | (have h_ := (bs[(1 + (fget (bs.drop 1)).2.1)]'(by omega)).toNat_lt; omega))) rfl ?_
            refine L_run (R_field (r := 3) rfl fld65_3 rfl) rfl ?_
            refine L_run (R_field (r := 4) rfl fld63_1 rfl) rfl ?_
            refine L_st1 rfl rfl rfl sz3 hb5 rfl ?_
            intro w16 hb13 hs16 hz13
            replace hB := gb_trg hB hs16 ge2
            replace hS := hS.old hs16 ge2
            replace hb1 := hb1.grown hs16 (ne_lt lt1)
            replace hS_1 := hS_1.old hs16 ge2
            replace ho1 := own_other ho1 hb5 rfl hs16
            replace hlo1 := Nat.le_trans hlo1 hs16.size
            replace ho2 := own_other ho2 hb5 rfl hs16
            replace hlo2 := Nat.le_trans hlo2 hs16.size
            refine L_nil (N_then (C_reg ?_))
            refine L_run (R_move rfl) rfl ?_
            refine L_run (R_move rfl) rfl ?_
            refine L_run (R_add64 rfl rfl (by first | omega | (have h_ := (bs[(1 + (fget (bs.drop 1)).2.1)]'(by omega)).toNat_lt; omega))) rfl ?_
            have hl6 : ((1 + (fget (bs.drop 1)).2.1) + 1) < bs.length := by first | omega | (simp; omega)
            refine T_index (xs := bs) (i := ((1 + (fget (bs.drop 1)).2.1) + 1)) EncB rfl rfl (by first | rfl | omega) slc42 hl6 hS rfl ?_
            intro g8 o6 ha6
            refine L_run (R_load1 rfl scl5 (ha6 0 _ rfl)) rfl ?_
            refine L_run (R_eqv (R_conv rfl any5 int3) (v' := .int .i64 (bs[((1 + (fget (bs.drop 1)).2.1) + 1)].toNat : Int)) (congrArg _ (i64_fit (by have := (bs[((1 + (fget (bs.drop 1)).2.1) + 1)]'(by omega)).toNat_lt; omega)))) rfl ?_
            refine L_run (R_field (r := 3) rfl fld65_3 rfl) rfl ?_
            refine L_run (R_field (r := 5) rfl fld63_2 rfl) rfl ?_
            refine L_st1 rfl rfl rfl sz3 hb13 rfl ?_
            intro w17 hb14 hs17 hz14
            replace hB := gb_trg hB hs17 ge2
            replace hS := hS.old hs17 ge2
            replace hb1 := hb1.grown hs17 (ne_lt lt1)
            replace hS_1 := hS_1.old hs17 ge2
            replace ho1 := own_other ho1 hb13 rfl hs17
            replace hlo1 := Nat.le_trans hlo1 hs17.size
            replace ho2 := own_other ho2 hb13 rfl hs17
            replace hlo2 := Nat.le_trans hlo2 hs17.size
            refine L_nil (N_then (C_seq (C_seq (C_reg ?_))))
            refine L_run (R_field (r := 0) rfl fld65_0 rfl) rfl ?_
            refine L_run (R_load1 rfl scl3 (hb14.cell (i := 0) rfl)) rfl ?_
            refine L_run (R_eql rfl rfl) rfl ?_
            refine L_nil (N_then (C_condF rfl (decide_eq_false h4) (C_skip (N_then (C_seq (C_seq (C_reg ?_)))))))
            refine L_run (R_loadA (vs := [.int .i64 (bs[0].toNat : Int), .int .i64 0, .slice A_3 (((bget ((fget (bs.drop 1)).1)).1).length) c_2, .slice none 0 0, .int .i64 ((bs[(1 + (fget (bs.drop 1)).2.1)].toNat : Int) - 1), .int .i64 (bs[((1 + (fget (bs.drop 1)).2.1) + 1)].toNat : Int)]) rfl agg65 (At.pre (hb14.at_ 0) rfl) rfl) rfl ?_
            refine L_call rfl cb54 (ref38_Right (ops := (bget ((fget (bs.drop 1)).1)).1) (own_of ho2).2.2 (by first | omega | (simp; done) | (have h_ := bget_len (fget (bs.drop 1)).1; omega))) rfl ?_
            rintro _ w18 ⟨hs18, rfl⟩
            replace hB := gb_tr hB hs18
            replace hS := hS.gb hs18
            replace hb1 := hb1.gb hs18
            replace hb14 := hb14.gb hs18
            replace hS_1 := hS_1.gb hs18
            replace ho1 := own_gb ho1 hs18
            replace hlo1 := Nat.le_trans hlo1 hs18.size
            replace ho2 := own_gb ho2 hs18
            replace hlo2 := Nat.le_trans hlo2 hs18.size
            refine L_run (R_notD rfl) rfl ?_
            refine L_nil (N_then ?_)
            refine C_ifN rfl (fun h8 => ?_) (fun h8 => ?_)
            · refine C_seq (C_reg ?_)
              refine L_run (R_loadA (vs := [.int .i64 (bs[0].toNat : Int), .int .i64 0, .slice A_3 (((bget ((fget (bs.drop 1)).1)).1).length) c_2, .slice none 0 0, .int .i64 ((bs[(1 + (fget (bs.drop 1)).2.1)].toNat : Int) - 1), .int .i64 (bs[((1 + (fget (bs.drop 1)).2.1) + 1)].toNat : Int)]) rfl agg65 (At.pre (hb14.at_ 0) rfl) rfl) rfl ?_
              refine L_stA (vs := [.int .i64 (bs[0].toNat : Int), .int .i64 0, .slice A_3 (((bget ((fget (bs.drop 1)).1)).1).length) c_2, .slice none 0 0, .int .i64 ((bs[(1 + (fget (bs.drop 1)).2.1)].toNat : Int) - 1), .int .i64 (bs[((1 + (fget (bs.drop 1)).2.1) + 1)].toNat : Int)]) rfl rfl rfl sz65 rfl hb1 rfl ?_
              intro w19 hb15 hs19 hz15
              replace hB := gb_trg hB hs19 ge1
              replace hS := hS.old hs19 ge1
              replace hb14 := hb14.grown hs19 (ne_gt lt1)
              replace hS_1 := hS_1.old hs19 ge1
              replace ho1 := own_other ho1 hb1 rfl hs19
              replace hlo1 := Nat.le_trans hlo1 hs19.size
              replace ho2 := own_other ho2 hb1 rfl hs19
              replace hlo2 := Nat.le_trans hlo2 hs19.size
              refine L_run (R_assign rfl) rfl ?_
              refine L_run (R_assign rfl) rfl ?_
              refine L_nil (N_then (C_ret (R_then ?_)))
              refine retC2 (vs := [.int .i64 (bs[0].toNat : Int), .int .i64 0, .slice A_3 (((bget ((fget (bs.drop 1)).1)).1).length) c_2, .slice none 0 0, .int .i64 ((bs[(1 + (fget (bs.drop 1)).2.1)].toNat : Int) - 1), .int .i64 (bs[((1 + (fget (bs.drop 1)).2.1) + 1)].toNat : Int)]) Try.results79 rfl agg65 (At.pre (hb15.at_ 0) rfl) rfl rfl rfl ?_
              first
                | (exfalso; omega)
                | (have e_ : sget bs = (p0, 0, 2) := by
                     first
                       | exact sget_1e (by omega) (by omega) (by assumption)
                       | exact sget_5e (by omega) (by omega) (by rw [List.length_drop]; omega)
                       | exact sget_4e (by omega) (by omega) (by assumption)
                       | exact sget_4s (by omega) (by omega) (by omega) (by omega)
                       | (rw [sgetK_1 (by omega) (by omega) (by omega)]; exact sfin_n (by assumption))
                       | (rw [sgetK_5 (by omega) (by omega) (List.getElem?_eq_getElem (by omega))]; exact sfin_n (by assumption))
                       | (rw [sgetK_4 (by omega) (by omega) (by omega) (List.getElem?_eq_getElem (by omega)) (List.getElem?_eq_getElem (by omega))]; exact sfin_n (by assumption))
                       | (rw [sget_o (by omega) (by omega) (by omega) (by omega)]; exact sfin_n (by assumption))
                   rw [e_]
                   exact ⟨hB, (⟨A_3, c_2, none, 0, ⟨(bs[0].toNat : Int), 0, (bget ((fget (bs.drop 1)).1)).1, [], ((bs[(1 + (fget (bs.drop 1)).2.1)].toNat : Int) - 1), (bs[((1 + (fget (bs.drop 1)).2.1) + 1)].toNat : Int)⟩⟩ : StepD), rfl, fun h_ => absurd h_ (by first | assumption | simp)⟩)
            · refine C_skip (N_then (C_seq (C_reg ?_)))
              refine L_run (R_loadA (vs := [.int .i64 (bs[0].toNat : Int), .int .i64 0, .slice A_3 (((bget ((fget (bs.drop 1)).1)).1).length) c_2, .slice none 0 0, .int .i64 ((bs[(1 + (fget (bs.drop 1)).2.1)].toNat : Int) - 1), .int .i64 (bs[((1 + (fget (bs.drop 1)).2.1) + 1)].toNat : Int)]) rfl agg65 (At.pre (hb14.at_ 0) rfl) rfl) rfl ?_
              refine L_run (R_move rfl) rfl ?_
              refine L_run (R_move rfl) rfl ?_
              refine L_run (R_add64 rfl rfl (by first | omega | (have h_ := (bs[(1 + (fget (bs.drop 1)).2.1)]'(by omega)).toNat_lt; omega))) rfl ?_
              refine L_stA (vs := [.int .i64 (bs[0].toNat : Int), .int .i64 0, .slice A_3 (((bget ((fget (bs.drop 1)).1)).1).length) c_2, .slice none 0 0, .int .i64 ((bs[(1 + (fget (bs.drop 1)).2.1)].toNat : Int) - 1), .int .i64 (bs[((1 + (fget (bs.drop 1)).2.1) + 1)].toNat : Int)]) rfl rfl rfl sz65 rfl hb1 rfl ?_
              intro w20 hb16 hs20 hz16
              replace hB := gb_trg hB hs20 ge1
              replace hS := hS.old hs20 ge1
              replace hb14 := hb14.grown hs20 (ne_gt lt1)
              replace hS_1 := hS_1.old hs20 ge1
              replace ho1 := own_other ho1 hb1 rfl hs20
              replace hlo1 := Nat.le_trans hlo1 hs20.size
              replace ho2 := own_other ho2 hb1 rfl hs20
              replace hlo2 := Nat.le_trans hlo2 hs20.size
              refine L_run (R_assign rfl) rfl ?_
              refine L_run (R_assign rfl) rfl ?_
              refine L_nil (N_then (C_ret ?_))
              refine retC2 (vs := [.int .i64 (bs[0].toNat : Int), .int .i64 0, .slice A_3 (((bget ((fget (bs.drop 1)).1)).1).length) c_2, .slice none 0 0, .int .i64 ((bs[(1 + (fget (bs.drop 1)).2.1)].toNat : Int) - 1), .int .i64 (bs[((1 + (fget (bs.drop 1)).2.1) + 1)].toNat : Int)]) Try.results79 rfl agg65 (At.pre (hb16.at_ 0) rfl) rfl rfl rfl ?_
              first
                | (exfalso; omega)
                | (have e_ : sget bs = ((⟨(bs[0].toNat : Int), 0, (bget ((fget (bs.drop 1)).1)).1, [], ((bs[(1 + (fget (bs.drop 1)).2.1)].toNat : Int) - 1), (bs[((1 + (fget (bs.drop 1)).2.1) + 1)].toNat : Int)⟩ : StepP), ((1 + (fget (bs.drop 1)).2.1) + 2), 0) := by
                     refine Eq.trans (b := sfin (⟨(bs[0].toNat : Int), 0, (bget ((fget (bs.drop 1)).1)).1, [], ((bs[(1 + (fget (bs.drop 1)).2.1)].toNat : Int) - 1), (bs[((1 + (fget (bs.drop 1)).2.1) + 1)].toNat : Int)⟩ : StepP) ((1 + (fget (bs.drop 1)).2.1) + 2)) ?_ (sfin_y (p := (⟨(bs[0].toNat : Int), 0, (bget ((fget (bs.drop 1)).1)).1, [], ((bs[(1 + (fget (bs.drop 1)).2.1)].toNat : Int) - 1), (bs[((1 + (fget (bs.drop 1)).2.1) + 1)].toNat : Int)⟩ : StepP)) (by first | assumption | exact Decidable.not_not.1 (by assumption)))
                     first
                       | exact sgetK_1 (by omega) (by omega) (by omega)
                       | exact sgetK_5 (by omega) (by omega) (List.getElem?_eq_getElem (by omega))
                       | exact sgetK_4 (by omega) (by omega) (by omega) (List.getElem?_eq_getElem (by omega)) (List.getElem?_eq_getElem (by omega))
                       | exact sget_o (by omega) (by omega) (by omega) (by omega)
                   have ek : ((((1 + (fget (bs.drop 1)).2.1 : Nat) : Int) + 2) : Int) = ((((1 + (fget (bs.drop 1)).2.1) + 2) : Nat) : Int) := by omega
                   rw [e_, ek]
                   exact ⟨hB, (⟨A_3, c_2, none, 0, ⟨(bs[0].toNat : Int), 0, (bget ((fget (bs.drop 1)).1)).1, [], ((bs[(1 + (fget (bs.drop 1)).2.1)].toNat : Int) - 1), (bs[((1 + (fget (bs.drop 1)).2.1) + 1)].toNat : Int)⟩⟩ : StepD), rfl, fun _ => ⟨rfl, (own_of ho2).2.2.zero, Sli.nil⟩⟩)
      · refine C_skip (N_then (C_seq (C_seq (C_reg ?_))))
        refine L_run (R_field (r := 0) rfl fld65_0 rfl) rfl ?_
        refine L_run (R_load1 rfl scl3 (hb5.cell (i := 0) rfl)) rfl ?_
        refine L_run (R_eql rfl rfl) rfl ?_
        refine L_nil (N_then ?_)
        refine C_if rfl (fun h9 => ?_) (fun h9 => ?_)
        · refine C_reg ?_
          refine L_run (R_assign rfl) rfl ?_
          refine L_nil (N_then (C_seq (C_seq (C_reg ?_))))
          refine L_run (R_move rfl) rfl ?_
          refine L_run (R_lenSl rfl slc42) rfl ?_
          refine L_run (R_move rfl) rfl ?_
          refine L_run (R_move rfl) rfl ?_
          refine L_run (R_add64 rfl rfl (by first | omega | (have h_ := (bs[(1 + (fget (bs.drop 1)).2.1)]'(by omega)).toNat_lt; omega))) rfl ?_
          refine L_run (R_lss rfl rfl) rfl ?_
          refine L_nil (N_then ?_)
          refine C_if rfl (fun h10 => ?_) (fun h10 => ?_)
          · refine C_seq (C_reg ?_)
            refine L_run (R_loadA (vs := [.int .i64 (bs[0].toNat : Int), .int .i64 0, .slice A_3 (((bget ((fget (bs.drop 1)).1)).1).length) c_2, .slice none 0 0, .int .i64 0, .int .i64 0]) rfl agg65 (At.pre (hb5.at_ 0) rfl) rfl) rfl ?_
            refine L_stA (vs := [.int .i64 (bs[0].toNat : Int), .int .i64 0, .slice A_3 (((bget ((fget (bs.drop 1)).1)).1).length) c_2, .slice none 0 0, .int .i64 0, .int .i64 0]) rfl rfl rfl sz65 rfl hb1 rfl ?_
            intro w21 hb17 hs21 hz17
            replace hB := gb_trg hB hs21 ge1
            replace hS := hS.old hs21 ge1
            replace hb5 := hb5.grown hs21 (ne_gt lt1)
            replace hS_1 := hS_1.old hs21 ge1
            replace ho1 := own_other ho1 hb1 rfl hs21
            replace hlo1 := Nat.le_trans hlo1 hs21.size
            replace ho2 := own_other ho2 hb1 rfl hs21
            replace hlo2 := Nat.le_trans hlo2 hs21.size
            refine L_run (R_assign rfl) rfl ?_
            refine L_run (R_assign rfl) rfl ?_
            refine L_nil (N_then (C_ret (R_then ?_)))
            refine retC2 (vs := [.int .i64 (bs[0].toNat : Int), .int .i64 0, .slice A_3 (((bget ((fget (bs.drop 1)).1)).1).length) c_2, .slice none 0 0, .int .i64 0, .int .i64 0]) Try.results79 rfl agg65 (At.pre (hb17.at_ 0) rfl) rfl rfl rfl ?_
            first
              | (exfalso; omega)
              | (have e_ : sget bs = (p0, 0, 1) := by
                   first
                     | exact sget_1e (by omega) (by omega) (by assumption)
                     | exact sget_5e (by omega) (by omega) (by rw [List.length_drop]; omega)
                     | exact sget_4e (by omega) (by omega) (by assumption)
                     | exact sget_4s (by omega) (by omega) (by omega) (by omega)
                     | (rw [sgetK_1 (by omega) (by omega) (by omega)]; exact sfin_n (by assumption))
                     | (rw [sgetK_5 (by omega) (by omega) (List.getElem?_eq_getElem (by omega))]; exact sfin_n (by assumption))
                     | (rw [sgetK_4 (by omega) (by omega) (by omega) (List.getElem?_eq_getElem (by omega)) (List.getElem?_eq_getElem (by omega))]; exact sfin_n (by assumption))
                     | (rw [sget_o (by omega) (by omega) (by omega) (by omega)]; exact sfin_n (by assumption))
                 rw [e_]
                 exact ⟨hB, (⟨A_3, c_2, none, 0, ⟨(bs[0].toNat : Int), 0, (bget ((fget (bs.drop 1)).1)).1, [], 0, 0⟩⟩ : StepD), rfl, fun h_ => absurd h_ (by first | assumption | simp)⟩)
          · refine C_skip (N_then (C_seq (C_seq (C_reg ?_))))
            refine L_run (R_field (r := 0) rfl fld65_0 rfl) rfl ?_
            refine L_run (R_load1 rfl scl3 (hb5.cell (i := 0) rfl)) rfl ?_
            refine L_run (R_eql rfl rfl) rfl ?_
            refine L_nil (N_then (C_condF rfl (decide_eq_false h3) (C_skip (N_then (C_seq (C_seq (C_reg ?_)))))))
            refine L_run (R_field (r := 0) rfl fld65_0 rfl) rfl ?_
            refine L_run (R_load1 rfl scl3 (hb5.cell (i := 0) rfl)) rfl ?_
            refine L_run (R_eql rfl rfl) rfl ?_
            refine L_nil (N_then (C_condT rfl (decide_eq_true h9) (C_reg ?_)))
            refine L_run (R_move rfl) rfl ?_
            refine L_run (R_move rfl) rfl ?_
            have hl7 : (1 + (fget (bs.drop 1)).2.1) < bs.length := by first | omega | (simp; omega)
            refine T_index (xs := bs) (i := (1 + (fget (bs.drop 1)).2.1)) EncB rfl rfl (by first | rfl | omega) slc42 hl7 hS rfl ?_
            intro g9 o7 ha7
            refine L_run (R_load1 rfl scl5 (ha7 0 _ rfl)) rfl ?_
            refine L_run (R_eqv (R_conv rfl any5 int3) (v' := .int .i64 (bs[(1 + (fget (bs.drop 1)).2.1)].toNat : Int)) (congrArg _ (i64_fit (by first | (have := (bs[1]'(by omega)).toNat_lt; omega) | (have := (bs[(1 + (fget (bs.drop 1)).2.1)]'(by omega)).toNat_lt; omega))))) rfl ?_
            refine L_run (R_field (r := 1) rfl fld65_1 rfl) rfl ?_
            refine L_st1 rfl rfl rfl sz3 hb5 rfl ?_
            intro w22 hb18 hs22 hz18
            replace hB := gb_trg hB hs22 ge2
            replace hS := hS.old hs22 ge2
            replace hb1 := hb1.grown hs22 (ne_lt lt1)
            replace hS_1 := hS_1.old hs22 ge2
            replace ho1 := own_other ho1 hb5 rfl hs22
            replace hlo1 := Nat.le_trans hlo1 hs22.size
            replace ho2 := own_other ho2 hb5 rfl hs22
            replace hlo2 := Nat.le_trans hlo2 hs22.size
            refine L_nil (N_then (C_seq (C_seq (C_reg ?_))))
            refine L_run (R_loadA (vs := [.int .i64 (bs[0].toNat : Int), .int .i64 (bs[(1 + (fget (bs.drop 1)).2.1)].toNat : Int), .slice A_3 (((bget ((fget (bs.drop 1)).1)).1).length) c_2, .slice none 0 0, .int .i64 0, .int .i64 0]) rfl agg65 (At.pre (hb18.at_ 0) rfl) rfl) rfl ?_
            refine L_call rfl cb54 (ref38_Right (ops := (bget ((fget (bs.drop 1)).1)).1) (own_of ho2).2.2 (by first | omega | (simp; done) | (have h_ := bget_len (fget (bs.drop 1)).1; omega))) rfl ?_
            rintro _ w23 ⟨hs23, rfl⟩
            replace hB := gb_tr hB hs23
            replace hS := hS.gb hs23
            replace hb1 := hb1.gb hs23
            replace hb18 := hb18.gb hs23
            replace hS_1 := hS_1.gb hs23
            replace ho1 := own_gb ho1 hs23
            replace hlo1 := Nat.le_trans hlo1 hs23.size
            replace ho2 := own_gb ho2 hs23
            replace hlo2 := Nat.le_trans hlo2 hs23.size
            refine L_run (R_notD rfl) rfl ?_
            refine L_nil (N_then ?_)
            refine C_ifN rfl (fun h11 => ?_) (fun h11 => ?_)
            · refine C_seq (C_reg ?_)
              refine L_run (R_loadA (vs := [.int .i64 (bs[0].toNat : Int), .int .i64 (bs[(1 + (fget (bs.drop 1)).2.1)].toNat : Int), .slice A_3 (((bget ((fget (bs.drop 1)).1)).1).length) c_2, .slice none 0 0, .int .i64 0, .int .i64 0]) rfl agg65 (At.pre (hb18.at_ 0) rfl) rfl) rfl ?_
              refine L_stA (vs := [.int .i64 (bs[0].toNat : Int), .int .i64 (bs[(1 + (fget (bs.drop 1)).2.1)].toNat : Int), .slice A_3 (((bget ((fget (bs.drop 1)).1)).1).length) c_2, .slice none 0 0, .int .i64 0, .int .i64 0]) rfl rfl rfl sz65 rfl hb1 rfl ?_
              intro w24 hb19 hs24 hz19
              replace hB := gb_trg hB hs24 ge1
              replace hS := hS.old hs24 ge1
              replace hb18 := hb18.grown hs24 (ne_gt lt1)
              replace hS_1 := hS_1.old hs24 ge1
              replace ho1 := own_other ho1 hb1 rfl hs24
              replace hlo1 := Nat.le_trans hlo1 hs24.size
              replace ho2 := own_other ho2 hb1 rfl hs24
              replace hlo2 := Nat.le_trans hlo2 hs24.size
              refine L_run (R_assign rfl) rfl ?_
              refine L_run (R_assign rfl) rfl ?_
              refine L_nil (N_then (C_ret (R_then ?_)))
              refine retC2 (vs := [.int .i64 (bs[0].toNat : Int), .int .i64 (bs[(1 + (fget (bs.drop 1)).2.1)].toNat : Int), .slice A_3 (((bget ((fget (bs.drop 1)).1)).1).length) c_2, .slice none 0 0, .int .i64 0, .int .i64 0]) Try.results79 rfl agg65 (At.pre (hb19.at_ 0) rfl) rfl rfl rfl ?_
              first
                | (exfalso; omega)
                | (have e_ : sget bs = (p0, 0, 2) := by
                     first
                       | exact sget_1e (by omega) (by omega) (by assumption)
                       | exact sget_5e (by omega) (by omega) (by rw [List.length_drop]; omega)
                       | exact sget_4e (by omega) (by omega) (by assumption)
                       | exact sget_4s (by omega) (by omega) (by omega) (by omega)
                       | (rw [sgetK_1 (by omega) (by omega) (by omega)]; exact sfin_n (by assumption))
                       | (rw [sgetK_5 (by omega) (by omega) (List.getElem?_eq_getElem (by omega))]; exact sfin_n (by assumption))
                       | (rw [sgetK_4 (by omega) (by omega) (by omega) (List.getElem?_eq_getElem (by omega)) (List.getElem?_eq_getElem (by omega))]; exact sfin_n (by assumption))
                       | (rw [sget_o (by omega) (by omega) (by omega) (by omega)]; exact sfin_n (by assumption))
                   rw [e_]
                   exact ⟨hB, (⟨A_3, c_2, none, 0, ⟨(bs[0].toNat : Int), (bs[(1 + (fget (bs.drop 1)).2.1)].toNat : Int), (bget ((fget (bs.drop 1)).1)).1, [], 0, 0⟩⟩ : StepD), rfl, fun h_ => absurd h_ (by first | assumption | simp)⟩)
            · refine C_skip (N_then (C_seq (C_reg ?_)))
              refine L_run (R_loadA (vs := [.int .i64 (bs[0].toNat : Int), .int .i64 (bs[(1 + (fget (bs.drop 1)).2.1)].toNat : Int), .slice A_3 (((bget ((fget (bs.drop 1)).1)).1).length) c_2, .slice none 0 0, .int .i64 0, .int .i64 0]) rfl agg65 (At.pre (hb18.at_ 0) rfl) rfl) rfl ?_
              refine L_run (R_move rfl) rfl ?_
              refine L_run (R_move rfl) rfl ?_
              refine L_run (R_add64 rfl rfl (by first | omega | (have h_ := (bs[(1 + (fget (bs.drop 1)).2.1)]'(by omega)).toNat_lt; omega))) rfl ?_
              refine L_stA (vs := [.int .i64 (bs[0].toNat : Int), .int .i64 (bs[(1 + (fget (bs.drop 1)).2.1)].toNat : Int), .slice A_3 (((bget ((fget (bs.drop 1)).1)).1).length) c_2, .slice none 0 0, .int .i64 0, .int .i64 0]) rfl rfl rfl sz65 rfl hb1 rfl ?_
              intro w25 hb20 hs25 hz20
              replace hB := gb_trg hB hs25 ge1
              replace hS := hS.old hs25 ge1
              replace hb18 := hb18.grown hs25 (ne_gt lt1)
              replace hS_1 := hS_1.old hs25 ge1
              replace ho1 := own_other ho1 hb1 rfl hs25
              replace hlo1 := Nat.le_trans hlo1 hs25.size
              replace ho2 := own_other ho2 hb1 rfl hs25
              replace hlo2 := Nat.le_trans hlo2 hs25.size
              refine L_run (R_assign rfl) rfl ?_
              refine L_run (R_assign rfl) rfl ?_
              refine L_nil (N_then (C_ret ?_))
              refine retC2 (vs := [.int .i64 (bs[0].toNat : Int), .int .i64 (bs[(1 + (fget (bs.drop 1)).2.1)].toNat : Int), .slice A_3 (((bget ((fget (bs.drop 1)).1)).1).length) c_2, .slice none 0 0, .int .i64 0, .int .i64 0]) Try.results79 rfl agg65 (At.pre (hb20.at_ 0) rfl) rfl rfl rfl ?_
              first
                | (exfalso; omega)
                | (have e_ : sget bs = ((⟨(bs[0].toNat : Int), (bs[(1 + (fget (bs.drop 1)).2.1)].toNat : Int), (bget ((fget (bs.drop 1)).1)).1, [], 0, 0⟩ : StepP), ((1 + (fget (bs.drop 1)).2.1) + 1), 0) := by
                     refine Eq.trans (b := sfin (⟨(bs[0].toNat : Int), (bs[(1 + (fget (bs.drop 1)).2.1)].toNat : Int), (bget ((fget (bs.drop 1)).1)).1, [], 0, 0⟩ : StepP) ((1 + (fget (bs.drop 1)).2.1) + 1)) ?_ (sfin_y (p := (⟨(bs[0].toNat : Int), (bs[(1 + (fget (bs.drop 1)).2.1)].toNat : Int), (bget ((fget (bs.drop 1)).1)).1, [], 0, 0⟩ : StepP)) (by first | assumption | exact Decidable.not_not.1 (by assumption)))
                     first
                       | exact sgetK_1 (by omega) (by omega) (by omega)
                       | exact sgetK_5 (by omega) (by omega) (List.getElem?_eq_getElem (by omega))
                       | exact sgetK_4 (by omega) (by omega) (by omega) (List.getElem?_eq_getElem (by omega)) (List.getElem?_eq_getElem (by omega))
                       | exact sget_o (by omega) (by omega) (by omega) (by omega)
                   have ek : ((((1 + (fget (bs.drop 1)).2.1 : Nat) : Int) + 1) : Int) = ((((1 + (fget (bs.drop 1)).2.1) + 1) : Nat) : Int) := by omega
                   rw [e_, ek]
                   exact ⟨hB, (⟨A_3, c_2, none, 0, ⟨(bs[0].toNat : Int), (bs[(1 + (fget (bs.drop 1)).2.1)].toNat : Int), (bget ((fget (bs.drop 1)).1)).1, [], 0, 0⟩⟩ : StepD), rfl, fun _ => ⟨rfl, (own_of ho2).2.2.zero, Sli.nil⟩⟩)
        · refine C_skip (N_then (C_seq (C_seq (C_reg ?_))))
          refine L_run (R_move rfl) rfl ?_
          refine L_run (R_lenSl rfl slc42) rfl ?_
          refine L_run (R_move rfl) rfl ?_
          refine L_run (R_move rfl) rfl ?_
          refine L_run (R_add64 rfl rfl (by first | omega | (have h_ := (bs[(1 + (fget (bs.drop 1)).2.1)]'(by omega)).toNat_lt; omega))) rfl ?_
          refine L_run (R_lss rfl rfl) rfl ?_
          refine L_nil (N_then ?_)
          refine C_if rfl (fun h12 => ?_) (fun h12 => ?_)
          · refine C_seq (C_reg ?_)
            refine L_run (R_loadA (vs := [.int .i64 (bs[0].toNat : Int), .int .i64 0, .slice A_3 (((bget ((fget (bs.drop 1)).1)).1).length) c_2, .slice none 0 0, .int .i64 0, .int .i64 0]) rfl agg65 (At.pre (hb5.at_ 0) rfl) rfl) rfl ?_
            refine L_stA (vs := [.int .i64 (bs[0].toNat : Int), .int .i64 0, .slice A_3 (((bget ((fget (bs.drop 1)).1)).1).length) c_2, .slice none 0 0, .int .i64 0, .int .i64 0]) rfl rfl rfl sz65 rfl hb1 rfl ?_
            intro w26 hb21 hs26 hz21
            replace hB := gb_trg hB hs26 ge1
            replace hS := hS.old hs26 ge1
            replace hb5 := hb5.grown hs26 (ne_gt lt1)
            replace hS_1 := hS_1.old hs26 ge1
            replace ho1 := own_other ho1 hb1 rfl hs26
            replace hlo1 := Nat.le_trans hlo1 hs26.size
            replace ho2 := own_other ho2 hb1 rfl hs26
            replace hlo2 := Nat.le_trans hlo2 hs26.size
            refine L_run (R_assign rfl) rfl ?_
            refine L_run (R_assign rfl) rfl ?_
            refine L_nil (N_then (C_ret (R_then ?_)))
            refine retC2 (vs := [.int .i64 (bs[0].toNat : Int), .int .i64 0, .slice A_3 (((bget ((fget (bs.drop 1)).1)).1).length) c_2, .slice none 0 0, .int .i64 0, .int .i64 0]) Try.results79 rfl agg65 (At.pre (hb21.at_ 0) rfl) rfl rfl rfl ?_
            first
              | (exfalso; omega)
              | (have e_ : sget bs = (p0, 0, 1) := by
                   first
                     | exact sget_1e (by omega) (by omega) (by assumption)
                     | exact sget_5e (by omega) (by omega) (by rw [List.length_drop]; omega)
                     | exact sget_4e (by omega) (by omega) (by assumption)
                     | exact sget_4s (by omega) (by omega) (by omega) (by omega)
                     | (rw [sgetK_1 (by omega) (by omega) (by omega)]; exact sfin_n (by assumption))
                     | (rw [sgetK_5 (by omega) (by omega) (List.getElem?_eq_getElem (by omega))]; exact sfin_n (by assumption))
                     | (rw [sgetK_4 (by omega) (by omega) (by omega) (List.getElem?_eq_getElem (by omega)) (List.getElem?_eq_getElem (by omega))]; exact sfin_n (by assumption))
                     | (rw [sget_o (by omega) (by omega) (by omega) (by omega)]; exact sfin_n (by assumption))
                 rw [e_]
                 exact ⟨hB, (⟨A_3, c_2, none, 0, ⟨(bs[0].toNat : Int), 0, (bget ((fget (bs.drop 1)).1)).1, [], 0, 0⟩⟩ : StepD), rfl, fun h_ => absurd h_ (by first | assumption | simp)⟩)
          · refine C_skip (N_then (C_seq (C_seq (C_reg ?_))))
            refine L_run (R_field (r := 0) rfl fld65_0 rfl) rfl ?_
            refine L_run (R_load1 rfl scl3 (hb5.cell (i := 0) rfl)) rfl ?_
            refine L_run (R_eql rfl rfl) rfl ?_
            refine L_nil (N_then (C_condF rfl (decide_eq_false h3) (C_skip (N_then (C_seq (C_seq (C_reg ?_)))))))
            refine L_run (R_field (r := 0) rfl fld65_0 rfl) rfl ?_
            refine L_run (R_load1 rfl scl3 (hb5.cell (i := 0) rfl)) rfl ?_
            refine L_run (R_eql rfl rfl) rfl ?_
            refine L_nil (N_then (C_condF rfl (decide_eq_false h9) (C_skip (N_then (C_seq (C_seq (C_reg ?_)))))))
            refine L_run (R_loadA (vs := [.int .i64 (bs[0].toNat : Int), .int .i64 0, .slice A_3 (((bget ((fget (bs.drop 1)).1)).1).length) c_2, .slice none 0 0, .int .i64 0, .int .i64 0]) rfl agg65 (At.pre (hb5.at_ 0) rfl) rfl) rfl ?_
            refine L_call rfl cb54 (ref38_Right (ops := (bget ((fget (bs.drop 1)).1)).1) (own_of ho2).2.2 (by first | omega | (simp; done) | (have h_ := bget_len (fget (bs.drop 1)).1; omega))) rfl ?_
            rintro _ w27 ⟨hs27, rfl⟩
            replace hB := gb_tr hB hs27
            replace hS := hS.gb hs27
            replace hb1 := hb1.gb hs27
            replace hb5 := hb5.gb hs27
            replace hS_1 := hS_1.gb hs27
            replace ho1 := own_gb ho1 hs27
            replace hlo1 := Nat.le_trans hlo1 hs27.size
            replace ho2 := own_gb ho2 hs27
            replace hlo2 := Nat.le_trans hlo2 hs27.size
            refine L_run (R_notD rfl) rfl ?_
            refine L_nil (N_then ?_)
            refine C_ifN rfl (fun h13 => ?_) (fun h13 => ?_)
            · refine C_seq (C_reg ?_)
              refine L_run (R_loadA (vs := [.int .i64 (bs[0].toNat : Int), .int .i64 0, .slice A_3 (((bget ((fget (bs.drop 1)).1)).1).length) c_2, .slice none 0 0, .int .i64 0, .int .i64 0]) rfl agg65 (At.pre (hb5.at_ 0) rfl) rfl) rfl ?_
              refine L_stA (vs := [.int .i64 (bs[0].toNat : Int), .int .i64 0, .slice A_3 (((bget ((fget (bs.drop 1)).1)).1).length) c_2, .slice none 0 0, .int .i64 0, .int .i64 0]) rfl rfl rfl sz65 rfl hb1 rfl ?_
              intro w28 hb22 hs28 hz22
              replace hB := gb_trg hB hs28 ge1
              replace hS := hS.old hs28 ge1
              replace hb5 := hb5.grown hs28 (ne_gt lt1)
              replace hS_1 := hS_1.old hs28 ge1
              replace ho1 := own_other ho1 hb1 rfl hs28
              replace hlo1 := Nat.le_trans hlo1 hs28.size
              replace ho2 := own_other ho2 hb1 rfl hs28
              replace hlo2 := Nat.le_trans hlo2 hs28.size
              refine L_run (R_assign rfl) rfl ?_
              refine L_run (R_assign rfl) rfl ?_
              refine L_nil (N_then (C_ret (R_then ?_)))
              refine retC2 (vs := [.int .i64 (bs[0].toNat : Int), .int .i64 0, .slice A_3 (((bget ((fget (bs.drop 1)).1)).1).length) c_2, .slice none 0 0, .int .i64 0, .int .i64 0]) Try.results79 rfl agg65 (At.pre (hb22.at_ 0) rfl) rfl rfl rfl ?_
              first
                | (exfalso; omega)
                | (have e_ : sget bs = (p0, 0, 2) := by
                     first
                       | exact sget_1e (by omega) (by omega) (by assumption)
                       | exact sget_5e (by omega) (by omega) (by rw [List.length_drop]; omega)
                       | exact sget_4e (by omega) (by omega) (by assumption)
                       | exact sget_4s (by omega) (by omega) (by omega) (by omega)
                       | (rw [sgetK_1 (by omega) (by omega) (by omega)]; exact sfin_n (by assumption))
                       | (rw [sgetK_5 (by omega) (by omega) (List.getElem?_eq_getElem (by omega))]; exact sfin_n (by assumption))
                       | (rw [sgetK_4 (by omega) (by omega) (by omega) (List.getElem?_eq_getElem (by omega)) (List.getElem?_eq_getElem (by omega))]; exact sfin_n (by assumption))
                       | (rw [sget_o (by omega) (by omega) (by omega) (by omega)]; exact sfin_n (by assumption))
                   rw [e_]
                   exact ⟨hB, (⟨A_3, c_2, none, 0, ⟨(bs[0].toNat : Int), 0, (bget ((fget (bs.drop 1)).1)).1, [], 0, 0⟩⟩ : StepD), rfl, fun h_ => absurd h_ (by first | assumption | simp)⟩)
            · refine C_skip (N_then (C_seq (C_reg ?_)))
              refine L_run (R_loadA (vs := [.int .i64 (bs[0].toNat : Int), .int .i64 0, .slice A_3 (((bget ((fget (bs.drop 1)).1)).1).length) c_2, .slice none 0 0, .int .i64 0, .int .i64 0]) rfl agg65 (At.pre (hb5.at_ 0) rfl) rfl) rfl ?_
              refine L_run (R_move rfl) rfl ?_
              refine L_run (R_move rfl) rfl ?_
              refine L_run (R_add64 rfl rfl (by first | omega | (have h_ := (bs[(1 + (fget (bs.drop 1)).2.1)]'(by omega)).toNat_lt; omega))) rfl ?_
              refine L_stA (vs := [.int .i64 (bs[0].toNat : Int), .int .i64 0, .slice A_3 (((bget ((fget (bs.drop 1)).1)).1).length) c_2, .slice none 0 0, .int .i64 0, .int .i64 0]) rfl rfl rfl sz65 rfl hb1 rfl ?_
              intro w29 hb23 hs29 hz23
              replace hB := gb_trg hB hs29 ge1
              replace hS := hS.old hs29 ge1
              replace hb5 := hb5.grown hs29 (ne_gt lt1)
              replace hS_1 := hS_1.old hs29 ge1
              replace ho1 := own_other ho1 hb1 rfl hs29
              replace hlo1 := Nat.le_trans hlo1 hs29.size
              replace ho2 := own_other ho2 hb1 rfl hs29
              replace hlo2 := Nat.le_trans hlo2 hs29.size
              refine L_run (R_assign rfl) rfl ?_
              refine L_run (R_assign rfl) rfl ?_
              refine L_nil (N_then (C_ret ?_))
              refine retC2 (vs := [.int .i64 (bs[0].toNat : Int), .int .i64 0, .slice A_3 (((bget ((fget (bs.drop 1)).1)).1).length) c_2, .slice none 0 0, .int .i64 0, .int .i64 0]) Try.results79 rfl agg65 (At.pre (hb23.at_ 0) rfl) rfl rfl rfl ?_
              first
                | (exfalso; omega)
                | (have e_ : sget bs = ((⟨(bs[0].toNat : Int), 0, (bget ((fget (bs.drop 1)).1)).1, [], 0, 0⟩ : StepP), ((1 + (fget (bs.drop 1)).2.1) + 0), 0) := by
                     refine Eq.trans (b := sfin (⟨(bs[0].toNat : Int), 0, (bget ((fget (bs.drop 1)).1)).1, [], 0, 0⟩ : StepP) ((1 + (fget (bs.drop 1)).2.1) + 0)) ?_ (sfin_y (p := (⟨(bs[0].toNat : Int), 0, (bget ((fget (bs.drop 1)).1)).1, [], 0, 0⟩ : StepP)) (by first | assumption | exact Decidable.not_not.1 (by assumption)))
                     first
                       | exact sgetK_1 (by omega) (by omega) (by omega)
                       | exact sgetK_5 (by omega) (by omega) (List.getElem?_eq_getElem (by omega))
                       | exact sgetK_4 (by omega) (by omega) (by omega) (List.getElem?_eq_getElem (by omega)) (List.getElem?_eq_getElem (by omega))
                       | exact sget_o (by omega) (by omega) (by omega) (by omega)
                   have ek : ((((1 + (fget (bs.drop 1)).2.1 : Nat) : Int) + 0) : Int) = ((((1 + (fget (bs.drop 1)).2.1) + 0) : Nat) : Int) := by omega
                   rw [e_, ek]
                   exact ⟨hB, (⟨A_3, c_2, none, 0, ⟨(bs[0].toNat : Int), 0, (bget ((fget (bs.drop 1)).1)).1, [], 0, 0⟩⟩ : StepD), rfl, fun _ => ⟨rfl, (own_of ho2).2.2.zero, Sli.nil⟩⟩)
  · refine L_yes rfl rfl rfl (decide_eq_false h1) ?_
    refine L_run (R_field (r := 0) rfl fld65_0 rfl) rfl ?_
    refine L_yes rfl rfl rfl (decide_eq_false h1) ?_
    refine L_run (R_load1 rfl scl3 (hb3.cell (i := 0) rfl)) rfl ?_
    refine L_yes rfl rfl rfl (decide_eq_false h1) ?_
    refine L_run (R_eql rfl rfl) rfl ?_
    refine L_run (R_pickF rfl (decide_eq_false h1) rfl) rfl ?_
    refine L_nil (N_then ?_)
    refine C_if rfl (fun h14 => ?_) (fun h14 => ?_)
    · refine C_seq (C_reg ?_)
      refine L_run (R_move rfl) rfl ?_
      refine T_slL (xs := bs) (i := 1) EncB rfl rfl (by first | rfl | omega) slc42 (by first | omega | (simp; done) | (simp; omega)) (by first | omega | (simp; done) | (simp; omega)) hS rfl ?_
      intro A_4 hS_2
      have ge5 : w.heap.size ≤ w3.heap.size := hB.size
      refine L_call rfl cb75 (ref04_Get (bs := (bs.drop 1)) hS_2 (by simp; omega) (by simp; omega)) rfl ?_
      rintro _ w30 ⟨hs30, A_5, c_3, rfl, ho3⟩
      replace hB := gb_tr hB hs30
      replace hS := hS.gb hs30
      replace hb1 := hb1.gb hs30
      replace hb3 := hb3.gb hs30
      replace hS_2 := hS_2.gb hs30
      have hlo3 : w3.heap.size ≤ w30.heap.size := hs30.size
      refine L_run (R_move rfl) rfl ?_
      refine L_run (R_extract rfl rfl) rfl ?_
      refine L_run (R_extract rfl rfl) rfl ?_
      refine L_run (R_extract rfl rfl) rfl ?_
      refine L_run (R_assign rfl) rfl ?_
      refine L_run (R_assign rfl) rfl ?_
      refine L_run (R_assign rfl) rfl ?_
      refine L_nil (N_then (C_seq (C_seq (C_reg ?_))))
      refine L_run (R_move rfl) rfl ?_
      refine L_run (R_neq rfl rfl) rfl ?_
      refine L_nil (N_then ?_)
      refine C_if rfl (fun h15 => ?_) (fun h15 => ?_)
      · refine C_seq (C_reg ?_)
        refine L_run (R_loadA (vs := [.int .i64 (bs[0].toNat : Int), .int .i64 0, .slice none 0 0, .slice none 0 0, .int .i64 0, .int .i64 0]) rfl agg65 (At.pre (hb3.at_ 0) rfl) rfl) rfl ?_
        refine L_run (R_move rfl) rfl ?_
        refine L_stA (vs := [.int .i64 (bs[0].toNat : Int), .int .i64 0, .slice none 0 0, .slice none 0 0, .int .i64 0, .int .i64 0]) rfl rfl rfl sz65 rfl hb1 rfl ?_
        intro w31 hb24 hs31 hz24
        replace hB := gb_trg hB hs31 ge1
        replace hS := hS.old hs31 ge1
        replace hb3 := hb3.grown hs31 (ne_gt lt1)
        replace hS_2 := hS_2.old hs31 ge1
        replace ho3 := own_other ho3 hb1 rfl hs31
        replace hlo3 := Nat.le_trans hlo3 hs31.size
        refine L_run (R_assign rfl) rfl ?_
        refine L_run (R_assign rfl) rfl ?_
        refine L_nil (N_then (C_ret (R_then (R_then ?_))))
        refine retC2 (vs := [.int .i64 (bs[0].toNat : Int), .int .i64 0, .slice none 0 0, .slice none 0 0, .int .i64 0, .int .i64 0]) Try.results79 rfl agg65 (At.pre (hb24.at_ 0) rfl) rfl rfl rfl ?_
        first
          | (exfalso; omega)
          | (have e_ : sget bs = (p0, 0, (fget (bs.drop 1)).2.2) := by
               first
                 | exact sget_1e (by omega) (by omega) (by assumption)
                 | exact sget_5e (by omega) (by omega) (by rw [List.length_drop]; omega)
                 | exact sget_4e (by omega) (by omega) (by assumption)
                 | exact sget_4s (by omega) (by omega) (by omega) (by omega)
                 | (rw [sgetK_1 (by omega) (by omega) (by omega)]; exact sfin_n (by assumption))
                 | (rw [sgetK_5 (by omega) (by omega) (List.getElem?_eq_getElem (by omega))]; exact sfin_n (by assumption))
                 | (rw [sgetK_4 (by omega) (by omega) (by omega) (List.getElem?_eq_getElem (by omega)) (List.getElem?_eq_getElem (by omega))]; exact sfin_n (by assumption))
                 | (rw [sget_o (by omega) (by omega) (by omega) (by omega)]; exact sfin_n (by assumption))
             rw [e_]
             exact ⟨hB, (⟨none, 0, none, 0, ⟨(bs[0].toNat : Int), 0, [], [], 0, 0⟩⟩ : StepD), rfl, fun h_ => absurd h_ (by first | assumption | simp)⟩)
      · refine C_skip (N_then (C_seq (C_reg ?_)))
        refine L_run (R_move rfl) rfl ?_
        refine L_run (R_move rfl) rfl ?_
        refine L_run (R_eqv (R_add64 rfl rfl (by first | omega | (have h_ := (bs[(1 + (fget (bs.drop 1)).2.1)]'(by omega)).toNat_lt; omega))) (v' := .int .i64 ((1 + (fget (bs.drop 1)).2.1 : Nat) : Int)) (by congr 1)) rfl ?_
        refine L_run (R_assign rfl) rfl ?_
        refine L_nil (N_then (C_seq (C_reg ?_)))
        refine L_run (R_field (r := 0) rfl fld65_0 rfl) rfl ?_
        refine L_run (R_load1 rfl scl3 (hb3.cell (i := 0) rfl)) rfl ?_
        refine L_run (R_eql rfl rfl) rfl ?_
        refine L_nil (N_then (C_condF rfl (decide_eq_false h1) (C_reg ?_)))
        refine L_run (R_move rfl) rfl ?_
        refine L_run (R_field (r := 3) rfl fld65_3 rfl) rfl ?_
        refine L_run (R_field (r := 3) rfl fld63_0 rfl) rfl ?_
        refine L_st1 rfl rfl rfl sz42 hb3 rfl ?_
        intro w32 hb25 hs32 hz25
        replace hB := gb_trg hB hs32 ge2
        replace hS := hS.old hs32 ge2
        replace hb1 := hb1.grown hs32 (ne_lt lt1)
        replace hS_2 := hS_2.old hs32 ge2
        replace ho3 := own_other ho3 hb3 rfl hs32
        replace hlo3 := Nat.le_trans hlo3 hs32.size
        refine L_nil (N_then (C_seq (C_reg ?_)))
        refine L_run (R_assign rfl) rfl ?_
        refine L_nil (N_then (C_seq (C_seq (C_reg ?_))))
        refine L_run (R_field (r := 0) rfl fld65_0 rfl) rfl ?_
        refine L_run (R_load1 rfl scl3 (hb25.cell (i := 0) rfl)) rfl ?_
        refine L_run (R_eql rfl rfl) rfl ?_
        refine L_nil (N_then (C_condT rfl (decide_eq_true h14) (C_reg ?_)))
        refine L_run (R_assign rfl) rfl ?_
        refine L_nil (N_then (C_seq (C_seq (C_reg ?_))))
        refine L_run (R_field (r := 0) rfl fld65_0 rfl) rfl ?_
        refine L_run (R_load1 rfl scl3 (hb25.cell (i := 0) rfl)) rfl ?_
        refine L_run (R_eql rfl rfl) rfl ?_
        refine L_nil (N_then ?_)
        refine C_if rfl (fun h16 => ?_) (fun h16 => ?_)
        · refine C_reg ?_
          refine L_run (R_assign rfl) rfl ?_
          refine L_nil (N_then (C_seq (C_seq (C_reg ?_))))
          refine L_run (R_move rfl) rfl ?_
          refine L_run (R_lenSl rfl slc42) rfl ?_
          refine L_run (R_move rfl) rfl ?_
          refine L_run (R_move rfl) rfl ?_
          refine L_run (R_add64 rfl rfl (by first | omega | (have h_ := (bs[(1 + (fget (bs.drop 1)).2.1)]'(by omega)).toNat_lt; omega))) rfl ?_
          refine L_run (R_lss rfl rfl) rfl ?_
          refine L_nil (N_then ?_)
          refine C_if rfl (fun h17 => ?_) (fun h17 => ?_)
          · refine C_seq (C_reg ?_)
            refine L_run (R_loadA (vs := [.int .i64 (bs[0].toNat : Int), .int .i64 0, .slice none 0 0, .slice A_5 ((fget (bs.drop 1)).1.length) c_3, .int .i64 0, .int .i64 0]) rfl agg65 (At.pre (hb25.at_ 0) rfl) rfl) rfl ?_
            refine L_stA (vs := [.int .i64 (bs[0].toNat : Int), .int .i64 0, .slice none 0 0, .slice A_5 ((fget (bs.drop 1)).1.length) c_3, .int .i64 0, .int .i64 0]) rfl rfl rfl sz65 rfl hb1 rfl ?_
            intro w33 hb26 hs33 hz26
            replace hB := gb_trg hB hs33 ge1
            replace hS := hS.old hs33 ge1
            replace hb25 := hb25.grown hs33 (ne_gt lt1)
            replace hS_2 := hS_2.old hs33 ge1
            replace ho3 := own_other ho3 hb1 rfl hs33
            replace hlo3 := Nat.le_trans hlo3 hs33.size
            refine L_run (R_assign rfl) rfl ?_
            refine L_run (R_assign rfl) rfl ?_
            refine L_nil (N_then (C_ret (R_then ?_)))
            refine retC2 (vs := [.int .i64 (bs[0].toNat : Int), .int .i64 0, .slice none 0 0, .slice A_5 ((fget (bs.drop 1)).1.length) c_3, .int .i64 0, .int .i64 0]) Try.results79 rfl agg65 (At.pre (hb26.at_ 0) rfl) rfl rfl rfl ?_
            first
              | (exfalso; omega)
              | (have e_ : sget bs = (p0, 0, 1) := by
                   first
                     | exact sget_1e (by omega) (by omega) (by assumption)
                     | exact sget_5e (by omega) (by omega) (by rw [List.length_drop]; omega)
                     | exact sget_4e (by omega) (by omega) (by assumption)
                     | exact sget_4s (by omega) (by omega) (by omega) (by omega)
                     | (rw [sgetK_1 (by omega) (by omega) (by omega)]; exact sfin_n (by assumption))
                     | (rw [sgetK_5 (by omega) (by omega) (List.getElem?_eq_getElem (by omega))]; exact sfin_n (by assumption))
                     | (rw [sgetK_4 (by omega) (by omega) (by omega) (List.getElem?_eq_getElem (by omega)) (List.getElem?_eq_getElem (by omega))]; exact sfin_n (by assumption))
                     | (rw [sget_o (by omega) (by omega) (by omega) (by omega)]; exact sfin_n (by assumption))
                 rw [e_]
                 exact ⟨hB, (⟨none, 0, A_5, c_3, ⟨(bs[0].toNat : Int), 0, [], (fget (bs.drop 1)).1, 0, 0⟩⟩ : StepD), rfl, fun h_ => absurd h_ (by first | assumption | simp)⟩)
          · refine C_skip (N_then (C_seq (C_seq (C_reg ?_))))
            refine L_run (R_field (r := 0) rfl fld65_0 rfl) rfl ?_
            refine L_run (R_load1 rfl scl3 (hb25.cell (i := 0) rfl)) rfl ?_
            refine L_run (R_eql rfl rfl) rfl ?_
            refine L_nil (N_then (C_condT rfl (decide_eq_true h14) (C_seq (C_reg ?_))))
            refine L_run (R_move rfl) rfl ?_
            refine L_run (R_move rfl) rfl ?_
            have hl8 : (1 + (fget (bs.drop 1)).2.1) < bs.length := by first | omega | (simp; omega)
            refine T_index (xs := bs) (i := (1 + (fget (bs.drop 1)).2.1)) EncB rfl rfl (by first | rfl | omega) slc42 hl8 hS rfl ?_
            intro g10 o8 ha8
            refine L_run (R_load1 rfl scl5 (ha8 0 _ rfl)) rfl ?_
            refine L_run (R_eqv (R_conv rfl any5 int3) (v' := .int .i64 (bs[(1 + (fget (bs.drop 1)).2.1)].toNat : Int)) (congrArg _ (i64_fit (by have := (bs[(1 + (fget (bs.drop 1)).2.1)]'(by omega)).toNat_lt; omega)))) rfl ?_
            refine L_run (R_sub64 rfl rfl (by first | omega | (have h_ := (bs[(1 + (fget (bs.drop 1)).2.1)]'(by omega)).toNat_lt; omega))) rfl ?_
            refine L_run (R_field (r := 3) rfl fld65_3 rfl) rfl ?_
            refine L_run (R_field (r := 4) rfl fld63_1 rfl) rfl ?_
            refine L_st1 rfl rfl rfl sz3 hb25 rfl ?_
            intro w34 hb27 hs34 hz27
            replace hB := gb_trg hB hs34 ge2
            replace hS := hS.old hs34 ge2
            replace hb1 := hb1.grown hs34 (ne_lt lt1)
            replace hS_2 := hS_2.old hs34 ge2
            replace ho3 := own_other ho3 hb25 rfl hs34
            replace hlo3 := Nat.le_trans hlo3 hs34.size
            refine L_nil (N_then (C_reg ?_))
            refine L_run (R_move rfl) rfl ?_
            refine L_run (R_move rfl) rfl ?_
            refine L_run (R_add64 rfl rfl (by first | omega | (have h_ := (bs[(1 + (fget (bs.drop 1)).2.1)]'(by omega)).toNat_lt; omega))) rfl ?_
            have hl9 : ((1 + (fget (bs.drop 1)).2.1) + 1) < bs.length := by first | omega | (simp; omega)
            refine T_index (xs := bs) (i := ((1 + (fget (bs.drop 1)).2.1) + 1)) EncB rfl rfl (by first | rfl | omega) slc42 hl9 hS rfl ?_
            intro g11 o9 ha9
            refine L_run (R_load1 rfl scl5 (ha9 0 _ rfl)) rfl ?_
            refine L_run (R_eqv (R_conv rfl any5 int3) (v' := .int .i64 (bs[((1 + (fget (bs.drop 1)).2.1) + 1)].toNat : Int)) (congrArg _ (i64_fit (by have := (bs[((1 + (fget (bs.drop 1)).2.1) + 1)]'(by omega)).toNat_lt; omega)))) rfl ?_
            refine L_run (R_field (r := 3) rfl fld65_3 rfl) rfl ?_
            refine L_run (R_field (r := 5) rfl fld63_2 rfl) rfl ?_
            refine L_st1 rfl rfl rfl sz3 hb27 rfl ?_
            intro w35 hb28 hs35 hz28
            replace hB := gb_trg hB hs35 ge2
            replace hS := hS.old hs35 ge2
            replace hb1 := hb1.grown hs35 (ne_lt lt1)
            replace hS_2 := hS_2.old hs35 ge2
            replace ho3 := own_other ho3 hb27 rfl hs35
            replace hlo3 := Nat.le_trans hlo3 hs35.size
            refine L_nil (N_then (C_seq (C_seq (C_reg ?_))))
            refine L_run (R_field (r := 0) rfl fld65_0 rfl) rfl ?_
            refine L_run (R_load1 rfl scl3 (hb28.cell (i := 0) rfl)) rfl ?_
            refine L_run (R_eql rfl rfl) rfl ?_
            refine L_nil (N_then (C_condT rfl (decide_eq_true h16) (C_reg ?_)))
            refine L_run (R_move rfl) rfl ?_
            refine L_run (R_move rfl) rfl ?_
            have hl10 : (1 + (fget (bs.drop 1)).2.1) < bs.length := by first | omega | (simp; omega)
            refine T_index (xs := bs) (i := (1 + (fget (bs.drop 1)).2.1)) EncB rfl rfl (by first | rfl | omega) slc42 hl10 hS rfl ?_
            intro g12 o10 ha10
            refine L_run (R_load1 rfl scl5 (ha10 0 _ rfl)) rfl ?_
            refine L_run (R_eqv (R_conv rfl any5 int3) (v' := .int .i64 (bs[(1 + (fget (bs.drop 1)).2.1)].toNat : Int)) (congrArg _ (i64_fit (by first | (have := (bs[1]'(by omega)).toNat_lt; omega) | (have := (bs[(1 + (fget (bs.drop 1)).2.1)]'(by omega)).toNat_lt; omega))))) rfl ?_
            refine L_run (R_field (r := 1) rfl fld65_1 rfl) rfl ?_
            refine L_st1 rfl rfl rfl sz3 hb28 rfl ?_
            intro w36 hb29 hs36 hz29
            replace hB := gb_trg hB hs36 ge2
            replace hS := hS.old hs36 ge2
            replace hb1 := hb1.grown hs36 (ne_lt lt1)
            replace hS_2 := hS_2.old hs36 ge2
            replace ho3 := own_other ho3 hb28 rfl hs36
            replace hlo3 := Nat.le_trans hlo3 hs36.size
            refine L_nil (N_then (C_seq (C_seq (C_reg ?_))))
            refine L_run (R_loadA (vs := [.int .i64 (bs[0].toNat : Int), .int .i64 (bs[(1 + (fget (bs.drop 1)).2.1)].toNat : Int), .slice none 0 0, .slice A_5 ((fget (bs.drop 1)).1.length) c_3, .int .i64 ((bs[(1 + (fget (bs.drop 1)).2.1)].toNat : Int) - 1), .int .i64 (bs[((1 + (fget (bs.drop 1)).2.1) + 1)].toNat : Int)]) rfl agg65 (At.pre (hb29.at_ 0) rfl) rfl) rfl ?_
            refine L_call rfl cb54 (ref38_Right (ops := []) (Sli.nil (t := 0) (lo := 0) (hi := 0)) (by first | omega | (simp; done) | (have h_ := bget_len (fget (bs.drop 1)).1; omega))) rfl ?_
            rintro _ w37 ⟨hs37, rfl⟩
            replace hB := gb_tr hB hs37
            replace hS := hS.gb hs37
            replace hb1 := hb1.gb hs37
            replace hb29 := hb29.gb hs37
            replace hS_2 := hS_2.gb hs37
            replace ho3 := own_gb ho3 hs37
            replace hlo3 := Nat.le_trans hlo3 hs37.size
            refine L_run (R_notD rfl) rfl ?_
            refine L_nil (N_then ?_)
            refine C_ifN rfl (fun h18 => ?_) (fun h18 => ?_)
            · refine C_seq (C_reg ?_)
              refine L_run (R_loadA (vs := [.int .i64 (bs[0].toNat : Int), .int .i64 (bs[(1 + (fget (bs.drop 1)).2.1)].toNat : Int), .slice none 0 0, .slice A_5 ((fget (bs.drop 1)).1.length) c_3, .int .i64 ((bs[(1 + (fget (bs.drop 1)).2.1)].toNat : Int) - 1), .int .i64 (bs[((1 + (fget (bs.drop 1)).2.1) + 1)].toNat : Int)]) rfl agg65 (At.pre (hb29.at_ 0) rfl) rfl) rfl ?_
              refine L_stA (vs := [.int .i64 (bs[0].toNat : Int), .int .i64 (bs[(1 + (fget (bs.drop 1)).2.1)].toNat : Int), .slice none 0 0, .slice A_5 ((fget (bs.drop 1)).1.length) c_3, .int .i64 ((bs[(1 + (fget (bs.drop 1)).2.1)].toNat : Int) - 1), .int .i64 (bs[((1 + (fget (bs.drop 1)).2.1) + 1)].toNat : Int)]) rfl rfl rfl sz65 rfl hb1 rfl ?_
              intro w38 hb30 hs38 hz30
              replace hB := gb_trg hB hs38 ge1
              replace hS := hS.old hs38 ge1
              replace hb29 := hb29.grown hs38 (ne_gt lt1)
              replace hS_2 := hS_2.old hs38 ge1
              replace ho3 := own_other ho3 hb1 rfl hs38
              replace hlo3 := Nat.le_trans hlo3 hs38.size
              refine L_run (R_assign rfl) rfl ?_
              refine L_run (R_assign rfl) rfl ?_
              refine L_nil (N_then (C_ret (R_then ?_)))
              refine retC2 (vs := [.int .i64 (bs[0].toNat : Int), .int .i64 (bs[(1 + (fget (bs.drop 1)).2.1)].toNat : Int), .slice none 0 0, .slice A_5 ((fget (bs.drop 1)).1.length) c_3, .int .i64 ((bs[(1 + (fget (bs.drop 1)).2.1)].toNat : Int) - 1), .int .i64 (bs[((1 + (fget (bs.drop 1)).2.1) + 1)].toNat : Int)]) Try.results79 rfl agg65 (At.pre (hb30.at_ 0) rfl) rfl rfl rfl ?_
              first
                | (exfalso; omega)
                | (have e_ : sget bs = (p0, 0, 2) := by
                     first
                       | exact sget_1e (by omega) (by omega) (by assumption)
                       | exact sget_5e (by omega) (by omega) (by rw [List.length_drop]; omega)
                       | exact sget_4e (by omega) (by omega) (by assumption)
                       | exact sget_4s (by omega) (by omega) (by omega) (by omega)
                       | (rw [sgetK_1 (by omega) (by omega) (by omega)]; exact sfin_n (by assumption))
                       | (rw [sgetK_5 (by omega) (by omega) (List.getElem?_eq_getElem (by omega))]; exact sfin_n (by assumption))
                       | (rw [sgetK_4 (by omega) (by omega) (by omega) (List.getElem?_eq_getElem (by omega)) (List.getElem?_eq_getElem (by omega))]; exact sfin_n (by assumption))
                       | (rw [sget_o (by omega) (by omega) (by omega) (by omega)]; exact sfin_n (by assumption))
                   rw [e_]
                   exact ⟨hB, (⟨none, 0, A_5, c_3, ⟨(bs[0].toNat : Int), (bs[(1 + (fget (bs.drop 1)).2.1)].toNat : Int), [], (fget (bs.drop 1)).1, ((bs[(1 + (fget (bs.drop 1)).2.1)].toNat : Int) - 1), (bs[((1 + (fget (bs.drop 1)).2.1) + 1)].toNat : Int)⟩⟩ : StepD), rfl, fun h_ => absurd h_ (by first | assumption | simp)⟩)
            · refine C_skip (N_then (C_seq (C_reg ?_)))
              refine L_run (R_loadA (vs := [.int .i64 (bs[0].toNat : Int), .int .i64 (bs[(1 + (fget (bs.drop 1)).2.1)].toNat : Int), .slice none 0 0, .slice A_5 ((fget (bs.drop 1)).1.length) c_3, .int .i64 ((bs[(1 + (fget (bs.drop 1)).2.1)].toNat : Int) - 1), .int .i64 (bs[((1 + (fget (bs.drop 1)).2.1) + 1)].toNat : Int)]) rfl agg65 (At.pre (hb29.at_ 0) rfl) rfl) rfl ?_
              refine L_run (R_move rfl) rfl ?_
              refine L_run (R_move rfl) rfl ?_
              refine L_run (R_add64 rfl rfl (by first | omega | (have h_ := (bs[(1 + (fget (bs.drop 1)).2.1)]'(by omega)).toNat_lt; omega))) rfl ?_
              refine L_stA (vs := [.int .i64 (bs[0].toNat : Int), .int .i64 (bs[(1 + (fget (bs.drop 1)).2.1)].toNat : Int), .slice none 0 0, .slice A_5 ((fget (bs.drop 1)).1.length) c_3, .int .i64 ((bs[(1 + (fget (bs.drop 1)).2.1)].toNat : Int) - 1), .int .i64 (bs[((1 + (fget (bs.drop 1)).2.1) + 1)].toNat : Int)]) rfl rfl rfl sz65 rfl hb1 rfl ?_
              intro w39 hb31 hs39 hz31
              replace hB := gb_trg hB hs39 ge1
              replace hS := hS.old hs39 ge1
              replace hb29 := hb29.grown hs39 (ne_gt lt1)
              replace hS_2 := hS_2.old hs39 ge1
              replace ho3 := own_other ho3 hb1 rfl hs39
              replace hlo3 := Nat.le_trans hlo3 hs39.size
              refine L_run (R_assign rfl) rfl ?_
              refine L_run (R_assign rfl) rfl ?_
              refine L_nil (N_then (C_ret ?_))
              refine retC2 (vs := [.int .i64 (bs[0].toNat : Int), .int .i64 (bs[(1 + (fget (bs.drop 1)).2.1)].toNat : Int), .slice none 0 0, .slice A_5 ((fget (bs.drop 1)).1.length) c_3, .int .i64 ((bs[(1 + (fget (bs.drop 1)).2.1)].toNat : Int) - 1), .int .i64 (bs[((1 + (fget (bs.drop 1)).2.1) + 1)].toNat : Int)]) Try.results79 rfl agg65 (At.pre (hb31.at_ 0) rfl) rfl rfl rfl ?_
              first
                | (exfalso; omega)
                | (have e_ : sget bs = ((⟨(bs[0].toNat : Int), (bs[(1 + (fget (bs.drop 1)).2.1)].toNat : Int), [], (fget (bs.drop 1)).1, ((bs[(1 + (fget (bs.drop 1)).2.1)].toNat : Int) - 1), (bs[((1 + (fget (bs.drop 1)).2.1) + 1)].toNat : Int)⟩ : StepP), ((1 + (fget (bs.drop 1)).2.1) + 1), 0) := by
                     refine Eq.trans (b := sfin (⟨(bs[0].toNat : Int), (bs[(1 + (fget (bs.drop 1)).2.1)].toNat : Int), [], (fget (bs.drop 1)).1, ((bs[(1 + (fget (bs.drop 1)).2.1)].toNat : Int) - 1), (bs[((1 + (fget (bs.drop 1)).2.1) + 1)].toNat : Int)⟩ : StepP) ((1 + (fget (bs.drop 1)).2.1) + 1)) ?_ (sfin_y (p := (⟨(bs[0].toNat : Int), (bs[(1 + (fget (bs.drop 1)).2.1)].toNat : Int), [], (fget (bs.drop 1)).1, ((bs[(1 + (fget (bs.drop 1)).2.1)].toNat : Int) - 1), (bs[((1 + (fget (bs.drop 1)).2.1) + 1)].toNat : Int)⟩ : StepP)) (by first | assumption | exact Decidable.not_not.1 (by assumption)))
                     first
                       | exact sgetK_1 (by omega) (by omega) (by omega)
                       | exact sgetK_5 (by omega) (by omega) (List.getElem?_eq_getElem (by omega))
                       | exact sgetK_4 (by omega) (by omega) (by omega) (List.getElem?_eq_getElem (by omega)) (List.getElem?_eq_getElem (by omega))
                       | exact sget_o (by omega) (by omega) (by omega) (by omega)
                   have ek : ((((1 + (fget (bs.drop 1)).2.1 : Nat) : Int) + 1) : Int) = ((((1 + (fget (bs.drop 1)).2.1) + 1) : Nat) : Int) := by omega
                   rw [e_, ek]
                   exact ⟨hB, (⟨none, 0, A_5, c_3, ⟨(bs[0].toNat : Int), (bs[(1 + (fget (bs.drop 1)).2.1)].toNat : Int), [], (fget (bs.drop 1)).1, ((bs[(1 + (fget (bs.drop 1)).2.1)].toNat : Int) - 1), (bs[((1 + (fget (bs.drop 1)).2.1) + 1)].toNat : Int)⟩⟩ : StepD), rfl, fun _ => ⟨rfl, Sli.nil, (own_of ho3).2.2.zero⟩⟩)
        · refine C_skip (N_then (C_seq (C_seq (C_reg ?_))))
          refine L_run (R_move rfl) rfl ?_
          refine L_run (R_lenSl rfl slc42) rfl ?_
          refine L_run (R_move rfl) rfl ?_
          refine L_run (R_move rfl) rfl ?_
          refine L_run (R_add64 rfl rfl (by first | omega | (have h_ := (bs[(1 + (fget (bs.drop 1)).2.1)]'(by omega)).toNat_lt; omega))) rfl ?_
          refine L_run (R_lss rfl rfl) rfl ?_
          refine L_nil (N_then ?_)
          refine C_if rfl (fun h19 => ?_) (fun h19 => ?_)
          · refine C_seq (C_reg ?_)
            refine L_run (R_loadA (vs := [.int .i64 (bs[0].toNat : Int), .int .i64 0, .slice none 0 0, .slice A_5 ((fget (bs.drop 1)).1.length) c_3, .int .i64 0, .int .i64 0]) rfl agg65 (At.pre (hb25.at_ 0) rfl) rfl) rfl ?_
            refine L_stA (vs := [.int .i64 (bs[0].toNat : Int), .int .i64 0, .slice none 0 0, .slice A_5 ((fget (bs.drop 1)).1.length) c_3, .int .i64 0, .int .i64 0]) rfl rfl rfl sz65 rfl hb1 rfl ?_
            intro w40 hb32 hs40 hz32
            replace hB := gb_trg hB hs40 ge1
            replace hS := hS.old hs40 ge1
            replace hb25 := hb25.grown hs40 (ne_gt lt1)
            replace hS_2 := hS_2.old hs40 ge1
            replace ho3 := own_other ho3 hb1 rfl hs40
            replace hlo3 := Nat.le_trans hlo3 hs40.size
            refine L_run (R_assign rfl) rfl ?_
            refine L_run (R_assign rfl) rfl ?_
            refine L_nil (N_then (C_ret (R_then ?_)))
            refine retC2 (vs := [.int .i64 (bs[0].toNat : Int), .int .i64 0, .slice none 0 0, .slice A_5 ((fget (bs.drop 1)).1.length) c_3, .int .i64 0, .int .i64 0]) Try.results79 rfl agg65 (At.pre (hb32.at_ 0) rfl) rfl rfl rfl ?_
            first
              | (exfalso; omega)
              | (have e_ : sget bs = (p0, 0, 1) := by
                   first
                     | exact sget_1e (by omega) (by omega) (by assumption)
                     | exact sget_5e (by omega) (by omega) (by rw [List.length_drop]; omega)
                     | exact sget_4e (by omega) (by omega) (by assumption)
                     | exact sget_4s (by omega) (by omega) (by omega) (by omega)
                     | (rw [sgetK_1 (by omega) (by omega) (by omega)]; exact sfin_n (by assumption))
                     | (rw [sgetK_5 (by omega) (by omega) (List.getElem?_eq_getElem (by omega))]; exact sfin_n (by assumption))
                     | (rw [sgetK_4 (by omega) (by omega) (by omega) (List.getElem?_eq_getElem (by omega)) (List.getElem?_eq_getElem (by omega))]; exact sfin_n (by assumption))
                     | (rw [sget_o (by omega) (by omega) (by omega) (by omega)]; exact sfin_n (by assumption))
                 rw [e_]
                 exact ⟨hB, (⟨none, 0, A_5, c_3, ⟨(bs[0].toNat : Int), 0, [], (fget (bs.drop 1)).1, 0, 0⟩⟩ : StepD), rfl, fun h_ => absurd h_ (by first | assumption | simp)⟩)
          · refine C_skip (N_then (C_seq (C_seq (C_reg ?_))))
            refine L_run (R_field (r := 0) rfl fld65_0 rfl) rfl ?_
            refine L_run (R_load1 rfl scl3 (hb25.cell (i := 0) rfl)) rfl ?_
            refine L_run (R_eql rfl rfl) rfl ?_
            refine L_nil (N_then (C_condT rfl (decide_eq_true h14) (C_seq (C_reg ?_))))
            refine L_run (R_move rfl) rfl ?_
            refine L_run (R_move rfl) rfl ?_
            have hl11 : (1 + (fget (bs.drop 1)).2.1) < bs.length := by first | omega | (simp; omega)
            refine T_index (xs := bs) (i := (1 + (fget (bs.drop 1)).2.1)) EncB rfl rfl (by first | rfl | omega) slc42 hl11 hS rfl ?_
            intro g13 o11 ha11
            refine L_run (R_load1 rfl scl5 (ha11 0 _ rfl)) rfl ?_
            refine L_run (R_eqv (R_conv rfl any5 int3) (v' := .int .i64 (bs[(1 + (fget (bs.drop 1)).2.1)].toNat : Int)) (congrArg _ (i64_fit (by have := (bs[(1 + (fget (bs.drop 1)).2.1)]'(by omega)).toNat_lt; omega)))) rfl ?_
            refine L_run (R_sub64 rfl rfl (by first | omega | (have h_ := (bs[(1 + (fget (bs.drop 1)).2.1)]'(by omega)).toNat_lt; omega))) rfl ?_
            refine L_run (R_field (r := 3) rfl fld65_3 rfl) rfl ?_
            refine L_run (R_field (r := 4) rfl fld63_1 rfl) rfl ?_
            refine L_st1 rfl rfl rfl sz3 hb25 rfl ?_
            intro w41 hb33 hs41 hz33
            replace hB := gb_trg hB hs41 ge2
            replace hS := hS.old hs41 ge2
            replace hb1 := hb1.grown hs41 (ne_lt lt1)
            replace hS_2 := hS_2.old hs41 ge2
            replace ho3 := own_other ho3 hb25 rfl hs41
            replace hlo3 := Nat.le_trans hlo3 hs41.size
            refine L_nil (N_then (C_reg ?_))
            refine L_run (R_move rfl) rfl ?_
            refine L_run (R_move rfl) rfl ?_
            refine L_run (R_add64 rfl rfl (by first | omega | (have h_ := (bs[(1 + (fget (bs.drop 1)).2.1)]'(by omega)).toNat_lt; omega))) rfl ?_
            have hl12 : ((1 + (fget (bs.drop 1)).2.1) + 1) < bs.length := by first | omega | (simp; omega)
            refine T_index (xs := bs) (i := ((1 + (fget (bs.drop 1)).2.1) + 1)) EncB rfl rfl (by first | rfl | omega) slc42 hl12 hS rfl ?_
            intro g14 o12 ha12
            refine L_run (R_load1 rfl scl5 (ha12 0 _ rfl)) rfl ?_
            refine L_run (R_eqv (R_conv rfl any5 int3) (v' := .int .i64 (bs[((1 + (fget (bs.drop 1)).2.1) + 1)].toNat : Int)) (congrArg _ (i64_fit (by have := (bs[((1 + (fget (bs.drop 1)).2.1) + 1)]'(by omega)).toNat_lt; omega)))) rfl ?_
            refine L_run (R_field (r := 3) rfl fld65_3 rfl) rfl ?_
            refine L_run (R_field (r := 5) rfl fld63_2 rfl) rfl ?_
            refine L_st1 rfl rfl rfl sz3 hb33 rfl ?_
            intro w42 hb34 hs42 hz34
            replace hB := gb_trg hB hs42 ge2
            replace hS := hS.old hs42 ge2
            replace hb1 := hb1.grown hs42 (ne_lt lt1)
            replace hS_2 := hS_2.old hs42 ge2
            replace ho3 := own_other ho3 hb33 rfl hs42
            replace hlo3 := Nat.le_trans hlo3 hs42.size
            refine L_nil (N_then (C_seq (C_seq (C_reg ?_))))
            refine L_run (R_field (r := 0) rfl fld65_0 rfl) rfl ?_
            refine L_run (R_load1 rfl scl3 (hb34.cell (i := 0) rfl)) rfl ?_
            refine L_run (R_eql rfl rfl) rfl ?_
            refine L_nil (N_then (C_condF rfl (decide_eq_false h16) (C_skip (N_then (C_seq (C_seq (C_reg ?_)))))))
            refine L_run (R_loadA (vs := [.int .i64 (bs[0].toNat : Int), .int .i64 0, .slice none 0 0, .slice A_5 ((fget (bs.drop 1)).1.length) c_3, .int .i64 ((bs[(1 + (fget (bs.drop 1)).2.1)].toNat : Int) - 1), .int .i64 (bs[((1 + (fget (bs.drop 1)).2.1) + 1)].toNat : Int)]) rfl agg65 (At.pre (hb34.at_ 0) rfl) rfl) rfl ?_
            refine L_call rfl cb54 (ref38_Right (ops := []) (Sli.nil (t := 0) (lo := 0) (hi := 0)) (by first | omega | (simp; done) | (have h_ := bget_len (fget (bs.drop 1)).1; omega))) rfl ?_
            rintro _ w43 ⟨hs43, rfl⟩
            replace hB := gb_tr hB hs43
            replace hS := hS.gb hs43
            replace hb1 := hb1.gb hs43
            replace hb34 := hb34.gb hs43
            replace hS_2 := hS_2.gb hs43
            replace ho3 := own_gb ho3 hs43
            replace hlo3 := Nat.le_trans hlo3 hs43.size
            refine L_run (R_notD rfl) rfl ?_
            refine L_nil (N_then ?_)
            refine C_ifN rfl (fun h20 => ?_) (fun h20 => ?_)
            · refine C_seq (C_reg ?_)
              refine L_run (R_loadA (vs := [.int .i64 (bs[0].toNat : Int), .int .i64 0, .slice none 0 0, .slice A_5 ((fget (bs.drop 1)).1.length) c_3, .int .i64 ((bs[(1 + (fget (bs.drop 1)).2.1)].toNat : Int) - 1), .int .i64 (bs[((1 + (fget (bs.drop 1)).2.1) + 1)].toNat : Int)]) rfl agg65 (At.pre (hb34.at_ 0) rfl) rfl) rfl ?_
              refine L_stA (vs := [.int .i64 (bs[0].toNat : Int), .int .i64 0, .slice none 0 0, .slice A_5 ((fget (bs.drop 1)).1.length) c_3, .int .i64 ((bs[(1 + (fget (bs.drop 1)).2.1)].toNat : Int) - 1), .int .i64 (bs[((1 + (fget (bs.drop 1)).2.1) + 1)].toNat : Int)]) rfl rfl rfl sz65 rfl hb1 rfl ?_
              intro w44 hb35 hs44 hz35
              replace hB := gb_trg hB hs44 ge1
              replace hS := hS.old hs44 ge1
              replace hb34 := hb34.grown hs44 (ne_gt lt1)
              replace hS_2 := hS_2.old hs44 ge1
              replace ho3 := own_other ho3 hb1 rfl hs44
              replace hlo3 := Nat.le_trans hlo3 hs44.size
              refine L_run (R_assign rfl) rfl ?_
              refine L_run (R_assign rfl) rfl ?_
              refine L_nil (N_then (C_ret (R_then ?_)))
              refine retC2 (vs := [.int .i64 (bs[0].toNat : Int), .int .i64 0, .slice none 0 0, .slice A_5 ((fget (bs.drop 1)).1.length) c_3, .int .i64 ((bs[(1 + (fget (bs.drop 1)).2.1)].toNat : Int) - 1), .int .i64 (bs[((1 + (fget (bs.drop 1)).2.1) + 1)].toNat : Int)]) Try.results79 rfl agg65 (At.pre (hb35.at_ 0) rfl) rfl rfl rfl ?_
              first
                | (exfalso; omega)
                | (have e_ : sget bs = (p0, 0, 2) := by
                     first
                       | exact sget_1e (by omega) (by omega) (by assumption)
                       | exact sget_5e (by omega) (by omega) (by rw [List.length_drop]; omega)
                       | exact sget_4e (by omega) (by omega) (by assumption)
                       | exact sget_4s (by omega) (by omega) (by omega) (by omega)
                       | (rw [sgetK_1 (by omega) (by omega) (by omega)]; exact sfin_n (by assumption))
                       | (rw [sgetK_5 (by omega) (by omega) (List.getElem?_eq_getElem (by omega))]; exact sfin_n (by assumption))
                       | (rw [sgetK_4 (by omega) (by omega) (by omega) (List.getElem?_eq_getElem (by omega)) (List.getElem?_eq_getElem (by omega))]; exact sfin_n (by assumption))
                       | (rw [sget_o (by omega) (by omega) (by omega) (by omega)]; exact sfin_n (by assumption))
                   rw [e_]
                   exact ⟨hB, (⟨none, 0, A_5, c_3, ⟨(bs[0].toNat : Int), 0, [], (fget (bs.drop 1)).1, ((bs[(1 + (fget (bs.drop 1)).2.1)].toNat : Int) - 1), (bs[((1 + (fget (bs.drop 1)).2.1) + 1)].toNat : Int)⟩⟩ : StepD), rfl, fun h_ => absurd h_ (by first | assumption | simp)⟩)
            · refine C_skip (N_then (C_seq (C_reg ?_)))
              refine L_run (R_loadA (vs := [.int .i64 (bs[0].toNat : Int), .int .i64 0, .slice none 0 0, .slice A_5 ((fget (bs.drop 1)).1.length) c_3, .int .i64 ((bs[(1 + (fget (bs.drop 1)).2.1)].toNat : Int) - 1), .int .i64 (bs[((1 + (fget (bs.drop 1)).2.1) + 1)].toNat : Int)]) rfl agg65 (At.pre (hb34.at_ 0) rfl) rfl) rfl ?_
              refine L_run (R_move rfl) rfl ?_
              refine L_run (R_move rfl) rfl ?_
              refine L_run (R_add64 rfl rfl (by first | omega | (have h_ := (bs[(1 + (fget (bs.drop 1)).2.1)]'(by omega)).toNat_lt; omega))) rfl ?_
              refine L_stA (vs := [.int .i64 (bs[0].toNat : Int), .int .i64 0, .slice none 0 0, .slice A_5 ((fget (bs.drop 1)).1.length) c_3, .int .i64 ((bs[(1 + (fget (bs.drop 1)).2.1)].toNat : Int) - 1), .int .i64 (bs[((1 + (fget (bs.drop 1)).2.1) + 1)].toNat : Int)]) rfl rfl rfl sz65 rfl hb1 rfl ?_
              intro w45 hb36 hs45 hz36
              replace hB := gb_trg hB hs45 ge1
              replace hS := hS.old hs45 ge1
              replace hb34 := hb34.grown hs45 (ne_gt lt1)
              replace hS_2 := hS_2.old hs45 ge1
              replace ho3 := own_other ho3 hb1 rfl hs45
              replace hlo3 := Nat.le_trans hlo3 hs45.size
              refine L_run (R_assign rfl) rfl ?_
              refine L_run (R_assign rfl) rfl ?_
              refine L_nil (N_then (C_ret ?_))
              refine retC2 (vs := [.int .i64 (bs[0].toNat : Int), .int .i64 0, .slice none 0 0, .slice A_5 ((fget (bs.drop 1)).1.length) c_3, .int .i64 ((bs[(1 + (fget (bs.drop 1)).2.1)].toNat : Int) - 1), .int .i64 (bs[((1 + (fget (bs.drop 1)).2.1) + 1)].toNat : Int)]) Try.results79 rfl agg65 (At.pre (hb36.at_ 0) rfl) rfl rfl rfl ?_
              first
                | (exfalso; omega)
                | (have e_ : sget bs = ((⟨(bs[0].toNat : Int), 0, [], (fget (bs.drop 1)).1, ((bs[(1 + (fget (bs.drop 1)).2.1)].toNat : Int) - 1), (bs[((1 + (fget (bs.drop 1)).2.1) + 1)].toNat : Int)⟩ : StepP), ((1 + (fget (bs.drop 1)).2.1) + 2), 0) := by
                     refine Eq.trans (b := sfin (⟨(bs[0].toNat : Int), 0, [], (fget (bs.drop 1)).1, ((bs[(1 + (fget (bs.drop 1)).2.1)].toNat : Int) - 1), (bs[((1 + (fget (bs.drop 1)).2.1) + 1)].toNat : Int)⟩ : StepP) ((1 + (fget (bs.drop 1)).2.1) + 2)) ?_ (sfin_y (p := (⟨(bs[0].toNat : Int), 0, [], (fget (bs.drop 1)).1, ((bs[(1 + (fget (bs.drop 1)).2.1)].toNat : Int) - 1), (bs[((1 + (fget (bs.drop 1)).2.1) + 1)].toNat : Int)⟩ : StepP)) (by first | assumption | exact Decidable.not_not.1 (by assumption)))
                     first
                       | exact sgetK_1 (by omega) (by omega) (by omega)
                       | exact sgetK_5 (by omega) (by omega) (List.getElem?_eq_getElem (by omega))
                       | exact sgetK_4 (by omega) (by omega) (by omega) (List.getElem?_eq_getElem (by omega)) (List.getElem?_eq_getElem (by omega))
                       | exact sget_o (by omega) (by omega) (by omega) (by omega)
                   have ek : ((((1 + (fget (bs.drop 1)).2.1 : Nat) : Int) + 2) : Int) = ((((1 + (fget (bs.drop 1)).2.1) + 2) : Nat) : Int) := by omega
                   rw [e_, ek]
                   exact ⟨hB, (⟨none, 0, A_5, c_3, ⟨(bs[0].toNat : Int), 0, [], (fget (bs.drop 1)).1, ((bs[(1 + (fget (bs.drop 1)).2.1)].toNat : Int) - 1), (bs[((1 + (fget (bs.drop 1)).2.1) + 1)].toNat : Int)⟩⟩ : StepD), rfl, fun _ => ⟨rfl, Sli.nil, (own_of ho3).2.2.zero⟩⟩)
    · refine C_skip (N_then (C_seq (C_reg ?_)))
      refine L_run (R_assign rfl) rfl ?_
      refine L_nil (N_then (C_seq (C_seq (C_reg ?_))))
      refine L_run (R_field (r := 0) rfl fld65_0 rfl) rfl ?_
      refine L_run (R_load1 rfl scl3 (hb3.cell (i := 0) rfl)) rfl ?_
      refine L_run (R_eql rfl rfl) rfl ?_
      refine L_nil (N_then (C_condF rfl (decide_eq_false h14) (C_skip (N_then (C_seq (C_seq (C_reg ?_)))))))
      refine L_run (R_field (r := 0) rfl fld65_0 rfl) rfl ?_
      refine L_run (R_load1 rfl scl3 (hb3.cell (i := 0) rfl)) rfl ?_
      refine L_run (R_eql rfl rfl) rfl ?_
      refine L_nil (N_then ?_)
      refine C_if rfl (fun h21 => ?_) (fun h21 => ?_)
      · refine C_reg ?_
        refine L_run (R_assign rfl) rfl ?_
        refine L_nil (N_then (C_seq (C_seq (C_reg ?_))))
        refine L_run (R_move rfl) rfl ?_
        refine L_run (R_lenSl rfl slc42) rfl ?_
        refine L_run (R_move rfl) rfl ?_
        refine L_run (R_move rfl) rfl ?_
        refine L_run (R_add64 rfl rfl (by first | omega | (have h_ := (bs[(1 + (fget (bs.drop 1)).2.1)]'(by omega)).toNat_lt; omega))) rfl ?_
        refine L_run (R_lss rfl rfl) rfl ?_
        refine L_nil (N_then ?_)
        refine C_if rfl (fun h22 => ?_) (fun h22 => ?_)
        · refine C_seq (C_reg ?_)
          refine L_run (R_loadA (vs := [.int .i64 (bs[0].toNat : Int), .int .i64 0, .slice none 0 0, .slice none 0 0, .int .i64 0, .int .i64 0]) rfl agg65 (At.pre (hb3.at_ 0) rfl) rfl) rfl ?_
          refine L_stA (vs := [.int .i64 (bs[0].toNat : Int), .int .i64 0, .slice none 0 0, .slice none 0 0, .int .i64 0, .int .i64 0]) rfl rfl rfl sz65 rfl hb1 rfl ?_
          intro w46 hb37 hs46 hz37
          replace hB := gb_trg hB hs46 ge1
          replace hS := hS.old hs46 ge1
          replace hb3 := hb3.grown hs46 (ne_gt lt1)
          refine L_run (R_assign rfl) rfl ?_
          refine L_run (R_assign rfl) rfl ?_
          refine L_nil (N_then (C_ret (R_then ?_)))
          refine retC2 (vs := [.int .i64 (bs[0].toNat : Int), .int .i64 0, .slice none 0 0, .slice none 0 0, .int .i64 0, .int .i64 0]) Try.results79 rfl agg65 (At.pre (hb37.at_ 0) rfl) rfl rfl rfl ?_
          first
            | (exfalso; omega)
            | (have e_ : sget bs = (p0, 0, 1) := by
                 first
                   | exact sget_1e (by omega) (by omega) (by assumption)
                   | exact sget_5e (by omega) (by omega) (by rw [List.length_drop]; omega)
                   | exact sget_4e (by omega) (by omega) (by assumption)
                   | exact sget_4s (by omega) (by omega) (by omega) (by omega)
                   | (rw [sgetK_1 (by omega) (by omega) (by omega)]; exact sfin_n (by assumption))
                   | (rw [sgetK_5 (by omega) (by omega) (List.getElem?_eq_getElem (by omega))]; exact sfin_n (by assumption))
                   | (rw [sgetK_4 (by omega) (by omega) (by omega) (List.getElem?_eq_getElem (by omega)) (List.getElem?_eq_getElem (by omega))]; exact sfin_n (by assumption))
                   | (rw [sget_o (by omega) (by omega) (by omega) (by omega)]; exact sfin_n (by assumption))
               rw [e_]
               exact ⟨hB, (⟨none, 0, none, 0, ⟨(bs[0].toNat : Int), 0, [], [], 0, 0⟩⟩ : StepD), rfl, fun h_ => absurd h_ (by first | assumption | simp)⟩)
        · refine C_skip (N_then (C_seq (C_seq (C_reg ?_))))
          refine L_run (R_field (r := 0) rfl fld65_0 rfl) rfl ?_
          refine L_run (R_load1 rfl scl3 (hb3.cell (i := 0) rfl)) rfl ?_
          refine L_run (R_eql rfl rfl) rfl ?_
          refine L_nil (N_then (C_condF rfl (decide_eq_false h14) (C_skip (N_then (C_seq (C_seq (C_reg ?_)))))))
          refine L_run (R_field (r := 0) rfl fld65_0 rfl) rfl ?_
          refine L_run (R_load1 rfl scl3 (hb3.cell (i := 0) rfl)) rfl ?_
          refine L_run (R_eql rfl rfl) rfl ?_
          refine L_nil (N_then (C_condT rfl (decide_eq_true h21) (C_reg ?_)))
          refine L_run (R_move rfl) rfl ?_
          refine L_run (R_move rfl) rfl ?_
          have hl13 : 1 < bs.length := by first | omega | (simp; omega)
          refine T_index (xs := bs) (i := 1) EncB rfl rfl (by first | rfl | omega) slc42 hl13 hS rfl ?_
          intro g15 o13 ha13
          refine L_run (R_load1 rfl scl5 (ha13 0 _ rfl)) rfl ?_
          refine L_run (R_eqv (R_conv rfl any5 int3) (v' := .int .i64 (bs[1].toNat : Int)) (congrArg _ (i64_fit (by first | (have := (bs[1]'(by omega)).toNat_lt; omega) | (have := (bs[(1 + (fget (bs.drop 1)).2.1)]'(by omega)).toNat_lt; omega))))) rfl ?_
          refine L_run (R_field (r := 1) rfl fld65_1 rfl) rfl ?_
          refine L_st1 rfl rfl rfl sz3 hb3 rfl ?_
          intro w47 hb38 hs47 hz38
          replace hB := gb_trg hB hs47 ge2
          replace hS := hS.old hs47 ge2
          replace hb1 := hb1.grown hs47 (ne_lt lt1)
          refine L_nil (N_then (C_seq (C_seq (C_reg ?_))))
          refine L_run (R_loadA (vs := [.int .i64 (bs[0].toNat : Int), .int .i64 (bs[1].toNat : Int), .slice none 0 0, .slice none 0 0, .int .i64 0, .int .i64 0]) rfl agg65 (At.pre (hb38.at_ 0) rfl) rfl) rfl ?_
          refine L_call rfl cb54 (ref38_Right (ops := []) (Sli.nil (t := 0) (lo := 0) (hi := 0)) (by first | omega | (simp; done) | (have h_ := bget_len (fget (bs.drop 1)).1; omega))) rfl ?_
          rintro _ w48 ⟨hs48, rfl⟩
          replace hB := gb_tr hB hs48
          replace hS := hS.gb hs48
          replace hb1 := hb1.gb hs48
          replace hb38 := hb38.gb hs48
          refine L_run (R_notD rfl) rfl ?_
          refine L_nil (N_then ?_)
          refine C_ifN rfl (fun h23 => ?_) (fun h23 => ?_)
          · refine C_seq (C_reg ?_)
            refine L_run (R_loadA (vs := [.int .i64 (bs[0].toNat : Int), .int .i64 (bs[1].toNat : Int), .slice none 0 0, .slice none 0 0, .int .i64 0, .int .i64 0]) rfl agg65 (At.pre (hb38.at_ 0) rfl) rfl) rfl ?_
            refine L_stA (vs := [.int .i64 (bs[0].toNat : Int), .int .i64 (bs[1].toNat : Int), .slice none 0 0, .slice none 0 0, .int .i64 0, .int .i64 0]) rfl rfl rfl sz65 rfl hb1 rfl ?_
            intro w49 hb39 hs49 hz39
            replace hB := gb_trg hB hs49 ge1
            replace hS := hS.old hs49 ge1
            replace hb38 := hb38.grown hs49 (ne_gt lt1)
            refine L_run (R_assign rfl) rfl ?_
            refine L_run (R_assign rfl) rfl ?_
            refine L_nil (N_then (C_ret (R_then ?_)))
            refine retC2 (vs := [.int .i64 (bs[0].toNat : Int), .int .i64 (bs[1].toNat : Int), .slice none 0 0, .slice none 0 0, .int .i64 0, .int .i64 0]) Try.results79 rfl agg65 (At.pre (hb39.at_ 0) rfl) rfl rfl rfl ?_
            first
              | (exfalso; omega)
              | (have e_ : sget bs = (p0, 0, 2) := by
                   first
                     | exact sget_1e (by omega) (by omega) (by assumption)
                     | exact sget_5e (by omega) (by omega) (by rw [List.length_drop]; omega)
                     | exact sget_4e (by omega) (by omega) (by assumption)
                     | exact sget_4s (by omega) (by omega) (by omega) (by omega)
                     | (rw [sgetK_1 (by omega) (by omega) (by omega)]; exact sfin_n (by assumption))
                     | (rw [sgetK_5 (by omega) (by omega) (List.getElem?_eq_getElem (by omega))]; exact sfin_n (by assumption))
                     | (rw [sgetK_4 (by omega) (by omega) (by omega) (List.getElem?_eq_getElem (by omega)) (List.getElem?_eq_getElem (by omega))]; exact sfin_n (by assumption))
                     | (rw [sget_o (by omega) (by omega) (by omega) (by omega)]; exact sfin_n (by assumption))
                 rw [e_]
                 exact ⟨hB, (⟨none, 0, none, 0, ⟨(bs[0].toNat : Int), (bs[1].toNat : Int), [], [], 0, 0⟩⟩ : StepD), rfl, fun h_ => absurd h_ (by first | assumption | simp)⟩)
          · refine C_skip (N_then (C_seq (C_reg ?_)))
            refine L_run (R_loadA (vs := [.int .i64 (bs[0].toNat : Int), .int .i64 (bs[1].toNat : Int), .slice none 0 0, .slice none 0 0, .int .i64 0, .int .i64 0]) rfl agg65 (At.pre (hb38.at_ 0) rfl) rfl) rfl ?_
            refine L_run (R_move rfl) rfl ?_
            refine L_run (R_move rfl) rfl ?_
            refine L_run (R_add64 rfl rfl (by first | omega | (have h_ := (bs[(1 + (fget (bs.drop 1)).2.1)]'(by omega)).toNat_lt; omega))) rfl ?_
            refine L_stA (vs := [.int .i64 (bs[0].toNat : Int), .int .i64 (bs[1].toNat : Int), .slice none 0 0, .slice none 0 0, .int .i64 0, .int .i64 0]) rfl rfl rfl sz65 rfl hb1 rfl ?_
            intro w50 hb40 hs50 hz40
            replace hB := gb_trg hB hs50 ge1
            replace hS := hS.old hs50 ge1
            replace hb38 := hb38.grown hs50 (ne_gt lt1)
            refine L_run (R_assign rfl) rfl ?_
            refine L_run (R_assign rfl) rfl ?_
            refine L_nil (N_then (C_ret ?_))
            refine retC2 (vs := [.int .i64 (bs[0].toNat : Int), .int .i64 (bs[1].toNat : Int), .slice none 0 0, .slice none 0 0, .int .i64 0, .int .i64 0]) Try.results79 rfl agg65 (At.pre (hb40.at_ 0) rfl) rfl rfl rfl ?_
            first
              | (exfalso; omega)
              | (have e_ : sget bs = ((⟨(bs[0].toNat : Int), (bs[1].toNat : Int), [], [], 0, 0⟩ : StepP), (1 + 1), 0) := by
                   refine Eq.trans (b := sfin (⟨(bs[0].toNat : Int), (bs[1].toNat : Int), [], [], 0, 0⟩ : StepP) (1 + 1)) ?_ (sfin_y (p := (⟨(bs[0].toNat : Int), (bs[1].toNat : Int), [], [], 0, 0⟩ : StepP)) (by first | assumption | exact Decidable.not_not.1 (by assumption)))
                   first
                     | exact sgetK_1 (by omega) (by omega) (by omega)
                     | exact sgetK_5 (by omega) (by omega) (List.getElem?_eq_getElem (by omega))
                     | exact sgetK_4 (by omega) (by omega) (by omega) (List.getElem?_eq_getElem (by omega)) (List.getElem?_eq_getElem (by omega))
                     | exact sget_o (by omega) (by omega) (by omega) (by omega)
                 have ek : ((1 + 1) : Int) = (((1 + 1) : Nat) : Int) := by omega
                 rw [e_, ek]
                 exact ⟨hB, (⟨none, 0, none, 0, ⟨(bs[0].toNat : Int), (bs[1].toNat : Int), [], [], 0, 0⟩⟩ : StepD), rfl, fun _ => ⟨rfl, Sli.nil, Sli.nil⟩⟩)
      · refine C_skip (N_then (C_seq (C_seq (C_reg ?_))))
        refine L_run (R_move rfl) rfl ?_
        refine L_run (R_lenSl rfl slc42) rfl ?_
        refine L_run (R_move rfl) rfl ?_
        refine L_run (R_move rfl) rfl ?_
        refine L_run (R_add64 rfl rfl (by first | omega | (have h_ := (bs[(1 + (fget (bs.drop 1)).2.1)]'(by omega)).toNat_lt; omega))) rfl ?_
        refine L_run (R_lss rfl rfl) rfl ?_
        refine L_nil (N_then ?_)
        refine C_if rfl (fun h24 => ?_) (fun h24 => ?_)
        · refine C_seq (C_reg ?_)
          refine L_run (R_loadA (vs := [.int .i64 (bs[0].toNat : Int), .int .i64 0, .slice none 0 0, .slice none 0 0, .int .i64 0, .int .i64 0]) rfl agg65 (At.pre (hb3.at_ 0) rfl) rfl) rfl ?_
          refine L_stA (vs := [.int .i64 (bs[0].toNat : Int), .int .i64 0, .slice none 0 0, .slice none 0 0, .int .i64 0, .int .i64 0]) rfl rfl rfl sz65 rfl hb1 rfl ?_
          intro w51 hb41 hs51 hz41
          replace hB := gb_trg hB hs51 ge1
          replace hS := hS.old hs51 ge1
          replace hb3 := hb3.grown hs51 (ne_gt lt1)
          refine L_run (R_assign rfl) rfl ?_
          refine L_run (R_assign rfl) rfl ?_
          refine L_nil (N_then (C_ret (R_then ?_)))
          refine retC2 (vs := [.int .i64 (bs[0].toNat : Int), .int .i64 0, .slice none 0 0, .slice none 0 0, .int .i64 0, .int .i64 0]) Try.results79 rfl agg65 (At.pre (hb41.at_ 0) rfl) rfl rfl rfl ?_
          first
            | (exfalso; omega)
            | (have e_ : sget bs = (p0, 0, 1) := by
                 first
                   | exact sget_1e (by omega) (by omega) (by assumption)
                   | exact sget_5e (by omega) (by omega) (by rw [List.length_drop]; omega)
                   | exact sget_4e (by omega) (by omega) (by assumption)
                   | exact sget_4s (by omega) (by omega) (by omega) (by omega)
                   | (rw [sgetK_1 (by omega) (by omega) (by omega)]; exact sfin_n (by assumption))
                   | (rw [sgetK_5 (by omega) (by omega) (List.getElem?_eq_getElem (by omega))]; exact sfin_n (by assumption))
                   | (rw [sgetK_4 (by omega) (by omega) (by omega) (List.getElem?_eq_getElem (by omega)) (List.getElem?_eq_getElem (by omega))]; exact sfin_n (by assumption))
                   | (rw [sget_o (by omega) (by omega) (by omega) (by omega)]; exact sfin_n (by assumption))
               rw [e_]
               exact ⟨hB, (⟨none, 0, none, 0, ⟨(bs[0].toNat : Int), 0, [], [], 0, 0⟩⟩ : StepD), rfl, fun h_ => absurd h_ (by first | assumption | simp)⟩)
        · refine C_skip (N_then (C_seq (C_seq (C_reg ?_))))
          refine L_run (R_field (r := 0) rfl fld65_0 rfl) rfl ?_
          refine L_run (R_load1 rfl scl3 (hb3.cell (i := 0) rfl)) rfl ?_
          refine L_run (R_eql rfl rfl) rfl ?_
          refine L_nil (N_then (C_condF rfl (decide_eq_false h14) (C_skip (N_then (C_seq (C_seq (C_reg ?_)))))))
          refine L_run (R_field (r := 0) rfl fld65_0 rfl) rfl ?_
          refine L_run (R_load1 rfl scl3 (hb3.cell (i := 0) rfl)) rfl ?_
          refine L_run (R_eql rfl rfl) rfl ?_
          refine L_nil (N_then (C_condF rfl (decide_eq_false h21) (C_skip (N_then (C_seq (C_seq (C_reg ?_)))))))
          refine L_run (R_loadA (vs := [.int .i64 (bs[0].toNat : Int), .int .i64 0, .slice none 0 0, .slice none 0 0, .int .i64 0, .int .i64 0]) rfl agg65 (At.pre (hb3.at_ 0) rfl) rfl) rfl ?_
          refine L_call rfl cb54 (ref38_Right (ops := []) (Sli.nil (t := 0) (lo := 0) (hi := 0)) (by first | omega | (simp; done) | (have h_ := bget_len (fget (bs.drop 1)).1; omega))) rfl ?_
          rintro _ w52 ⟨hs52, rfl⟩
          replace hB := gb_tr hB hs52
          replace hS := hS.gb hs52
          replace hb1 := hb1.gb hs52
          replace hb3 := hb3.gb hs52
          refine L_run (R_notD rfl) rfl ?_
          refine L_nil (N_then ?_)
          refine C_ifN rfl (fun h25 => ?_) (fun h25 => ?_)
          · refine C_seq (C_reg ?_)
            refine L_run (R_loadA (vs := [.int .i64 (bs[0].toNat : Int), .int .i64 0, .slice none 0 0, .slice none 0 0, .int .i64 0, .int .i64 0]) rfl agg65 (At.pre (hb3.at_ 0) rfl) rfl) rfl ?_
            refine L_stA (vs := [.int .i64 (bs[0].toNat : Int), .int .i64 0, .slice none 0 0, .slice none 0 0, .int .i64 0, .int .i64 0]) rfl rfl rfl sz65 rfl hb1 rfl ?_
            intro w53 hb42 hs53 hz42
            replace hB := gb_trg hB hs53 ge1
            replace hS := hS.old hs53 ge1
            replace hb3 := hb3.grown hs53 (ne_gt lt1)
            refine L_run (R_assign rfl) rfl ?_
            refine L_run (R_assign rfl) rfl ?_
            refine L_nil (N_then (C_ret (R_then ?_)))
            refine retC2 (vs := [.int .i64 (bs[0].toNat : Int), .int .i64 0, .slice none 0 0, .slice none 0 0, .int .i64 0, .int .i64 0]) Try.results79 rfl agg65 (At.pre (hb42.at_ 0) rfl) rfl rfl rfl ?_
            first
              | (exfalso; omega)
              | (have e_ : sget bs = (p0, 0, 2) := by
                   first
                     | exact sget_1e (by omega) (by omega) (by assumption)
                     | exact sget_5e (by omega) (by omega) (by rw [List.length_drop]; omega)
                     | exact sget_4e (by omega) (by omega) (by assumption)
                     | exact sget_4s (by omega) (by omega) (by omega) (by omega)
                     | (rw [sgetK_1 (by omega) (by omega) (by omega)]; exact sfin_n (by assumption))
                     | (rw [sgetK_5 (by omega) (by omega) (List.getElem?_eq_getElem (by omega))]; exact sfin_n (by assumption))
                     | (rw [sgetK_4 (by omega) (by omega) (by omega) (List.getElem?_eq_getElem (by omega)) (List.getElem?_eq_getElem (by omega))]; exact sfin_n (by assumption))
                     | (rw [sget_o (by omega) (by omega) (by omega) (by omega)]; exact sfin_n (by assumption))
                 rw [e_]
                 exact ⟨hB, (⟨none, 0, none, 0, ⟨(bs[0].toNat : Int), 0, [], [], 0, 0⟩⟩ : StepD), rfl, fun h_ => absurd h_ (by first | assumption | simp)⟩)
          · refine C_skip (N_then (C_seq (C_reg ?_)))
            refine L_run (R_loadA (vs := [.int .i64 (bs[0].toNat : Int), .int .i64 0, .slice none 0 0, .slice none 0 0, .int .i64 0, .int .i64 0]) rfl agg65 (At.pre (hb3.at_ 0) rfl) rfl) rfl ?_
            refine L_run (R_move rfl) rfl ?_
            refine L_run (R_move rfl) rfl ?_
            refine L_run (R_add64 rfl rfl (by first | omega | (have h_ := (bs[(1 + (fget (bs.drop 1)).2.1)]'(by omega)).toNat_lt; omega))) rfl ?_
            refine L_stA (vs := [.int .i64 (bs[0].toNat : Int), .int .i64 0, .slice none 0 0, .slice none 0 0, .int .i64 0, .int .i64 0]) rfl rfl rfl sz65 rfl hb1 rfl ?_
            intro w54 hb43 hs54 hz43
            replace hB := gb_trg hB hs54 ge1
            replace hS := hS.old hs54 ge1
            replace hb3 := hb3.grown hs54 (ne_gt lt1)
            refine L_run (R_assign rfl) rfl ?_
            refine L_run (R_assign rfl) rfl ?_
            refine L_nil (N_then (C_ret ?_))
            refine retC2 (vs := [.int .i64 (bs[0].toNat : Int), .int .i64 0, .slice none 0 0, .slice none 0 0, .int .i64 0, .int .i64 0]) Try.results79 rfl agg65 (At.pre (hb43.at_ 0) rfl) rfl rfl rfl ?_
            first
              | (exfalso; omega)
              | (have e_ : sget bs = ((⟨(bs[0].toNat : Int), 0, [], [], 0, 0⟩ : StepP), (1 + 0), 0) := by
                   refine Eq.trans (b := sfin (⟨(bs[0].toNat : Int), 0, [], [], 0, 0⟩ : StepP) (1 + 0)) ?_ (sfin_y (p := (⟨(bs[0].toNat : Int), 0, [], [], 0, 0⟩ : StepP)) (by first | assumption | exact Decidable.not_not.1 (by assumption)))
                   first
                     | exact sgetK_1 (by omega) (by omega) (by omega)
                     | exact sgetK_5 (by omega) (by omega) (List.getElem?_eq_getElem (by omega))
                     | exact sgetK_4 (by omega) (by omega) (by omega) (List.getElem?_eq_getElem (by omega)) (List.getElem?_eq_getElem (by omega))
                     | exact sget_o (by omega) (by omega) (by omega) (by omega)
                 have ek : ((1 + 0) : Int) = (((1 + 0) : Nat) : Int) := by omega
                 rw [e_, ek]
                 exact ⟨hB, (⟨none, 0, none, 0, ⟨(bs[0].toNat : Int), 0, [], [], 0, 0⟩⟩ : StepD), rfl, fun _ => ⟨rfl, Sli.nil, Sli.nil⟩⟩)

theorem ref38_Decode {w : World} {t1 lo hi : Nat} {A : Option Addr} {c : Nat} {bs : List UInt8} (hS : Sli t1 lo hi w A (fl encB bs)) (hl : bs.length ≤ 1000000) (hc : bs.length ≤ c) :
    Runs Try.prog 58 #[.slice A bs.length c] w (fun v w' => w.grownBy w' none ∧ ∃ A' c' ls, v = .tuple #[.slice A' ls.length c', .int .i64 (sdec bs).2] ∧ ps ls = (sdec bs).1 ∧ Sli 65 0 w'.heap.size w' A' (fl encS ls) ∧ DeepT 44 5 w' ls ∧ ls.length ≤ c') := by
  have hB := gb_refl w none
  replace hS := hS.top
  refine enter Try.func58 Try.ntmps58 rfl rfl ?_
  refine C_seq (C_reg ?_)
  refine L_run (R_assign rfl) rfl ?_
  refine L_run (R_assign rfl) rfl ?_
  refine L_nil (N_then (C_seq (C_reg ?_)))
  refine L_run (R_assign rfl) rfl ?_
  refine L_nil (N_then (C_seq (C_seq (C_reg ?_))))
  refine L_run (R_assign rfl) rfl ?_
  refine L_nil (N_then (C_block ?_))
  refine C_loop (fun m_ a_ w_ => ∃ (σ_ : Nat → Value) (n : Nat) (A2 : Option Addr) (c2 : Nat) (acc : List StepD) (f : Nat), a_ = Ac 35 σ_ [] [(0, .slice A bs.length c), (2, .slice none 0 0), (3, .int .i64 0), (4, .slice A2 acc.length c2), (5, .int .i64 (n : Int))] ∧ w.grownBy w_ none ∧ Sli t1 lo w.heap.size w_ A (fl encB bs) ∧ World.ownsRow w_ w.heap.size 65 6 (.slice A2 acc.length c2) acc.length (fl encS acc) ∧ DeepT 44 5 w_ acc ∧ (n ≤ bs.length) ∧ ((bs.drop n).length ≤ f) ∧ (sgo f (ps acc) (bs.drop n) = sdec bs) ∧ (acc.length ≤ n) ∧ bs.length - n = m_) (bs.length - 0) ?_ ?_
  · exact ⟨_, 0, none, 0, ([] : List StepD), bs.length, Ac_frg ⟨rfl, rfl, rfl, (agr rfl (by first | rfl | (congr 1; omega) | (congr 1; simp; done) | (congr 1; simp only [IntKind.wrap_u64, IntKind.wrap_i64, IntKind.wrap_u8]; omega) | (congr 1 <;> omega))), (agr rfl (by first | rfl | (congr 1; omega) | (congr 1; simp; done) | (congr 1; simp only [IntKind.wrap_u64, IntKind.wrap_i64, IntKind.wrap_u8]; omega) | (congr 1 <;> omega))), trivial⟩, hB, hS, (own_nil w.heap.size 65 6 _), DeepT.nil, (by omega), (by simp), rfl, (by simp), rfl⟩
  · clear hB
    clear hS
    rintro m_ a_ w1 ⟨σ_, n, A2, c2, acc, f, rfl, hB, hS, ho, hDT, hn, hf, hv, hac, rfl⟩
    refine C_seq (C_seq (C_reg ?_))
    refine L_run (R_move rfl) rfl ?_
    refine L_run (R_move rfl) rfl ?_
    refine L_run (R_lenSl rfl slc42) rfl ?_
    refine L_run (R_lss rfl rfl) rfl ?_
    refine L_nil (N_then ?_)
    refine C_if rfl (fun h1 => ?_) (fun h1 => ?_)
    · refine C_skip (N_then (C_block (C_seq (C_seq (C_reg ?_)))))
      refine L_run (R_move rfl) rfl ?_
      refine L_run (R_lenSl rfl slc58) rfl ?_
      refine L_run (R_eql rfl rfl) rfl ?_
      refine L_nil (N_then ?_)
      refine C_if rfl (fun h2 => ?_) (fun h2 => ?_)
      · refine C_seq (C_reg ?_)
        refine L_run (R_assign rfl) rfl ?_
        refine L_run (R_assign rfl) rfl ?_
        refine L_nil (N_then (C_ret (R_then (R_in (R_then (R_in (R_then ?_)))))))
        refine ret2 Try.results58 rfl rfl ?_
        have e_ : sdec bs = ([], 5) := by
          rw [← hv]
          first
            | exact sgo_long (by rw [List.length_drop] at *; omega) hf (by rw [ps_len]; omega)
            | exact sgo_err (by rw [List.length_drop] at *; omega) hf (by rw [ps_len]; omega) (by first | assumption | omega)
        rw [e_]; exact ⟨hB, none, 0, [], rfl, rfl, Sli.nil, DeepT.nil, Nat.le_refl _⟩
      · refine C_skip (N_then (C_seq (C_reg ?_)))
        refine L_run (R_move rfl) rfl ?_
        refine L_run (R_move rfl) rfl ?_
        refine T_slL (xs := bs) (i := n) EncB rfl rfl (by first | rfl | omega) slc42 (by first | omega | (simp; done) | (simp; omega)) (by first | omega | (simp; done) | (simp; omega)) hS rfl ?_
        intro A_1 hS_1
        refine L_call rfl cb79 (ref38_one (bs := bs.drop n) hS_1 (by first | omega | (simp only [List.length_drop] at *; omega)) (by first | omega | (simp only [List.length_drop] at *; omega)) (by first | omega | (simp only [List.length_drop] at *; omega))) rfl ?_
        rintro _ w2 ⟨hs1, y1, rfl, hyy1⟩
        replace hB := gb_tr hB hs1
        replace hS := hS.gb hs1
        replace ho := own_gb ho hs1
        replace hDT := hDT.gb hs1
        replace hS_1 := hS_1.gb hs1
        refine L_run (R_move rfl) rfl ?_
        refine L_run (R_extract rfl rfl) rfl ?_
        refine L_run (R_extract rfl rfl) rfl ?_
        refine L_run (R_extract rfl rfl) rfl ?_
        refine L_alloc (cs := [.int .i64 0, .int .i64 0, .slice none 0 0, .slice none 0 0, .int .i64 0, .int .i64 0]) zer65 rfl rfl ?_
        intro g1 w3 eg1 hb1 hs2 hz1
        have ge1 : w.heap.size ≤ g1 := eg_ge hB eg1
        have hap1 : ∀ k_, (Value.slice A2 acc.length c2).ownBlock = some k_ → k_ ≠ g1 := fun k_ hk => by have h_ := (World.ownsRow.lt ho k_ hk).2; omega
        replace hB := gb_tr hB hs2
        replace hS := hS.gb hs2
        replace ho := own_gb ho hs2
        replace hDT := hDT.gb hs2
        replace hS_1 := hS_1.gb hs2
        replace hyy1 := hyy1.gb hs2
        refine L_stA (vs := [.int .i64 y1.p.kind, .int .i64 y1.p.n, .slice y1.oa y1.p.ops.length y1.oc, .slice y1.ka y1.p.keep.length y1.kc, .int .i64 y1.p.torn, .int .i64 y1.p.cut]) rfl rfl rfl sz65 rfl hb1 rfl ?_
        intro w4 hb2 hs3 hz2
        replace hB := gb_trg hB hs3 ge1
        replace hS := hS.old hs3 ge1
        replace ho := ho.kept hs3 (.inr (fun e_ => hap1 _ e_ rfl))
        replace hDT := hDT.other hb1 rfl rfl rfl rfl hs3
        replace hS_1 := hS_1.old hs3 ge1
        replace hyy1 := hyy1.other hb1 rfl rfl rfl rfl hs3
        refine L_run (R_assign rfl) rfl ?_
        refine L_run (R_assign rfl) rfl ?_
        refine L_nil (N_then (C_seq (C_seq (C_reg ?_))))
        refine L_run (R_move rfl) rfl ?_
        refine L_run (R_neq rfl rfl) rfl ?_
        refine L_nil (N_then ?_)
        refine C_if rfl (fun h3 => ?_) (fun h3 => ?_)
        · refine C_seq (C_reg ?_)
          refine L_run (R_move rfl) rfl ?_
          refine L_run (R_assign rfl) rfl ?_
          refine L_run (R_assign rfl) rfl ?_
          refine L_nil (N_then (C_ret (R_then (R_in (R_then (R_in (R_then ?_)))))))
          refine ret2 Try.results58 rfl rfl ?_
          have e_ : sdec bs = ([], (sget (bs.drop n)).2.2) := by
            rw [← hv]
            first
              | exact sgo_long (by rw [List.length_drop] at *; omega) hf (by rw [ps_len]; omega)
              | exact sgo_err (by rw [List.length_drop] at *; omega) hf (by rw [ps_len]; omega) (by first | assumption | omega)
          rw [e_]; exact ⟨hB, none, 0, [], rfl, rfl, Sli.nil, DeepT.nil, Nat.le_refl _⟩
        · refine C_skip (N_then (C_seq (C_reg ?_)))
          refine L_run (R_move rfl) rfl ?_
          refine L_run (R_loadA (vs := [.int .i64 y1.p.kind, .int .i64 y1.p.n, .slice y1.oa y1.p.ops.length y1.oc, .slice y1.ka y1.p.keep.length y1.kc, .int .i64 y1.p.torn, .int .i64 y1.p.cut]) rfl agg65 (At.pre (hb2.at_ 0) rfl) rfl) rfl ?_
          refine L_buildSlice (pv := [(0, .agg #[.int .i64 y1.p.kind, .int .i64 y1.p.n, .slice y1.oa y1.p.ops.length y1.oc, .slice y1.ka y1.p.keep.length y1.kc, .int .i64 y1.p.torn, .int .i64 y1.p.cut])]) (cs := [.int .i64 y1.p.kind, .int .i64 y1.p.n, .slice y1.oa y1.p.ops.length y1.oc, .slice y1.ka y1.p.keep.length y1.kc, .int .i64 y1.p.torn, .int .i64 y1.p.cut]) slc58 zer65 rfl rfl (by kernel_rfl) rfl ?_
          intro g2 w5 eg2 hb3 hs4 hz3
          have ge2 : w.heap.size ≤ g2 := eg_ge hB eg2
          have lt1 : g1 < g2 := lt_of_eg hb2.lt eg2
          have hap2 : ∀ k_, (Value.slice A2 acc.length c2).ownBlock = some k_ → k_ ≠ g2 := fun k_ hk => by have h_ := (World.ownsRow.lt ho k_ hk).2; omega
          replace hB := gb_tr hB hs4
          replace hS := hS.gb hs4
          replace ho := own_gb ho hs4
          replace hDT := hDT.gb hs4
          replace hS_1 := hS_1.gb hs4
          replace hyy1 := hyy1.gb hs4
          replace hb2 := hb2.gb hs4
          refine T_append (xs := acc) (ys := [y1]) EncS slc58 rfl rfl ho (Blk.sli (m := 0) hb3) (by simp; omega) (by have := hB.size; omega) rfl ?_
          intro A_2 c_1 w6 ho1 hs5 hat1
          have lt2 := hb2.lt
          replace hB := gb_tro hB ho hs5 (Nat.le_refl _)
          replace hS := hS.grown hs5 (fun k hk => .inr (Nat.le_trans (Nat.le_refl _) (World.ownsRow.lt ho k hk).1))
          replace hDT := hDT.otherO ho rfl rfl rfl rfl hs5
          replace hS_1 := hS_1.grown hs5 (fun k hk => .inr (Nat.le_trans (Nat.le_refl _) (World.ownsRow.lt ho k hk).1))
          replace hyy1 := hyy1.otherO ho rfl rfl rfl rfl hs5
          replace hb2 := hb2.grown hs5 (fun e_ => hap1 _ e_.symm rfl)
          have hap3 : ∀ k_, (Value.slice A_2 (acc ++ ([y1])).length c_1).ownBlock = some k_ → k_ ≠ g1 := fun k_ hk => by rcases hat1 with h_ | h_ <;> rw [h_] at hk <;> first | exact hap1 k_ hk | (injection hk with hk; omega)
          refine L_run (R_assign rfl) rfl ?_
          refine L_nil (N_then (C_reg ?_))
          refine L_run (R_move rfl) rfl ?_
          refine L_run (R_move rfl) rfl ?_
          refine L_run (R_add64 rfl rfl (by first | omega | (have h_ := sEnc_sget (bs := bs.drop n) (by omega); rw [List.length_drop] at h_; omega))) rfl ?_
          refine L_run (R_assign rfl) rfl ?_
          refine L_nil (N_in (N_then ?_))
          have he0 : (sget (bs.drop n)).2.2 = 0 := by omega
          obtain ⟨hp_, hO_, hK_⟩ := hyy1 he0
          have hob := sEnc_sget (bs := bs.drop n) he0
          rw [List.length_drop] at hob
          have hst := sgo_step (acc := ps acc) (f := f) (bs := bs.drop n) (by rw [List.length_drop] at *; omega) hf (by rw [ps_len]; omega) he0
          rw [List.drop_drop] at hst
          have ep : ps (acc ++ [y1]) = ps acc ++ [(sget (bs.drop n)).1] := by rw [ps_snoc]; congr 2
          exact ⟨bs.length - (n + (sget (bs.drop n)).2.1), by omega, _, (n + (sget (bs.drop n)).2.1), A_2, c_1, (acc ++ [y1]), (f - 1), Ac_frg ⟨rfl, rfl, rfl, (agr rfl (by first | rfl | (congr 1; omega) | (congr 1; simp; done) | (congr 1; simp only [IntKind.wrap_u64, IntKind.wrap_i64, IntKind.wrap_u8]; omega) | (congr 1 <;> omega))), (agr rfl (by first | rfl | (congr 1; omega) | (congr 1; simp; done) | (congr 1; simp only [IntKind.wrap_u64, IntKind.wrap_i64, IntKind.wrap_u8]; omega) | (congr 1 <;> omega))), trivial⟩, hB, hS, ho1, (hDT.snoc hO_ hK_), (by omega), (by rw [List.length_drop] at *; omega), (by rw [ep]; exact hst.symm.trans hv), (by rw [List.length_append, List.length_singleton]; omega), rfl⟩
    · refine C_exit (X_then (X_then (X_hit (N_then (C_seq (C_reg ?_))))))
      refine L_run (R_move rfl) rfl ?_
      refine L_run (R_assign rfl) rfl ?_
      refine L_run (R_assign rfl) rfl ?_
      refine L_nil (N_then (C_ret ?_))
      refine ret2 Try.results58 rfl rfl ?_
      have e_ : sdec bs = (ps acc, 0) := by rw [← hv]; exact sgo_nil (by rw [List.length_drop] at *; omega)
      rw [e_]; exact ⟨hB, _, _, acc, rfl, rfl, (own_of ho).2.2.zero, hDT, (own_of ho).1⟩

theorem awake38 {w : World} :
    Runs Try.prog 51 #[] w (fun v w' => w.grownBy w' none ∧ v = .bool true) := by
  have hB := gb_refl w none
  have hG := aw38_enc
  have hF := aw38_few
  have hO := aw38_ok
  refine enter Try.func51 Try.ntmps51 rfl rfl ?_
  refine C_seq (C_reg ?_)
  refine L_run (R_assign rfl) rfl ?_
  refine L_nil (N_then (C_seq (C_reg ?_)))
  refine L_run (R_build (pv := [(0, .int .i64 2)]) (cs := [.int .i64 2, .int .i64 0, .slice none 0 0, .slice none 0 0, .int .i64 0, .int .i64 0]) rfl (by kernel_rfl)) rfl ?_
  refine L_run (R_build (pv := [(0, .int .i64 5), (1, .int .i64 3)]) (cs := [.int .i64 5, .int .i64 3, .slice none 0 0, .slice none 0 0, .int .i64 0, .int .i64 0]) rfl (by kernel_rfl)) rfl ?_
  refine L_buildSlice (pv := [(0, .agg #[.int .i64 2, .int .i64 0, .slice none 0 0, .slice none 0 0, .int .i64 0, .int .i64 0]), (1, .agg #[.int .i64 5, .int .i64 3, .slice none 0 0, .slice none 0 0, .int .i64 0, .int .i64 0])]) (cs := [.int .i64 2, .int .i64 0, .slice none 0 0, .slice none 0 0, .int .i64 0, .int .i64 0, .int .i64 5, .int .i64 3, .slice none 0 0, .slice none 0 0, .int .i64 0, .int .i64 0]) slc58 zer65 rfl rfl (by kernel_rfl) rfl ?_
  intro g1 w1 eg1 hb1 hs1 hz1
  have ge1 : w.heap.size ≤ g1 := eg_ge hB eg1
  replace hB := gb_tr hB hs1
  have ge2 : w.heap.size ≤ w1.heap.size := hB.size
  refine L_call rfl cb52 (script_Encode_ok (l := [(⟨none, 0, none, 0, ⟨2, 0, [], [], 0, 0⟩⟩ : StepD), (⟨none, 0, none, 0, ⟨5, 3, [], [], 0, 0⟩⟩ : StepD)]) (Blk.sli (m := 0) hb1) aw38_deep hF (by decide) hO) rfl ?_
  rintro _ w2 ⟨hs2, A_1, c_1, rfl, ho1⟩
  replace hB := gb_tr hB hs2
  replace hb1 := hb1.gb hs2
  have hlo1 : w1.heap.size ≤ w2.heap.size := hs2.size
  refine L_run (R_move rfl) rfl ?_
  refine L_run (R_extract rfl rfl) rfl ?_
  refine L_run (R_extract rfl rfl) rfl ?_
  refine L_run (R_assign rfl) rfl ?_
  refine L_run (R_assign rfl) rfl ?_
  refine L_nil (N_then (C_seq (C_reg ?_)))
  refine L_run (R_move rfl) rfl ?_
  have ge3 : w.heap.size ≤ w2.heap.size := hB.size
  refine L_call rfl cb55 (script_Decode (bs := sencs (ps ([(⟨none, 0, none, 0, ⟨2, 0, [], [], 0, 0⟩⟩ : StepD), (⟨none, 0, none, 0, ⟨5, 3, [], [], 0, 0⟩⟩ : StepD)]))) (own_of ho1).2.2 (by rw [hG]; decide) (own_cap ho1)) rfl ?_
  rintro _ w3 ⟨hs3, A_2, c_2, ls1, rfl, hps1, hS_1, hDT1, hlc1⟩
  replace hB := gb_tr hB hs3
  replace hb1 := hb1.gb hs3
  replace ho1 := own_gb ho1 hs3
  replace hlo1 := Nat.le_trans hlo1 hs3.size
  refine L_run (R_move rfl) rfl ?_
  refine L_run (R_extract rfl rfl) rfl ?_
  refine L_run (R_extract rfl rfl) rfl ?_
  refine L_run (R_assign rfl) rfl ?_
  refine L_run (R_assign rfl) rfl ?_
  refine L_nil (N_then (C_seq (C_reg ?_)))
  refine L_run (R_move rfl) rfl ?_
  refine L_run (R_eqv (R_eql rfl rfl) (v' := .bool true) rfl) rfl ?_
  refine L_run (R_move rfl) rfl ?_
  refine L_yes rfl rfl rfl rfl ?_
  refine L_run (R_move rfl) rfl ?_
  refine L_yes rfl rfl rfl rfl ?_
  refine L_run (R_eqv (R_eql rfl rfl) (v' := .bool true) (bT' (by rw [hG, sdec_ex]))) rfl ?_
  refine L_run (R_pickT rfl rfl rfl) rfl ?_
  refine L_run (R_move rfl) rfl ?_
  refine L_yes rfl rfl rfl rfl ?_
  refine L_run (R_move rfl) rfl ?_
  refine L_yes rfl rfl rfl rfl ?_
  refine L_run (R_b2s' (bs := sencs (ps ([(⟨none, 0, none, 0, ⟨2, 0, [], [], 0, 0⟩⟩ : StepD), (⟨none, 0, none, 0, ⟨5, 3, [], [], 0, 0⟩⟩ : StepD)]))) rfl slc42 int5 str9 (own_of ho1).2.2) rfl ?_
  refine L_yes rfl rfl rfl rfl ?_
  refine L_run (R_eqv (R_eqv (R_eqlS rfl rfl) (v' := .bool (decide ((sencs (ps ([(⟨none, 0, none, 0, ⟨2, 0, [], [], 0, 0⟩⟩ : StepD), (⟨none, 0, none, 0, ⟨5, 3, [], [], 0, 0⟩⟩ : StepD)]))) = [2, 5, 3]))) (bD ba_inj)) (v' := .bool true) (bT' hG)) rfl ?_
  refine L_run (R_pickT rfl rfl rfl) rfl ?_
  refine L_run (R_move rfl) rfl ?_
  refine L_yes rfl rfl rfl rfl ?_
  refine L_run (R_move rfl) rfl ?_
  refine L_yes rfl rfl rfl rfl ?_
  refine L_run (R_lenSl rfl slc58) rfl ?_
  refine L_yes rfl rfl rfl rfl ?_
  refine L_run (R_eqv (R_eql rfl rfl) (v' := .bool true) (bT' (by rw [aw38_len (by assumption)]; rfl))) rfl ?_
  refine L_run (R_pickT rfl rfl rfl) rfl ?_
  refine L_run (R_assign rfl) rfl ?_
  refine L_nil (N_then (C_ret ?_))
  refine ret1 Try.results51 rfl ?_
  exact ⟨hB, rfl⟩

end Go.Proofs.Ytnggbodilhpohaa
