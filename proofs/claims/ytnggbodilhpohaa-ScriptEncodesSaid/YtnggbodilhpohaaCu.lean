/-
  Contracts of the package script: what bytes are as steps; a reader gives up by a panic, and Decode recovers it.
-/
import Derived.Test.YtnggbodilhpohaaCt
namespace Go.Proofs.Ytnggbodilhpohaa
open Go.RowKit Gw Pl
set_option linter.unusedVariables false
set_option linter.unusedSimpArgs false
theorem cb77 : callB Try.prog 77 = true := by kernel_rfl
theorem cb78 : callB Try.prog 78 = true := by kernel_rfl
theorem cb86 : callB Try.prog 86 = true := by kernel_rfl
theorem cb87 : callB Try.prog 87 = true := by kernel_rfl
theorem fld102_0 : fldB Try.prog 102 0 0 = true := by kernel_rfl
theorem fld106_0 : fldB Try.prog 106 0 0 = true := by kernel_rfl
theorem scl58 : sclB Try.prog 58 = true := by kernel_rfl
theorem sz102 : szB Try.prog 102 1 = true := by kernel_rfl
theorem sz22 : szB Try.prog 22 1 = true := by kernel_rfl
theorem sz42 : szB Try.prog 42 1 = true := by kernel_rfl
theorem sz58 : szB Try.prog 58 1 = true := by kernel_rfl
theorem zer102 : (Try.prog.info? 102).bind (·.zero) = some (.agg #[.int .i64 0]) := by kernel_rfl
theorem zer29 : (Try.prog.info? 29).bind (·.zero) = some (.int .i64 0) := by kernel_rfl
theorem zer58 : (Try.prog.info? 58).bind (·.zero) = some (.slice none 0 0) := by kernel_rfl
theorem reader_one {w : World} {g t1 lo hi : Nat} {A : Option Addr} {c : Nat} {bs : List UInt8} (hb : Blk w g 106 [.slice A bs.length c]) (hS : Sli t1 lo hi w A (fl encB bs)) (hgi : hi ≤ g) (hl : bs.length ≤ 1000000) (hc : bs.length ≤ c) :
    RunsP Try.prog 86 #[.pointer (some ⟨g, 0, none⟩)] w (fun v w' => w.grownBy w' (some g) ∧ ∃ h0 : 0 < bs.length, v = .int .i64 (bs[0].toNat : Int) ∧ ∃ A' c', Blk w' g 106 [.slice A' (bs.drop 1).length c'] ∧ Sli t1 lo hi w' A' (fl encB (bs.drop 1)) ∧ (bs.drop 1).length ≤ c') (fun v w' => w.grownBy w' (some g) ∧ bs.length = 0 ∧ v = .iface 102 (.agg #[.int .i64 1])) := by
  have hB := gb_refl w (some g)
  refine enterP Try.func86 Try.ntmps86 rfl rfl ?_
  refine C_seq (C_reg ?_)
  refine L_run (R_assign rfl) rfl ?_
  refine L_nil (N_then (C_seq (C_seq (C_reg ?_))))
  refine L_run (R_move rfl) rfl ?_
  refine L_run (R_nilck rfl) rfl ?_
  refine L_run (R_field (r := 0) rfl fld106_0 rfl) rfl ?_
  refine L_run (R_load1 rfl scl42 (hb.cell (i := 0) rfl)) rfl ?_
  refine L_run (R_lenSl rfl slc42) rfl ?_
  refine L_run (R_eql rfl rfl) rfl ?_
  refine L_nil (N_then ?_)
  refine C_if rfl (fun h1 => ?_) (fun h1 => ?_)
  · refine C_reg ?_
    refine L_run (R_build (pv := [(0, .int .i64 1)]) (cs := [.int .i64 1]) rfl (by kernel_rfl)) rfl ?_
    refine L_run (R_mkif rfl Try.underlying102) rfl ?_
    refine L_panic rfl ?_
    refine P_then ?_
    refine panP ⟨hB, by omega, rfl⟩
  · refine C_skip (N_then (C_seq (C_reg ?_)))
    refine L_run (R_move rfl) rfl ?_
    refine L_run (R_nilck rfl) rfl ?_
    refine L_run (R_field (r := 0) rfl fld106_0 rfl) rfl ?_
    refine L_run (R_load1 rfl scl42 (hb.cell (i := 0) rfl)) rfl ?_
    have hl1 : 0 < bs.length := by first | omega | (simp; omega)
    refine T_index (xs := bs) (i := 0) EncB rfl rfl (by first | rfl | omega) slc42 hl1 hS rfl ?_
    intro g1 o1 ha1
    refine L_run (R_load1 rfl scl5 (ha1 0 _ rfl)) rfl ?_
    refine L_run (R_assign rfl) rfl ?_
    refine L_nil (N_then (C_seq (C_reg ?_)))
    refine L_run (R_move rfl) rfl ?_
    refine L_run (R_move rfl) rfl ?_
    refine L_run (R_nilck rfl) rfl ?_
    refine L_run (R_field (r := 0) rfl fld106_0 rfl) rfl ?_
    refine L_run (R_load1 rfl scl42 (hb.cell (i := 0) rfl)) rfl ?_
    refine T_slL (xs := bs) (i := 1) EncB rfl rfl (by first | rfl | omega) slc42 (by first | omega | (simp; done) | (simp; omega)) (by first | omega | (simp; done) | (simp; omega)) hS rfl ?_
    intro A_1 hS_1
    refine L_run (R_nilck rfl) rfl ?_
    refine L_run (R_field (r := 0) rfl fld106_0 rfl) rfl ?_
    refine L_st1 rfl rfl rfl sz42 hb rfl ?_
    intro w1 hb1 hs1 hz1
    replace hB := gb_trans hB hs1
    replace hS := hS.old hs1 hgi
    replace hS_1 := hS_1.grown hs1 (by rintro _ ⟨rfl⟩; omega)
    refine L_nil (N_then (C_seq (C_reg ?_)))
    refine L_run (R_move rfl) rfl ?_
    refine L_run (R_eqv (R_conv rfl any5 int3) (v' := .int .i64 (bs[0].toNat : Int)) (congrArg _ (i64_fit (by have := bs[0].toNat_lt; omega)))) rfl ?_
    refine L_run (R_assign rfl) rfl ?_
    refine L_nil (N_then (C_ret ?_))
    refine retP ?_
    refine ret1 Try.results86 rfl ?_
    exact ⟨hB, hl1, rfl, _, _, hb1, hS_1, by rw [List.length_drop]; omega⟩

theorem reader_field {w : World} {g t1 lo hi : Nat} {A : Option Addr} {c : Nat} {bs : List UInt8} (hb : Blk w g 106 [.slice A bs.length c]) (hS : Sli t1 lo hi w A (fl encB bs)) (hgi : hi ≤ g) (hl : bs.length ≤ 1000000) (hc : bs.length ≤ c) :
    RunsP Try.prog 87 #[.pointer (some ⟨g, 0, none⟩)] w (fun v w' => w.grownBy w' (some g) ∧ (fget bs).2.2 = 0 ∧ ∃ A2 c2, v = .slice A2 ((fget bs).1).length c2 ∧ World.ownsRow w' w.heap.size 5 1 (.slice A2 ((fget bs).1).length c2) ((fget bs).1).length (fl encB (fget bs).1) ∧ ∃ A' c', Blk w' g 106 [.slice A' (bs.drop (fget bs).2.1).length c'] ∧ Sli t1 lo hi w' A' (fl encB (bs.drop (fget bs).2.1)) ∧ (bs.drop (fget bs).2.1).length ≤ c') (fun v w' => w.grownBy w' (some g) ∧ (fget bs).2.2 ≠ 0 ∧ v = .iface 102 (.agg #[.int .i64 ((fget bs).2.2)])) := by
  have hB := gb_refl w (some g)
  have hfb := (fget_bound bs).1
  refine enterP Try.func87 Try.ntmps87 rfl rfl ?_
  refine C_seq (C_reg ?_)
  refine L_run (R_assign rfl) rfl ?_
  refine L_nil (N_then (C_seq (C_reg ?_)))
  refine L_run (R_move rfl) rfl ?_
  refine L_run (R_nilck rfl) rfl ?_
  refine L_run (R_field (r := 0) rfl fld106_0 rfl) rfl ?_
  refine L_run (R_load1 rfl scl42 (hb.cell (i := 0) rfl)) rfl ?_
  have ge1 : w.heap.size ≤ w.heap.size := hB.size
  refine L_call rfl cb84 (field_Get (bs := bs) hS (by first | omega | (simp; done) | (simp; omega)) (by first | omega | (simp; done) | (simp; omega))) rfl ?_
  rintro _ w1 ⟨hs1, A_1, c_1, rfl, ho1⟩
  replace hB := gb_tr hB hs1
  replace hb := hb.gb hs1
  replace hS := hS.gb hs1
  have hlo1 : w.heap.size ≤ w1.heap.size := hs1.size
  refine L_run (R_move rfl) rfl ?_
  refine L_run (R_extract rfl rfl) rfl ?_
  refine L_run (R_extract rfl rfl) rfl ?_
  refine L_run (R_extract rfl rfl) rfl ?_
  refine L_run (R_assign rfl) rfl ?_
  refine L_run (R_assign rfl) rfl ?_
  refine L_run (R_assign rfl) rfl ?_
  refine L_nil (N_then (C_seq (C_seq (C_reg ?_))))
  refine L_run (R_move rfl) rfl ?_
  refine L_run (R_neq rfl rfl) rfl ?_
  refine L_nil (N_then ?_)
  refine C_if rfl (fun h1 => ?_) (fun h1 => ?_)
  · refine C_reg ?_
    refine L_run (R_move rfl) rfl ?_
    refine L_run (R_build (pv := [(0, .int .i64 ((fget bs).2.2))]) (cs := [.int .i64 ((fget bs).2.2)]) rfl (by kernel_rfl)) rfl ?_
    refine L_run (R_mkif rfl Try.underlying102) rfl ?_
    refine L_panic rfl ?_
    refine P_then ?_
    refine panP ⟨hB, by omega, rfl⟩
  · refine C_skip (N_then (C_seq (C_reg ?_)))
    refine L_run (R_move rfl) rfl ?_
    refine L_run (R_move rfl) rfl ?_
    refine L_run (R_nilck rfl) rfl ?_
    refine L_run (R_field (r := 0) rfl fld106_0 rfl) rfl ?_
    refine L_run (R_load1 rfl scl42 (hb.cell (i := 0) rfl)) rfl ?_
    refine L_run (R_move rfl) rfl ?_
    refine T_slL (xs := bs) (i := (fget bs).2.1) EncB rfl rfl (by first | rfl | omega) slc42 (by first | omega | (simp; done) | (simp; omega)) (by first | omega | (simp; done) | (simp; omega)) hS rfl ?_
    intro A_2 hS_1
    refine L_run (R_nilck rfl) rfl ?_
    refine L_run (R_field (r := 0) rfl fld106_0 rfl) rfl ?_
    refine L_st1 rfl rfl rfl sz42 hb rfl ?_
    intro w2 hb1 hs2 hz1
    replace hB := gb_trans hB hs2
    replace hS := hS.old hs2 hgi
    replace ho1 := own_other ho1 hb rfl hs2
    replace hlo1 := Nat.le_trans hlo1 hs2.size
    replace hS_1 := hS_1.grown hs2 (by rintro _ ⟨rfl⟩; omega)
    refine L_nil (N_then (C_seq (C_reg ?_)))
    refine L_run (R_move rfl) rfl ?_
    refine L_run (R_assign rfl) rfl ?_
    refine L_nil (N_then (C_ret ?_))
    refine retP ?_
    refine ret1 Try.results87 rfl ?_
    exact ⟨hB, by omega, _, _, rfl, (own_lo ho1 ge1), _, _, hb1, hS_1, by rw [List.length_drop]; omega⟩

theorem reader_step {w : World} {g t1 lo hi : Nat} {A : Option Addr} {c : Nat} {bs : List UInt8} (hb : Blk w g 106 [.slice A bs.length c]) (hS : Sli t1 lo hi w A (fl encB bs)) (hgi : hi ≤ g) (hl : bs.length ≤ 1000000) (hc : bs.length ≤ c) :
    RunsP Try.prog 78 #[.pointer (some ⟨g, 0, none⟩)] w (fun v w' => w.grownBy w' (some g) ∧ (sget bs).2.2 = 0 ∧ ∃ y : StepD, v = .agg (encS y).toArray ∧ y.p = (sget bs).1 ∧ Sli 44 0 w'.heap.size w' y.oa (fl encOp y.p.ops) ∧ Sli 5 0 w'.heap.size w' y.ka (fl encB y.p.keep) ∧ ∃ A' c', Blk w' g 106 [.slice A' (bs.drop (sget bs).2.1).length c'] ∧ Sli t1 lo hi w' A' (fl encB (bs.drop (sget bs).2.1)) ∧ (bs.drop (sget bs).2.1).length ≤ c') (fun v w' => w.grownBy w' (some g) ∧ (sget bs).2.2 ≠ 0 ∧ v = .iface 102 (.agg #[.int .i64 ((sget bs).2.2)])) := by
  have hB := gb_refl w (some g)
  have hgw := hb.lt
  refine enterP Try.func78 Try.ntmps78 rfl rfl ?_
  refine C_seq (C_reg ?_)
  refine L_alloc (cs := [.int .i64 0, .int .i64 0, .slice none 0 0, .slice none 0 0, .int .i64 0, .int .i64 0]) zer65 rfl rfl ?_
  intro g1 w1 eg1 hb1 hs1 hz1
  have ge1 : w.heap.size ≤ g1 := eg_ge hB eg1
  have lt1 : g < g1 := lt_of_eg hb.lt eg1
  replace hB := gb_tr hB hs1
  replace hb := hb.gb hs1
  replace hS := hS.gb hs1
  refine L_nil (N_then (C_seq (C_reg ?_)))
  refine L_run (R_move rfl) rfl ?_
  have ge2 : w.heap.size ≤ w1.heap.size := hB.size
  refine L_callP rfl cb86 (reader_one (bs := bs) hb hS hgi (by first | omega | (simp only [List.length_drop] at *; omega)) (by first | omega | (simp only [List.length_drop] at *; omega)) ) rfl ?_ ?_
  · rintro _ w2 ⟨hs2, hone1, rfl, A_1, c_1, hb2, hS_1, hcap1⟩
    replace hB := gb_trans hB hs2
    replace hb1 := hb1.grown hs2 (ne_gt lt1)
    refine L_run (R_build (pv := [(0, .int .i64 (bs[0].toNat : Int))]) (cs := [.int .i64 (bs[0].toNat : Int), .int .i64 0, .slice none 0 0, .slice none 0 0, .int .i64 0, .int .i64 0]) rfl (by kernel_rfl)) rfl ?_
    refine L_alloc (cs := [.int .i64 0, .int .i64 0, .slice none 0 0, .slice none 0 0, .int .i64 0, .int .i64 0]) zer65 rfl rfl ?_
    intro g2 w3 eg2 hb3 hs3 hz2
    have ge3 : w.heap.size ≤ g2 := eg_ge hB eg2
    have lt2 : g < g2 := lt_of_eg hb2.lt eg2
    have lt3 : g1 < g2 := lt_of_eg hb1.lt eg2
    replace hB := gb_tr hB hs3
    replace hb2 := hb2.gb hs3
    replace hb1 := hb1.gb hs3
    replace hS_1 := hS_1.gb hs3
    refine L_stA (vs := [.int .i64 (bs[0].toNat : Int), .int .i64 0, .slice none 0 0, .slice none 0 0, .int .i64 0, .int .i64 0]) rfl rfl rfl sz65 rfl hb3 rfl ?_
    intro w4 hb4 hs4 hz3
    replace hB := gb_trg hB hs4 ge3
    replace hb2 := hb2.grown hs4 (ne_lt lt2)
    replace hb1 := hb1.grown hs4 (ne_lt lt3)
    replace hS_1 := hS_1.old hs4 (by omega)
    refine L_nil (N_then (C_seq (C_seq (C_reg ?_))))
    refine L_run (R_field (r := 0) rfl fld65_0 rfl) rfl ?_
    refine L_run (R_load1 rfl scl3 (hb4.cell (i := 0) rfl)) rfl ?_
    refine L_nil (N_then (C_block (C_seq (C_reg ?_))))
    refine L_run (R_eql rfl rfl) rfl ?_
    refine L_run (R_assign rfl) rfl ?_
    refine L_nil (N_then ?_)
    refine C_if rfl (fun h1 => ?_) (fun h1 => ?_)
    · refine C_reg ?_
      refine L_run (R_move rfl) rfl ?_
      have ge4 : w.heap.size ≤ w4.heap.size := hB.size
      have ge5 : w.heap.size ≤ w4.heap.size := hB.size
      refine L_callP rfl cb87 (reader_field (bs := bs.drop 1) hb2 hS_1 hgi (by first | omega | (simp only [List.length_drop] at *; omega)) (by first | omega | (simp only [List.length_drop] at *; omega)) ) rfl ?_ ?_
      · rintro _ w5 ⟨hs5, hfe1, A_2, c_2, rfl, ho1, A_3, c_3, hb5, hS_2, hcap2⟩
        replace hB := gb_trans hB hs5
        replace hb1 := hb1.grown hs5 (ne_gt lt1)
        replace hb4 := hb4.grown hs5 (ne_gt lt2)
        have hlo1 : w4.heap.size ≤ w5.heap.size := hs5.size
        have ge6 : w.heap.size ≤ w5.heap.size := hB.size
        refine L_call rfl cb47 (batch_Decode (bs := ((fget (bs.drop 1)).1)) (own_of ho1).2.2 (by have h_ := (fget_bound (bs.drop 1)).2.2.2; rw [List.length_drop] at h_; omega) (own_cap ho1)) rfl ?_
        rintro _ w6 ⟨hs6, A_4, c_4, rfl, ho2⟩
        replace hB := gb_tr hB hs6
        replace hb5 := hb5.gb hs6
        replace hb1 := hb1.gb hs6
        replace hb4 := hb4.gb hs6
        replace ho1 := own_gb ho1 hs6
        replace hS_2 := hS_2.gb hs6
        replace hlo1 := Nat.le_trans hlo1 hs6.size
        have hlo2 : w5.heap.size ≤ w6.heap.size := hs6.size
        refine L_run (R_move rfl) rfl ?_
        refine L_run (R_extract rfl rfl) rfl ?_
        refine L_run (R_extract rfl rfl) rfl ?_
        refine L_run (R_field (r := 2) rfl fld65_2 rfl) rfl ?_
        refine L_st1 rfl rfl rfl sz22 hb4 rfl ?_
        intro w7 hb6 hs7 hz4
        replace hB := gb_trg hB hs7 ge3
        replace hb5 := hb5.grown hs7 (ne_lt lt2)
        replace hb1 := hb1.grown hs7 (ne_lt lt3)
        replace ho1 := own_other ho1 hb4 rfl hs7
        replace hS_2 := hS_2.old hs7 (by omega)
        replace hlo1 := Nat.le_trans hlo1 hs7.size
        replace ho2 := own_other ho2 hb4 rfl hs7
        replace hlo2 := Nat.le_trans hlo2 hs7.size
        refine L_nil (N_in (N_then (C_seq (C_seq (C_reg ?_)))))
        refine L_run (R_loadA (vs := [.int .i64 (bs[0].toNat : Int), .int .i64 0, .slice A_4 (((bget ((fget (bs.drop 1)).1)).1).length) c_4, .slice none 0 0, .int .i64 0, .int .i64 0]) rfl agg65 (At.pre (hb6.at_ 0) rfl) rfl) rfl ?_
        refine L_call rfl cb53 (script_Right (ops := (bget ((fget (bs.drop 1)).1)).1) (own_of ho2).2.2 (by first | omega | (simp; done) | (have h_ := bget_len (fget (bs.drop 1)).1; omega))) rfl ?_
        rintro _ w8 ⟨hs8, rfl⟩
        replace hB := gb_tr hB hs8
        replace hb5 := hb5.gb hs8
        replace hb1 := hb1.gb hs8
        replace hb6 := hb6.gb hs8
        replace ho1 := own_gb ho1 hs8
        replace hS_2 := hS_2.gb hs8
        replace hlo1 := Nat.le_trans hlo1 hs8.size
        replace ho2 := own_gb ho2 hs8
        replace hlo2 := Nat.le_trans hlo2 hs8.size
        refine L_run (R_notD rfl) rfl ?_
        refine L_nil (N_then ?_)
        refine C_ifN rfl (fun h2 => ?_) (fun h2 => ?_)
        · refine C_reg ?_
          refine L_run (R_build (pv := [(0, .int .i64 2)]) (cs := [.int .i64 2]) rfl (by kernel_rfl)) rfl ?_
          refine L_run (R_mkif rfl Try.underlying102) rfl ?_
          refine L_panic rfl ?_
          refine P_then ?_
          refine panP ⟨hB, ?_⟩
          have e_ : sget bs = (p0, 0, 2) := by
            first
              | exact sget_nil (by omega)
              | exact sget_1e (by omega) (by omega) (by assumption)
              | exact sget_5e (by omega) (by omega) (by omega)
              | exact sget_4e (by omega) (by omega) (by assumption)
              | exact sget_4s (by omega) (by omega) (by assumption) (by simp only [List.length_drop] at *; omega)
              | (rw [sgetK_1 (by omega) (by omega) (by assumption)]; exact sfin_n (by assumption))
              | (rw [sgetK_5 (by omega) (by omega) (drop0 (by omega))]; exact sfin_n (by assumption))
              | (rw [sgetK_4 (by omega) (by omega) (by assumption) (drop00 (by omega)) (drop000 (by omega))]; exact sfin_n (by assumption))
              | (rw [sget_o (by omega) (by omega) (by omega) (by omega)]; exact sfin_n (by assumption))
          rw [e_]; exact ⟨by first | assumption | simp, rfl⟩
        · refine C_skip (N_then (C_seq (C_reg ?_)))
          refine L_run (R_loadA (vs := [.int .i64 (bs[0].toNat : Int), .int .i64 0, .slice A_4 (((bget ((fget (bs.drop 1)).1)).1).length) c_4, .slice none 0 0, .int .i64 0, .int .i64 0]) rfl agg65 (At.pre (hb6.at_ 0) rfl) rfl) rfl ?_
          refine L_stA (vs := [.int .i64 (bs[0].toNat : Int), .int .i64 0, .slice A_4 (((bget ((fget (bs.drop 1)).1)).1).length) c_4, .slice none 0 0, .int .i64 0, .int .i64 0]) rfl rfl rfl sz65 rfl hb1 rfl ?_
          intro w9 hb7 hs9 hz5
          replace hB := gb_trg hB hs9 ge1
          replace hb5 := hb5.grown hs9 (ne_lt lt1)
          replace hb6 := hb6.grown hs9 (ne_gt lt3)
          replace ho1 := own_other ho1 hb1 rfl hs9
          replace hS_2 := hS_2.old hs9 (by omega)
          replace hlo1 := Nat.le_trans hlo1 hs9.size
          replace ho2 := own_other ho2 hb1 rfl hs9
          replace hlo2 := Nat.le_trans hlo2 hs9.size
          refine L_nil (N_then (C_ret ?_))
          refine retP ?_
          refine retC (vs := [.int .i64 (bs[0].toNat : Int), .int .i64 0, .slice A_4 (((bget ((fget (bs.drop 1)).1)).1).length) c_4, .slice none 0 0, .int .i64 0, .int .i64 0]) Try.results78 rfl agg65 (At.pre (hb7.at_ 0) rfl) rfl  ?_
          have e_ : sget bs = ((⟨(bs[0].toNat : Int), 0, (bget ((fget (bs.drop 1)).1)).1, [], 0, 0⟩ : StepP), (1 + (fget (bs.drop 1)).2.1), 0) := by
            refine Eq.trans (b := sfin (⟨(bs[0].toNat : Int), 0, (bget ((fget (bs.drop 1)).1)).1, [], 0, 0⟩ : StepP) (1 + (fget (bs.drop 1)).2.1)) ?_ (sfin_y (p := (⟨(bs[0].toNat : Int), 0, (bget ((fget (bs.drop 1)).1)).1, [], 0, 0⟩ : StepP)) (by first | assumption | exact Decidable.not_not.1 (by assumption)))
            first
              | exact sgetK_1 (by omega) (by omega) (by assumption)
              | exact sgetK_5 (by omega) (by omega) (drop0 (by omega))
              | exact sgetK_4 (by omega) (by omega) (by assumption) (drop00 (by omega)) (drop000 (by omega))
              | exact sget_o (by omega) (by omega) (by omega) (by omega)
          have ed : (bs.drop 1).drop ((fget (bs.drop 1)).2.1) = bs.drop (1 + (fget (bs.drop 1)).2.1) := by first | rfl | (simp only [List.drop_drop]; done) | (simp only [List.drop_drop]; congr 1; omega)
          rw [ed] at hb5 hS_2; rw [e_]
          exact ⟨hB, rfl, (⟨A_4, c_4, none, 0, ⟨(bs[0].toNat : Int), 0, (bget ((fget (bs.drop 1)).1)).1, [], 0, 0⟩⟩ : StepD), rfl, rfl, (own_of ho2).2.2.zero, Sli.nil, _, _, hb5, hS_2, by first | (rw [← ed]; omega) | omega⟩
      · rintro _ w5 ⟨hs5, he2, rfl⟩
        replace hB := gb_trans hB hs5
        replace hb1 := hb1.grown hs5 (ne_gt lt1)
        replace hS_1 := hS_1.old hs5 hgi
        replace hb4 := hb4.grown hs5 (ne_gt lt2)
        refine P_in (P_then ?_)
        refine panP ⟨hB, ?_⟩
        have e_ : sget bs = (p0, 0, (fget (bs.drop 1)).2.2) := by
          first
            | exact sget_nil (by omega)
            | exact sget_1e (by omega) (by omega) (by assumption)
            | exact sget_5e (by omega) (by omega) (by omega)
            | exact sget_4e (by omega) (by omega) (by assumption)
            | exact sget_4s (by omega) (by omega) (by assumption) (by simp only [List.length_drop] at *; omega)
            | (rw [sgetK_1 (by omega) (by omega) (by assumption)]; exact sfin_n (by assumption))
            | (rw [sgetK_5 (by omega) (by omega) (drop0 (by omega))]; exact sfin_n (by assumption))
            | (rw [sgetK_4 (by omega) (by omega) (by assumption) (drop00 (by omega)) (drop000 (by omega))]; exact sfin_n (by assumption))
            | (rw [sget_o (by omega) (by omega) (by omega) (by omega)]; exact sfin_n (by assumption))
        rw [e_]; exact ⟨by first | assumption | simp, rfl⟩
    · refine C_seq (C_reg ?_)
      refine L_run (R_eql rfl rfl) rfl ?_
      refine L_run (R_assign rfl) rfl ?_
      refine L_nil (N_then ?_)
      refine C_if rfl (fun h3 => ?_) (fun h3 => ?_)
      · refine C_reg ?_
        refine L_run (R_move rfl) rfl ?_
        have ge7 : w.heap.size ≤ w4.heap.size := hB.size
        refine L_callP rfl cb86 (reader_one (bs := bs.drop 1) hb2 hS_1 hgi (by first | omega | (simp only [List.length_drop] at *; omega)) (by first | omega | (simp only [List.length_drop] at *; omega)) ) rfl ?_ ?_
        · rintro _ w10 ⟨hs10, hone2, rfl, A_5, c_5, hb8, hS_3, hcap3⟩
          replace hB := gb_trans hB hs10
          replace hb1 := hb1.grown hs10 (ne_gt lt1)
          replace hb4 := hb4.grown hs10 (ne_gt lt2)
          refine L_run (R_field (r := 1) rfl fld65_1 rfl) rfl ?_
          refine L_st1 rfl rfl rfl sz3 hb4 rfl ?_
          intro w11 hb9 hs11 hz6
          replace hB := gb_trg hB hs11 ge3
          replace hb8 := hb8.grown hs11 (ne_lt lt2)
          replace hb1 := hb1.grown hs11 (ne_lt lt3)
          replace hS_3 := hS_3.old hs11 (by omega)
          refine L_nil (N_in (N_then (C_seq (C_seq (C_reg ?_)))))
          refine L_run (R_loadA (vs := [.int .i64 (bs[0].toNat : Int), .int .i64 ((bs.drop 1)[0].toNat : Int), .slice none 0 0, .slice none 0 0, .int .i64 0, .int .i64 0]) rfl agg65 (At.pre (hb9.at_ 0) rfl) rfl) rfl ?_
          refine L_call rfl cb53 (script_Right (ops := []) (Sli.nil (t := 0) (lo := 0) (hi := 0)) (by first | omega | (simp; done) | (have h_ := bget_len (fget (bs.drop 1)).1; omega))) rfl ?_
          rintro _ w12 ⟨hs12, rfl⟩
          replace hB := gb_tr hB hs12
          replace hb8 := hb8.gb hs12
          replace hb1 := hb1.gb hs12
          replace hb9 := hb9.gb hs12
          replace hS_3 := hS_3.gb hs12
          refine L_run (R_notD rfl) rfl ?_
          refine L_nil (N_then ?_)
          refine C_ifN rfl (fun h4 => ?_) (fun h4 => ?_)
          · refine C_reg ?_
            refine L_run (R_build (pv := [(0, .int .i64 2)]) (cs := [.int .i64 2]) rfl (by kernel_rfl)) rfl ?_
            refine L_run (R_mkif rfl Try.underlying102) rfl ?_
            refine L_panic rfl ?_
            refine P_then ?_
            refine panP ⟨hB, ?_⟩
            have e_ : sget bs = (p0, 0, 2) := by
              first
                | exact sget_nil (by omega)
                | exact sget_1e (by omega) (by omega) (by assumption)
                | exact sget_5e (by omega) (by omega) (by omega)
                | exact sget_4e (by omega) (by omega) (by assumption)
                | exact sget_4s (by omega) (by omega) (by assumption) (by simp only [List.length_drop] at *; omega)
                | (rw [sgetK_1 (by omega) (by omega) (by assumption)]; exact sfin_n (by assumption))
                | (rw [sgetK_5 (by omega) (by omega) (drop0 (by omega))]; exact sfin_n (by assumption))
                | (rw [sgetK_4 (by omega) (by omega) (by assumption) (drop00 (by omega)) (drop000 (by omega))]; exact sfin_n (by assumption))
                | (rw [sget_o (by omega) (by omega) (by omega) (by omega)]; exact sfin_n (by assumption))
            rw [e_]; exact ⟨by first | assumption | simp, rfl⟩
          · refine C_skip (N_then (C_seq (C_reg ?_)))
            refine L_run (R_loadA (vs := [.int .i64 (bs[0].toNat : Int), .int .i64 ((bs.drop 1)[0].toNat : Int), .slice none 0 0, .slice none 0 0, .int .i64 0, .int .i64 0]) rfl agg65 (At.pre (hb9.at_ 0) rfl) rfl) rfl ?_
            refine L_stA (vs := [.int .i64 (bs[0].toNat : Int), .int .i64 ((bs.drop 1)[0].toNat : Int), .slice none 0 0, .slice none 0 0, .int .i64 0, .int .i64 0]) rfl rfl rfl sz65 rfl hb1 rfl ?_
            intro w13 hb10 hs13 hz7
            replace hB := gb_trg hB hs13 ge1
            replace hb8 := hb8.grown hs13 (ne_lt lt1)
            replace hb9 := hb9.grown hs13 (ne_gt lt3)
            replace hS_3 := hS_3.old hs13 (by omega)
            refine L_nil (N_then (C_ret ?_))
            refine retP ?_
            refine retC (vs := [.int .i64 (bs[0].toNat : Int), .int .i64 ((bs.drop 1)[0].toNat : Int), .slice none 0 0, .slice none 0 0, .int .i64 0, .int .i64 0]) Try.results78 rfl agg65 (At.pre (hb10.at_ 0) rfl) rfl  ?_
            have e_ : sget bs = ((⟨(bs[0].toNat : Int), ((bs.drop 1)[0].toNat : Int), [], [], 0, 0⟩ : StepP), 2, 0) := by
              refine Eq.trans (b := sfin (⟨(bs[0].toNat : Int), ((bs.drop 1)[0].toNat : Int), [], [], 0, 0⟩ : StepP) 2) ?_ (sfin_y (p := (⟨(bs[0].toNat : Int), ((bs.drop 1)[0].toNat : Int), [], [], 0, 0⟩ : StepP)) (by first | assumption | exact Decidable.not_not.1 (by assumption)))
              first
                | exact sgetK_1 (by omega) (by omega) (by assumption)
                | exact sgetK_5 (by omega) (by omega) (drop0 (by omega))
                | exact sgetK_4 (by omega) (by omega) (by assumption) (drop00 (by omega)) (drop000 (by omega))
                | exact sget_o (by omega) (by omega) (by omega) (by omega)
            have ed : (bs.drop 1).drop 1 = bs.drop 2 := by first | rfl | (simp only [List.drop_drop]; done) | (simp only [List.drop_drop]; congr 1; omega)
            rw [ed] at hb8 hS_3; rw [e_]
            exact ⟨hB, rfl, (⟨none, 0, none, 0, ⟨(bs[0].toNat : Int), ((bs.drop 1)[0].toNat : Int), [], [], 0, 0⟩⟩ : StepD), rfl, rfl, Sli.nil, Sli.nil, _, _, hb8, hS_3, by first | (rw [← ed]; omega) | omega⟩
        · rintro _ w10 ⟨hs10, he3, rfl⟩
          replace hB := gb_trans hB hs10
          replace hb1 := hb1.grown hs10 (ne_gt lt1)
          replace hS_1 := hS_1.old hs10 hgi
          replace hb4 := hb4.grown hs10 (ne_gt lt2)
          refine P_in (P_then ?_)
          refine panP ⟨hB, ?_⟩
          have e_ : sget bs = (p0, 0, 1) := by
            first
              | exact sget_nil (by omega)
              | exact sget_1e (by omega) (by omega) (by assumption)
              | exact sget_5e (by omega) (by omega) (by omega)
              | exact sget_4e (by omega) (by omega) (by assumption)
              | exact sget_4s (by omega) (by omega) (by assumption) (by simp only [List.length_drop] at *; omega)
              | (rw [sgetK_1 (by omega) (by omega) (by assumption)]; exact sfin_n (by assumption))
              | (rw [sgetK_5 (by omega) (by omega) (drop0 (by omega))]; exact sfin_n (by assumption))
              | (rw [sgetK_4 (by omega) (by omega) (by assumption) (drop00 (by omega)) (drop000 (by omega))]; exact sfin_n (by assumption))
              | (rw [sget_o (by omega) (by omega) (by omega) (by omega)]; exact sfin_n (by assumption))
          rw [e_]; exact ⟨by first | assumption | simp, rfl⟩
      · refine C_seq (C_reg ?_)
        refine L_run (R_eql rfl rfl) rfl ?_
        refine L_run (R_assign rfl) rfl ?_
        refine L_nil (N_then ?_)
        refine C_if rfl (fun h5 => ?_) (fun h5 => ?_)
        · refine C_seq (C_reg ?_)
          refine L_run (R_move rfl) rfl ?_
          have ge8 : w.heap.size ≤ w4.heap.size := hB.size
          have ge9 : w.heap.size ≤ w4.heap.size := hB.size
          refine L_callP rfl cb87 (reader_field (bs := bs.drop 1) hb2 hS_1 hgi (by first | omega | (simp only [List.length_drop] at *; omega)) (by first | omega | (simp only [List.length_drop] at *; omega)) ) rfl ?_ ?_
          · rintro _ w14 ⟨hs14, hfe2, A_6, c_6, rfl, ho3, A_7, c_7, hb11, hS_4, hcap4⟩
            replace hB := gb_trans hB hs14
            replace hb1 := hb1.grown hs14 (ne_gt lt1)
            replace hb4 := hb4.grown hs14 (ne_gt lt2)
            have hlo3 : w4.heap.size ≤ w14.heap.size := hs14.size
            refine L_run (R_field (r := 3) rfl fld65_3 rfl) rfl ?_
            refine L_run (R_field (r := 3) rfl fld63_0 rfl) rfl ?_
            refine L_st1 rfl rfl rfl sz42 hb4 rfl ?_
            intro w15 hb12 hs15 hz8
            replace hB := gb_trg hB hs15 ge3
            replace hb11 := hb11.grown hs15 (ne_lt lt2)
            replace hb1 := hb1.grown hs15 (ne_lt lt3)
            replace ho3 := own_other ho3 hb4 rfl hs15
            replace hS_4 := hS_4.old hs15 (by omega)
            replace hlo3 := Nat.le_trans hlo3 hs15.size
            refine L_nil (N_then (C_seq (C_reg ?_)))
            refine L_run (R_move rfl) rfl ?_
            have ge10 : w.heap.size ≤ w15.heap.size := hB.size
            refine L_callP rfl cb86 (reader_one (bs := (bs.drop 1).drop ((fget (bs.drop 1)).2.1)) hb11 hS_4 hgi (by first | omega | (simp only [List.length_drop] at *; omega)) (by first | omega | (simp only [List.length_drop] at *; omega)) ) rfl ?_ ?_
            · rintro _ w16 ⟨hs16, hone3, rfl, A_8, c_8, hb13, hS_5, hcap5⟩
              replace hB := gb_trans hB hs16
              replace hb1 := hb1.grown hs16 (ne_gt lt1)
              replace hb12 := hb12.grown hs16 (ne_gt lt2)
              replace ho3 := own_other ho3 hb11 rfl hs16
              replace hlo3 := Nat.le_trans hlo3 hs16.size
              refine L_run (R_sub64 rfl rfl (by first | omega | (have h_ := (((bs.drop 1).drop (fget (bs.drop 1)).2.1)[0]'(by omega)).toNat_lt; omega))) rfl ?_
              refine L_run (R_field (r := 3) rfl fld65_3 rfl) rfl ?_
              refine L_run (R_field (r := 4) rfl fld63_1 rfl) rfl ?_
              refine L_st1 rfl rfl rfl sz3 hb12 rfl ?_
              intro w17 hb14 hs17 hz9
              replace hB := gb_trg hB hs17 ge3
              replace hb13 := hb13.grown hs17 (ne_lt lt2)
              replace hb1 := hb1.grown hs17 (ne_lt lt3)
              replace ho3 := own_other ho3 hb12 rfl hs17
              replace hlo3 := Nat.le_trans hlo3 hs17.size
              replace hS_5 := hS_5.old hs17 (by omega)
              refine L_nil (N_then (C_reg ?_))
              refine L_run (R_move rfl) rfl ?_
              have ge11 : w.heap.size ≤ w17.heap.size := hB.size
              refine L_callP rfl cb86 (reader_one (bs := ((bs.drop 1).drop ((fget (bs.drop 1)).2.1)).drop 1) hb13 hS_5 hgi (by first | omega | (simp only [List.length_drop] at *; omega)) (by first | omega | (simp only [List.length_drop] at *; omega)) ) rfl ?_ ?_
              · rintro _ w18 ⟨hs18, hone4, rfl, A_9, c_9, hb15, hS_6, hcap6⟩
                replace hB := gb_trans hB hs18
                replace hb1 := hb1.grown hs18 (ne_gt lt1)
                replace hb14 := hb14.grown hs18 (ne_gt lt2)
                replace ho3 := own_other ho3 hb13 rfl hs18
                replace hlo3 := Nat.le_trans hlo3 hs18.size
                refine L_run (R_field (r := 3) rfl fld65_3 rfl) rfl ?_
                refine L_run (R_field (r := 5) rfl fld63_2 rfl) rfl ?_
                refine L_st1 rfl rfl rfl sz3 hb14 rfl ?_
                intro w19 hb16 hs19 hz10
                replace hB := gb_trg hB hs19 ge3
                replace hb15 := hb15.grown hs19 (ne_lt lt2)
                replace hb1 := hb1.grown hs19 (ne_lt lt3)
                replace ho3 := own_other ho3 hb14 rfl hs19
                replace hlo3 := Nat.le_trans hlo3 hs19.size
                replace hS_6 := hS_6.old hs19 (by omega)
                refine L_nil (N_in (N_then (C_seq (C_seq (C_reg ?_)))))
                refine L_run (R_loadA (vs := [.int .i64 (bs[0].toNat : Int), .int .i64 0, .slice none 0 0, .slice A_6 (((fget (bs.drop 1)).1).length) c_6, .int .i64 ((((bs.drop 1).drop ((fget (bs.drop 1)).2.1))[0].toNat : Int) - 1), .int .i64 ((((bs.drop 1).drop ((fget (bs.drop 1)).2.1)).drop 1)[0].toNat : Int)]) rfl agg65 (At.pre (hb16.at_ 0) rfl) rfl) rfl ?_
                refine L_call rfl cb53 (script_Right (ops := []) (Sli.nil (t := 0) (lo := 0) (hi := 0)) (by first | omega | (simp; done) | (have h_ := bget_len (fget (bs.drop 1)).1; omega))) rfl ?_
                rintro _ w20 ⟨hs20, rfl⟩
                replace hB := gb_tr hB hs20
                replace hb15 := hb15.gb hs20
                replace hb1 := hb1.gb hs20
                replace hb16 := hb16.gb hs20
                replace ho3 := own_gb ho3 hs20
                replace hlo3 := Nat.le_trans hlo3 hs20.size
                replace hS_6 := hS_6.gb hs20
                refine L_run (R_notD rfl) rfl ?_
                refine L_nil (N_then ?_)
                refine C_ifN rfl (fun h6 => ?_) (fun h6 => ?_)
                · refine C_reg ?_
                  refine L_run (R_build (pv := [(0, .int .i64 2)]) (cs := [.int .i64 2]) rfl (by kernel_rfl)) rfl ?_
                  refine L_run (R_mkif rfl Try.underlying102) rfl ?_
                  refine L_panic rfl ?_
                  refine P_then ?_
                  refine panP ⟨hB, ?_⟩
                  have e_ : sget bs = (p0, 0, 2) := by
                    first
                      | exact sget_nil (by omega)
                      | exact sget_1e (by omega) (by omega) (by assumption)
                      | exact sget_5e (by omega) (by omega) (by omega)
                      | exact sget_4e (by omega) (by omega) (by assumption)
                      | exact sget_4s (by omega) (by omega) (by assumption) (by simp only [List.length_drop] at *; omega)
                      | (rw [sgetK_1 (by omega) (by omega) (by assumption)]; exact sfin_n (by assumption))
                      | (rw [sgetK_5 (by omega) (by omega) (drop0 (by omega))]; exact sfin_n (by assumption))
                      | (rw [sgetK_4 (by omega) (by omega) (by assumption) (drop00 (by omega)) (drop000 (by omega))]; exact sfin_n (by assumption))
                      | (rw [sget_o (by omega) (by omega) (by omega) (by omega)]; exact sfin_n (by assumption))
                  rw [e_]; exact ⟨by first | assumption | simp, rfl⟩
                · refine C_skip (N_then (C_seq (C_reg ?_)))
                  refine L_run (R_loadA (vs := [.int .i64 (bs[0].toNat : Int), .int .i64 0, .slice none 0 0, .slice A_6 (((fget (bs.drop 1)).1).length) c_6, .int .i64 ((((bs.drop 1).drop ((fget (bs.drop 1)).2.1))[0].toNat : Int) - 1), .int .i64 ((((bs.drop 1).drop ((fget (bs.drop 1)).2.1)).drop 1)[0].toNat : Int)]) rfl agg65 (At.pre (hb16.at_ 0) rfl) rfl) rfl ?_
                  refine L_stA (vs := [.int .i64 (bs[0].toNat : Int), .int .i64 0, .slice none 0 0, .slice A_6 (((fget (bs.drop 1)).1).length) c_6, .int .i64 ((((bs.drop 1).drop ((fget (bs.drop 1)).2.1))[0].toNat : Int) - 1), .int .i64 ((((bs.drop 1).drop ((fget (bs.drop 1)).2.1)).drop 1)[0].toNat : Int)]) rfl rfl rfl sz65 rfl hb1 rfl ?_
                  intro w21 hb17 hs21 hz11
                  replace hB := gb_trg hB hs21 ge1
                  replace hb15 := hb15.grown hs21 (ne_lt lt1)
                  replace hb16 := hb16.grown hs21 (ne_gt lt3)
                  replace ho3 := own_other ho3 hb1 rfl hs21
                  replace hlo3 := Nat.le_trans hlo3 hs21.size
                  replace hS_6 := hS_6.old hs21 (by omega)
                  refine L_nil (N_then (C_ret ?_))
                  refine retP ?_
                  refine retC (vs := [.int .i64 (bs[0].toNat : Int), .int .i64 0, .slice none 0 0, .slice A_6 (((fget (bs.drop 1)).1).length) c_6, .int .i64 ((((bs.drop 1).drop ((fget (bs.drop 1)).2.1))[0].toNat : Int) - 1), .int .i64 ((((bs.drop 1).drop ((fget (bs.drop 1)).2.1)).drop 1)[0].toNat : Int)]) Try.results78 rfl agg65 (At.pre (hb17.at_ 0) rfl) rfl  ?_
                  have e_ : sget bs = ((⟨(bs[0].toNat : Int), 0, [], (fget (bs.drop 1)).1, ((((bs.drop 1).drop ((fget (bs.drop 1)).2.1))[0].toNat : Int) - 1), ((((bs.drop 1).drop ((fget (bs.drop 1)).2.1)).drop 1)[0].toNat : Int)⟩ : StepP), (1 + (fget (bs.drop 1)).2.1 + 2), 0) := by
                    refine Eq.trans (b := sfin (⟨(bs[0].toNat : Int), 0, [], (fget (bs.drop 1)).1, ((((bs.drop 1).drop ((fget (bs.drop 1)).2.1))[0].toNat : Int) - 1), ((((bs.drop 1).drop ((fget (bs.drop 1)).2.1)).drop 1)[0].toNat : Int)⟩ : StepP) (1 + (fget (bs.drop 1)).2.1 + 2)) ?_ (sfin_y (p := (⟨(bs[0].toNat : Int), 0, [], (fget (bs.drop 1)).1, ((((bs.drop 1).drop ((fget (bs.drop 1)).2.1))[0].toNat : Int) - 1), ((((bs.drop 1).drop ((fget (bs.drop 1)).2.1)).drop 1)[0].toNat : Int)⟩ : StepP)) (by first | assumption | exact Decidable.not_not.1 (by assumption)))
                    first
                      | exact sgetK_1 (by omega) (by omega) (by assumption)
                      | exact sgetK_5 (by omega) (by omega) (drop0 (by omega))
                      | exact sgetK_4 (by omega) (by omega) (by assumption) (drop00 (by omega)) (drop000 (by omega))
                      | exact sget_o (by omega) (by omega) (by omega) (by omega)
                  have ed : (((bs.drop 1).drop ((fget (bs.drop 1)).2.1)).drop 1).drop 1 = bs.drop (1 + (fget (bs.drop 1)).2.1 + 2) := by first | rfl | (simp only [List.drop_drop]; done) | (simp only [List.drop_drop]; congr 1; omega)
                  rw [ed] at hb15 hS_6; rw [e_]
                  exact ⟨hB, rfl, (⟨none, 0, A_6, c_6, ⟨(bs[0].toNat : Int), 0, [], (fget (bs.drop 1)).1, ((((bs.drop 1).drop ((fget (bs.drop 1)).2.1))[0].toNat : Int) - 1), ((((bs.drop 1).drop ((fget (bs.drop 1)).2.1)).drop 1)[0].toNat : Int)⟩⟩ : StepD), rfl, rfl, Sli.nil, (own_of ho3).2.2.zero, _, _, hb15, hS_6, by first | (rw [← ed]; omega) | omega⟩
              · rintro _ w18 ⟨hs18, he6, rfl⟩
                replace hB := gb_trans hB hs18
                replace hb1 := hb1.grown hs18 (ne_gt lt1)
                replace hb14 := hb14.grown hs18 (ne_gt lt2)
                replace ho3 := own_other ho3 hb13 rfl hs18
                replace hlo3 := Nat.le_trans hlo3 hs18.size
                replace hS_5 := hS_5.old hs18 hgi
                refine P_in (P_then ?_)
                refine panP ⟨hB, ?_⟩
                have e_ : sget bs = (p0, 0, 1) := by
                  first
                    | exact sget_nil (by omega)
                    | exact sget_1e (by omega) (by omega) (by assumption)
                    | exact sget_5e (by omega) (by omega) (by omega)
                    | exact sget_4e (by omega) (by omega) (by assumption)
                    | exact sget_4s (by omega) (by omega) (by assumption) (by simp only [List.length_drop] at *; omega)
                    | (rw [sgetK_1 (by omega) (by omega) (by assumption)]; exact sfin_n (by assumption))
                    | (rw [sgetK_5 (by omega) (by omega) (drop0 (by omega))]; exact sfin_n (by assumption))
                    | (rw [sgetK_4 (by omega) (by omega) (by assumption) (drop00 (by omega)) (drop000 (by omega))]; exact sfin_n (by assumption))
                    | (rw [sget_o (by omega) (by omega) (by omega) (by omega)]; exact sfin_n (by assumption))
                rw [e_]; exact ⟨by first | assumption | simp, rfl⟩
            · rintro _ w16 ⟨hs16, he5, rfl⟩
              replace hB := gb_trans hB hs16
              replace hb1 := hb1.grown hs16 (ne_gt lt1)
              replace hb12 := hb12.grown hs16 (ne_gt lt2)
              replace ho3 := own_other ho3 hb11 rfl hs16
              replace hS_4 := hS_4.old hs16 hgi
              replace hlo3 := Nat.le_trans hlo3 hs16.size
              refine P_then (P_in (P_then ?_))
              refine panP ⟨hB, ?_⟩
              have e_ : sget bs = (p0, 0, 1) := by
                first
                  | exact sget_nil (by omega)
                  | exact sget_1e (by omega) (by omega) (by assumption)
                  | exact sget_5e (by omega) (by omega) (by omega)
                  | exact sget_4e (by omega) (by omega) (by assumption)
                  | exact sget_4s (by omega) (by omega) (by assumption) (by simp only [List.length_drop] at *; omega)
                  | (rw [sgetK_1 (by omega) (by omega) (by assumption)]; exact sfin_n (by assumption))
                  | (rw [sgetK_5 (by omega) (by omega) (drop0 (by omega))]; exact sfin_n (by assumption))
                  | (rw [sgetK_4 (by omega) (by omega) (by assumption) (drop00 (by omega)) (drop000 (by omega))]; exact sfin_n (by assumption))
                  | (rw [sget_o (by omega) (by omega) (by omega) (by omega)]; exact sfin_n (by assumption))
              rw [e_]; exact ⟨by first | assumption | simp, rfl⟩
          · rintro _ w14 ⟨hs14, he4, rfl⟩
            replace hB := gb_trans hB hs14
            replace hb1 := hb1.grown hs14 (ne_gt lt1)
            replace hS_1 := hS_1.old hs14 hgi
            replace hb4 := hb4.grown hs14 (ne_gt lt2)
            refine P_then (P_in (P_then ?_))
            refine panP ⟨hB, ?_⟩
            have e_ : sget bs = (p0, 0, (fget (bs.drop 1)).2.2) := by
              first
                | exact sget_nil (by omega)
                | exact sget_1e (by omega) (by omega) (by assumption)
                | exact sget_5e (by omega) (by omega) (by omega)
                | exact sget_4e (by omega) (by omega) (by assumption)
                | exact sget_4s (by omega) (by omega) (by assumption) (by simp only [List.length_drop] at *; omega)
                | (rw [sgetK_1 (by omega) (by omega) (by assumption)]; exact sfin_n (by assumption))
                | (rw [sgetK_5 (by omega) (by omega) (drop0 (by omega))]; exact sfin_n (by assumption))
                | (rw [sgetK_4 (by omega) (by omega) (by assumption) (drop00 (by omega)) (drop000 (by omega))]; exact sfin_n (by assumption))
                | (rw [sget_o (by omega) (by omega) (by omega) (by omega)]; exact sfin_n (by assumption))
            rw [e_]; exact ⟨by first | assumption | simp, rfl⟩
        · refine C_skip (N_in (N_then (C_seq (C_seq (C_reg ?_)))))
          refine L_run (R_loadA (vs := [.int .i64 (bs[0].toNat : Int), .int .i64 0, .slice none 0 0, .slice none 0 0, .int .i64 0, .int .i64 0]) rfl agg65 (At.pre (hb4.at_ 0) rfl) rfl) rfl ?_
          refine L_call rfl cb53 (script_Right (ops := []) (Sli.nil (t := 0) (lo := 0) (hi := 0)) (by first | omega | (simp; done) | (have h_ := bget_len (fget (bs.drop 1)).1; omega))) rfl ?_
          rintro _ w22 ⟨hs22, rfl⟩
          replace hB := gb_tr hB hs22
          replace hb2 := hb2.gb hs22
          replace hb1 := hb1.gb hs22
          replace hS_1 := hS_1.gb hs22
          replace hb4 := hb4.gb hs22
          refine L_run (R_notD rfl) rfl ?_
          refine L_nil (N_then ?_)
          refine C_ifN rfl (fun h7 => ?_) (fun h7 => ?_)
          · refine C_reg ?_
            refine L_run (R_build (pv := [(0, .int .i64 2)]) (cs := [.int .i64 2]) rfl (by kernel_rfl)) rfl ?_
            refine L_run (R_mkif rfl Try.underlying102) rfl ?_
            refine L_panic rfl ?_
            refine P_then ?_
            refine panP ⟨hB, ?_⟩
            have e_ : sget bs = (p0, 0, 2) := by
              first
                | exact sget_nil (by omega)
                | exact sget_1e (by omega) (by omega) (by assumption)
                | exact sget_5e (by omega) (by omega) (by omega)
                | exact sget_4e (by omega) (by omega) (by assumption)
                | exact sget_4s (by omega) (by omega) (by assumption) (by simp only [List.length_drop] at *; omega)
                | (rw [sgetK_1 (by omega) (by omega) (by assumption)]; exact sfin_n (by assumption))
                | (rw [sgetK_5 (by omega) (by omega) (drop0 (by omega))]; exact sfin_n (by assumption))
                | (rw [sgetK_4 (by omega) (by omega) (by assumption) (drop00 (by omega)) (drop000 (by omega))]; exact sfin_n (by assumption))
                | (rw [sget_o (by omega) (by omega) (by omega) (by omega)]; exact sfin_n (by assumption))
            rw [e_]; exact ⟨by first | assumption | simp, rfl⟩
          · refine C_skip (N_then (C_seq (C_reg ?_)))
            refine L_run (R_loadA (vs := [.int .i64 (bs[0].toNat : Int), .int .i64 0, .slice none 0 0, .slice none 0 0, .int .i64 0, .int .i64 0]) rfl agg65 (At.pre (hb4.at_ 0) rfl) rfl) rfl ?_
            refine L_stA (vs := [.int .i64 (bs[0].toNat : Int), .int .i64 0, .slice none 0 0, .slice none 0 0, .int .i64 0, .int .i64 0]) rfl rfl rfl sz65 rfl hb1 rfl ?_
            intro w23 hb18 hs23 hz12
            replace hB := gb_trg hB hs23 ge1
            replace hb2 := hb2.grown hs23 (ne_lt lt1)
            replace hS_1 := hS_1.old hs23 (by omega)
            replace hb4 := hb4.grown hs23 (ne_gt lt3)
            refine L_nil (N_then (C_ret ?_))
            refine retP ?_
            refine retC (vs := [.int .i64 (bs[0].toNat : Int), .int .i64 0, .slice none 0 0, .slice none 0 0, .int .i64 0, .int .i64 0]) Try.results78 rfl agg65 (At.pre (hb18.at_ 0) rfl) rfl  ?_
            have e_ : sget bs = ((⟨(bs[0].toNat : Int), 0, [], [], 0, 0⟩ : StepP), 1, 0) := by
              refine Eq.trans (b := sfin (⟨(bs[0].toNat : Int), 0, [], [], 0, 0⟩ : StepP) 1) ?_ (sfin_y (p := (⟨(bs[0].toNat : Int), 0, [], [], 0, 0⟩ : StepP)) (by first | assumption | exact Decidable.not_not.1 (by assumption)))
              first
                | exact sgetK_1 (by omega) (by omega) (by assumption)
                | exact sgetK_5 (by omega) (by omega) (drop0 (by omega))
                | exact sgetK_4 (by omega) (by omega) (by assumption) (drop00 (by omega)) (drop000 (by omega))
                | exact sget_o (by omega) (by omega) (by omega) (by omega)
            have ed : bs.drop 1 = bs.drop 1 := by first | rfl | (simp only [List.drop_drop]; done) | (simp only [List.drop_drop]; congr 1; omega)
            rw [ed] at hb2 hS_1; rw [e_]
            exact ⟨hB, rfl, (⟨none, 0, none, 0, ⟨(bs[0].toNat : Int), 0, [], [], 0, 0⟩⟩ : StepD), rfl, rfl, Sli.nil, Sli.nil, _, _, hb2, hS_1, by first | (rw [← ed]; omega) | omega⟩
  · rintro _ w2 ⟨hs2, he1, rfl⟩
    replace hB := gb_trans hB hs2
    replace hS := hS.old hs2 hgi
    replace hb1 := hb1.grown hs2 (ne_gt lt1)
    refine P_then ?_
    refine panP ⟨hB, ?_⟩
    have e_ : sget bs = (p0, 0, 1) := by
      first
        | exact sget_nil (by omega)
        | exact sget_1e (by omega) (by omega) (by assumption)
        | exact sget_5e (by omega) (by omega) (by omega)
        | exact sget_4e (by omega) (by omega) (by assumption)
        | exact sget_4s (by omega) (by omega) (by assumption) (by simp only [List.length_drop] at *; omega)
        | (rw [sgetK_1 (by omega) (by omega) (by assumption)]; exact sfin_n (by assumption))
        | (rw [sgetK_5 (by omega) (by omega) (drop0 (by omega))]; exact sfin_n (by assumption))
        | (rw [sgetK_4 (by omega) (by omega) (by assumption) (drop00 (by omega)) (drop000 (by omega))]; exact sfin_n (by assumption))
        | (rw [sget_o (by omega) (by omega) (by omega) (by omega)]; exact sfin_n (by assumption))
    rw [e_]; exact ⟨by first | assumption | simp, rfl⟩

theorem dec1_ret {w : World} {ga gc : Nat} : Defd Try.prog 77 #[.pointer (some ⟨ga, 0, none⟩), .pointer (some ⟨gc, 0, none⟩)] .returning w (fun w' => w' = w) := by
  refine enterS (vs := [.pointer (some ⟨ga, 0, none⟩), .pointer (some ⟨gc, 0, none⟩)]) rfl Try.func77 Try.ntmps77 rfl rfl ?_
  intro c₀ cs hu
  refine wpS_seq ?_
  refine S_recover (v := .nilIface) (cs' := { c₀ with mode := .returning } :: cs) rfl rfl rfl (.inr ⟨by simp [recoverD, hu], rfl, by rw [← hu]⟩) ?_
  refine wpS_of_wp ?_
  have hB := gb_refl w none
  refine C_seq (C_reg ?_)
  refine L_run (R_move rfl) rfl ?_
  refine L_run (R_neqI1 rfl Try.underlying20) rfl ?_
  refine L_nil (N_then (C_condF rfl rfl (C_skip ?_)))
  exact leave0 (u := .returning) Try.results77 rfl rfl rfl
theorem dec1_pan {w wv : World} {ga gc : Nat} {e : Int} {c1 c2 : Value} (hB : w.grownBy wv none) (hba : Blk wv ga 58 [c1]) (hbc : Blk wv gc 29 [c2]) (hge1 : w.heap.size ≤ ga) (hge2 : w.heap.size ≤ gc) (hlt : ga < gc) :
    Defd Try.prog 77 #[.pointer (some ⟨ga, 0, none⟩), .pointer (some ⟨gc, 0, none⟩)] (.panicking [pe (.iface 102 (.agg #[.int .i64 e]))]) wv (fun w' => w.grownBy w' none ∧ Blk w' ga 58 [.slice none 0 0] ∧ Blk w' gc 29 [.int .i64 e]) := by
  refine enterS (vs := [.pointer (some ⟨ga, 0, none⟩), .pointer (some ⟨gc, 0, none⟩)]) rfl Try.func77 Try.ntmps77 rfl rfl ?_
  intro c₀ cs hu
  refine wpS_seq ?_
  refine S_recover (v := .iface 102 (.agg #[.int .i64 e])) (cs' := { c₀ with mode := .panicking [⟨.iface 102 (.agg #[.int .i64 e]), true, false⟩] } :: cs) rfl rfl rfl (.inl (by simp [recoverD, hu, pe])) ?_
  refine wpS_of_wp ?_
  refine C_seq (C_reg ?_)
  refine L_run (R_move rfl) rfl ?_
  refine L_run (R_neqI2 rfl Try.underlying20) rfl ?_
  refine L_nil (N_then (C_condT rfl rfl (C_seq (C_reg ?_))))
  refine L_run (R_move rfl) rfl ?_
  refine L_run (R_tassert rfl Try.underlying102) rfl ?_
  refine L_run (R_move rfl) rfl ?_
  refine L_run (R_extract rfl rfl) rfl ?_
  refine L_run (R_extract rfl rfl) rfl ?_
  refine L_alloc (cs := [.int .i64 0]) zer102 rfl rfl ?_
  intro g1 w1 eg1 hb1 hs1 hz1
  have ge1 : w.heap.size ≤ g1 := eg_ge hB eg1
  have lt1 : ga < g1 := lt_of_eg hba.lt eg1
  have lt2 : gc < g1 := lt_of_eg hbc.lt eg1
  replace hB := gb_tr hB hs1
  replace hba := hba.gb hs1
  replace hbc := hbc.gb hs1
  refine L_stA (vs := [.int .i64 e]) rfl rfl rfl sz102 rfl hb1 rfl ?_
  intro w2 hb2 hs2 hz2
  replace hB := gb_trg hB hs2 ge1
  replace hba := hba.grown hs2 (ne_lt lt1)
  replace hbc := hbc.grown hs2 (ne_lt lt2)
  refine L_run (R_assign rfl) rfl ?_
  refine L_nil (N_then (C_seq (C_seq (C_reg ?_))))
  refine L_run (R_move rfl) rfl ?_
  refine L_run (R_not rfl) rfl ?_
  refine L_nil (N_then (C_condF rfl rfl (C_skip (N_then ?_))))
  refine C_draw2 mix ?_
  intro w3 hs3 hz3
  replace hB := gb_tr hB hs3
  replace hba := hba.gb hs3
  replace hbc := hbc.gb hs3
  replace hb2 := hb2.gb hs3
  refine ⟨fun W_ => Blk W_ g1 102 [.int .i64 e] ∧ True, [0, 1], ?_⟩
  refine T_takeA (i := 0) rfl rfl (by kernel_rfl) (by kernel_rfl) (by kernel_rfl) (Y_of (fun _ ⟨hb2, _⟩ => R_field (r := 0) rfl fld102_0 rfl)) ⟨hb2, trivial⟩ rfl ?_
  refine T_takeA (i := 1) rfl rfl (by kernel_rfl) (by kernel_rfl) (by kernel_rfl) (Y_of (fun _ ⟨hb2, _⟩ => R_load1 rfl scl29 (hb2.cell (i := 0) rfl))) ⟨hb2, trivial⟩ rfl ?_
  refine T_all (rs := [2]) (by kernel_rfl) rfl (all1 (O_one rfl ?_))
  refine L_st1 rfl rfl rfl sz58 hba rfl ?_
  intro w4 hb3 hs4 hz4
  replace hB := gb_trg hB hs4 hge1
  replace hbc := hbc.grown hs4 (ne_gt hlt)
  replace hb2 := hb2.grown hs4 (ne_gt lt1)
  refine L_nil (N_then ⟨fun hN_ => ⟨hb2, trivial⟩, ?_⟩)
  refine T_all (rs := [3]) (by kernel_rfl) rfl (all1 (O_one rfl ?_))
  refine L_st1 rfl rfl rfl sz29 hbc rfl ?_
  intro w5 hb4 hs5 hz5
  replace hB := gb_trg hB hs5 hge2
  replace hb3 := hb3.grown hs5 (ne_lt hlt)
  replace hb2 := hb2.grown hs5 (ne_gt lt2)
  refine L_nil (N_then ⟨fun hN_ => ⟨hb2, trivial⟩, ?_⟩)
  refine T_done (by kernel_rfl) (NoPanic.normal ?_)
  exact leave0 (u := .panicking [⟨.iface 102 (.agg #[.int .i64 e]), true, false⟩]) Try.results77 rfl rfl ⟨hB, hb3, hb4⟩

theorem script_Decode {w : World} {t1 lo hi : Nat} {A : Option Addr} {c : Nat} {bs : List UInt8} (hS : Sli t1 lo hi w A (fl encB bs)) (hl : bs.length ≤ 1000000) (hc : bs.length ≤ c) :
    Runs Try.prog 55 #[.slice A bs.length c] w (fun v w' => w.grownBy w' none ∧ ∃ A' c' ls, v = .tuple #[.slice A' ls.length c', .int .i64 (sdec bs).2] ∧ ps ls = (sdec bs).1 ∧ Sli 65 0 w'.heap.size w' A' (fl encS ls) ∧ DeepT 44 5 w' ls ∧ ls.length ≤ c') := by
  have hB := gb_refl w none
  replace hS := hS.top
  refine enterD Try.func55 Try.ntmps55 rfl rfl ?_
  refine C_seq (C_reg ?_)
  refine L_alloc (cs := [.slice none 0 0]) zer58 rfl rfl ?_
  intro g1 w1 eg1 hb1 hs1 hz1
  have ge1 : w.heap.size ≤ g1 := eg_ge hB eg1
  replace hB := gb_tr hB hs1
  replace hS := hS.gb hs1
  refine L_alloc (cs := [.int .i64 0]) zer29 rfl rfl ?_
  intro g2 w2 eg2 hb2 hs2 hz2
  have ge2 : w.heap.size ≤ g2 := eg_ge hB eg2
  have lt1 : g1 < g2 := lt_of_eg hb1.lt eg2
  replace hB := gb_tr hB hs2
  replace hS := hS.gb hs2
  replace hb1 := hb1.gb hs2
  refine L_nil (N_then (C_seq (C_reg ?_)))
  refine L_run (R_makeFunc rfl rfl) rfl ?_
  refine L_defer (first := []) (cap := [.pointer (some ⟨g1, 0, none⟩), .pointer (some ⟨g2, 0, none⟩)]) rfl ?_
  refine L_nil (N_then (C_seq (C_reg ?_)))
  refine L_run (R_assign rfl) rfl ?_
  refine L_nil (N_then (C_seq (C_seq (C_reg ?_))))
  refine L_run (R_move rfl) rfl ?_
  refine L_run (R_build (pv := [(0, .slice A bs.length c)]) (cs := [.slice A bs.length c]) rfl (by kernel_rfl)) rfl ?_
  refine L_box (cs := [.slice A bs.length c]) rfl rfl rfl ?_
  intro g3 w3 eg3 hb3 hs3 hz3
  have ge3 : w.heap.size ≤ g3 := eg_ge hB eg3
  have lt2 : g1 < g3 := lt_of_eg hb1.lt eg3
  have lt3 : g2 < g3 := lt_of_eg hb2.lt eg3
  replace hB := gb_tr hB hs3
  replace hS := hS.gb hs3
  replace hb1 := hb1.gb hs3
  replace hb2 := hb2.gb hs3
  refine L_run (R_assign rfl) rfl ?_
  refine L_nil (N_then (C_block ?_))
  refine C_loop (fun m_ a_ w_ => ∃ (σ_ : Nat → Value) (A' : Option Addr) (c' : Nat) (n : Nat) (A2 : Option Addr) (c2 : Nat) (acc : List StepD) (f : Nat), a_ = Ac 27 σ_ [⟨.fn (.func 77) #[.pointer (some ⟨g1, 0, none⟩), .pointer (some ⟨g2, 0, none⟩)], #[]⟩] [(2, .pointer (some ⟨g1, 0, none⟩)), (3, .pointer (some ⟨g2, 0, none⟩)), (4, .slice A2 acc.length c2), (5, .pointer (some ⟨g3, 0, none⟩))] ∧ w.grownBy w_ none ∧ Blk w_ g1 58 [.slice none 0 0] ∧ Blk w_ g2 29 [.int .i64 0] ∧ Blk w_ g3 106 [.slice A' ((bs.drop n).length) c'] ∧ Sli t1 lo w.heap.size w_ A' (fl encB (bs.drop n)) ∧ World.ownsRow w_ w.heap.size 65 6 (.slice A2 acc.length c2) acc.length (fl encS acc) ∧ DeepT 44 5 w_ acc ∧ (n ≤ bs.length) ∧ ((bs.drop n).length ≤ c') ∧ ((bs.drop n).length ≤ f) ∧ (sgo f (ps acc) (bs.drop n) = sdec bs) ∧ (acc.length ≤ n) ∧ bs.length - n = m_) (bs.length - 0) ?_ ?_
  · exact ⟨_, A, c, 0, none, 0, ([] : List StepD), bs.length, Ac_frg ⟨rfl, rfl, (agr rfl (by first | rfl | (congr 1; omega) | (congr 1; simp; done) | (congr 1; simp only [IntKind.wrap_u64, IntKind.wrap_i64, IntKind.wrap_u8]; omega) | (congr 1 <;> omega))), rfl, trivial⟩, hB, hb1, hb2, hb3, hS, (own_nil w.heap.size 65 6 _), DeepT.nil, (by omega), (by simpa using hc), (by simp), rfl, (by simp), rfl⟩
  · clear hB
    clear hS hb1 hb2 hb3
    rintro m_ a_ w4 ⟨σ_, A', c', n, A2, c2, acc, f, rfl, hB, hb1, hb2, hrb, hS', ho, hDT, hn, hcap, hf, hv, hac, rfl⟩
    refine C_seq (C_seq (C_reg ?_))
    refine L_run (R_move rfl) rfl ?_
    refine L_run (R_nilck rfl) rfl ?_
    refine L_run (R_field (r := 0) rfl fld106_0 rfl) rfl ?_
    refine L_run (R_load1 rfl scl42 (hrb.cell (i := 0) rfl)) rfl ?_
    refine L_run (R_lenSl rfl slc42) rfl ?_
    refine L_run (R_gtr rfl rfl) rfl ?_
    refine L_nil (N_then ?_)
    refine C_if rfl (fun h1 => ?_) (fun h1 => ?_)
    · refine C_skip (N_then (C_block (C_seq (C_seq (C_reg ?_)))))
      refine L_run (R_move rfl) rfl ?_
      refine L_run (R_lenSl rfl slc58) rfl ?_
      refine L_run (R_eql rfl rfl) rfl ?_
      refine L_nil (N_then ?_)
      refine C_if rfl (fun h2 => ?_) (fun h2 => ?_)
      · refine C_reg ?_
        refine L_run (R_build (pv := [(0, .int .i64 5)]) (cs := [.int .i64 5]) rfl (by kernel_rfl)) rfl ?_
        refine L_run (R_mkif rfl Try.underlying102) rfl ?_
        refine L_panic rfl ?_
        refine P_then (P_in (P_then (P_in (P_then ?_))))
        refine D_pan (first := []) (cap := [.pointer (some ⟨g1, 0, none⟩), .pointer (some ⟨g2, 0, none⟩)]) cb77 ((dec1_pan hB hb1 hb2 ge1 ge2 (by omega)).mono fun w_ h_ => ?_)
        obtain ⟨hB', hx, hy⟩ := h_
        have e_ : sdec bs = ([], 5) := by
          rw [← hv]
          first
            | exact sgo_long (by rw [List.length_drop] at *; omega) hf (by rw [ps_len]; omega)
            | exact sgo_err (by rw [List.length_drop] at *; omega) hf (by rw [ps_len]; omega) (by assumption)
        refine ⟨_, res2c Try.results55 rfl rfl scl58 scl29 (hx.cell (i := 0) rfl) (hy.cell (i := 0) rfl), ?_⟩
        rw [e_]; exact ⟨hB', none, 0, [], rfl, rfl, Sli.nil, DeepT.nil, Nat.le_refl _⟩
      · refine C_skip (N_then (C_reg ?_))
        refine L_run (R_move rfl) rfl ?_
        refine L_run (R_move rfl) rfl ?_
        have ge4 : w.heap.size ≤ w4.heap.size := hB.size
        refine L_callP rfl cb78 (reader_step (bs := bs.drop n) hrb hS' ge3 (by first | omega | (simp only [List.length_drop] at *; omega)) (by first | omega | (simp only [List.length_drop] at *; omega)) ) rfl ?_ ?_
        · rintro _ w5 ⟨hs4, hst1, y1, rfl, hp1, hO1, hK1, A_1, c_1, hb4, hS_1, hcap1⟩
          replace hB := gb_trg hB hs4 ge3
          replace hb1 := hb1.grown hs4 (ne_lt lt2)
          replace hb2 := hb2.grown hs4 (ne_lt lt3)
          replace ho := own_other ho hrb rfl hs4
          replace hDT := hDT.other hrb rfl rfl rfl rfl hs4
          refine L_buildSlice (pv := [(0, .agg #[.int .i64 y1.p.kind, .int .i64 y1.p.n, .slice y1.oa y1.p.ops.length y1.oc, .slice y1.ka y1.p.keep.length y1.kc, .int .i64 y1.p.torn, .int .i64 y1.p.cut])]) (cs := [.int .i64 y1.p.kind, .int .i64 y1.p.n, .slice y1.oa y1.p.ops.length y1.oc, .slice y1.ka y1.p.keep.length y1.kc, .int .i64 y1.p.torn, .int .i64 y1.p.cut]) slc58 zer65 rfl rfl (by kernel_rfl) rfl ?_
          intro g4 w6 eg4 hb5 hs5 hz4
          have ge5 : w.heap.size ≤ g4 := eg_ge hB eg4
          have lt4 : g1 < g4 := lt_of_eg hb1.lt eg4
          have lt5 : g2 < g4 := lt_of_eg hb2.lt eg4
          have lt6 : g3 < g4 := lt_of_eg hb4.lt eg4
          have hap1 : ∀ k_, (Value.slice A2 acc.length c2).ownBlock = some k_ → k_ ≠ g4 := fun k_ hk => by have h_ := (World.ownsRow.lt ho k_ hk).2; omega
          replace hB := gb_tr hB hs5
          replace hb1 := hb1.gb hs5
          replace hb2 := hb2.gb hs5
          replace hb4 := hb4.gb hs5
          replace ho := own_gb ho hs5
          replace hDT := hDT.gb hs5
          replace hS_1 := hS_1.gb hs5
          replace hO1 := hO1.gb hs5
          replace hK1 := hK1.gb hs5
          refine T_append (xs := acc) (ys := [y1]) EncS slc58 rfl rfl ho (Blk.sli (m := 0) hb5) (by simp; omega) (by have := hB.size; omega) rfl ?_
          intro A_2 c_2 w7 ho1 hs6 hat1
          replace hB := gb_tro hB ho hs6 (Nat.le_refl _)
          replace hb1 := blk_own hb1 ho rfl hs6
          replace hb2 := blk_own hb2 ho rfl hs6
          replace hb4 := blk_own hb4 ho rfl hs6
          replace hDT := hDT.otherO ho rfl rfl rfl rfl hs6
          replace hS_1 := hS_1.grown hs6 (fun k hk => .inr (Nat.le_trans (Nat.le_refl _) (World.ownsRow.lt ho k hk).1))
          replace hO1 := hO1.otherO ho rfl rfl hs6
          replace hK1 := hK1.otherO ho rfl rfl hs6
          refine L_run (R_assign rfl) rfl ?_
          refine L_nil (N_in (N_then ?_))
          have hob := sEnc_sget (bs := bs.drop n) (by assumption)
          rw [List.length_drop] at hob
          have hst := sgo_step (acc := ps acc) (f := f) (bs := bs.drop n) (by rw [List.length_drop] at *; omega) hf (by rw [ps_len]; omega) (by assumption)
          rw [List.drop_drop] at hst
          have e_ : (bs.drop n).drop (sget (bs.drop n)).2.1 = bs.drop (n + (sget (bs.drop n)).2.1) := List.drop_drop
          rw [e_] at hb4 hS_1
          have ep : ps (acc ++ [y1]) = ps acc ++ [(sget (bs.drop n)).1] := by rw [ps_snoc]; congr 2
          exact ⟨bs.length - (n + (sget (bs.drop n)).2.1), by omega, _, A_1, c_1, (n + (sget (bs.drop n)).2.1), A_2, c_2, (acc ++ [y1]), (f - 1), Ac_frg ⟨rfl, rfl, (agr rfl (by first | rfl | (congr 1; omega) | (congr 1; simp; done) | (congr 1; simp only [IntKind.wrap_u64, IntKind.wrap_i64, IntKind.wrap_u8]; omega) | (congr 1 <;> omega))), rfl, trivial⟩, hB, hb1, hb2, hb4, hS_1, ho1, (hDT.snoc hO1.zero hK1.zero), (by omega), (by rw [← e_]; assumption), (by rw [List.length_drop] at *; omega), (by rw [ep]; exact hst.symm.trans hv), (by rw [List.length_append, List.length_singleton]; omega), rfl⟩
        · rintro _ w5 ⟨hs4, he1, rfl⟩
          replace hB := gb_trg hB hs4 ge3
          replace hb1 := hb1.grown hs4 (ne_lt lt2)
          replace hb2 := hb2.grown hs4 (ne_lt lt3)
          replace hS' := hS'.old hs4 ge3
          replace ho := own_other ho hrb rfl hs4
          replace hDT := hDT.other hrb rfl rfl rfl rfl hs4
          refine P_in (P_then (P_in (P_then ?_)))
          refine D_pan (first := []) (cap := [.pointer (some ⟨g1, 0, none⟩), .pointer (some ⟨g2, 0, none⟩)]) cb77 ((dec1_pan hB hb1 hb2 ge1 ge2 (by omega)).mono fun w_ h_ => ?_)
          obtain ⟨hB', hx, hy⟩ := h_
          have e_ : sdec bs = ([], (sget (bs.drop n)).2.2) := by
            rw [← hv]
            first
              | exact sgo_long (by rw [List.length_drop] at *; omega) hf (by rw [ps_len]; omega)
              | exact sgo_err (by rw [List.length_drop] at *; omega) hf (by rw [ps_len]; omega) (by assumption)
          refine ⟨_, res2c Try.results55 rfl rfl scl58 scl29 (hx.cell (i := 0) rfl) (hy.cell (i := 0) rfl), ?_⟩
          rw [e_]; exact ⟨hB', none, 0, [], rfl, rfl, Sli.nil, DeepT.nil, Nat.le_refl _⟩
    · refine C_exit (X_then (X_then (X_hit (N_then (C_seq (C_reg ?_))))))
      refine L_run (R_move rfl) rfl ?_
      refine L_st1 rfl rfl rfl sz58 hb1 rfl ?_
      intro w8 hb6 hs7 hz5
      replace hB := gb_trg hB hs7 ge1
      replace hb2 := hb2.grown hs7 (ne_gt lt1)
      replace hrb := hrb.grown hs7 (ne_gt lt2)
      replace hS' := hS'.old hs7 ge1
      replace ho := own_other ho hb1 rfl hs7
      replace hDT := hDT.other hb1 rfl rfl rfl rfl hs7
      refine L_st1 rfl rfl rfl sz29 hb2 rfl ?_
      intro w9 hb7 hs8 hz6
      replace hB := gb_trg hB hs8 ge2
      replace hb6 := hb6.grown hs8 (ne_lt lt1)
      replace hrb := hrb.grown hs8 (ne_gt lt3)
      replace hS' := hS'.old hs8 ge2
      replace ho := own_other ho hb2 rfl hs8
      replace hDT := hDT.other hb2 rfl rfl rfl rfl hs8
      refine L_nil (N_then (C_ret ?_))
      refine D_ret (first := []) (cap := [.pointer (some ⟨g1, 0, none⟩), .pointer (some ⟨g2, 0, none⟩)]) cb77 (dec1_ret.mono fun w_ h_ => ?_)
      subst h_
      have e_ : sdec bs = (ps acc, 0) := by rw [← hv]; exact sgo_nil (by rw [List.length_drop] at *; omega)
      refine ⟨_, res2c Try.results55 rfl rfl scl58 scl29 (hb6.cell (i := 0) rfl) (hb7.cell (i := 0) rfl), ?_⟩
      rw [e_]; exact ⟨hB, _, _, acc, rfl, rfl, (own_of ho).2.2.zero, hDT, (own_of ho).1⟩

end Go.Proofs.Ytnggbodilhpohaa
