/-
  Contracts of the package frag: a fragment read.
-/
import Derived.Test.YtnggbodilhpohaaDoorSi
namespace Go.Proofs.YtnggbodilhpohaaDoor
open Go.RowKit Gw Pl
set_option linter.unusedVariables false
set_option linter.unusedSimpArgs false
theorem agg43 : aggB Tryd.prog 43 3 = true := by kernel_rfl
theorem agg76 : aggB Tryd.prog 76 11 = true := by kernel_rfl
theorem arr76 : arrB Tryd.prog 76 5 11 1 = true := by kernel_rfl
theorem cb37 : callB Tryd.prog 37 = true := by kernel_rfl
theorem cb38 : callB Tryd.prog 38 = true := by kernel_rfl
theorem cb39 : callB Tryd.prog 39 = true := by kernel_rfl
theorem eqg76 : Tryd.prog.eqGuardType Tryd.prog.depth 76 = false := by kernel_rfl
theorem fld43_1 : fldB Tryd.prog 43 1 1 = true := by kernel_rfl
theorem sz25 : szB Tryd.prog 25 1 = true := by kernel_rfl
theorem sz43 : szB Tryd.prog 43 3 = true := by kernel_rfl
theorem sz76 : szB Tryd.prog 76 11 = true := by kernel_rfl
theorem zer43 : (Tryd.prog.info? 43).bind (·.zero) = some (.agg #[.int .i64 0, .int .u32 0, .slice none 0 0]) := by kernel_rfl
theorem zer76 : (Tryd.prog.info? 76).bind (·.zero) = some (.agg #[.int .u8 0, .int .u8 0, .int .u8 0, .int .u8 0, .int .u8 0, .int .u8 0, .int .u8 0, .int .u8 0, .int .u8 0, .int .u8 0, .int .u8 0]) := by kernel_rfl
theorem hd_len {bs : List UInt8} : (((bs.take 11).drop 4).take 2).take 8 = (bs.drop 4).take 2 := by simp [List.drop_take, List.take_take]
theorem hd_ep {bs : List UInt8} : ((bs.take 11).drop 7).take 8 = (bs.drop 7).take 4 := by simp [List.drop_take, List.take_take]
theorem hd_sum {bs : List UInt8} : ((bs.take 11).take 4).take 8 = bs.take 4 := by simp [List.take_take]
theorem get_lt2 {bs : List UInt8} {k : Nat} : getN (bs.take k) < 256 ^ k := by
  have h := getN_lt (bs.take k)
  have h2 : (bs.take k).length ≤ k := by rw [List.length_take]; omega
  exact Nat.lt_of_lt_of_le h (Nat.pow_le_pow_right (by decide) h2)
theorem cv_len {bs : List UInt8} : Value.int .i64 (IntKind.i64.wrap ((getN ((((bs.take 11).drop 4).take 2).take 8) : Nat) : Int)) = .int .i64 ((getN ((bs.drop 4).take 2) : Nat) : Int) := by
  rw [hd_len]
  have h := get_lt2 (bs := bs.drop 4) (k := 2)
  exact conv3 (by omega)
theorem cv_ep {bs : List UInt8} : Value.int .u32 (IntKind.u32.wrap ((getN (((bs.take 11).drop 7).take 8) : Nat) : Int)) = .int .u32 ((getN ((bs.drop 7).take 4) : Nat) : Int) := by
  rw [hd_ep]
  have h := get_lt2 (bs := bs.drop 7) (k := 4)
  refine congrArg (Value.int .u32) ?_
  rw [IntKind.wrap_u32]
  omega
theorem cv_sum {bs : List UInt8} : Value.int .u32 (IntKind.u32.wrap ((getN (((bs.take 11).take 4).take 8) : Nat) : Int)) = .int .u32 ((getN (bs.take 4) : Nat) : Int) := by
  rw [hd_sum]
  have h := get_lt2 (bs := bs) (k := 4)
  refine congrArg (Value.int .u32) ?_
  rw [IntKind.wrap_u32]
  omega
theorem cv_kind {bs : List UInt8} (h : 6 < (bs.take 11).length) : Value.int .i64 (IntKind.i64.wrap (((bs.take 11)[6]).toNat : Int)) = .int .i64 (((bs.getD 6 0).toNat : Nat) : Int) := by
  have e : (bs.take 11)[6] = bs.getD 6 0 := by
    rw [List.getElem_take, List.getD_eq_getElem?_getD, List.getElem?_eq_getElem (by rw [List.length_take] at h; omega)]; rfl
  rw [e]
  exact conv3 (by have := (bs.getD 6 0).toNat_lt; omega)
section
variable {bs : List UInt8} {ep : Nat}
theorem fd_short (h : bs.length < 11) : fdec bs ep = ((0, []), 0, 1) := by unfold fdec; rw [if_pos h]
theorem fd_none (h1 : ¬ bs.length < 11) (h2 : bs.take 11 = List.replicate 11 0) : fdec bs ep = ((0, []), 0, 7) := by unfold fdec; rw [if_neg h1, if_pos h2]
theorem fd_form (h1 : ¬ bs.length < 11) (h2 : ¬ bs.take 11 = List.replicate 11 0) (h3 : (bs.getD 6 0).toNat < 1 ∨ 4 < (bs.getD 6 0).toNat ∨ 197 < getN ((bs.drop 4).take 2) ∨ getN ((bs.drop 7).take 4) ≠ ep) : fdec bs ep = ((0, []), 0, 2) := by
  unfold fdec; rw [if_neg h1, if_neg h2, if_pos h3]
theorem fd_cut (h1 : ¬ bs.length < 11) (h2 : ¬ bs.take 11 = List.replicate 11 0) (h3 : ¬ ((bs.getD 6 0).toNat < 1 ∨ 4 < (bs.getD 6 0).toNat ∨ 197 < getN ((bs.drop 4).take 2) ∨ getN ((bs.drop 7).take 4) ≠ ep)) (h4 : bs.length < 11 + getN ((bs.drop 4).take 2)) : fdec bs ep = ((0, []), 0, 1) := by
  unfold fdec; rw [if_neg h1, if_neg h2, if_neg h3, if_pos h4]
theorem fd_sum (h1 : ¬ bs.length < 11) (h2 : ¬ bs.take 11 = List.replicate 11 0) (h3 : ¬ ((bs.getD 6 0).toNat < 1 ∨ 4 < (bs.getD 6 0).toNat ∨ 197 < getN ((bs.drop 4).take 2) ∨ getN ((bs.drop 7).take 4) ≠ ep)) (h4 : ¬ bs.length < 11 + getN ((bs.drop 4).take 2))
    (h5 : getN (bs.take 4) ≠ maskN (moreN 0 ((bs.drop 4).take (11 + getN ((bs.drop 4).take 2) - 4)))) : fdec bs ep = ((0, []), 0, 3) := by
  unfold fdec; rw [if_neg h1, if_neg h2, if_neg h3, if_neg h4, List.drop_take, if_pos h5]
theorem fd_ok (h1 : ¬ bs.length < 11) (h2 : ¬ bs.take 11 = List.replicate 11 0) (h3 : ¬ ((bs.getD 6 0).toNat < 1 ∨ 4 < (bs.getD 6 0).toNat ∨ 197 < getN ((bs.drop 4).take 2) ∨ getN ((bs.drop 7).take 4) ≠ ep)) (h4 : ¬ bs.length < 11 + getN ((bs.drop 4).take 2))
    (h5 : getN (bs.take 4) = maskN (moreN 0 ((bs.drop 4).take (11 + getN ((bs.drop 4).take 2) - 4)))) : fdec bs ep = (((bs.getD 6 0).toNat, (bs.drop 11).take (11 + getN ((bs.drop 4).take 2) - 11)), 11 + getN ((bs.drop 4).take 2), 0) := by
  unfold fdec; rw [if_neg h1, if_neg h2, if_neg h3, if_neg h4, List.drop_take, if_neg (by rw [h5]; simp), List.drop_take]
end
theorem dec_ok {w : World} {t1 lo hi : Nat} {A : Option Addr} {c ep : Nat} {bs : List UInt8} (hS : Sli t1 lo hi w A (fl encB bs)) (hb : bs.length ≤ 1000000) (hc : bs.length ≤ c) (hT : Tbw w) (hep : ep < 4294967296) :
    Runs Tryd.prog 22 #[.slice A bs.length c, .int .u32 (ep : Int)] w (fun v w' => w.grownBy w' none ∧ (((fdec bs ep).2.2 = 0 ∧ ∃ A' c', v = .tuple #[.agg #[.int .i64 (((fdec bs ep).1.1 : Nat) : Int), .int .u32 (ep : Int), .slice A' (fdec bs ep).1.2.length c'], .int .i64 (((fdec bs ep).2.1 : Nat) : Int), .int .i64 0] ∧ World.ownsRow w' w.heap.size 5 1 (.slice A' (fdec bs ep).1.2.length c') (fdec bs ep).1.2.length (fl encB (fdec bs ep).1.2)) ∨ ((fdec bs ep).2.2 ≠ 0 ∧ v = .tuple #[.agg #[.int .i64 0, .int .u32 0, .slice none 0 0], .int .i64 0, .int .i64 (fdec bs ep).2.2]))) := by
  have hB := gb_refl w none
  have hn2 := get_lt2 (bs := bs.drop 4) (k := 2)
  replace hS := hS.top
  refine enter Tryd.func22 Tryd.ntmps22 rfl rfl ?_
  refine C_seq (C_reg rfl ?_)
  refine L_alloc (cs := [.int .i64 0, .int .u32 0, .slice none 0 0]) zer43 rfl rfl ?_
  intro g1 w1 eg1 hb1 hs1 hz1
  have ge1 : w.heap.size ≤ g1 := eg_ge hB eg1
  replace hB := gb_tr hB hs1
  replace hS := hS.gb hs1
  refine L_run (R_assign rfl) rfl ?_
  refine L_run (R_assign rfl) rfl ?_
  refine L_nil (N_then (C_seq (C_seq (C_reg rfl ?_))))
  refine L_run (R_move rfl) rfl ?_
  refine L_run (R_lenSl rfl slc25) rfl ?_
  refine L_run (R_lss rfl rfl) rfl ?_
  refine L_nil (N_then ?_)
  refine C_if rfl (fun h1 => ?_) (fun h1 => ?_)
  · refine C_seq (C_reg rfl ?_)
    refine L_run (R_build (pv := []) (cs := [.int .i64 0, .int .u32 0, .slice none 0 0]) rfl (by kernel_rfl)) rfl ?_
    refine L_stA (vs := [.int .i64 0, .int .u32 0, .slice none 0 0]) rfl rfl rfl sz43 rfl hb1 rfl ?_
    intro w2 hb2 hs2 hz2
    replace hB := gb_trg hB hs2 ge1
    replace hS := hS.old hs2 ge1
    refine L_run (R_assign rfl) rfl ?_
    refine L_run (R_assign rfl) rfl ?_
    refine L_nil (N_then (C_ret (R_then ?_)))
    refine retC2 (vs := [.int .i64 0, .int .u32 0, .slice none 0 0]) Tryd.results22 rfl agg43 (At.pre (hb2.at_ 0) rfl) rfl rfl rfl ?_
    first
      | (exfalso; omega)
      | (have hf : fdec bs ep = ((0, []), 0, 1) := by first | exact fd_short (by omega) | exact fd_cut (by omega) (by assumption) (by omega) (by omega)
         exact ⟨hB, .inr ⟨by rw [hf]; decide, by rw [hf]⟩⟩)
  · refine C_skip (N_then (C_seq (C_reg rfl ?_)))
    refine L_run (R_move rfl) rfl ?_
    refine T_slH (xs := bs) (j := 11) EncB rfl rfl (by first | rfl | omega) slc25 (by first | omega | (simp; done) | (simp; omega)) (by first | omega | (simp; done) | (simp; omega)) hS rfl ?_
    intro A_1 hS_1
    have hn1 : (bs.take 11).length = 11 := (by rw [List.length_take]; omega)
    refine T_s2arr (X := bs.take 11) rfl arr76 hS_1 hn1 rfl rfl ?_
    intro g2 o1 ha1
    refine L_run (R_loadA (vs := fl encB (bs.take 11)) rfl agg76 ha1 (flB_lenE hn1)) rfl ?_
    refine L_alloc (cs := [.int .u8 0, .int .u8 0, .int .u8 0, .int .u8 0, .int .u8 0, .int .u8 0, .int .u8 0, .int .u8 0, .int .u8 0, .int .u8 0, .int .u8 0]) zer76 rfl rfl ?_
    intro g3 w3 eg2 hb3 hs3 hz3
    have ge2 : w.heap.size ≤ g3 := eg_ge hB eg2
    have lt1 : g1 < g3 := lt_of_eg hb1.lt eg2
    replace hB := gb_tr hB hs3
    replace hS := hS.gb hs3
    replace hb1 := hb1.gb hs3
    replace hS_1 := hS_1.gb hs3
    replace ha1 := At.gb ha1 hs3 (by simp)
    replace hb3 : Blk w3 g3 76 (fl encB (List.replicate 11 (0 : UInt8))) := hb3
    refine L_stA (vs := fl encB (bs.take 11)) rfl rfl (flB_one _) sz76 (flB_lenE hn1) hb3 (flB_lenE List.length_replicate) ?_
    intro w4 hb4 hs4 hz4
    replace hB := gb_trg hB hs4 ge2
    replace hS := hS.old hs4 ge2
    replace hb1 := hb1.grown hs4 (ne_lt lt1)
    replace hS_1 := hS_1.old hs4 ge2
    refine L_nil (N_then (C_seq (C_seq (C_reg rfl ?_))))
    refine L_run (R_loadA (vs := fl encB (bs.take 11)) rfl agg76 (hb4.at_ 0) (flB_lenE hn1)) rfl ?_
    refine L_run (R_build (pv := []) (cs := fl encB (List.replicate 11 (0 : UInt8))) rfl (by kernel_rfl)) rfl ?_
    refine L_run (R_eqlA rfl rfl eqg76 (eqs_bytes arr76 int5 scl5 hn1 List.length_replicate)) rfl ?_
    refine L_nil (N_then ?_)
    refine C_if rfl (fun h2 => ?_) (fun h2 => ?_)
    · refine C_seq (C_reg rfl ?_)
      refine L_run (R_build (pv := []) (cs := [.int .i64 0, .int .u32 0, .slice none 0 0]) rfl (by kernel_rfl)) rfl ?_
      refine L_stA (vs := [.int .i64 0, .int .u32 0, .slice none 0 0]) rfl rfl rfl sz43 rfl hb1 rfl ?_
      intro w5 hb5 hs5 hz5
      replace hB := gb_trg hB hs5 ge1
      replace hS := hS.old hs5 ge1
      replace hS_1 := hS_1.old hs5 ge1
      replace hb4 := hb4.grown hs5 (ne_gt lt1)
      refine L_run (R_assign rfl) rfl ?_
      refine L_run (R_assign rfl) rfl ?_
      refine L_nil (N_then (C_ret (R_then ?_)))
      refine retC2 (vs := [.int .i64 0, .int .u32 0, .slice none 0 0]) Tryd.results22 rfl agg43 (At.pre (hb5.at_ 0) rfl) rfl rfl rfl ?_
      first
        | (exfalso; omega)
        | (have hf : fdec bs ep = ((0, []), 0, 7) := by first | exact fd_none (by omega) (by assumption)
           exact ⟨hB, .inr ⟨by rw [hf]; decide, by rw [hf]⟩⟩)
    · refine C_skip (N_then (C_seq (C_reg rfl ?_)))
      refine T_slArrG (bs := bs.take 11) (i := 4) (j := 6) (k := .i64) (k' := .i64) (a := 0) (b := 0) EncB arr76 rfl hb4 hn1 (by omega) (by omega) rfl ⟨_, rfl⟩ ⟨_, rfl⟩ ?_
      intro A_2 hS_2
      have e_ : ((bs.take 11).drop 4).take (6 - 4) = ((bs.take 11).drop 4).take 2 := rfl
      rw [e_] at hS_2 ⊢; clear e_
      refine L_call rfl cb36 (word_get (bs := ((bs.take 11).drop 4).take 2) hS_2 (by first | omega | (simp; done) | (simp; omega))) rfl ?_
      rintro _ w6 ⟨hs6, rfl⟩
      replace hB := gb_tr hB hs6
      replace hS := hS.gb hs6
      replace hb1 := hb1.gb hs6
      replace hS_1 := hS_1.gb hs6
      replace hb4 := hb4.gb hs6
      replace hS_2 := hS_2.gb hs6
      refine L_run (R_eqv (R_conv rfl any22 int3) (v' := .int .i64 ((getN ((bs.drop 4).take 2) : Nat) : Int)) (cv_len)) rfl ?_
      refine L_run (R_assign rfl) rfl ?_
      refine L_nil (N_then (C_seq ?_))
      refine C_join (fun a_ w_ => (∃ (σ_ : Nat → Value) (g4 : Nat), a_ = Ac 75 σ_ [] [(0, .slice A bs.length c), (1, .int .u32 (ep : Int)), (4, .pointer (some ⟨g1, 0, none⟩)), (5, .int .i64 0), (6, .int .i64 0), (7, .pointer (some ⟨g3, 0, none⟩)), (8, .int .i64 ((getN ((bs.drop 4).take 2) : Nat) : Int)), (9, .pointer (some ⟨g4, 0, none⟩)), (11, .slice A bs.length c), (12, .int .i64 (bs.length : Int)), (13, .bool (decide ((bs.length : Int) < 11))), (15, .slice A bs.length c), (16, .slice A_1 ((bs.take 11).length) c), (17, .pointer (some ⟨g2, o1, none⟩)), (18, .agg (fl encB (bs.take 11)).toArray), (19, .agg (fl encB (bs.take 11)).toArray), (20, .agg (fl encB (List.replicate 11 (0 : UInt8))).toArray), (21, .bool (decide (bs.take 11 = (List.replicate 11 (0 : UInt8))))), (23, .slice A_2 ((((bs.take 11).drop 4).take 2).length) (11 - 4)), (24, .int .u64 ((getN ((((bs.take 11).drop 4).take 2).take 8) : Nat) : Int)), (25, .int .i64 ((getN ((bs.drop 4).take 2) : Nat) : Int))] ∧ w.grownBy w_ none ∧ Sli t1 lo w.heap.size w_ A (fl encB bs) ∧ Blk w_ g1 43 [.int .i64 0, .int .u32 0, .slice none 0 0] ∧ Sli t1 lo w.heap.size w_ A_1 (fl encB (bs.take 11)) ∧ Blk w_ g3 76 (fl encB (bs.take 11)) ∧ Sli 0 g3 (g3 + 1) w_ A_2 (fl encB (((bs.take 11).drop 4).take 2)) ∧ Blk w_ g4 43 [.int .i64 (((bs.getD 6 0).toNat : Nat) : Int), .int .u32 ((getN ((bs.drop 7).take 4) : Nat) : Int), .slice none 0 0] ∧ w.heap.size ≤ g4 ∧ g1 < g4 ∧ g3 < g4)) ?_ ?_
      · refine C_draw2 rfl mix ?_
        intro w7 hs7 hz6
        replace hB := gb_tr hB hs7
        replace hS := hS.gb hs7
        replace hb1 := hb1.gb hs7
        replace hS_1 := hS_1.gb hs7
        replace hb4 := hb4.gb hs7
        replace hS_2 := hS_2.gb hs7
        refine ⟨fun W_ => Blk W_ g3 76 (fl encB (bs.take 11)) ∧ True, [0, 1, 2, 5, 6], ?_⟩
        refine T_takeA (i := 0) rfl rfl (by kernel_rfl) (by kernel_rfl) (by kernel_rfl) (Y_of (fun _ ⟨hb4, _⟩ => R_indexArr (i := 6) (r := 6) rfl rfl (by first | rfl | omega) arr76 (by omega) (by omega))) ⟨hb4, trivial⟩ rfl ?_
        have hl1 : 6 < (bs.take 11).length := by rw [hn1]; omega
        refine T_takeA (i := 1) rfl rfl (by kernel_rfl) (by kernel_rfl) (by kernel_rfl) (Y_of (fun _ ⟨hb4, _⟩ => R_load1 rfl scl5 (hb4.cell (fl_atB hl1)))) ⟨hb4, trivial⟩ rfl ?_
        refine T_takeA (i := 2) rfl rfl (by kernel_rfl) (by kernel_rfl) (by kernel_rfl) (Y_of (fun _ ⟨hb4, _⟩ => R_eqv (R_conv rfl any5 int3) (v' := .int .i64 (((bs.getD 6 0).toNat : Nat) : Int)) (cv_kind _))) ⟨hb4, trivial⟩ rfl ?_
        refine T_all (rs := [3, 7]) (by kernel_rfl) rfl (all2 (O_one rfl ?_) (O_one rfl ?_))
        · refine T_slArr (bs := bs.take 11) (i := 7) rfl rfl (by first | rfl | omega) arr76 (by omega) hb4 (by first | omega | (simp; omega)) rfl ?_
          intro A_3 hS_3
          refine L_nil (N_then ⟨fun hN_ => ⟨hb4, trivial⟩, ?_⟩)
          refine T_all (rs := [4, 7]) (by kernel_rfl) rfl (all2 (O_one rfl ?_) (O_one rfl ?_))
          · refine L_call rfl cb36 (word_get (bs := (bs.take 11).drop 7) hS_3 (by first | omega | (simp; done) | (simp; omega))) rfl ?_
            rintro _ w8 ⟨hs8, rfl⟩
            replace hB := gb_tr hB hs8
            replace hS := hS.gb hs8
            replace hb1 := hb1.gb hs8
            replace hS_1 := hS_1.gb hs8
            replace hb4 := hb4.gb hs8
            replace hS_2 := hS_2.gb hs8
            replace hS_3 := hS_3.gb hs8
            refine L_nil (N_then ⟨fun hN_ => ⟨hb4, trivial⟩, ?_⟩)
            refine T_takeA (i := 5) rfl rfl (by kernel_rfl) (by kernel_rfl) (by kernel_rfl) (Y_of (fun _ ⟨hb4, _⟩ => R_eqv (R_conv rfl any22 int41) (v' := .int .u32 ((getN ((bs.drop 7).take 4) : Nat) : Int)) (cv_ep))) ⟨hb4, trivial⟩ rfl ?_
            refine T_takeA (i := 6) rfl rfl (by kernel_rfl) (by kernel_rfl) (by kernel_rfl) (Y_of (fun _ ⟨hb4, _⟩ => R_build (pv := [(0, .int .i64 (((bs.getD 6 0).toNat : Nat) : Int)), (1, .int .u32 ((getN ((bs.drop 7).take 4) : Nat) : Int))]) (cs := [.int .i64 (((bs.getD 6 0).toNat : Nat) : Int), .int .u32 ((getN ((bs.drop 7).take 4) : Nat) : Int), .slice none 0 0]) rfl (by kernel_rfl))) ⟨hb4, trivial⟩ rfl ?_
            refine T_all (rs := [7]) (by kernel_rfl) rfl (all1 (O_one rfl ?_))
            refine L_alloc (cs := [.int .i64 0, .int .u32 0, .slice none 0 0]) zer43 rfl rfl ?_
            intro g4 w9 eg3 hb6 hs9 hz7
            have ge3 : w.heap.size ≤ g4 := eg_ge hB eg3
            have lt2 : g1 < g4 := lt_of_eg hb1.lt eg3
            have lt3 : g3 < g4 := lt_of_eg hb4.lt eg3
            replace hB := gb_tr hB hs9
            replace hS := hS.gb hs9
            replace hb1 := hb1.gb hs9
            replace hS_1 := hS_1.gb hs9
            replace hb4 := hb4.gb hs9
            replace hS_2 := hS_2.gb hs9
            replace hS_3 := hS_3.gb hs9
            refine L_nil (N_then ⟨fun hN_ => ⟨hb4, trivial⟩, ?_⟩)
            refine T_all (rs := [8]) (by kernel_rfl) rfl (all1 (O_one rfl ?_))
            refine L_stA (vs := [.int .i64 (((bs.getD 6 0).toNat : Nat) : Int), .int .u32 ((getN ((bs.drop 7).take 4) : Nat) : Int), .slice none 0 0]) rfl rfl rfl sz43 rfl hb6 rfl ?_
            intro w10 hb7 hs10 hz8
            replace hB := gb_trg hB hs10 ge3
            replace hS := hS.old hs10 ge3
            replace hb1 := hb1.grown hs10 (ne_lt lt2)
            replace hS_1 := hS_1.old hs10 ge3
            replace hb4 := hb4.grown hs10 (ne_lt lt3)
            replace hS_2 := hS_2.grown hs10 (by rintro _ ⟨rfl⟩; omega)
            replace hS_3 := hS_3.grown hs10 (by rintro _ ⟨rfl⟩; omega)
            refine L_nil (N_then ⟨fun hN_ => ⟨hb4, trivial⟩, ?_⟩)
            refine T_done (by kernel_rfl) (CalmE.normal ?_)
            exact ⟨rfl, ⟨_, g4, Ac_frg ⟨rfl, rfl, rfl, rfl, rfl, rfl, rfl, rfl, rfl, rfl, rfl, rfl, rfl, rfl, rfl, rfl, rfl, rfl, rfl, rfl, rfl, trivial⟩, hB, hS, hb1, hS_1, hb4, hS_2, hb7, ge3, lt2, lt3⟩⟩
          · refine L_alloc (cs := [.int .i64 0, .int .u32 0, .slice none 0 0]) zer43 rfl rfl ?_
            intro g5 w11 eg4 hb8 hs11 hz9
            have ge4 : w.heap.size ≤ g5 := eg_ge hB eg4
            have lt4 : g1 < g5 := lt_of_eg hb1.lt eg4
            have lt5 : g3 < g5 := lt_of_eg hb4.lt eg4
            replace hB := gb_tr hB hs11
            replace hS := hS.gb hs11
            replace hb1 := hb1.gb hs11
            replace hS_1 := hS_1.gb hs11
            replace hb4 := hb4.gb hs11
            replace hS_2 := hS_2.gb hs11
            replace hS_3 := hS_3.gb hs11
            refine L_nil (N_then ⟨fun hN_ => ⟨hb4, trivial⟩, ?_⟩)
            refine T_all (rs := [4]) (by kernel_rfl) rfl (all1 (O_one rfl ?_))
            refine L_call rfl cb36 (word_get (bs := (bs.take 11).drop 7) hS_3 (by first | omega | (simp; done) | (simp; omega))) rfl ?_
            rintro _ w12 ⟨hs12, rfl⟩
            replace hB := gb_tr hB hs12
            replace hS := hS.gb hs12
            replace hb1 := hb1.gb hs12
            replace hS_1 := hS_1.gb hs12
            replace hb4 := hb4.gb hs12
            replace hS_2 := hS_2.gb hs12
            replace hS_3 := hS_3.gb hs12
            replace hb8 := hb8.gb hs12
            refine L_nil (N_then ⟨fun hN_ => ⟨hb4, trivial⟩, ?_⟩)
            refine T_takeA (i := 5) rfl rfl (by kernel_rfl) (by kernel_rfl) (by kernel_rfl) (Y_of (fun _ ⟨hb4, _⟩ => R_eqv (R_conv rfl any22 int41) (v' := .int .u32 ((getN ((bs.drop 7).take 4) : Nat) : Int)) (cv_ep))) ⟨hb4, trivial⟩ rfl ?_
            refine T_takeA (i := 6) rfl rfl (by kernel_rfl) (by kernel_rfl) (by kernel_rfl) (Y_of (fun _ ⟨hb4, _⟩ => R_build (pv := [(0, .int .i64 (((bs.getD 6 0).toNat : Nat) : Int)), (1, .int .u32 ((getN ((bs.drop 7).take 4) : Nat) : Int))]) (cs := [.int .i64 (((bs.getD 6 0).toNat : Nat) : Int), .int .u32 ((getN ((bs.drop 7).take 4) : Nat) : Int), .slice none 0 0]) rfl (by kernel_rfl))) ⟨hb4, trivial⟩ rfl ?_
            refine T_all (rs := [8]) (by kernel_rfl) rfl (all1 (O_one rfl ?_))
            refine L_stA (vs := [.int .i64 (((bs.getD 6 0).toNat : Nat) : Int), .int .u32 ((getN ((bs.drop 7).take 4) : Nat) : Int), .slice none 0 0]) rfl rfl rfl sz43 rfl hb8 rfl ?_
            intro w13 hb9 hs13 hz10
            replace hB := gb_trg hB hs13 ge4
            replace hS := hS.old hs13 ge4
            replace hb1 := hb1.grown hs13 (ne_lt lt4)
            replace hS_1 := hS_1.old hs13 ge4
            replace hb4 := hb4.grown hs13 (ne_lt lt5)
            replace hS_2 := hS_2.grown hs13 (by rintro _ ⟨rfl⟩; omega)
            replace hS_3 := hS_3.grown hs13 (by rintro _ ⟨rfl⟩; omega)
            refine L_nil (N_then ⟨fun hN_ => ⟨hb4, trivial⟩, ?_⟩)
            refine T_done (by kernel_rfl) (CalmE.normal ?_)
            exact ⟨rfl, ⟨_, g5, Ac_frg ⟨rfl, rfl, rfl, rfl, rfl, rfl, rfl, rfl, rfl, rfl, rfl, rfl, rfl, rfl, rfl, rfl, rfl, rfl, rfl, rfl, rfl, trivial⟩, hB, hS, hb1, hS_1, hb4, hS_2, hb9, ge4, lt4, lt5⟩⟩
        · refine L_alloc (cs := [.int .i64 0, .int .u32 0, .slice none 0 0]) zer43 rfl rfl ?_
          intro g6 w14 eg5 hb10 hs14 hz11
          have ge5 : w.heap.size ≤ g6 := eg_ge hB eg5
          have lt6 : g1 < g6 := lt_of_eg hb1.lt eg5
          have lt7 : g3 < g6 := lt_of_eg hb4.lt eg5
          replace hB := gb_tr hB hs14
          replace hS := hS.gb hs14
          replace hb1 := hb1.gb hs14
          replace hS_1 := hS_1.gb hs14
          replace hb4 := hb4.gb hs14
          replace hS_2 := hS_2.gb hs14
          refine L_nil (N_then ⟨fun hN_ => ⟨hb4, trivial⟩, ?_⟩)
          refine T_all (rs := [3]) (by kernel_rfl) rfl (all1 (O_one rfl ?_))
          refine T_slArr (bs := bs.take 11) (i := 7) rfl rfl (by first | rfl | omega) arr76 (by omega) hb4 (by first | omega | (simp; omega)) rfl ?_
          intro A_4 hS_4
          refine L_nil (N_then ⟨fun hN_ => ⟨hb4, trivial⟩, ?_⟩)
          refine T_all (rs := [4]) (by kernel_rfl) rfl (all1 (O_one rfl ?_))
          refine L_call rfl cb36 (word_get (bs := (bs.take 11).drop 7) hS_4 (by first | omega | (simp; done) | (simp; omega))) rfl ?_
          rintro _ w15 ⟨hs15, rfl⟩
          replace hB := gb_tr hB hs15
          replace hS := hS.gb hs15
          replace hb1 := hb1.gb hs15
          replace hS_1 := hS_1.gb hs15
          replace hb4 := hb4.gb hs15
          replace hS_2 := hS_2.gb hs15
          replace hb10 := hb10.gb hs15
          replace hS_4 := hS_4.gb hs15
          refine L_nil (N_then ⟨fun hN_ => ⟨hb4, trivial⟩, ?_⟩)
          refine T_takeA (i := 5) rfl rfl (by kernel_rfl) (by kernel_rfl) (by kernel_rfl) (Y_of (fun _ ⟨hb4, _⟩ => R_eqv (R_conv rfl any22 int41) (v' := .int .u32 ((getN ((bs.drop 7).take 4) : Nat) : Int)) (cv_ep))) ⟨hb4, trivial⟩ rfl ?_
          refine T_takeA (i := 6) rfl rfl (by kernel_rfl) (by kernel_rfl) (by kernel_rfl) (Y_of (fun _ ⟨hb4, _⟩ => R_build (pv := [(0, .int .i64 (((bs.getD 6 0).toNat : Nat) : Int)), (1, .int .u32 ((getN ((bs.drop 7).take 4) : Nat) : Int))]) (cs := [.int .i64 (((bs.getD 6 0).toNat : Nat) : Int), .int .u32 ((getN ((bs.drop 7).take 4) : Nat) : Int), .slice none 0 0]) rfl (by kernel_rfl))) ⟨hb4, trivial⟩ rfl ?_
          refine T_all (rs := [8]) (by kernel_rfl) rfl (all1 (O_one rfl ?_))
          refine L_stA (vs := [.int .i64 (((bs.getD 6 0).toNat : Nat) : Int), .int .u32 ((getN ((bs.drop 7).take 4) : Nat) : Int), .slice none 0 0]) rfl rfl rfl sz43 rfl hb10 rfl ?_
          intro w16 hb11 hs16 hz12
          replace hB := gb_trg hB hs16 ge5
          replace hS := hS.old hs16 ge5
          replace hb1 := hb1.grown hs16 (ne_lt lt6)
          replace hS_1 := hS_1.old hs16 ge5
          replace hb4 := hb4.grown hs16 (ne_lt lt7)
          replace hS_2 := hS_2.grown hs16 (by rintro _ ⟨rfl⟩; omega)
          replace hS_4 := hS_4.grown hs16 (by rintro _ ⟨rfl⟩; omega)
          refine L_nil (N_then ⟨fun hN_ => ⟨hb4, trivial⟩, ?_⟩)
          refine T_done (by kernel_rfl) (CalmE.normal ?_)
          exact ⟨rfl, ⟨_, g6, Ac_frg ⟨rfl, rfl, rfl, rfl, rfl, rfl, rfl, rfl, rfl, rfl, rfl, rfl, rfl, rfl, rfl, rfl, rfl, rfl, rfl, rfl, rfl, trivial⟩, hB, hS, hb1, hS_1, hb4, hS_2, hb11, ge5, lt6, lt7⟩⟩
      · clear hB
        clear hS hb1 hS_1 hb4 hS_2
        rintro a_ w17 ⟨σ_, g4, rfl, hB, hS, hb1, hS_1, hb4, hS_2, hj1, ge6, lt8, lt9⟩
        refine N_then (C_seq (C_reg rfl ?_))
        refine L_run (R_move rfl) rfl ?_
        refine L_run (R_eqv (R_add64 rfl rfl (by omega)) (v' := .int .i64 ((11 + getN ((bs.drop 4).take 2) : Nat) : Int)) (congrArg _ (by omega))) rfl ?_
        refine L_run (R_assign rfl) rfl ?_
        refine L_nil (N_then (C_block (C_seq (C_reg rfl ?_))))
        refine L_run (R_loadA (vs := [.int .i64 (((bs.getD 6 0).toNat : Nat) : Int), .int .u32 ((getN ((bs.drop 7).take 4) : Nat) : Int), .slice none 0 0]) rfl agg43 (At.pre (hj1.at_ 0) rfl) rfl) rfl ?_
        refine L_call rfl cb37 (fright) rfl ?_
        rintro _ w18 ⟨hs17, rfl⟩
        replace hB := gb_tr hB hs17
        replace hS := hS.gb hs17
        replace hb1 := hb1.gb hs17
        replace hS_1 := hS_1.gb hs17
        replace hb4 := hb4.gb hs17
        replace hS_2 := hS_2.gb hs17
        replace hj1 := hj1.gb hs17
        refine L_run (R_notD rfl) rfl ?_
        refine L_run (R_move rfl) rfl ?_
        refine L_splitN (p := 1 ≤ (((bs.getD 6 0).toNat : Nat) : Int) ∧ (((bs.getD 6 0).toNat : Nat) : Int) ≤ 4 ∧ 0 ≤ 197) (fun h3 => ?_) (fun h3 => ?_)
        · refine L_no rfl rfl rfl (decide_eq_true h3) rfl ?_
          refine L_no rfl rfl rfl (decide_eq_true h3) rfl ?_
          refine L_run (R_pickT rfl (decide_eq_true h3) rfl) rfl ?_
          refine L_run (R_move rfl) rfl ?_
          refine L_no rfl rfl rfl rfl rfl ?_
          refine L_no rfl rfl rfl rfl rfl ?_
          refine L_no rfl rfl rfl rfl rfl ?_
          refine L_no rfl rfl rfl rfl rfl ?_
          refine L_run (R_pickT rfl rfl rfl) rfl ?_
          refine L_run (R_assign rfl) rfl ?_
          refine L_nil (N_then (C_condT rfl rfl (C_seq (C_reg rfl ?_))))
          refine L_run (R_build (pv := []) (cs := [.int .i64 0, .int .u32 0, .slice none 0 0]) rfl (by kernel_rfl)) rfl ?_
          refine L_stA (vs := [.int .i64 0, .int .u32 0, .slice none 0 0]) rfl rfl rfl sz43 rfl hb1 rfl ?_
          intro w19 hb12 hs18 hz13
          replace hB := gb_trg hB hs18 ge1
          replace hS := hS.old hs18 ge1
          replace hS_1 := hS_1.old hs18 ge1
          replace hb4 := hb4.grown hs18 (ne_gt lt1)
          replace hS_2 := hS_2.grown hs18 (by rintro _ ⟨rfl⟩; omega)
          replace hj1 := hj1.grown hs18 (ne_gt lt8)
          refine L_run (R_assign rfl) rfl ?_
          refine L_run (R_assign rfl) rfl ?_
          refine L_nil (N_then (C_ret (R_in ?_)))
          refine retC2 (vs := [.int .i64 0, .int .u32 0, .slice none 0 0]) Tryd.results22 rfl agg43 (At.pre (hb12.at_ 0) rfl) rfl rfl rfl ?_
          first
            | (exfalso; omega)
            | (have hf : fdec bs ep = ((0, []), 0, 2) := by first | exact fd_form (by omega) (by assumption) (by omega)
               exact ⟨hB, .inr ⟨by rw [hf]; decide, by rw [hf]⟩⟩)
        · refine L_yes rfl rfl rfl (decide_eq_false (fun hn => hn h3)) ?_
          refine L_run (R_move rfl) rfl ?_
          refine L_yes rfl rfl rfl (decide_eq_false (fun hn => hn h3)) ?_
          refine L_run (R_gtr rfl rfl) rfl ?_
          refine L_run (R_pickF rfl (decide_eq_false (fun hn => hn h3)) rfl) rfl ?_
          refine L_run (R_move rfl) rfl ?_
          refine L_splitD (p := 197 < ((getN ((bs.drop 4).take 2) : Nat) : Int)) (fun h4 => ?_) (fun h4 => ?_)
          · refine L_no rfl rfl rfl (decide_eq_true h4) rfl ?_
            refine L_no rfl rfl rfl (decide_eq_true h4) rfl ?_
            refine L_no rfl rfl rfl (decide_eq_true h4) rfl ?_
            refine L_no rfl rfl rfl (decide_eq_true h4) rfl ?_
            refine L_run (R_pickT rfl (decide_eq_true h4) rfl) rfl ?_
            refine L_run (R_assign rfl) rfl ?_
            refine L_nil (N_then (C_condT rfl rfl (C_seq (C_reg rfl ?_))))
            refine L_run (R_build (pv := []) (cs := [.int .i64 0, .int .u32 0, .slice none 0 0]) rfl (by kernel_rfl)) rfl ?_
            refine L_stA (vs := [.int .i64 0, .int .u32 0, .slice none 0 0]) rfl rfl rfl sz43 rfl hb1 rfl ?_
            intro w20 hb13 hs19 hz14
            replace hB := gb_trg hB hs19 ge1
            replace hS := hS.old hs19 ge1
            replace hS_1 := hS_1.old hs19 ge1
            replace hb4 := hb4.grown hs19 (ne_gt lt1)
            replace hS_2 := hS_2.grown hs19 (by rintro _ ⟨rfl⟩; omega)
            replace hj1 := hj1.grown hs19 (ne_gt lt8)
            refine L_run (R_assign rfl) rfl ?_
            refine L_run (R_assign rfl) rfl ?_
            refine L_nil (N_then (C_ret (R_in ?_)))
            refine retC2 (vs := [.int .i64 0, .int .u32 0, .slice none 0 0]) Tryd.results22 rfl agg43 (At.pre (hb13.at_ 0) rfl) rfl rfl rfl ?_
            first
              | (exfalso; omega)
              | (have hf : fdec bs ep = ((0, []), 0, 2) := by first | exact fd_form (by omega) (by assumption) (by omega)
                 exact ⟨hB, .inr ⟨by rw [hf]; decide, by rw [hf]⟩⟩)
          · refine L_yes rfl rfl rfl (decide_eq_false h4) ?_
            refine L_run (R_field (r := 1) rfl fld43_1 rfl) rfl ?_
            refine L_yes rfl rfl rfl (decide_eq_false h4) ?_
            refine L_run (R_load1 rfl scl41 (hj1.cell (i := 1) rfl)) rfl ?_
            refine L_yes rfl rfl rfl (decide_eq_false h4) ?_
            refine L_run (R_move rfl) rfl ?_
            refine L_yes rfl rfl rfl (decide_eq_false h4) ?_
            refine L_run (R_neq rfl rfl) rfl ?_
            refine L_run (R_pickF rfl (decide_eq_false h4) rfl) rfl ?_
            refine L_run (R_assign rfl) rfl ?_
            refine L_nil (N_then ?_)
            refine C_if rfl (fun h5 => ?_) (fun h5 => ?_)
            · refine C_seq (C_reg rfl ?_)
              refine L_run (R_build (pv := []) (cs := [.int .i64 0, .int .u32 0, .slice none 0 0]) rfl (by kernel_rfl)) rfl ?_
              refine L_stA (vs := [.int .i64 0, .int .u32 0, .slice none 0 0]) rfl rfl rfl sz43 rfl hb1 rfl ?_
              intro w21 hb14 hs20 hz15
              replace hB := gb_trg hB hs20 ge1
              replace hS := hS.old hs20 ge1
              replace hS_1 := hS_1.old hs20 ge1
              replace hb4 := hb4.grown hs20 (ne_gt lt1)
              replace hS_2 := hS_2.grown hs20 (by rintro _ ⟨rfl⟩; omega)
              replace hj1 := hj1.grown hs20 (ne_gt lt8)
              refine L_run (R_assign rfl) rfl ?_
              refine L_run (R_assign rfl) rfl ?_
              refine L_nil (N_then (C_ret (R_in ?_)))
              refine retC2 (vs := [.int .i64 0, .int .u32 0, .slice none 0 0]) Tryd.results22 rfl agg43 (At.pre (hb14.at_ 0) rfl) rfl rfl rfl ?_
              first
                | (exfalso; omega)
                | (have hf : fdec bs ep = ((0, []), 0, 2) := by first | exact fd_form (by omega) (by assumption) (by omega)
                   exact ⟨hB, .inr ⟨by rw [hf]; decide, by rw [hf]⟩⟩)
            · refine C_seq (C_reg rfl ?_)
              refine L_run (R_move rfl) rfl ?_
              refine L_run (R_move rfl) rfl ?_
              refine L_run (R_lenSl rfl slc25) rfl ?_
              refine L_run (R_gtr rfl rfl) rfl ?_
              refine L_run (R_assign rfl) rfl ?_
              refine L_nil (N_then ?_)
              refine C_if rfl (fun h6 => ?_) (fun h6 => ?_)
              · refine C_seq (C_reg rfl ?_)
                refine L_run (R_build (pv := []) (cs := [.int .i64 0, .int .u32 0, .slice none 0 0]) rfl (by kernel_rfl)) rfl ?_
                refine L_stA (vs := [.int .i64 0, .int .u32 0, .slice none 0 0]) rfl rfl rfl sz43 rfl hb1 rfl ?_
                intro w22 hb15 hs21 hz16
                replace hB := gb_trg hB hs21 ge1
                replace hS := hS.old hs21 ge1
                replace hS_1 := hS_1.old hs21 ge1
                replace hb4 := hb4.grown hs21 (ne_gt lt1)
                replace hS_2 := hS_2.grown hs21 (by rintro _ ⟨rfl⟩; omega)
                replace hj1 := hj1.grown hs21 (ne_gt lt8)
                refine L_run (R_assign rfl) rfl ?_
                refine L_run (R_assign rfl) rfl ?_
                refine L_nil (N_then (C_ret (R_in ?_)))
                refine retC2 (vs := [.int .i64 0, .int .u32 0, .slice none 0 0]) Tryd.results22 rfl agg43 (At.pre (hb15.at_ 0) rfl) rfl rfl rfl ?_
                first
                  | (exfalso; omega)
                  | (have hf : fdec bs ep = ((0, []), 0, 1) := by first | exact fd_short (by omega) | exact fd_cut (by omega) (by assumption) (by omega) (by omega)
                     exact ⟨hB, .inr ⟨by rw [hf]; decide, by rw [hf]⟩⟩)
              · refine C_seq ?_
                refine C_join (fun a_ w_ => (∃ (σ_ : Nat → Value), a_ = Ac 75 σ_ [] [(0, .slice A bs.length c), (1, .int .u32 (ep : Int)), (4, .pointer (some ⟨g1, 0, none⟩)), (5, .int .i64 0), (6, .int .i64 0), (7, .pointer (some ⟨g3, 0, none⟩)), (8, .int .i64 ((getN ((bs.drop 4).take 2) : Nat) : Int)), (9, .pointer (some ⟨g4, 0, none⟩)), (10, .int .i64 ((11 + getN ((bs.drop 4).take 2) : Nat) : Int)), (11, .slice A bs.length c), (12, .int .i64 (bs.length : Int)), (13, .bool (decide ((bs.length : Int) < 11))), (15, .slice A bs.length c), (16, .slice A_1 ((bs.take 11).length) c), (17, .pointer (some ⟨g2, o1, none⟩)), (18, .agg (fl encB (bs.take 11)).toArray), (19, .agg (fl encB (bs.take 11)).toArray), (20, .agg (fl encB (List.replicate 11 (0 : UInt8))).toArray), (21, .bool (decide (bs.take 11 = (List.replicate 11 (0 : UInt8))))), (23, .slice A_2 ((((bs.take 11).drop 4).take 2).length) (11 - 4)), (24, .int .u64 ((getN ((((bs.take 11).drop 4).take 2).take 8) : Nat) : Int)), (25, .int .i64 ((getN ((bs.drop 4).take 2) : Nat) : Int)), (33, .int .i64 ((getN ((bs.drop 4).take 2) : Nat) : Int)), (34, .int .i64 ((11 + getN ((bs.drop 4).take 2) : Nat) : Int)), (43, .bool (decide (((getN ((bs.drop 7).take 4) : Nat) : Int) ≠ (ep : Int)))), (44, .agg #[.int .i64 (((bs.getD 6 0).toNat : Nat) : Int), .int .u32 ((getN ((bs.drop 7).take 4) : Nat) : Int), .slice none 0 0]), (45, .bool (decide (1 ≤ (((bs.getD 6 0).toNat : Nat) : Int) ∧ (((bs.getD 6 0).toNat : Nat) : Int) ≤ 4 ∧ 0 ≤ 197))), (46, .bool (decide (¬ (1 ≤ (((bs.getD 6 0).toNat : Nat) : Int) ∧ (((bs.getD 6 0).toNat : Nat) : Int) ≤ 4 ∧ 0 ≤ 197)))), (47, .bool (decide (¬ (1 ≤ (((bs.getD 6 0).toNat : Nat) : Int) ∧ (((bs.getD 6 0).toNat : Nat) : Int) ≤ 4 ∧ 0 ≤ 197)))), (48, .int .i64 ((getN ((bs.drop 4).take 2) : Nat) : Int)), (49, .bool (decide (197 < ((getN ((bs.drop 4).take 2) : Nat) : Int)))), (50, .bool (decide (197 < ((getN ((bs.drop 4).take 2) : Nat) : Int)))), (51, .bool (decide (197 < ((getN ((bs.drop 4).take 2) : Nat) : Int)))), (52, .pointer (some ⟨g4, 1, none⟩)), (53, .int .u32 ((getN ((bs.drop 7).take 4) : Nat) : Int)), (54, .int .u32 (ep : Int)), (55, .bool (decide (((getN ((bs.drop 7).take 4) : Nat) : Int) ≠ (ep : Int)))), (56, .bool (decide (((getN ((bs.drop 7).take 4) : Nat) : Int) ≠ (ep : Int)))), (58, .bool (decide ((bs.length : Int) < ((11 + getN ((bs.drop 4).take 2) : Nat) : Int)))), (59, .int .i64 ((11 + getN ((bs.drop 4).take 2) : Nat) : Int)), (60, .slice A bs.length c), (61, .int .i64 (bs.length : Int)), (62, .bool (decide ((bs.length : Int) < ((11 + getN ((bs.drop 4).take 2) : Nat) : Int)))), (64, .bool (decide (((getN (bs.take 4) : Nat) : Int) ≠ ((maskN (moreN 0 ((bs.drop 4).take ((11 + getN ((bs.drop 4).take 2)) - 4))) : Nat) : Int))))] ∧ w.grownBy w_ none ∧ Sli t1 lo w.heap.size w_ A (fl encB bs) ∧ Blk w_ g1 43 [.int .i64 0, .int .u32 0, .slice none 0 0] ∧ Sli t1 lo w.heap.size w_ A_1 (fl encB (bs.take 11)) ∧ Blk w_ g3 76 (fl encB (bs.take 11)) ∧ Sli 0 g3 (g3 + 1) w_ A_2 (fl encB (((bs.take 11).drop 4).take 2)) ∧ Blk w_ g4 43 [.int .i64 (((bs.getD 6 0).toNat : Nat) : Int), .int .u32 ((getN ((bs.drop 7).take 4) : Nat) : Int), .slice none 0 0])) ?_ ?_
                · refine C_draw2 rfl mix ?_
                  intro w23 hs22 hz17
                  replace hB := gb_tr hB hs22
                  replace hS := hS.gb hs22
                  replace hb1 := hb1.gb hs22
                  replace hS_1 := hS_1.gb hs22
                  replace hb4 := hb4.gb hs22
                  replace hS_2 := hS_2.gb hs22
                  replace hj1 := hj1.gb hs22
                  refine ⟨fun W_ => True, [2, 3, 4, 8, 9], ?_⟩
                  refine T_takeA (i := 3) rfl rfl (by kernel_rfl) (by kernel_rfl) (by kernel_rfl) (Y_of (fun _ _ => R_move rfl)) trivial rfl ?_
                  refine T_takeA (i := 4) rfl rfl (by kernel_rfl) (by kernel_rfl) (by kernel_rfl) (Y_of (fun _ _ => R_move rfl)) trivial rfl ?_
                  refine T_all (rs := [0, 5]) (by kernel_rfl) rfl (all2 (O_one rfl ?_) (O_one rfl ?_))
                  · refine T_slArrG (bs := bs.take 11) (i := 0) (j := 4) (k := .i64) (k' := .i64) (a := 0) (b := 0) EncB arr76 rfl hb4 hn1 (by omega) (by omega) rfl rfl ⟨_, rfl⟩ ?_
                    intro A_5 hS_5
                    have e_ : ((bs.take 11).drop 0).take (4 - 0) = (bs.take 11).take 4 := rfl
                    rw [e_] at hS_5 ⊢; clear e_
                    refine L_nil (N_then ⟨fun hN_ => trivial, ?_⟩)
                    refine T_all (rs := [1, 5]) (by kernel_rfl) rfl (all2 (O_one rfl ?_) (O_one rfl ?_))
                    · refine L_call rfl cb36 (word_get (bs := (bs.take 11).take 4) hS_5 (by first | omega | (simp; done) | (simp; omega))) rfl ?_
                      rintro _ w24 ⟨hs23, rfl⟩
                      replace hB := gb_tr hB hs23
                      replace hS := hS.gb hs23
                      replace hb1 := hb1.gb hs23
                      replace hS_1 := hS_1.gb hs23
                      replace hb4 := hb4.gb hs23
                      replace hS_2 := hS_2.gb hs23
                      replace hj1 := hj1.gb hs23
                      replace hS_5 := hS_5.gb hs23
                      refine L_nil (N_then ⟨fun hN_ => trivial, ?_⟩)
                      refine T_takeA (i := 2) rfl rfl (by kernel_rfl) (by kernel_rfl) (by kernel_rfl) (Y_of (fun _ _ => R_eqv (R_conv rfl any22 int41) (v' := .int .u32 ((getN (bs.take 4) : Nat) : Int)) (cv_sum))) trivial rfl ?_
                      refine T_all (rs := [5]) (by kernel_rfl) rfl (all1 (O_one rfl ?_))
                      refine T_slLH (xs := bs) (i := 4) (j := (11 + getN ((bs.drop 4).take 2))) EncB rfl rfl rfl (by first | rfl | omega) (by first | rfl | omega) slc25 (by first | omega | (simp; done) | (simp; omega)) (by first | omega | (simp; done) | (simp; omega)) (by first | omega | (simp; done) | (simp; omega)) hS rfl ?_
                      intro A_6 hS_6
                      refine L_nil (N_then ⟨fun hN_ => trivial, ?_⟩)
                      refine T_all (rs := [6]) (by kernel_rfl) rfl (all1 (O_one rfl ?_))
                      refine L_call rfl cb39 (of_ok (bs := (bs.drop 4).take ((11 + getN ((bs.drop 4).take 2)) - 4)) hS_6 (by first | omega | (simp; done) | (simp; omega)) (hT.gb hB)) rfl ?_
                      rintro _ w25 ⟨hs24, rfl⟩
                      replace hB := gb_tr hB hs24
                      replace hS := hS.gb hs24
                      replace hb1 := hb1.gb hs24
                      replace hS_1 := hS_1.gb hs24
                      replace hb4 := hb4.gb hs24
                      replace hS_2 := hS_2.gb hs24
                      replace hj1 := hj1.gb hs24
                      replace hS_5 := hS_5.gb hs24
                      replace hS_6 := hS_6.gb hs24
                      refine L_nil (N_then ⟨fun hN_ => trivial, ?_⟩)
                      refine T_all (rs := [7]) (by kernel_rfl) rfl (all1 (O_one rfl ?_))
                      refine L_call rfl cb38 (mask_ok (s := (moreN 0 ((bs.drop 4).take ((11 + getN ((bs.drop 4).take 2)) - 4)))) (moreN_lt _ _ (by decide))) rfl ?_
                      rintro _ w26 ⟨hs25, rfl⟩
                      replace hB := gb_tr hB hs25
                      replace hS := hS.gb hs25
                      replace hb1 := hb1.gb hs25
                      replace hS_1 := hS_1.gb hs25
                      replace hb4 := hb4.gb hs25
                      replace hS_2 := hS_2.gb hs25
                      replace hj1 := hj1.gb hs25
                      replace hS_5 := hS_5.gb hs25
                      replace hS_6 := hS_6.gb hs25
                      refine L_nil (N_then ⟨fun hN_ => trivial, ?_⟩)
                      refine T_takeA (i := 8) rfl rfl (by kernel_rfl) (by kernel_rfl) (by kernel_rfl) (Y_of (fun _ _ => R_neq rfl rfl)) trivial rfl ?_
                      refine T_takeA (i := 9) rfl rfl (by kernel_rfl) (by kernel_rfl) (by kernel_rfl) (Y_of (fun _ _ => R_assign rfl)) trivial rfl ?_
                      refine T_done (by kernel_rfl) (CalmE.normal ?_)
                      exact ⟨rfl, ⟨_, Ac_frg ⟨rfl, rfl, rfl, rfl, rfl, rfl, rfl, rfl, rfl, rfl, rfl, rfl, rfl, rfl, rfl, rfl, rfl, rfl, rfl, rfl, rfl, rfl, rfl, rfl, rfl, rfl, rfl, rfl, rfl, rfl, rfl, rfl, rfl, rfl, rfl, rfl, rfl, rfl, rfl, rfl, rfl, rfl, rfl, rfl, trivial⟩, hB, hS, hb1, hS_1, hb4, hS_2, hj1⟩⟩
                    · refine T_slLH (xs := bs) (i := 4) (j := (11 + getN ((bs.drop 4).take 2))) EncB rfl rfl rfl (by first | rfl | omega) (by first | rfl | omega) slc25 (by first | omega | (simp; done) | (simp; omega)) (by first | omega | (simp; done) | (simp; omega)) (by first | omega | (simp; done) | (simp; omega)) hS rfl ?_
                      intro A_7 hS_7
                      refine L_nil (N_then ⟨fun hN_ => trivial, ?_⟩)
                      refine T_all (rs := [1]) (by kernel_rfl) rfl (all1 (O_one rfl ?_))
                      refine L_call rfl cb36 (word_get (bs := (bs.take 11).take 4) hS_5 (by first | omega | (simp; done) | (simp; omega))) rfl ?_
                      rintro _ w27 ⟨hs26, rfl⟩
                      replace hB := gb_tr hB hs26
                      replace hS := hS.gb hs26
                      replace hb1 := hb1.gb hs26
                      replace hS_1 := hS_1.gb hs26
                      replace hb4 := hb4.gb hs26
                      replace hS_2 := hS_2.gb hs26
                      replace hj1 := hj1.gb hs26
                      replace hS_5 := hS_5.gb hs26
                      replace hS_7 := hS_7.gb hs26
                      refine L_nil (N_then ⟨fun hN_ => trivial, ?_⟩)
                      refine T_takeA (i := 2) rfl rfl (by kernel_rfl) (by kernel_rfl) (by kernel_rfl) (Y_of (fun _ _ => R_eqv (R_conv rfl any22 int41) (v' := .int .u32 ((getN (bs.take 4) : Nat) : Int)) (cv_sum))) trivial rfl ?_
                      refine T_all (rs := [6]) (by kernel_rfl) rfl (all1 (O_one rfl ?_))
                      refine L_call rfl cb39 (of_ok (bs := (bs.drop 4).take ((11 + getN ((bs.drop 4).take 2)) - 4)) hS_7 (by first | omega | (simp; done) | (simp; omega)) (hT.gb hB)) rfl ?_
                      rintro _ w28 ⟨hs27, rfl⟩
                      replace hB := gb_tr hB hs27
                      replace hS := hS.gb hs27
                      replace hb1 := hb1.gb hs27
                      replace hS_1 := hS_1.gb hs27
                      replace hb4 := hb4.gb hs27
                      replace hS_2 := hS_2.gb hs27
                      replace hj1 := hj1.gb hs27
                      replace hS_5 := hS_5.gb hs27
                      replace hS_7 := hS_7.gb hs27
                      refine L_nil (N_then ⟨fun hN_ => trivial, ?_⟩)
                      refine T_all (rs := [7]) (by kernel_rfl) rfl (all1 (O_one rfl ?_))
                      refine L_call rfl cb38 (mask_ok (s := (moreN 0 ((bs.drop 4).take ((11 + getN ((bs.drop 4).take 2)) - 4)))) (moreN_lt _ _ (by decide))) rfl ?_
                      rintro _ w29 ⟨hs28, rfl⟩
                      replace hB := gb_tr hB hs28
                      replace hS := hS.gb hs28
                      replace hb1 := hb1.gb hs28
                      replace hS_1 := hS_1.gb hs28
                      replace hb4 := hb4.gb hs28
                      replace hS_2 := hS_2.gb hs28
                      replace hj1 := hj1.gb hs28
                      replace hS_5 := hS_5.gb hs28
                      replace hS_7 := hS_7.gb hs28
                      refine L_nil (N_then ⟨fun hN_ => trivial, ?_⟩)
                      refine T_takeA (i := 8) rfl rfl (by kernel_rfl) (by kernel_rfl) (by kernel_rfl) (Y_of (fun _ _ => R_neq rfl rfl)) trivial rfl ?_
                      refine T_takeA (i := 9) rfl rfl (by kernel_rfl) (by kernel_rfl) (by kernel_rfl) (Y_of (fun _ _ => R_assign rfl)) trivial rfl ?_
                      refine T_done (by kernel_rfl) (CalmE.normal ?_)
                      exact ⟨rfl, ⟨_, Ac_frg ⟨rfl, rfl, rfl, rfl, rfl, rfl, rfl, rfl, rfl, rfl, rfl, rfl, rfl, rfl, rfl, rfl, rfl, rfl, rfl, rfl, rfl, rfl, rfl, rfl, rfl, rfl, rfl, rfl, rfl, rfl, rfl, rfl, rfl, rfl, rfl, rfl, rfl, rfl, rfl, rfl, rfl, rfl, rfl, rfl, trivial⟩, hB, hS, hb1, hS_1, hb4, hS_2, hj1⟩⟩
                  · refine T_slLH (xs := bs) (i := 4) (j := (11 + getN ((bs.drop 4).take 2))) EncB rfl rfl rfl (by first | rfl | omega) (by first | rfl | omega) slc25 (by first | omega | (simp; done) | (simp; omega)) (by first | omega | (simp; done) | (simp; omega)) (by first | omega | (simp; done) | (simp; omega)) hS rfl ?_
                    intro A_8 hS_8
                    refine L_nil (N_then ⟨fun hN_ => trivial, ?_⟩)
                    refine T_all (rs := [0]) (by kernel_rfl) rfl (all1 (O_one rfl ?_))
                    refine T_slArrG (bs := bs.take 11) (i := 0) (j := 4) (k := .i64) (k' := .i64) (a := 0) (b := 0) EncB arr76 rfl hb4 hn1 (by omega) (by omega) rfl rfl ⟨_, rfl⟩ ?_
                    intro A_9 hS_9
                    have e_ : ((bs.take 11).drop 0).take (4 - 0) = (bs.take 11).take 4 := rfl
                    rw [e_] at hS_9 ⊢; clear e_
                    refine L_nil (N_then ⟨fun hN_ => trivial, ?_⟩)
                    refine T_all (rs := [1]) (by kernel_rfl) rfl (all1 (O_one rfl ?_))
                    refine L_call rfl cb36 (word_get (bs := (bs.take 11).take 4) hS_9 (by first | omega | (simp; done) | (simp; omega))) rfl ?_
                    rintro _ w30 ⟨hs29, rfl⟩
                    replace hB := gb_tr hB hs29
                    replace hS := hS.gb hs29
                    replace hb1 := hb1.gb hs29
                    replace hS_1 := hS_1.gb hs29
                    replace hb4 := hb4.gb hs29
                    replace hS_2 := hS_2.gb hs29
                    replace hj1 := hj1.gb hs29
                    replace hS_8 := hS_8.gb hs29
                    replace hS_9 := hS_9.gb hs29
                    refine L_nil (N_then ⟨fun hN_ => trivial, ?_⟩)
                    refine T_takeA (i := 2) rfl rfl (by kernel_rfl) (by kernel_rfl) (by kernel_rfl) (Y_of (fun _ _ => R_eqv (R_conv rfl any22 int41) (v' := .int .u32 ((getN (bs.take 4) : Nat) : Int)) (cv_sum))) trivial rfl ?_
                    refine T_all (rs := [6]) (by kernel_rfl) rfl (all1 (O_one rfl ?_))
                    refine L_call rfl cb39 (of_ok (bs := (bs.drop 4).take ((11 + getN ((bs.drop 4).take 2)) - 4)) hS_8 (by first | omega | (simp; done) | (simp; omega)) (hT.gb hB)) rfl ?_
                    rintro _ w31 ⟨hs30, rfl⟩
                    replace hB := gb_tr hB hs30
                    replace hS := hS.gb hs30
                    replace hb1 := hb1.gb hs30
                    replace hS_1 := hS_1.gb hs30
                    replace hb4 := hb4.gb hs30
                    replace hS_2 := hS_2.gb hs30
                    replace hj1 := hj1.gb hs30
                    replace hS_8 := hS_8.gb hs30
                    replace hS_9 := hS_9.gb hs30
                    refine L_nil (N_then ⟨fun hN_ => trivial, ?_⟩)
                    refine T_all (rs := [7]) (by kernel_rfl) rfl (all1 (O_one rfl ?_))
                    refine L_call rfl cb38 (mask_ok (s := (moreN 0 ((bs.drop 4).take ((11 + getN ((bs.drop 4).take 2)) - 4)))) (moreN_lt _ _ (by decide))) rfl ?_
                    rintro _ w32 ⟨hs31, rfl⟩
                    replace hB := gb_tr hB hs31
                    replace hS := hS.gb hs31
                    replace hb1 := hb1.gb hs31
                    replace hS_1 := hS_1.gb hs31
                    replace hb4 := hb4.gb hs31
                    replace hS_2 := hS_2.gb hs31
                    replace hj1 := hj1.gb hs31
                    replace hS_8 := hS_8.gb hs31
                    replace hS_9 := hS_9.gb hs31
                    refine L_nil (N_then ⟨fun hN_ => trivial, ?_⟩)
                    refine T_takeA (i := 8) rfl rfl (by kernel_rfl) (by kernel_rfl) (by kernel_rfl) (Y_of (fun _ _ => R_neq rfl rfl)) trivial rfl ?_
                    refine T_takeA (i := 9) rfl rfl (by kernel_rfl) (by kernel_rfl) (by kernel_rfl) (Y_of (fun _ _ => R_assign rfl)) trivial rfl ?_
                    refine T_done (by kernel_rfl) (CalmE.normal ?_)
                    exact ⟨rfl, ⟨_, Ac_frg ⟨rfl, rfl, rfl, rfl, rfl, rfl, rfl, rfl, rfl, rfl, rfl, rfl, rfl, rfl, rfl, rfl, rfl, rfl, rfl, rfl, rfl, rfl, rfl, rfl, rfl, rfl, rfl, rfl, rfl, rfl, rfl, rfl, rfl, rfl, rfl, rfl, rfl, rfl, rfl, rfl, rfl, rfl, rfl, rfl, trivial⟩, hB, hS, hb1, hS_1, hb4, hS_2, hj1⟩⟩
                · clear hB
                  clear hS hb1 hS_1 hb4 hS_2 hj1
                  rintro a_ w33 ⟨σ_, rfl, hB, hS, hb1, hS_1, hb4, hS_2, hj1⟩
                  refine N_then ?_
                  refine C_if rfl (fun h7 => ?_) (fun h7 => ?_)
                  · refine C_seq (C_reg rfl ?_)
                    refine L_run (R_build (pv := []) (cs := [.int .i64 0, .int .u32 0, .slice none 0 0]) rfl (by kernel_rfl)) rfl ?_
                    refine L_stA (vs := [.int .i64 0, .int .u32 0, .slice none 0 0]) rfl rfl rfl sz43 rfl hb1 rfl ?_
                    intro w34 hb16 hs32 hz18
                    replace hB := gb_trg hB hs32 ge1
                    replace hS := hS.old hs32 ge1
                    replace hS_1 := hS_1.old hs32 ge1
                    replace hb4 := hb4.grown hs32 (ne_gt lt1)
                    replace hS_2 := hS_2.grown hs32 (by rintro _ ⟨rfl⟩; omega)
                    replace hj1 := hj1.grown hs32 (ne_gt lt8)
                    refine L_run (R_assign rfl) rfl ?_
                    refine L_run (R_assign rfl) rfl ?_
                    refine L_nil (N_then (C_ret (R_in ?_)))
                    refine retC2 (vs := [.int .i64 0, .int .u32 0, .slice none 0 0]) Tryd.results22 rfl agg43 (At.pre (hb16.at_ 0) rfl) rfl rfl rfl ?_
                    first
                      | (exfalso; omega)
                      | (have hf : fdec bs ep = ((0, []), 0, 3) := by first | exact fd_sum (by omega) (by assumption) (by omega) (by omega) (by omega)
                         exact ⟨hB, .inr ⟨by rw [hf]; decide, by rw [hf]⟩⟩)
                  · refine C_seq (C_reg rfl ?_)
                    refine L_buildSlice (pv := []) (cs := []) slc25 zer5 rfl rfl (by kernel_rfl) rfl ?_
                    intro g7 w35 eg6 hb17 hs33 hz19
                    have ge7 : w.heap.size ≤ g7 := eg_ge hB eg6
                    have lt10 : g1 < g7 := lt_of_eg hb1.lt eg6
                    have lt11 : g3 < g7 := lt_of_eg hb4.lt eg6
                    have lt12 : g4 < g7 := lt_of_eg hj1.lt eg6
                    replace hB := gb_tr hB hs33
                    replace hS := hS.gb hs33
                    replace hb1 := hb1.gb hs33
                    replace hS_1 := hS_1.gb hs33
                    replace hb4 := hb4.gb hs33
                    replace hS_2 := hS_2.gb hs33
                    replace hj1 := hj1.gb hs33
                    refine L_run (R_move rfl) rfl ?_
                    refine L_run (R_move rfl) rfl ?_
                    refine T_slLH (xs := bs) (i := 11) (j := (11 + getN ((bs.drop 4).take 2))) EncB rfl rfl rfl (by first | rfl | omega) (by first | rfl | omega) slc25 (by first | omega | (simp; done) | (simp; omega)) (by first | omega | (simp; done) | (simp; omega)) (by first | omega | (simp; done) | (simp; omega)) hS rfl ?_
                    intro A_10 hS_10
                    have hlo1 : g7 ≤ w35.heap.size := Nat.le_of_lt hb17.lt
                    have ho1 : World.ownsRow w35 g7 5 1 (.slice (some ⟨g7, 0, none⟩) ([] : List UInt8).length 0) ([] : List UInt8).length (fl encB []) := Blk.own (sz := 1) (m := 0) hb17 (by decide) rfl (Nat.le_refl _)
                    refine T_append (xs := []) (ys := (bs.drop 11).take ((11 + getN ((bs.drop 4).take 2)) - 11)) EncB slc25 rfl rfl ho1 hS_10 (by first | omega | (simp; done) | (simp; omega)) hlo1 rfl ?_
                    intro A_11 c_1 w36 ho2 hs34 hat1
                    replace hB := gb_tro hB ho1 hs34 ge7
                    replace hS := hS.grown hs34 (fun k hk => .inr (Nat.le_trans ge7 (World.ownsRow.lt ho1 k hk).1))
                    replace hb1 := blk_own hb1 ho1 rfl hs34
                    replace hS_1 := hS_1.grown hs34 (fun k hk => .inr (Nat.le_trans ge7 (World.ownsRow.lt ho1 k hk).1))
                    replace hb4 := blk_own hb4 ho1 rfl hs34
                    replace hS_2 := hS_2.grown hs34 (fun k hk => by have := World.ownsRow.lt ho1 k hk; omega)
                    replace hj1 := blk_own hj1 ho1 rfl hs34
                    replace hS_10 := hS_10.grown hs34 (fun k hk => .inr (Nat.le_trans ge7 (World.ownsRow.lt ho1 k hk).1))
                    replace hlo1 := Nat.le_trans hlo1 hs34.size
                    simp only [List.nil_append] at ho2 ⊢
                    refine L_run (R_field (r := 2) rfl fld43_2 rfl) rfl ?_
                    refine L_st1 rfl rfl rfl sz25 hj1 rfl ?_
                    intro w37 hb18 hs35 hz20
                    replace hB := gb_trg hB hs35 ge6
                    replace hS := hS.old hs35 ge6
                    replace hb1 := hb1.grown hs35 (ne_lt lt8)
                    replace hS_1 := hS_1.old hs35 ge6
                    replace hb4 := hb4.grown hs35 (ne_lt lt9)
                    replace hS_2 := hS_2.grown hs35 (by rintro _ ⟨rfl⟩; omega)
                    replace hS_10 := hS_10.old hs35 ge6
                    replace hlo1 := Nat.le_trans hlo1 hs35.size
                    replace ho2 := own_other ho2 hj1 rfl hs35
                    refine L_nil (N_then (C_seq (C_reg rfl ?_)))
                    refine L_run (R_loadA (vs := [.int .i64 (((bs.getD 6 0).toNat : Nat) : Int), .int .u32 ((getN ((bs.drop 7).take 4) : Nat) : Int), .slice A_11 (((bs.drop 11).take ((11 + getN ((bs.drop 4).take 2)) - 11)).length) c_1]) rfl agg43 (At.pre (hb18.at_ 0) rfl) rfl) rfl ?_
                    refine L_run (R_move rfl) rfl ?_
                    refine L_stA (vs := [.int .i64 (((bs.getD 6 0).toNat : Nat) : Int), .int .u32 ((getN ((bs.drop 7).take 4) : Nat) : Int), .slice A_11 (((bs.drop 11).take ((11 + getN ((bs.drop 4).take 2)) - 11)).length) c_1]) rfl rfl rfl sz43 rfl hb1 rfl ?_
                    intro w38 hb19 hs36 hz21
                    replace hB := gb_trg hB hs36 ge1
                    replace hS := hS.old hs36 ge1
                    replace hS_1 := hS_1.old hs36 ge1
                    replace hb4 := hb4.grown hs36 (ne_gt lt1)
                    replace hS_2 := hS_2.grown hs36 (by rintro _ ⟨rfl⟩; omega)
                    replace hb18 := hb18.grown hs36 (ne_gt lt8)
                    replace hS_10 := hS_10.old hs36 ge1
                    replace hlo1 := Nat.le_trans hlo1 hs36.size
                    replace ho2 := own_other ho2 hb1 rfl hs36
                    refine L_run (R_assign rfl) rfl ?_
                    refine L_run (R_assign rfl) rfl ?_
                    refine L_nil (N_then (C_ret (R_in ?_)))
                    refine retC2 (vs := [.int .i64 (((bs.getD 6 0).toNat : Nat) : Int), .int .u32 ((getN ((bs.drop 7).take 4) : Nat) : Int), .slice A_11 (((bs.drop 11).take ((11 + getN ((bs.drop 4).take 2)) - 11)).length) c_1]) Tryd.results22 rfl agg43 (At.pre (hb19.at_ 0) rfl) rfl rfl rfl ?_
                    have he_ : getN ((bs.drop 7).take 4) = ep := by omega
                    have hf := fd_ok (bs := bs) (ep := ep) (by omega) (by assumption) (by omega) (by omega) (by omega)
                    exact ⟨hB, .inl ⟨by rw [hf], _, _, by rw [hf, he_], by rw [hf]; exact (own_lo ho2 ge7)⟩⟩

theorem dec_y {w : World} {t1 lo hi : Nat} {A : Option Addr} {c ep : Nat} {bs : List UInt8} (hS : Sli t1 lo hi w A (fl encB bs)) (hb : bs.length ≤ 1000000) (hc : bs.length ≤ c) (hT : Tbw w) (hep : ep < 4294967296) (hq : (fdec bs ep).2.2 = 0) : Runs Tryd.prog 22 #[.slice A bs.length c, .int .u32 (ep : Int)] w (fun v w' => w.grownBy w' none ∧ ∃ A' c', v = .tuple #[.agg #[.int .i64 (((fdec bs ep).1.1 : Nat) : Int), .int .u32 (ep : Int), .slice A' (fdec bs ep).1.2.length c'], .int .i64 (((fdec bs ep).2.1 : Nat) : Int), .int .i64 0] ∧ World.ownsRow w' w.heap.size 5 1 (.slice A' (fdec bs ep).1.2.length c') (fdec bs ep).1.2.length (fl encB (fdec bs ep).1.2)) := (dec_ok hS hb hc hT hep).mono fun v w' h => by
  obtain ⟨h1, h2 | h2⟩ := h
  · exact ⟨h1, h2.2⟩
  · exact absurd hq h2.1
theorem dec_n {w : World} {t1 lo hi : Nat} {A : Option Addr} {c ep : Nat} {bs : List UInt8} (hS : Sli t1 lo hi w A (fl encB bs)) (hb : bs.length ≤ 1000000) (hc : bs.length ≤ c) (hT : Tbw w) (hep : ep < 4294967296) (hq : ¬ (fdec bs ep).2.2 = 0) : Runs Tryd.prog 22 #[.slice A bs.length c, .int .u32 (ep : Int)] w (fun v w' => w.grownBy w' none ∧ v = .tuple #[.agg #[.int .i64 0, .int .u32 0, .slice none 0 0], .int .i64 0, .int .i64 (fdec bs ep).2.2]) := (dec_ok hS hb hc hT hep).mono fun v w' h => by
  obtain ⟨h1, h2 | h2⟩ := h
  · exact absurd h2.1 hq
  · exact ⟨h1, h2.2⟩
end Go.Proofs.YtnggbodilhpohaaDoor
