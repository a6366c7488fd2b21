/-
  Contracts of tx.Decode.
-/
import Derived.Test.YtbmohojdlgedpaaKa
namespace Go.Proofs.Ytbmohojdlgedpaa
open Go.RowKit Gw Pl
set_option linter.unusedVariables false
set_option linter.unusedSimpArgs false
theorem agg34 : aggB Try.prog 34 6 = true := by kernel_rfl
theorem cb60 : callB Try.prog 60 = true := by kernel_rfl
theorem cb62 : callB Try.prog 62 = true := by kernel_rfl
theorem mix : Try.prog.follows .mixedOrders = true := by kernel_rfl
theorem sz3 : szB Try.prog 3 1 = true := by kernel_rfl
theorem sz34 : szB Try.prog 34 6 = true := by kernel_rfl
theorem sz9 : szB Try.prog 9 1 = true := by kernel_rfl
theorem zer34 : (Try.prog.info? 34).bind (·.zero) = some (.agg #[.string (⟨#[]⟩), .bool false, .bool false, .string (⟨#[]⟩), .string (⟨#[]⟩), .int .i64 0]) := by kernel_rfl
theorem txdec_ok {w : World} {t1 lo hi : Nat} {A : Option Addr} {c : Nat} {bs : List UInt8} (hS : Sli t1 lo hi w A (fl encB bs)) (hl : bs.length ≤ 1000000) (hc : bs.length ≤ c) :
    Runs Try.prog 44 #[.slice A bs.length c] w (fun v_ w' => w.grownBy w' none ∧ v_ = .tuple #[.agg (encC (dec bs).1).toArray, .int .i64 (dec bs).2]) := by
 have hB := gb_refl w none
 have hl1x : (bs.drop 1).length ≤ 1000000 := by rw [List.length_drop]; omega
 have hc1 : (bs.drop 1).length ≤ c - 1 := by rw [List.length_drop]; omega
 replace hS := hS.top
 refine enter Try.func44 Try.ntmps44 rfl rfl ?_
 refine C_seq (C_reg rfl ?_)
 refine L_alloc (cs := [.string (⟨#[]⟩), .bool false, .bool false, .string (⟨#[]⟩), .string (⟨#[]⟩), .int .i64 0]) zer34 rfl rfl ?_
 intro g1 w1 eg1 hb1 hs1 hz1
 have ge1 : w.heap.size ≤ g1 := eg_ge hB eg1
 replace hB := gb_tr hB hs1
 replace hS := hS.gb hs1
 refine L_run (R_assign rfl) rfl ?_
 refine L_nil (N_then (C_seq (C_block (C_seq (C_reg rfl ?_)))))
 refine L_run (R_move rfl) rfl ?_
 refine L_run (R_lenSl rfl slc63) rfl ?_
 refine L_run (R_eql rfl rfl) rfl ?_
 refine L_run (R_assign rfl) rfl ?_
 refine L_nil (N_then ?_)
 refine C_if rfl (fun h1 => ?_) (fun h1 => ?_)
 ·refine C_seq (C_reg rfl ?_)
  refine L_run (R_build (pv := []) (cs := [.string (⟨#[]⟩), .bool false, .bool false, .string (⟨#[]⟩), .string (⟨#[]⟩), .int .i64 0]) rfl (by kernel_rfl)) rfl ?_
  refine L_stA (vs := [.string (⟨#[]⟩), .bool false, .bool false, .string (⟨#[]⟩), .string (⟨#[]⟩), .int .i64 0]) rfl rfl rfl sz34 rfl hb1 rfl ?_
  intro w2 hb2 hs2 hz2
  replace hB := gb_trg hB hs2 ge1
  replace hS := hS.old hs2 ge1
  refine L_run (R_assign rfl) rfl ?_
  refine L_nil (N_then (C_ret (R_in (R_then ?_))))
  refine retC1 (vs := [.string (⟨#[]⟩), .bool false, .bool false, .string (⟨#[]⟩), .string (⟨#[]⟩), .int .i64 0]) Try.results44 rfl agg34 (At.pre (hb2.at_ 0) rfl) rfl rfl ?_
  have hb0_ : bs = [] := List.eq_nil_of_length_eq_zero (by omega)
  subst hb0_; exact ⟨hB, rfl⟩
 ·refine C_seq (C_reg rfl ?_)
  refine L_run (R_move rfl) rfl ?_
  have hl1 : 0 < bs.length := by first | omega | (simp; omega)
  refine T_index (xs := bs) (i := 0) EncB rfl rfl (by first | rfl | omega) slc63 hl1 hS rfl ?_
  intro g2 o1 ha1
  refine L_run (R_load1 rfl scl5 (ha1 0 _ rfl)) rfl ?_
  refine L_run (R_geq rfl rfl) rfl ?_
  refine L_run (R_assign rfl) rfl ?_
  refine L_nil (N_then ?_)
  refine C_if rfl (fun h2 => ?_) (fun h2 => ?_)
  ·refine C_seq (C_reg rfl ?_)
   refine L_run (R_build (pv := []) (cs := [.string (⟨#[]⟩), .bool false, .bool false, .string (⟨#[]⟩), .string (⟨#[]⟩), .int .i64 0]) rfl (by kernel_rfl)) rfl ?_
   refine L_stA (vs := [.string (⟨#[]⟩), .bool false, .bool false, .string (⟨#[]⟩), .string (⟨#[]⟩), .int .i64 0]) rfl rfl rfl sz34 rfl hb1 rfl ?_
   intro w3 hb3 hs3 hz3
   replace hB := gb_trg hB hs3 ge1
   replace hS := hS.old hs3 ge1
   refine L_run (R_assign rfl) rfl ?_
   refine L_nil (N_then (C_ret (R_in (R_then ?_))))
   refine retC1 (vs := [.string (⟨#[]⟩), .bool false, .bool false, .string (⟨#[]⟩), .string (⟨#[]⟩), .int .i64 0]) Try.results44 rfl agg34 (At.pre (hb3.at_ 0) rfl) rfl rfl ?_
   rw [dec_b (by omega) (by omega)]; exact ⟨hB, rfl⟩
  ·refine C_skip (N_in (N_then (C_seq (C_reg rfl ?_))))
   refine L_run (R_move rfl) rfl ?_
   refine T_slL (xs := bs) (i := 1) EncB rfl rfl (by first | rfl | omega) slc63 (by first | omega | (simp; done) | (simp; omega)) hc hS rfl ?_
   intro A_1 hS_1
   refine L_run (R_build (pv := [(0, .slice A_1 ((bs.drop 1).length) (c - 1))]) (cs := [.slice A_1 ((bs.drop 1).length) (c - 1), .int .i64 0]) rfl (by kernel_rfl)) rfl ?_
   refine L_box (cs := [.slice A_1 ((bs.drop 1).length) (c - 1), .int .i64 0]) rfl rfl rfl ?_
   intro g3 w4 eg2 hb4 hs4 hz4
   have ge2 : w.heap.size ≤ g3 := eg_ge hB eg2
   have lt1 : g1 < g3 := lt_of_eg hb1.lt eg2
   replace hB := gb_tr hB hs4
   replace hS := hS.gb hs4
   replace hb1 := hb1.gb hs4
   replace ha1 := At.gb ha1 hs4 (by simp)
   replace hS_1 := hS_1.gb hs4
   refine L_run (R_assign rfl) rfl ?_
   refine L_nil (N_then (C_seq ?_))
   refine C_draw2 rfl mix ?_
   intro w5 hs5 hz5
   replace hB := gb_tr hB hs5
   replace hS := hS.gb hs5
   replace hb1 := hb1.gb hs5
   replace ha1 := At.gb ha1 hs5 (by simp)
   replace hS_1 := hS_1.gb hs5
   replace hb4 := hb4.gb hs5
   have hl2 : 0 < bs.length := by first | omega | (simp; omega)
   obtain ⟨g4, o2, r1, eA1, er1, ha2⟩ := Sli.place' (xs := bs) (i := 0) EncB hS hl2 rfl
   refine ⟨fun W_ => At W_ g4 r1 [.int .u8 ((bs[0]).toNat : Int)] ∧ True, [0, 1, 2, 3, 4, 5, 6, 7, 8, 9, 10], ?_⟩
   refine T_tk (i := 0) rfl (Y_of (fun _ _ => R_move rfl)) ⟨ha2, trivial⟩ rfl ?_
   refine T_tk (i := 1) rfl (Y_of (fun _ _ => R_indexE rfl rfl (by first | rfl | omega) slc63 hl2 eA1 er1)) ⟨ha2, trivial⟩ rfl ?_
   refine T_tk (i := 2) rfl (Y_of (fun _ ⟨ha2, _⟩ => R_load1 rfl scl5 (ha2 0 _ rfl))) ⟨ha2, trivial⟩ rfl ?_
   refine T_tk (i := 3) rfl (Y_of (fun _ _ => R_eqv (R_and rfl rfl) (v' := .int .u8 ((bs[0].toNat % 2 : Nat) : Int)) (and1 _))) ⟨ha2, trivial⟩ rfl ?_
   refine T_tk (i := 4) rfl (Y_of (fun _ _ => R_eqv (R_neq rfl rfl) (v' := .bool (wasB (bs[0]))) (wasV))) ⟨ha2, trivial⟩ rfl ?_
   refine T_tk (i := 5) rfl (Y_of (fun _ _ => R_move rfl)) ⟨ha2, trivial⟩ rfl ?_
   refine T_tk (i := 6) rfl (Y_of (fun _ _ => R_indexE rfl rfl (by first | rfl | omega) slc63 hl2 eA1 er1)) ⟨ha2, trivial⟩ rfl ?_
   refine T_tk (i := 7) rfl (Y_of (fun _ ⟨ha2, _⟩ => R_load1 rfl scl5 (ha2 0 _ rfl))) ⟨ha2, trivial⟩ rfl ?_
   refine T_tk (i := 8) rfl (Y_of (fun _ _ => R_eqv (R_and rfl rfl) (v' := .int .u8 ((bs[0].toNat / 2 % 2 * 2 : Nat) : Int)) (and2 _))) ⟨ha2, trivial⟩ rfl ?_
   refine T_tk (i := 9) rfl (Y_of (fun _ _ => R_eqv (R_neq rfl rfl) (v' := .bool (isB (bs[0]))) (isV (by omega)))) ⟨ha2, trivial⟩ rfl ?_
   refine T_tk (i := 10) rfl (Y_of (fun _ _ => R_build (pv := [(1, .bool (wasB (bs[0]))), (2, .bool (isB (bs[0])))]) (cs := [.string (⟨#[]⟩), .bool (wasB (bs[0])), .bool (isB (bs[0])), .string (⟨#[]⟩), .string (⟨#[]⟩), .int .i64 0]) rfl (by kernel_rfl))) ⟨ha2, trivial⟩ rfl ?_
   refine T_all (rs := [11]) (by kernel_rfl) rfl (all1 (O_one rfl ?_))
   refine L_alloc (cs := [.string (⟨#[]⟩), .bool false, .bool false, .string (⟨#[]⟩), .string (⟨#[]⟩), .int .i64 0]) zer34 rfl rfl ?_
   intro g5 w6 eg3 hb5 hs6 hz6
   have ge3 : w.heap.size ≤ g5 := eg_ge hB eg3
   have lt2 : g1 < g5 := lt_of_eg hb1.lt eg3
   have lt3 : g3 < g5 := lt_of_eg hb4.lt eg3
   replace hB := gb_tr hB hs6
   replace hS := hS.gb hs6
   replace hb1 := hb1.gb hs6
   replace ha1 := At.gb ha1 hs6 (by simp)
   replace hS_1 := hS_1.gb hs6
   replace hb4 := hb4.gb hs6
   replace ha2 := At.gb ha2 hs6 (by simp)
   refine L_nil (N_then ⟨fun hN_ => ⟨ha2, trivial⟩, ?_⟩)
   refine T_switch (S' := fun _ => True) (qs' := []) (by kernel_rfl) ?_
   refine T_all (rs := [12]) (by kernel_rfl) rfl (all1 (O_one rfl ?_))
   refine L_stA (vs := [.string (⟨#[]⟩), .bool (wasB (bs[0])), .bool (isB (bs[0])), .string (⟨#[]⟩), .string (⟨#[]⟩), .int .i64 0]) rfl rfl rfl sz34 rfl hb5 rfl ?_
   intro w7 hb6 hs7 hz7
   replace hB := gb_trg hB hs7 ge3
   replace hS := hS.old hs7 ge3
   replace hb1 := hb1.grown hs7 (ne_lt lt2)
   replace hS_1 := hS_1.old hs7 ge3
   replace hb4 := hb4.grown hs7 (ne_lt lt3)
   refine L_nil (N_then ⟨fun hN_ => trivial, ?_⟩)
   refine T_done (by kernel_rfl) (CalmE.normal ?_)
   refine N_then (C_seq (C_reg rfl ?_))
   refine L_run (R_move rfl) rfl ?_
   refine L_call rfl cb60 (text_ok (e := 0) (wd := true) (bs := bs.drop 1) hb4 hS_1 ge2 hl1x hc1) rfl ?_
   rintro _ w8 ⟨hs8, rfl, A_2, c_1, hb7, hS_2, hcap1⟩
   replace hB := gb_trg hB hs8 ge2
   replace hS := hS.old hs8 ge2
   replace hb1 := hb1.grown hs8 (ne_lt lt1)
   replace hb6 := hb6.grown hs8 (ne_gt lt3)
   have hl2x : (d1 bs).2.2.length ≤ 1000000 := Nat.le_trans decT_len hl1x
   refine L_run (R_field (r := 0) rfl fld34_0 rfl) rfl ?_
   refine L_st1 rfl rfl rfl sz9 hb6 rfl ?_
   intro w9 hb8 hs9 hz8
   replace hB := gb_trg hB hs9 ge3
   replace hS := hS.old hs9 ge3
   replace hb1 := hb1.grown hs9 (ne_lt lt2)
   replace hb7 := hb7.grown hs9 (ne_lt lt3)
   replace hS_2 := hS_2.old hs9 ge3
   refine L_nil (N_then (C_seq (C_reg rfl ?_)))
   refine L_run (R_move rfl) rfl ?_
   refine L_run (R_field (r := 1) rfl fld34_1 rfl) rfl ?_
   refine L_run (R_load1 rfl scl4 (hb8.cell (i := 1) rfl)) rfl ?_
   refine L_call rfl cb60 (text_ok (e := (d1 bs).2.1) (wd := wasB (bs[0])) (bs := (d1 bs).2.2) hb7 hS_2 ge2 hl2x hcap1) rfl ?_
   rintro _ w10 ⟨hs10, rfl, A_3, c_2, hb9, hS_3, hcap2⟩
   replace hB := gb_trg hB hs10 ge2
   replace hS := hS.old hs10 ge2
   replace hb1 := hb1.grown hs10 (ne_lt lt1)
   replace hb8 := hb8.grown hs10 (ne_gt lt3)
   have hl3x : (d2 bs (wasB (bs[0]))).2.2.length ≤ 1000000 := Nat.le_trans decT_len hl2x
   refine L_run (R_field (r := 3) rfl fld34_3 rfl) rfl ?_
   refine L_st1 rfl rfl rfl sz9 hb8 rfl ?_
   intro w11 hb10 hs11 hz9
   replace hB := gb_trg hB hs11 ge3
   replace hS := hS.old hs11 ge3
   replace hb1 := hb1.grown hs11 (ne_lt lt2)
   replace hb9 := hb9.grown hs11 (ne_lt lt3)
   replace hS_3 := hS_3.old hs11 ge3
   refine L_nil (N_then (C_seq (C_reg rfl ?_)))
   refine L_run (R_move rfl) rfl ?_
   refine L_run (R_field (r := 2) rfl fld34_2 rfl) rfl ?_
   refine L_run (R_load1 rfl scl4 (hb10.cell (i := 2) rfl)) rfl ?_
   refine L_call rfl cb60 (text_ok (e := (d2 bs (wasB (bs[0]))).2.1) (wd := isB (bs[0])) (bs := (d2 bs (wasB (bs[0]))).2.2) hb9 hS_3 ge2 hl3x hcap2) rfl ?_
   rintro _ w12 ⟨hs12, rfl, A_4, c_3, hb11, hS_4, hcap3⟩
   replace hB := gb_trg hB hs12 ge2
   replace hS := hS.old hs12 ge2
   replace hb1 := hb1.grown hs12 (ne_lt lt1)
   replace hb10 := hb10.grown hs12 (ne_gt lt3)
   have hl4x : (d3 bs (wasB (bs[0])) (isB (bs[0]))).2.2.length ≤ 1000000 := Nat.le_trans decT_len hl3x
   refine L_run (R_field (r := 4) rfl fld34_4 rfl) rfl ?_
   refine L_st1 rfl rfl rfl sz9 hb10 rfl ?_
   intro w13 hb12 hs13 hz10
   replace hB := gb_trg hB hs13 ge3
   replace hS := hS.old hs13 ge3
   replace hb1 := hb1.grown hs13 (ne_lt lt2)
   replace hb11 := hb11.grown hs13 (ne_lt lt3)
   replace hS_4 := hS_4.old hs13 ge3
   refine L_nil (N_then (C_seq (C_seq (C_reg rfl ?_))))
   refine L_run (R_move rfl) rfl ?_
   refine L_run (R_nilck rfl) rfl ?_
   refine L_run (R_field (r := 1) rfl fld134_1 rfl) rfl ?_
   refine L_run (R_load1 rfl scl42 (hb11.cell (i := 1) rfl)) rfl ?_
   refine L_run (R_neq rfl rfl) rfl ?_
   refine L_nil (N_then ?_)
   refine C_if rfl (fun h3 => ?_) (fun h3 => ?_)
   ·refine C_seq ?_
    refine C_draw2 rfl mix ?_
    intro w14 hs14 hz11
    replace hB := gb_tr hB hs14
    replace hS := hS.gb hs14
    replace hb1 := hb1.gb hs14
    replace hb12 := hb12.gb hs14
    replace hb11 := hb11.gb hs14
    replace hS_4 := hS_4.gb hs14
    refine ⟨fun W_ => Blk W_ g3 134 [.slice A_4 ((d3 bs (wasB (bs[0])) (isB (bs[0]))).2.2.length) c_3, .int .i64 ((d3 bs (wasB (bs[0])) (isB (bs[0]))).2.1)] ∧ True, [0, 1, 2, 3, 4, 6], ?_⟩
    refine T_tk (i := 0) rfl (Y_of (fun _ _ => R_build (pv := []) (cs := [.string (⟨#[]⟩), .bool false, .bool false, .string (⟨#[]⟩), .string (⟨#[]⟩), .int .i64 0]) rfl (by kernel_rfl))) ⟨hb11, trivial⟩ rfl ?_
    refine T_tk (i := 1) rfl (Y_of (fun _ _ => R_move rfl)) ⟨hb11, trivial⟩ rfl ?_
    refine T_tk (i := 2) rfl (Y_of (fun _ _ => R_nilck rfl)) ⟨hb11, trivial⟩ rfl ?_
    refine T_tk (i := 3) rfl (Y_of (fun _ _ => R_field (r := 1) rfl fld134_1 rfl)) ⟨hb11, trivial⟩ rfl ?_
    refine T_tk (i := 4) rfl (Y_of (fun _ ⟨hb11, _⟩ => R_load1 rfl scl42 (hb11.cell (i := 1) rfl))) ⟨hb11, trivial⟩ rfl ?_
    refine T_all (rs := [5]) (by kernel_rfl) rfl (all1 (O_one rfl ?_))
    refine L_stA (vs := [.string (⟨#[]⟩), .bool false, .bool false, .string (⟨#[]⟩), .string (⟨#[]⟩), .int .i64 0]) rfl rfl rfl sz34 rfl hb1 rfl ?_
    intro w15 hb13 hs15 hz12
    replace hB := gb_trg hB hs15 ge1
    replace hS := hS.old hs15 ge1
    replace hb12 := hb12.grown hs15 (ne_gt lt2)
    replace hb11 := hb11.grown hs15 (ne_gt lt1)
    replace hS_4 := hS_4.old hs15 ge1
    refine L_nil (N_then ⟨fun hN_ => ⟨hb11, trivial⟩, ?_⟩)
    refine T_tk (i := 6) rfl (Y_of (fun _ _ => R_assign rfl)) ⟨hb11, trivial⟩ rfl ?_
    refine T_done (by kernel_rfl) (CalmE.normal ?_)
    refine N_then (C_ret (R_then ?_))
    refine retC1 (vs := [.string (⟨#[]⟩), .bool false, .bool false, .string (⟨#[]⟩), .string (⟨#[]⟩), .int .i64 0]) Try.results44 rfl agg34 (At.pre (hb13.at_ 0) rfl) rfl rfl ?_
    have e_ := (dec_f (bs := bs) (by omega) (by omega)).trans (fin_e (show (d3 bs (wasB (bs[0])) (isB (bs[0]))).2.1 ≠ 0 from h3))
    rw [e_]; exact ⟨hB, rfl⟩
   ·refine C_skip (N_then (C_seq (C_reg rfl ?_)))
    refine L_run (R_move rfl) rfl ?_
    refine L_run (R_nilck rfl) rfl ?_
    refine L_run (R_field (r := 0) rfl fld134_0 rfl) rfl ?_
    refine L_run (R_load1 rfl scl63 (hb11.cell (i := 0) rfl)) rfl ?_
    refine L_call rfl cb61 (varint_Get (bs := ((d3 bs (wasB (bs[0])) (isB (bs[0]))).2.2)) hS_4 (by first | omega | (simp; done) | (simp; omega))) rfl ?_
    rintro _ w16 ⟨hs16, rfl⟩
    replace hB := gb_tr hB hs16
    replace hS := hS.gb hs16
    replace hb1 := hb1.gb hs16
    replace hb12 := hb12.gb hs16
    replace hb11 := hb11.gb hs16
    replace hS_4 := hS_4.gb hs16
    refine L_run (R_move rfl) rfl ?_
    refine L_run (R_extract rfl rfl) rfl ?_
    refine L_run (R_extract rfl rfl) rfl ?_
    refine L_run (R_extract rfl rfl) rfl ?_
    refine L_run (R_assign rfl) rfl ?_
    refine L_run (R_assign rfl) rfl ?_
    refine L_run (R_assign rfl) rfl ?_
    refine L_nil (N_then (C_seq (C_seq (C_reg rfl ?_))))
    refine L_run (R_move rfl) rfl ?_
    refine L_run (R_neq rfl rfl) rfl ?_
    refine L_nil (N_then ?_)
    refine C_if rfl (fun h4 => ?_) (fun h4 => ?_)
    ·refine C_seq (C_reg rfl ?_)
     refine L_run (R_build (pv := []) (cs := [.string (⟨#[]⟩), .bool false, .bool false, .string (⟨#[]⟩), .string (⟨#[]⟩), .int .i64 0]) rfl (by kernel_rfl)) rfl ?_
     refine L_run (R_move rfl) rfl ?_
     refine L_stA (vs := [.string (⟨#[]⟩), .bool false, .bool false, .string (⟨#[]⟩), .string (⟨#[]⟩), .int .i64 0]) rfl rfl rfl sz34 rfl hb1 rfl ?_
     intro w17 hb14 hs17 hz13
     replace hB := gb_trg hB hs17 ge1
     replace hS := hS.old hs17 ge1
     replace hb12 := hb12.grown hs17 (ne_gt lt2)
     replace hb11 := hb11.grown hs17 (ne_gt lt1)
     replace hS_4 := hS_4.old hs17 ge1
     refine L_run (R_assign rfl) rfl ?_
     refine L_nil (N_then (C_ret (R_then ?_)))
     refine retC1 (vs := [.string (⟨#[]⟩), .bool false, .bool false, .string (⟨#[]⟩), .string (⟨#[]⟩), .int .i64 0]) Try.results44 rfl agg34 (At.pre (hb14.at_ 0) rfl) rfl rfl ?_
     have e_ := (dec_f (bs := bs) (by omega) (by omega)).trans (fin_v (show ¬ (d3 bs (wasB (bs[0])) (isB (bs[0]))).2.1 ≠ 0 from h3) (show (vget (d3 bs (wasB (bs[0])) (isB (bs[0]))).2.2).2.2 ≠ 0 from h4))
     rw [e_]; exact ⟨hB, rfl⟩
    ·refine C_skip (N_then (C_seq (C_reg rfl ?_)))
     refine L_run (R_move rfl) rfl ?_
     refine L_run (R_min2 rfl rfl) rfl ?_
     refine L_run (R_eqv (R_conv rfl any116 int3) (v' := .int .i64 ((min (vget ((d3 bs (wasB (bs[0])) (isB (bs[0]))).2.2)).1 2147483648 : Nat) : Int)) ((by first | (congr 1; rw [IntKind.wrap_i64]; omega) | (congr 1; omega)))) rfl ?_
     refine L_run (R_field (r := 5) rfl fld34_5 rfl) rfl ?_
     refine L_st1 rfl rfl rfl sz3 hb12 rfl ?_
     intro w18 hb15 hs18 hz14
     replace hB := gb_trg hB hs18 ge3
     replace hS := hS.old hs18 ge3
     replace hb1 := hb1.grown hs18 (ne_lt lt2)
     replace hb11 := hb11.grown hs18 (ne_lt lt3)
     replace hS_4 := hS_4.old hs18 ge3
     refine L_nil (N_then (C_seq (C_seq (C_reg rfl ?_))))
     refine L_run (R_move rfl) rfl ?_
     refine L_run (R_move rfl) rfl ?_
     refine L_run (R_nilck rfl) rfl ?_
     refine L_run (R_field (r := 0) rfl fld134_0 rfl) rfl ?_
     refine L_run (R_load1 rfl scl63 (hb11.cell (i := 0) rfl)) rfl ?_
     refine L_run (R_lenSl rfl slc63) rfl ?_
     refine L_run (R_lss rfl rfl) rfl ?_
     refine L_run (R_move rfl) rfl ?_
     refine L_splitD (p := ((vget ((d3 bs (wasB (bs[0])) (isB (bs[0]))).2.2)).2.1 : Int) < ((d3 bs (wasB (bs[0])) (isB (bs[0]))).2.2.length : Int)) (fun h5 => ?_) (fun h5 => ?_)
     ·refine L_no rfl rfl rfl (decide_eq_true h5) rfl ?_
      refine L_no rfl rfl rfl (decide_eq_true h5) rfl ?_
      refine L_no rfl rfl rfl (decide_eq_true h5) rfl ?_
      refine L_run (R_pickT rfl (decide_eq_true h5) rfl) rfl ?_
      refine L_nil (N_then (C_condT rfl rfl (C_seq (C_reg rfl ?_))))
      refine L_run (R_build (pv := []) (cs := [.string (⟨#[]⟩), .bool false, .bool false, .string (⟨#[]⟩), .string (⟨#[]⟩), .int .i64 0]) rfl (by kernel_rfl)) rfl ?_
      refine L_stA (vs := [.string (⟨#[]⟩), .bool false, .bool false, .string (⟨#[]⟩), .string (⟨#[]⟩), .int .i64 0]) rfl rfl rfl sz34 rfl hb1 rfl ?_
      intro w19 hb16 hs19 hz15
      replace hB := gb_trg hB hs19 ge1
      replace hS := hS.old hs19 ge1
      replace hb15 := hb15.grown hs19 (ne_gt lt2)
      replace hb11 := hb11.grown hs19 (ne_gt lt1)
      replace hS_4 := hS_4.old hs19 ge1
      refine L_run (R_assign rfl) rfl ?_
      refine L_nil (N_then (C_ret (R_then ?_)))
      refine retC1 (vs := [.string (⟨#[]⟩), .bool false, .bool false, .string (⟨#[]⟩), .string (⟨#[]⟩), .int .i64 0]) Try.results44 rfl agg34 (At.pre (hb16.at_ 0) rfl) rfl rfl ?_
      have e_ := (dec_f (bs := bs) (by omega) (by omega)).trans (fin_b (show ¬ (d3 bs (wasB (bs[0])) (isB (bs[0]))).2.1 ≠ 0 from h3) (show ¬ (vget (d3 bs (wasB (bs[0])) (isB (bs[0]))).2.2).2.2 ≠ 0 from h4) (.inl (show (vget ((d3 bs (wasB (bs[0])) (isB (bs[0]))).2.2)).2.1 < ((d3 bs (wasB (bs[0])) (isB (bs[0]))).2.2).length from by omega)))
      rw [e_]; exact ⟨hB, rfl⟩
     ·refine L_yes rfl rfl rfl (decide_eq_false h5) ?_
      refine L_run (R_loadA (vs := [.string ((d1 bs).1), .bool (wasB (bs[0])), .bool (isB (bs[0])), .string ((d2 bs (wasB (bs[0]))).1), .string ((d3 bs (wasB (bs[0])) (isB (bs[0]))).1), .int .i64 ((min (vget ((d3 bs (wasB (bs[0])) (isB (bs[0]))).2.2)).1 2147483648 : Nat) : Int)]) rfl agg34 (At.pre (hb15.at_ 0) rfl) rfl) rfl ?_
      refine L_yes rfl rfl rfl (decide_eq_false h5) ?_
      refine L_call rfl cb62 (tx_Right (c := (⟨(d1 bs).1, wasB (bs[0]), isB (bs[0]), (d2 bs (wasB (bs[0]))).1, (d3 bs (wasB (bs[0])) (isB (bs[0]))).1, ((min (vget ((d3 bs (wasB (bs[0])) (isB (bs[0]))).2.2)).1 2147483648 : Nat) : Int)⟩ : Chg))) rfl ?_
      rintro _ w20 ⟨hs20, rfl⟩
      replace hB := gb_tr hB hs20
      replace hS := hS.gb hs20
      replace hb1 := hb1.gb hs20
      replace hb15 := hb15.gb hs20
      replace hb11 := hb11.gb hs20
      replace hS_4 := hS_4.gb hs20
      refine L_yes rfl rfl rfl (decide_eq_false h5) ?_
      refine L_run (R_notD rfl) rfl ?_
      refine L_run (R_pickF rfl (decide_eq_false h5) rfl) rfl ?_
      refine L_nil (N_then ?_)
      refine C_ifN rfl (fun h6 => ?_) (fun h6 => ?_)
      ·refine C_seq (C_reg rfl ?_)
       refine L_run (R_build (pv := []) (cs := [.string (⟨#[]⟩), .bool false, .bool false, .string (⟨#[]⟩), .string (⟨#[]⟩), .int .i64 0]) rfl (by kernel_rfl)) rfl ?_
       refine L_stA (vs := [.string (⟨#[]⟩), .bool false, .bool false, .string (⟨#[]⟩), .string (⟨#[]⟩), .int .i64 0]) rfl rfl rfl sz34 rfl hb1 rfl ?_
       intro w21 hb17 hs21 hz16
       replace hB := gb_trg hB hs21 ge1
       replace hS := hS.old hs21 ge1
       replace hb15 := hb15.grown hs21 (ne_gt lt2)
       replace hb11 := hb11.grown hs21 (ne_gt lt1)
       replace hS_4 := hS_4.old hs21 ge1
       refine L_run (R_assign rfl) rfl ?_
       refine L_nil (N_then (C_ret (R_then ?_)))
       refine retC1 (vs := [.string (⟨#[]⟩), .bool false, .bool false, .string (⟨#[]⟩), .string (⟨#[]⟩), .int .i64 0]) Try.results44 rfl agg34 (At.pre (hb17.at_ 0) rfl) rfl rfl ?_
       have e_ := (dec_f (bs := bs) (by omega) (by omega)).trans (fin_b (show ¬ (d3 bs (wasB (bs[0])) (isB (bs[0]))).2.1 ≠ 0 from h3) (show ¬ (vget (d3 bs (wasB (bs[0])) (isB (bs[0]))).2.2).2.2 ≠ 0 from h4) (.inr h6))
       rw [e_]; exact ⟨hB, rfl⟩
      ·refine C_skip (N_then (C_seq (C_reg rfl ?_)))
       refine L_run (R_loadA (vs := [.string ((d1 bs).1), .bool (wasB (bs[0])), .bool (isB (bs[0])), .string ((d2 bs (wasB (bs[0]))).1), .string ((d3 bs (wasB (bs[0])) (isB (bs[0]))).1), .int .i64 ((min (vget ((d3 bs (wasB (bs[0])) (isB (bs[0]))).2.2)).1 2147483648 : Nat) : Int)]) rfl agg34 (At.pre (hb15.at_ 0) rfl) rfl) rfl ?_
       refine L_stA (vs := [.string ((d1 bs).1), .bool (wasB (bs[0])), .bool (isB (bs[0])), .string ((d2 bs (wasB (bs[0]))).1), .string ((d3 bs (wasB (bs[0])) (isB (bs[0]))).1), .int .i64 ((min (vget ((d3 bs (wasB (bs[0])) (isB (bs[0]))).2.2)).1 2147483648 : Nat) : Int)]) rfl rfl rfl sz34 rfl hb1 rfl ?_
       intro w22 hb18 hs22 hz17
       replace hB := gb_trg hB hs22 ge1
       replace hS := hS.old hs22 ge1
       replace hb15 := hb15.grown hs22 (ne_gt lt2)
       replace hb11 := hb11.grown hs22 (ne_gt lt1)
       replace hS_4 := hS_4.old hs22 ge1
       refine L_run (R_assign rfl) rfl ?_
       refine L_nil (N_then (C_ret ?_))
       refine retC1 (vs := [.string ((d1 bs).1), .bool (wasB (bs[0])), .bool (isB (bs[0])), .string ((d2 bs (wasB (bs[0]))).1), .string ((d3 bs (wasB (bs[0])) (isB (bs[0]))).1), .int .i64 ((min (vget ((d3 bs (wasB (bs[0])) (isB (bs[0]))).2.2)).1 2147483648 : Nat) : Int)]) Try.results44 rfl agg34 (At.pre (hb18.at_ 0) rfl) rfl rfl ?_
       have e_ := (dec_f (bs := bs) (by omega) (by omega)).trans (fin_g (show ¬ (d3 bs (wasB (bs[0])) (isB (bs[0]))).2.1 ≠ 0 from h3) (show ¬ (vget (d3 bs (wasB (bs[0])) (isB (bs[0]))).2.2).2.2 ≠ 0 from h4) (fun q_ => q_.elim (fun q_ => absurd q_ (show ¬ (vget ((d3 bs (wasB (bs[0])) (isB (bs[0]))).2.2)).2.1 < ((d3 bs (wasB (bs[0])) (isB (bs[0]))).2.2).length from by omega)) (fun q_ => q_ h6)))
       rw [e_]; exact ⟨hB, rfl⟩

end Go.Proofs.Ytbmohojdlgedpaa
