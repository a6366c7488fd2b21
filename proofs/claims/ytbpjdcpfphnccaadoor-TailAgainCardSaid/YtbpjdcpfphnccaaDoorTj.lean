/-
  Contracts of the package frag: a fragment's bytes.
-/
import Derived.Test.YtbpjdcpfphnccaaDoorTi
namespace Go.Proofs.YtbpjdcpfphnccaaDoor
open Go.RowKit Gw Pl
set_option linter.unusedVariables false
set_option linter.unusedSimpArgs false
theorem agg92 : aggB Tryd.prog 92 3 = true := by kernel_rfl
theorem arr109 : arrB Tryd.prog 109 5 11 1 = true := by kernel_rfl
theorem cb60 : callB Tryd.prog 60 = true := by kernel_rfl
theorem cb62 : callB Tryd.prog 62 = true := by kernel_rfl
theorem cb63 : callB Tryd.prog 63 = true := by kernel_rfl
theorem zer109 : (Tryd.prog.info? 109).bind (·.zero) = some (.agg #[.int .u8 0, .int .u8 0, .int .u8 0, .int .u8 0, .int .u8 0, .int .u8 0, .int .u8 0, .int .u8 0, .int .u8 0, .int .u8 0, .int .u8 0]) := by kernel_rfl
/-- The head of a fragment before its sum is known. -/
def headN (n k ep : Nat) : List UInt8 := spl ((spl (List.replicate 11 (0 : UInt8)) 4 ((putN n 2).take 2)).set 6 (UInt8.ofNat k)) 7 ((putN ep 4).take 4)
theorem headN_eq (n k ep : Nat) : headN n k ep = [0, 0, 0, 0] ++ ((putN n 2 ++ [UInt8.ofNat k]) ++ putN ep 4) := rfl
theorem headN_len (n k ep : Nat) : (headN n k ep).length = 11 := rfl
theorem fenc_list {k ep q : Nat} {d : List UInt8} : (spl ((headN d.length k ep ++ d) ++ List.replicate q 0) (0 + 0) ((putN (maskN (moreN 0 ((((headN d.length k ep ++ d) ++ List.replicate q 0).drop (0 + 4)).take ((headN d.length k ep ++ d).length - 4)))) 4).take ((((headN d.length k ep ++ d) ++ List.replicate q 0).drop (0 + 0)).take (4 - 0)).length)).take (headN d.length k ep ++ d).length = fragB k ep d := by
  have hl : (headN d.length k ep ++ d).length = 11 + d.length := by rw [List.length_append, headN_len]
  have e1 : ((headN d.length k ep ++ d) ++ List.replicate q 0).drop 4 = (((putN d.length 2 ++ [UInt8.ofNat k]) ++ putN ep 4) ++ d) ++ List.replicate q 0 := by
    rw [headN_eq]; rfl
  have e2 : (((putN d.length 2 ++ [UInt8.ofNat k]) ++ putN ep 4) ++ d).length = 7 + d.length := by simp only [List.length_append, putN_len, List.length_cons, List.length_nil]
  have e3 : ((((headN d.length k ep ++ d) ++ List.replicate q 0).drop (0 + 0)).take (4 - 0)).length = 4 := by
    rw [List.length_take, List.length_drop, app_rep, hl]; omega
  rw [e3, hl, show 0 + 4 = 4 from rfl, e1, show 11 + d.length - 4 = 7 + d.length by omega, List.take_left' e2]
  generalize hT : ((putN d.length 2 ++ [UInt8.ofNat k]) ++ putN ep 4) ++ d = T at *
  rw [take_putN]
  unfold spl
  rw [putN_len, show 0 + 0 + 4 = 4 from rfl, e1]
  simp only [Nat.add_zero, List.take_zero, List.nil_append]
  rw [← List.append_assoc, List.take_left' (by rw [List.length_append, putN_len, e2]; omega), ← hT]
  rfl
theorem sli_take {w : World} {t lo hi n : Nat} {A : Option Addr} {X : List UInt8} (h : Sli t lo hi w A (fl encB X)) : Sli t lo hi w A (fl encB (X.take n)) := by
  have e : fl encB (X.take n) = (fl encB X).take n := by
    have := fl_take EncB n X
    rw [Nat.mul_one] at this
    exact this.symm
  rw [e]
  rcases h with h | ⟨g, off, c, fr, hA, h1, h2, h3, h4⟩
  · rw [h]; exact .inl (by simp)
  · refine .inr ⟨g, off, c, fr, hA, h1, h2, h3, fun j v hj => h4 j v ?_⟩
    rw [List.getElem?_take] at hj
    split at hj
    · exact hj
    · cases hj
theorem fenc_end {w : World} {g t k ep q : Nat} {H d : List UInt8} (hH : H = headN d.length k ep) (hb : Blk w g t (fl encB (spl ((H ++ d) ++ List.replicate q 0) (0 + 0) ((putN (maskN (moreN 0 ((((H ++ d) ++ List.replicate q 0).drop (0 + 4)).take ((H ++ d).length - 4)))) 4).take ((((H ++ d) ++ List.replicate q 0).drop (0 + 0)).take (4 - 0)).length)))) :
    Sli 0 0 w.heap.size w (some ⟨g, 0, none⟩) (fl encB (fragB k ep d)) := by
  subst hH
  rw [← fenc_list (q := q)]
  exact sli_take (Blk.sli0 hb)
theorem fenc_end0 {w : World} {g t k ep : Nat} (hb : Blk w g t (fl encB (spl (headN 0 k ep) (0 + 0) ((putN (maskN (moreN 0 (((headN 0 k ep).drop (0 + 4)).take (11 - 4)))) 4).take (((headN 0 k ep).drop (0 + 0)).take (4 - 0)).length)))) :
    Sli 0 0 w.heap.size w (some ⟨g, 0, none⟩) (fl encB (fragB k ep [])) := by
  exact fenc_end (H := headN 0 k ep) (k := k) (ep := ep) (q := 0) (d := []) rfl (by rw [List.append_nil, show List.replicate 0 (0 : UInt8) = [] from rfl, List.append_nil, headN_len]; exact hb)
set_option maxHeartbeats 4000000 in
theorem fenc_d {w : World} {k ep c2 : Nat} {t1 lo hi : Nat} {d : List UInt8} {A2 : Option Addr} (hk0 : 1 ≤ k) (hk4 : k ≤ 4) (hep : ep < 4294967296) (hT : Tbw w) (hS : Sli t1 lo hi w A2 (fl encB d)) (hd0 : 0 < d.length) (hd : d.length ≤ 197) :
    Runs Tryd.prog 49 #[.agg #[.int .i64 ((k : Nat) : Int), .int .u32 (ep : Int), .slice A2 d.length c2]] w (fun v w' => w.grownBy w' none ∧ ∃ A' c', v = .tuple #[.slice A' (fragB k ep d).length c', .int .i64 0] ∧ Sli 0 0 w'.heap.size w' A' (fl encB (fragB k ep d))) := by
  have hB := gb_refl w none
  have hk : k < 256 := by omega
  replace hS := hS.top
  refine enter Tryd.func49 Tryd.ntmps49 rfl rfl ?_
  refine C_seq (C_reg rfl ?_)
  refine L_box (cs := [.int .i64 ((k : Nat) : Int), .int .u32 (ep : Int), .slice A2 d.length c2]) rfl rfl rfl ?_
  intro g1 w1 eg1 hb1 hs1 hz1
  have ge1 : w.heap.size ≤ g1 := eg_ge hB eg1
  replace hB := gb_tr hB hs1
  replace hS := hS.gb hs1
  refine L_run (R_assign rfl) rfl ?_
  refine L_run (R_assign rfl) rfl ?_
  refine L_nil (N_then (C_seq (C_seq (C_reg rfl ?_))))
  refine L_run (R_loadA (vs := [.int .i64 ((k : Nat) : Int), .int .u32 (ep : Int), .slice A2 d.length c2]) rfl agg92 (At.pre (hb1.at_ 0) rfl) rfl) rfl ?_
  refine L_call rfl cb60 (fright) rfl ?_
  rintro _ w2 ⟨hs2, rfl⟩
  replace hB := gb_tr hB hs2
  replace hS := hS.gb hs2
  replace hb1 := hb1.gb hs2
  refine L_run (R_notD rfl) rfl ?_
  refine L_nil (N_then (C_condF rfl (decide_eq_false (fun hn => hn ⟨by omega, by omega, hd⟩)) (C_skip (N_then (C_seq (C_reg rfl ?_))))))
  refine L_alloc (cs := [.int .u8 0, .int .u8 0, .int .u8 0, .int .u8 0, .int .u8 0, .int .u8 0, .int .u8 0, .int .u8 0, .int .u8 0, .int .u8 0, .int .u8 0]) zer109 rfl rfl ?_
  intro g2 w3 eg2 hb2 hs3 hz2
  have ge2 : w.heap.size ≤ g2 := eg_ge hB eg2
  have lt1 : g1 < g2 := lt_of_eg hb1.lt eg2
  replace hB := gb_tr hB hs3
  replace hS := hS.gb hs3
  replace hb1 := hb1.gb hs3
  replace hb2 : Blk w3 g2 109 (fl encB (List.replicate 11 (0 : UInt8))) := hb2
  refine L_nil (N_then (C_seq ?_))
  refine C_join (fun a_ w_ => (∃ (σ_ : Nat → Value) (A2 : Option Addr) (c2 : Nat), a_ = Ac 40 σ_ [] [(0, .agg #[.int .i64 ((k : Nat) : Int), .int .u32 (ep : Int), .slice A2 d.length c2]), (1, .pointer (some ⟨g1, 0, none⟩)), (2, .slice none 0 0), (3, .int .i64 0), (4, .pointer (some ⟨g2, 0, none⟩)), (6, .agg #[.int .i64 ((k : Nat) : Int), .int .u32 (ep : Int), .slice A2 d.length c2]), (7, .bool (decide (1 ≤ ((k : Nat) : Int) ∧ ((k : Nat) : Int) ≤ 4 ∧ d.length ≤ 197))), (8, .bool (decide (¬ (1 ≤ ((k : Nat) : Int) ∧ ((k : Nat) : Int) ≤ 4 ∧ d.length ≤ 197))))] ∧ w.grownBy w_ none ∧ Sli t1 lo w.heap.size w_ A2 (fl encB d) ∧ Blk w_ g1 92 [.int .i64 ((k : Nat) : Int), .int .u32 (ep : Int), .slice A2 d.length c2] ∧ Blk w_ g2 109 (fl encB (spl (List.replicate 11 (0 : UInt8)) 4 ((putN d.length 2).take 2))))) ?_ ?_
  · refine C_draw2 rfl mix ?_
    intro w4 hs4 hz3
    replace hB := gb_tr hB hs4
    replace hS := hS.gb hs4
    replace hb1 := hb1.gb hs4
    replace hb2 := hb2.gb hs4
    refine ⟨fun W_ => Blk W_ g1 92 [.int .i64 ((k : Nat) : Int), .int .u32 (ep : Int), .slice A2 d.length c2] ∧ True, [1, 2, 3, 4], ?_⟩
    refine T_takeA (i := 1) rfl rfl (by kernel_rfl) (by kernel_rfl) (by kernel_rfl) (Y_of (fun _ ⟨hb1, _⟩ => R_field (r := 2) rfl fld92_2 rfl)) ⟨hb1, trivial⟩ rfl ?_
    refine T_takeA (i := 2) rfl rfl (by kernel_rfl) (by kernel_rfl) (by kernel_rfl) (Y_of (fun _ ⟨hb1, _⟩ => R_load1 rfl scl46 (hb1.cell (i := 2) rfl))) ⟨hb1, trivial⟩ rfl ?_
    refine T_takeA (i := 3) rfl rfl (by kernel_rfl) (by kernel_rfl) (by kernel_rfl) (Y_of (fun _ ⟨hb1, _⟩ => R_lenSl rfl slc46)) ⟨hb1, trivial⟩ rfl ?_
    refine T_takeA (i := 4) rfl rfl (by kernel_rfl) (by kernel_rfl) (by kernel_rfl) (Y_of (fun _ ⟨hb1, _⟩ => R_eqv (R_conv rfl any3 int22) (v' := .int .u64 ((d.length : Nat) : Int)) (congrArg _ (w64n (by omega))))) ⟨hb1, trivial⟩ rfl ?_
    refine T_all (rs := [0, 5]) (by kernel_rfl) rfl (all2 (O_one rfl ?_) (O_one rfl ?_))
    · refine T_slArrP (i := 4) (j := 6) (r := 11) arr109 rfl (by decide) (by decide) (by decide) (by decide) rfl ⟨_, rfl⟩ ⟨_, rfl⟩ rfl ?_
      refine L_nil (N_then ⟨fun hN_ => ⟨hb1, trivial⟩, ?_⟩)
      refine T_all (rs := [5]) (by kernel_rfl) rfl (all1 (O_one rfl ?_))
      have ge3 : w.heap.size ≤ w4.heap.size := hB.size
      refine L_call rfl cb61 (wput (n := d.length) (k := 2) (by decide)) rfl ?_
      rintro _ w5 ⟨hs5, A_1, c_1, rfl, ho1⟩
      have lb1 : g2 < w4.heap.size := hb2.lt
      replace hB := gb_tr hB hs5
      replace hS := hS.gb hs5
      replace hb1 := hb1.gb hs5
      replace hb2 := hb2.gb hs5
      have hlo1 : w4.heap.size ≤ w5.heap.size := hs5.size
      refine L_nil (N_then ⟨fun hN_ => ⟨hb1, trivial⟩, ?_⟩)
      refine T_all (rs := [6]) (by kernel_rfl) rfl (all1 (O_one rfl ?_))
      refine T_copy (xs := (List.replicate 11 (0 : UInt8))) (ys := putN d.length 2) (o := 4) (m := 2) EncB slc46 rfl rfl hb2 (fun _ => rfl) (by rw [List.length_replicate]; first | omega | (simp; omega)) (own_of ho1).2.2 rfl ?_
      intro w6 hb3 hs6 hz4
      replace hB := gb_trg hB hs6 ge2
      replace hS := hS.old hs6 ge2
      replace hb1 := hb1.grown hs6 (ne_lt lt1)
      replace ho1 := own_other ho1 hb2 rfl hs6
      replace hlo1 := Nat.le_trans hlo1 hs6.size
      refine L_nil (N_then ⟨fun hN_ => ⟨hb1, trivial⟩, ?_⟩)
      refine T_done (by kernel_rfl) (CalmE.normal ?_)
      exact ⟨rfl, ⟨_, A2, c2, Ac_frg ⟨rfl, rfl, rfl, rfl, rfl, rfl, rfl, rfl, trivial⟩, hB, hS, hb1, hb3⟩⟩
    · have ge4 : w.heap.size ≤ w4.heap.size := hB.size
      refine L_call rfl cb61 (wput (n := d.length) (k := 2) (by decide)) rfl ?_
      rintro _ w7 ⟨hs7, A_2, c_2, rfl, ho2⟩
      have lb2 : g2 < w4.heap.size := hb2.lt
      replace hB := gb_tr hB hs7
      replace hS := hS.gb hs7
      replace hb1 := hb1.gb hs7
      replace hb2 := hb2.gb hs7
      have hlo2 : w4.heap.size ≤ w7.heap.size := hs7.size
      refine L_nil (N_then ⟨fun hN_ => ⟨hb1, trivial⟩, ?_⟩)
      refine T_all (rs := [0]) (by kernel_rfl) rfl (all1 (O_one rfl ?_))
      refine T_slArrP (i := 4) (j := 6) (r := 11) arr109 rfl (by decide) (by decide) (by decide) (by decide) rfl ⟨_, rfl⟩ ⟨_, rfl⟩ rfl ?_
      refine L_nil (N_then ⟨fun hN_ => ⟨hb1, trivial⟩, ?_⟩)
      refine T_all (rs := [6]) (by kernel_rfl) rfl (all1 (O_one rfl ?_))
      refine T_copy (xs := (List.replicate 11 (0 : UInt8))) (ys := putN d.length 2) (o := 4) (m := 2) EncB slc46 rfl rfl hb2 (fun _ => rfl) (by rw [List.length_replicate]; first | omega | (simp; omega)) (own_of ho2).2.2 rfl ?_
      intro w8 hb4 hs8 hz5
      replace hB := gb_trg hB hs8 ge2
      replace hS := hS.old hs8 ge2
      replace hb1 := hb1.grown hs8 (ne_lt lt1)
      replace ho2 := own_other ho2 hb2 rfl hs8
      replace hlo2 := Nat.le_trans hlo2 hs8.size
      refine L_nil (N_then ⟨fun hN_ => ⟨hb1, trivial⟩, ?_⟩)
      refine T_done (by kernel_rfl) (CalmE.normal ?_)
      exact ⟨rfl, ⟨_, A2, c2, Ac_frg ⟨rfl, rfl, rfl, rfl, rfl, rfl, rfl, rfl, trivial⟩, hB, hS, hb1, hb4⟩⟩
  · clear hB
    clear hS hb1 hb2
    rintro a_ w9 ⟨σ_, A2, c2, rfl, hB, hS, hb1, hj1⟩
    refine N_then (C_seq (C_reg rfl ?_))
    refine L_run (R_field (r := 0) rfl fld92_0 rfl) rfl ?_
    refine L_run (R_load1 rfl scl3 (hb1.cell (i := 0) rfl)) rfl ?_
    refine L_run (R_eqv (R_conv rfl any3 int5) (v' := .int .u8 ((UInt8.ofNat k).toNat : Int)) (u8_of _ hk)) rfl ?_
    refine L_run (R_indexArr (i := 6) (r := 6) rfl rfl (by first | rfl | omega) arr109 (by omega) (by omega)) rfl ?_
    refine L_st1v (v := .int .u8 ((UInt8.ofNat k).toNat : Int)) rfl rfl rfl sz5 hj1 (by rw [fl_len EncB, Nat.mul_one]; first | (omega) | (rw [(spl_lenT List.length_replicate (by first | omega | (simp; omega)))]; omega)) ?_
    intro w10 hb5 hs9 hz6
    rw [fl_setB (by first | (omega) | (rw [(spl_lenT List.length_replicate (by first | omega | (simp; omega)))]; omega))] at hb5
    replace hB := gb_trg hB hs9 ge2
    replace hS := hS.old hs9 ge2
    replace hb1 := hb1.grown hs9 (ne_lt lt1)
    refine L_nil (N_then (C_seq ?_))
    refine C_join (fun a_ w_ => (∃ (σ_ : Nat → Value), a_ = Ac 40 σ_ [] [(0, .agg #[.int .i64 ((k : Nat) : Int), .int .u32 (ep : Int), .slice A2 d.length c2]), (1, .pointer (some ⟨g1, 0, none⟩)), (2, .slice none 0 0), (3, .int .i64 0), (4, .pointer (some ⟨g2, 0, none⟩)), (6, .agg #[.int .i64 ((k : Nat) : Int), .int .u32 (ep : Int), .slice A2 d.length c2]), (7, .bool (decide (1 ≤ ((k : Nat) : Int) ∧ ((k : Nat) : Int) ≤ 4 ∧ d.length ≤ 197))), (8, .bool (decide (¬ (1 ≤ ((k : Nat) : Int) ∧ ((k : Nat) : Int) ≤ 4 ∧ d.length ≤ 197)))), (16, .pointer (some ⟨g1, 0, none⟩)), (17, .int .i64 ((k : Nat) : Int)), (18, .int .u8 ((UInt8.ofNat k).toNat : Int)), (19, .pointer (some ⟨g2, 6, none⟩))] ∧ w.grownBy w_ none ∧ Sli t1 lo w.heap.size w_ A2 (fl encB d) ∧ Blk w_ g1 92 [.int .i64 ((k : Nat) : Int), .int .u32 (ep : Int), .slice A2 d.length c2] ∧ Blk w_ g2 109 (fl encB (spl ((spl (List.replicate 11 (0 : UInt8)) 4 ((putN d.length 2).take 2)).set 6 (UInt8.ofNat k)) 7 ((putN ep 4).take 4))))) ?_ ?_
    · refine C_draw2 rfl mix ?_
      intro w11 hs10 hz7
      replace hB := gb_tr hB hs10
      replace hS := hS.gb hs10
      replace hb1 := hb1.gb hs10
      replace hb5 := hb5.gb hs10
      refine ⟨fun W_ => Blk W_ g1 92 [.int .i64 ((k : Nat) : Int), .int .u32 (ep : Int), .slice A2 d.length c2] ∧ True, [1, 2, 3], ?_⟩
      refine T_takeA (i := 1) rfl rfl (by kernel_rfl) (by kernel_rfl) (by kernel_rfl) (Y_of (fun _ ⟨hb1, _⟩ => R_field (r := 1) rfl fld92_1 rfl)) ⟨hb1, trivial⟩ rfl ?_
      refine T_takeA (i := 2) rfl rfl (by kernel_rfl) (by kernel_rfl) (by kernel_rfl) (Y_of (fun _ ⟨hb1, _⟩ => R_load1 rfl scl90 (hb1.cell (i := 1) rfl))) ⟨hb1, trivial⟩ rfl ?_
      refine T_takeA (i := 3) rfl rfl (by kernel_rfl) (by kernel_rfl) (by kernel_rfl) (Y_of (fun _ ⟨hb1, _⟩ => R_eqv (R_conv rfl any90 int22) (v' := .int .u64 ((ep : Nat) : Int)) (congrArg _ (w64n (by omega))))) ⟨hb1, trivial⟩ rfl ?_
      refine T_all (rs := [0, 4]) (by kernel_rfl) rfl (all2 (O_one rfl ?_) (O_one rfl ?_))
      · refine T_slArrP (i := 7) (j := 11) (r := 11) arr109 rfl (by decide) (by decide) (by decide) (by decide) rfl ⟨_, rfl⟩ rfl rfl ?_
        refine L_nil (N_then ⟨fun hN_ => ⟨hb1, trivial⟩, ?_⟩)
        refine T_all (rs := [4]) (by kernel_rfl) rfl (all1 (O_one rfl ?_))
        have ge5 : w.heap.size ≤ w11.heap.size := hB.size
        refine L_call rfl cb61 (wput (n := ep) (k := 4) (by decide)) rfl ?_
        rintro _ w12 ⟨hs11, A_3, c_3, rfl, ho3⟩
        have lb3 : g2 < w11.heap.size := hb5.lt
        replace hB := gb_tr hB hs11
        replace hS := hS.gb hs11
        replace hb1 := hb1.gb hs11
        replace hb5 := hb5.gb hs11
        have hlo3 : w11.heap.size ≤ w12.heap.size := hs11.size
        refine L_nil (N_then ⟨fun hN_ => ⟨hb1, trivial⟩, ?_⟩)
        refine T_all (rs := [5]) (by kernel_rfl) rfl (all1 (O_one rfl ?_))
        refine T_copy (xs := ((spl (List.replicate 11 (0 : UInt8)) 4 ((putN d.length 2).take 2)).set 6 (UInt8.ofNat k))) (ys := putN ep 4) (o := 7) (m := 4) EncB slc46 rfl rfl hb5 (fun _ => rfl) (by rw [(List.length_set.trans (spl_lenT List.length_replicate (by first | omega | (simp; omega))))]; first | omega | (simp; omega)) (own_of ho3).2.2 rfl ?_
        intro w13 hb6 hs12 hz8
        replace hB := gb_trg hB hs12 ge2
        replace hS := hS.old hs12 ge2
        replace hb1 := hb1.grown hs12 (ne_lt lt1)
        replace ho3 := own_other ho3 hb5 rfl hs12
        replace hlo3 := Nat.le_trans hlo3 hs12.size
        refine L_nil (N_then ⟨fun hN_ => ⟨hb1, trivial⟩, ?_⟩)
        refine T_done (by kernel_rfl) (CalmE.normal ?_)
        exact ⟨rfl, ⟨_, Ac_frg ⟨rfl, rfl, rfl, rfl, rfl, rfl, rfl, rfl, rfl, rfl, rfl, rfl, trivial⟩, hB, hS, hb1, hb6⟩⟩
      · have ge6 : w.heap.size ≤ w11.heap.size := hB.size
        refine L_call rfl cb61 (wput (n := ep) (k := 4) (by decide)) rfl ?_
        rintro _ w14 ⟨hs13, A_4, c_4, rfl, ho4⟩
        have lb4 : g2 < w11.heap.size := hb5.lt
        replace hB := gb_tr hB hs13
        replace hS := hS.gb hs13
        replace hb1 := hb1.gb hs13
        replace hb5 := hb5.gb hs13
        have hlo4 : w11.heap.size ≤ w14.heap.size := hs13.size
        refine L_nil (N_then ⟨fun hN_ => ⟨hb1, trivial⟩, ?_⟩)
        refine T_all (rs := [0]) (by kernel_rfl) rfl (all1 (O_one rfl ?_))
        refine T_slArrP (i := 7) (j := 11) (r := 11) arr109 rfl (by decide) (by decide) (by decide) (by decide) rfl ⟨_, rfl⟩ rfl rfl ?_
        refine L_nil (N_then ⟨fun hN_ => ⟨hb1, trivial⟩, ?_⟩)
        refine T_all (rs := [5]) (by kernel_rfl) rfl (all1 (O_one rfl ?_))
        refine T_copy (xs := ((spl (List.replicate 11 (0 : UInt8)) 4 ((putN d.length 2).take 2)).set 6 (UInt8.ofNat k))) (ys := putN ep 4) (o := 7) (m := 4) EncB slc46 rfl rfl hb5 (fun _ => rfl) (by rw [(List.length_set.trans (spl_lenT List.length_replicate (by first | omega | (simp; omega))))]; first | omega | (simp; omega)) (own_of ho4).2.2 rfl ?_
        intro w15 hb7 hs14 hz9
        replace hB := gb_trg hB hs14 ge2
        replace hS := hS.old hs14 ge2
        replace hb1 := hb1.grown hs14 (ne_lt lt1)
        replace ho4 := own_other ho4 hb5 rfl hs14
        replace hlo4 := Nat.le_trans hlo4 hs14.size
        refine L_nil (N_then ⟨fun hN_ => ⟨hb1, trivial⟩, ?_⟩)
        refine T_done (by kernel_rfl) (CalmE.normal ?_)
        exact ⟨rfl, ⟨_, Ac_frg ⟨rfl, rfl, rfl, rfl, rfl, rfl, rfl, rfl, rfl, rfl, rfl, rfl, trivial⟩, hB, hS, hb1, hb7⟩⟩
    · clear hB
      clear hS hb1 hb5
      rintro a_ w16 ⟨σ_, rfl, hB, hS, hb1, hj2⟩
      refine N_then (C_seq ?_)
      refine C_draw2 rfl mix ?_
      intro w17 hs15 hz10
      replace hB := gb_tr hB hs15
      replace hS := hS.gb hs15
      replace hb1 := hb1.gb hs15
      replace hj2 := hj2.gb hs15
      refine ⟨fun W_ => Blk W_ g1 92 [.int .i64 ((k : Nat) : Int), .int .u32 (ep : Int), .slice A2 d.length c2] ∧ True, [1, 2, 4], ?_⟩
      refine T_takeA (i := 1) rfl rfl (by kernel_rfl) (by kernel_rfl) (by kernel_rfl) (Y_of (fun _ ⟨hb1, _⟩ => R_field (r := 2) rfl fld92_2 rfl)) ⟨hb1, trivial⟩ rfl ?_
      refine T_takeA (i := 2) rfl rfl (by kernel_rfl) (by kernel_rfl) (by kernel_rfl) (Y_of (fun _ ⟨hb1, _⟩ => R_load1 rfl scl46 (hb1.cell (i := 2) rfl))) ⟨hb1, trivial⟩ rfl ?_
      refine T_all (rs := [0]) (by kernel_rfl) rfl (all1 (O_one rfl ?_))
      refine T_slArrP (i := 0) (j := 11) (r := 11) arr109 rfl (by decide) (by decide) (by decide) (by decide) rfl rfl ⟨_, rfl⟩ ⟨rfl, _, rfl⟩ ?_
      refine L_nil (N_then ⟨fun hN_ => ⟨hb1, trivial⟩, ?_⟩)
      refine T_all (rs := [3]) (by kernel_rfl) rfl (all1 (O_one rfl ?_))
      obtain ⟨H1, hH1, lH1⟩ : ∃ y_, y_ = (spl ((spl (List.replicate 11 (0 : UInt8)) 4 ((putN d.length 2).take 2)).set 6 (UInt8.ofNat k)) 7 ((putN ep 4).take 4)) ∧ y_.length = 11 := ⟨_, rfl, (spl_lenT (List.length_set.trans (spl_lenT List.length_replicate (by first | omega | (simp; omega)))) (by first | omega | (simp; omega)))⟩
      rw [← hH1] at hj2
      refine T_appG (xs := H1) (ys := d) slc46 zer5 rfl rfl lH1 rfl (Blk.sli (m := 0) hj2) hS (by omega) hd0 (by omega) (by omega) rfl ?_
      intro g3 k1 w18 eg3 hb8 hs16 hz11 hk1
      have ge7 : w.heap.size ≤ g3 := eg_ge hB eg3
      have hHd_ : (H1 ++ d).length = 11 + d.length := by rw [List.length_append, lH1]
      have lt2 : g1 < g3 := lt_of_eg hb1.lt eg3
      have lt3 : g2 < g3 := lt_of_eg hj2.lt eg3
      replace hB := gb_tr hB hs16
      replace hS := hS.gb hs16
      replace hb1 := hb1.gb hs16
      replace hj2 := hj2.gb hs16
      refine L_nil (N_then ⟨fun hN_ => ⟨hb1, trivial⟩, ?_⟩)
      refine T_takeA (i := 4) rfl rfl (by kernel_rfl) (by kernel_rfl) (by kernel_rfl) (Y_of (fun _ ⟨hb1, _⟩ => R_assign rfl)) ⟨hb1, trivial⟩ rfl ?_
      refine T_done (by kernel_rfl) (CalmE.normal ?_)
      refine N_then (C_seq ?_)
      refine C_join (fun a_ w_ => (∃ (σ_ : Nat → Value), a_ = Ac 40 σ_ [] [(0, .agg #[.int .i64 ((k : Nat) : Int), .int .u32 (ep : Int), .slice A2 d.length c2]), (1, .pointer (some ⟨g1, 0, none⟩)), (2, .slice none 0 0), (3, .int .i64 0), (4, .pointer (some ⟨g2, 0, none⟩)), (5, .slice (some ⟨g3, 0, none⟩) ((H1 ++ d).length) ((H1 ++ d).length + k1)), (6, .agg #[.int .i64 ((k : Nat) : Int), .int .u32 (ep : Int), .slice A2 d.length c2]), (7, .bool (decide (1 ≤ ((k : Nat) : Int) ∧ ((k : Nat) : Int) ≤ 4 ∧ d.length ≤ 197))), (8, .bool (decide (¬ (1 ≤ ((k : Nat) : Int) ∧ ((k : Nat) : Int) ≤ 4 ∧ d.length ≤ 197)))), (16, .pointer (some ⟨g1, 0, none⟩)), (17, .int .i64 ((k : Nat) : Int)), (18, .int .u8 ((UInt8.ofNat k).toNat : Int)), (19, .pointer (some ⟨g2, 6, none⟩)), (26, .slice (some ⟨g2, 0, none⟩) 11 11), (27, .pointer (some ⟨g1, 2, none⟩)), (28, .slice A2 d.length c2), (29, .slice (some ⟨g3, 0, none⟩) ((H1 ++ d).length) ((H1 ++ d).length + k1))] ∧ w.grownBy w_ none ∧ Sli t1 lo w.heap.size w_ A2 (fl encB d) ∧ Blk w_ g1 92 [.int .i64 ((k : Nat) : Int), .int .u32 (ep : Int), .slice A2 d.length c2] ∧ Blk w_ g2 109 (fl encB H1) ∧ Blk w_ g3 5 (fl encB (spl ((H1 ++ d) ++ List.replicate k1 (0 : UInt8)) (0 + 0) ((putN (maskN (moreN 0 ((((H1 ++ d) ++ List.replicate k1 (0 : UInt8)).drop (0 + 4)).take (((H1 ++ d).length) - 4)))) 4).take (((((H1 ++ d) ++ List.replicate k1 (0 : UInt8)).drop (0 + 0)).take (4 - 0)).length)))))) ?_ ?_
      · refine C_draw2 rfl mix ?_
        intro w19 hs17 hz12
        replace hB := gb_tr hB hs17
        replace hS := hS.gb hs17
        replace hb1 := hb1.gb hs17
        replace hj2 := hj2.gb hs17
        replace hb8 := hb8.gb hs17
        refine ⟨fun W_ => True, [0, 2, 6], ?_⟩
        refine T_takeA (i := 0) rfl rfl (by kernel_rfl) (by kernel_rfl) (by kernel_rfl) (Y_of (fun _ _ => R_move rfl)) trivial rfl ?_
        refine T_takeA (i := 2) rfl rfl (by kernel_rfl) (by kernel_rfl) (by kernel_rfl) (Y_of (fun _ _ => R_move rfl)) trivial rfl ?_
        refine T_all (rs := [1, 3]) (by kernel_rfl) rfl (all2 (O_one rfl ?_) (O_one rfl ?_))
        · refine T_slB (o := 0) (m := (H1 ++ d).length) (i := 0) (j := 4) (r := ((H1 ++ d).length + k1)) EncB slc46 rfl hb8 (by rw [app_rep]; omega) (by omega) (by omega) (by omega) (Nat.le_refl _) rfl rfl ⟨_, rfl⟩ rfl ?_
          intro A_5 hA1 hS_1
          refine L_nil (N_then ⟨fun hN_ => trivial, ?_⟩)
          refine T_all (rs := [3]) (by kernel_rfl) rfl (all1 (O_one rfl ?_))
          refine T_slB (o := 0) (m := (H1 ++ d).length) (i := 4) (j := (H1 ++ d).length) (r := ((H1 ++ d).length + k1)) EncB slc46 rfl hb8 (by rw [app_rep]; omega) (by omega) (Nat.le_refl _) (by omega) (Nat.le_refl _) rfl ⟨_, rfl⟩ rfl rfl ?_
          intro A_6 hA2 hS_2
          refine L_nil (N_then ⟨fun hN_ => trivial, ?_⟩)
          refine T_all (rs := [4]) (by kernel_rfl) rfl (all1 (O_one rfl ?_))
          refine L_call rfl cb63 (of_ok (bs := (((H1 ++ d) ++ List.replicate k1 (0 : UInt8)).drop (0 + 4)).take (((H1 ++ d).length) - 4)) hS_2 (by simp only [List.length_take, List.length_drop]; omega) (hT.gb hB)) rfl ?_
          rintro _ w20 ⟨hs18, rfl⟩
          replace hB := gb_tr hB hs18
          replace hS := hS.gb hs18
          replace hb1 := hb1.gb hs18
          replace hj2 := hj2.gb hs18
          replace hb8 := hb8.gb hs18
          replace hS_1 := hS_1.gb hs18
          replace hS_2 := hS_2.gb hs18
          refine L_nil (N_then ⟨fun hN_ => trivial, ?_⟩)
          refine T_all (rs := [5]) (by kernel_rfl) rfl (all1 (O_one rfl ?_))
          refine L_call rfl cb62 (mask_ok (s := (moreN 0 ((((H1 ++ d) ++ List.replicate k1 (0 : UInt8)).drop (0 + 4)).take (((H1 ++ d).length) - 4)))) (moreN_lt _ _ (by decide))) rfl ?_
          rintro _ w21 ⟨hs19, rfl⟩
          replace hB := gb_tr hB hs19
          replace hS := hS.gb hs19
          replace hb1 := hb1.gb hs19
          replace hj2 := hj2.gb hs19
          replace hb8 := hb8.gb hs19
          replace hS_1 := hS_1.gb hs19
          replace hS_2 := hS_2.gb hs19
          refine L_nil (N_then ⟨fun hN_ => trivial, ?_⟩)
          refine T_takeA (i := 6) rfl rfl (by kernel_rfl) (by kernel_rfl) (by kernel_rfl) (Y_of (fun _ _ => R_eqv (R_conv rfl any90 int22) (v' := .int .u64 (((maskN (moreN 0 ((((H1 ++ d) ++ List.replicate k1 (0 : UInt8)).drop (0 + 4)).take (((H1 ++ d).length) - 4)))) : Nat) : Int)) (congrArg _ (w64n (by unfold maskN; omega))))) trivial rfl ?_
          refine T_all (rs := [7]) (by kernel_rfl) rfl (all1 (O_one rfl ?_))
          have ge8 : w.heap.size ≤ w21.heap.size := hB.size
          refine L_call rfl cb61 (wput (n := (maskN (moreN 0 ((((H1 ++ d) ++ List.replicate k1 (0 : UInt8)).drop (0 + 4)).take (((H1 ++ d).length) - 4))))) (k := 4) (by decide)) rfl ?_
          rintro _ w22 ⟨hs20, A_7, c_5, rfl, ho5⟩
          have lb5 : g2 < w21.heap.size := hj2.lt
          have lb6 : g3 < w21.heap.size := hb8.lt
          replace hB := gb_tr hB hs20
          replace hS := hS.gb hs20
          replace hb1 := hb1.gb hs20
          replace hj2 := hj2.gb hs20
          replace hb8 := hb8.gb hs20
          replace hS_1 := hS_1.gb hs20
          replace hS_2 := hS_2.gb hs20
          have hap1 : ∀ k_, (Value.slice A_7 (putN (maskN (moreN 0 ((((H1 ++ d) ++ List.replicate k1 (0 : UInt8)).drop (0 + 4)).take (((H1 ++ d).length) - 4)))) 4).length c_5).ownBlock = some k_ → k_ ≠ g3 := fun k_ hk => by have h_ := (World.ownsRow.lt ho5 k_ hk).1; omega
          have hlo5 : w21.heap.size ≤ w22.heap.size := hs20.size
          refine L_nil (N_then ⟨fun hN_ => trivial, ?_⟩)
          refine T_all (rs := [8]) (by kernel_rfl) rfl (all1 (O_one rfl ?_))
          refine T_copy (xs := ((H1 ++ d) ++ List.replicate k1 (0 : UInt8))) (ys := putN (maskN (moreN 0 ((((H1 ++ d) ++ List.replicate k1 (0 : UInt8)).drop (0 + 4)).take (((H1 ++ d).length) - 4)))) 4) (o := (0 + 0)) (m := ((((H1 ++ d) ++ List.replicate k1 (0 : UInt8)).drop (0 + 0)).take (4 - 0)).length) EncB slc46 rfl rfl hb8 (fun _ => hA1 (by omega)) (by simp only [List.length_take, List.length_drop, app_rep] <;> omega) (own_of ho5).2.2 rfl ?_
          intro w23 hb9 hs21 hz13
          replace hB := gb_trg hB hs21 ge7
          replace hS := hS.old hs21 ge7
          replace hb1 := hb1.grown hs21 (ne_lt lt2)
          replace hj2 := hj2.grown hs21 (ne_lt lt3)
          replace ho5 := ho5.kept hs21 (.inr (fun e_ => hap1 _ e_ rfl))
          replace hlo5 := Nat.le_trans hlo5 hs21.size
          refine L_nil (N_then ⟨fun hN_ => trivial, ?_⟩)
          refine T_done (by kernel_rfl) (CalmE.normal ?_)
          exact ⟨rfl, ⟨_, Ac_frg ⟨rfl, rfl, rfl, rfl, rfl, rfl, rfl, rfl, rfl, rfl, rfl, rfl, rfl, rfl, rfl, rfl, rfl, trivial⟩, hB, hS, hb1, hj2, hb9⟩⟩
        · refine T_slB (o := 0) (m := (H1 ++ d).length) (i := 4) (j := (H1 ++ d).length) (r := ((H1 ++ d).length + k1)) EncB slc46 rfl hb8 (by rw [app_rep]; omega) (by omega) (Nat.le_refl _) (by omega) (Nat.le_refl _) rfl ⟨_, rfl⟩ rfl rfl ?_
          intro A_8 hA3 hS_3
          refine L_nil (N_then ⟨fun hN_ => trivial, ?_⟩)
          refine T_all (rs := [1, 4]) (by kernel_rfl) rfl (all2 (O_one rfl ?_) (O_one rfl ?_))
          · refine T_slB (o := 0) (m := (H1 ++ d).length) (i := 0) (j := 4) (r := ((H1 ++ d).length + k1)) EncB slc46 rfl hb8 (by rw [app_rep]; omega) (by omega) (by omega) (by omega) (Nat.le_refl _) rfl rfl ⟨_, rfl⟩ rfl ?_
            intro A_9 hA4 hS_4
            refine L_nil (N_then ⟨fun hN_ => trivial, ?_⟩)
            refine T_all (rs := [4]) (by kernel_rfl) rfl (all1 (O_one rfl ?_))
            refine L_call rfl cb63 (of_ok (bs := (((H1 ++ d) ++ List.replicate k1 (0 : UInt8)).drop (0 + 4)).take (((H1 ++ d).length) - 4)) hS_3 (by simp only [List.length_take, List.length_drop]; omega) (hT.gb hB)) rfl ?_
            rintro _ w24 ⟨hs22, rfl⟩
            replace hB := gb_tr hB hs22
            replace hS := hS.gb hs22
            replace hb1 := hb1.gb hs22
            replace hj2 := hj2.gb hs22
            replace hb8 := hb8.gb hs22
            replace hS_3 := hS_3.gb hs22
            replace hS_4 := hS_4.gb hs22
            refine L_nil (N_then ⟨fun hN_ => trivial, ?_⟩)
            refine T_all (rs := [5]) (by kernel_rfl) rfl (all1 (O_one rfl ?_))
            refine L_call rfl cb62 (mask_ok (s := (moreN 0 ((((H1 ++ d) ++ List.replicate k1 (0 : UInt8)).drop (0 + 4)).take (((H1 ++ d).length) - 4)))) (moreN_lt _ _ (by decide))) rfl ?_
            rintro _ w25 ⟨hs23, rfl⟩
            replace hB := gb_tr hB hs23
            replace hS := hS.gb hs23
            replace hb1 := hb1.gb hs23
            replace hj2 := hj2.gb hs23
            replace hb8 := hb8.gb hs23
            replace hS_3 := hS_3.gb hs23
            replace hS_4 := hS_4.gb hs23
            refine L_nil (N_then ⟨fun hN_ => trivial, ?_⟩)
            refine T_takeA (i := 6) rfl rfl (by kernel_rfl) (by kernel_rfl) (by kernel_rfl) (Y_of (fun _ _ => R_eqv (R_conv rfl any90 int22) (v' := .int .u64 (((maskN (moreN 0 ((((H1 ++ d) ++ List.replicate k1 (0 : UInt8)).drop (0 + 4)).take (((H1 ++ d).length) - 4)))) : Nat) : Int)) (congrArg _ (w64n (by unfold maskN; omega))))) trivial rfl ?_
            refine T_all (rs := [7]) (by kernel_rfl) rfl (all1 (O_one rfl ?_))
            have ge9 : w.heap.size ≤ w25.heap.size := hB.size
            refine L_call rfl cb61 (wput (n := (maskN (moreN 0 ((((H1 ++ d) ++ List.replicate k1 (0 : UInt8)).drop (0 + 4)).take (((H1 ++ d).length) - 4))))) (k := 4) (by decide)) rfl ?_
            rintro _ w26 ⟨hs24, A_10, c_6, rfl, ho6⟩
            have lb7 : g2 < w25.heap.size := hj2.lt
            have lb8 : g3 < w25.heap.size := hb8.lt
            replace hB := gb_tr hB hs24
            replace hS := hS.gb hs24
            replace hb1 := hb1.gb hs24
            replace hj2 := hj2.gb hs24
            replace hb8 := hb8.gb hs24
            replace hS_3 := hS_3.gb hs24
            replace hS_4 := hS_4.gb hs24
            have hap2 : ∀ k_, (Value.slice A_10 (putN (maskN (moreN 0 ((((H1 ++ d) ++ List.replicate k1 (0 : UInt8)).drop (0 + 4)).take (((H1 ++ d).length) - 4)))) 4).length c_6).ownBlock = some k_ → k_ ≠ g3 := fun k_ hk => by have h_ := (World.ownsRow.lt ho6 k_ hk).1; omega
            have hlo6 : w25.heap.size ≤ w26.heap.size := hs24.size
            refine L_nil (N_then ⟨fun hN_ => trivial, ?_⟩)
            refine T_all (rs := [8]) (by kernel_rfl) rfl (all1 (O_one rfl ?_))
            refine T_copy (xs := ((H1 ++ d) ++ List.replicate k1 (0 : UInt8))) (ys := putN (maskN (moreN 0 ((((H1 ++ d) ++ List.replicate k1 (0 : UInt8)).drop (0 + 4)).take (((H1 ++ d).length) - 4)))) 4) (o := (0 + 0)) (m := ((((H1 ++ d) ++ List.replicate k1 (0 : UInt8)).drop (0 + 0)).take (4 - 0)).length) EncB slc46 rfl rfl hb8 (fun _ => hA4 (by omega)) (by simp only [List.length_take, List.length_drop, app_rep] <;> omega) (own_of ho6).2.2 rfl ?_
            intro w27 hb10 hs25 hz14
            replace hB := gb_trg hB hs25 ge7
            replace hS := hS.old hs25 ge7
            replace hb1 := hb1.grown hs25 (ne_lt lt2)
            replace hj2 := hj2.grown hs25 (ne_lt lt3)
            replace ho6 := ho6.kept hs25 (.inr (fun e_ => hap2 _ e_ rfl))
            replace hlo6 := Nat.le_trans hlo6 hs25.size
            refine L_nil (N_then ⟨fun hN_ => trivial, ?_⟩)
            refine T_done (by kernel_rfl) (CalmE.normal ?_)
            exact ⟨rfl, ⟨_, Ac_frg ⟨rfl, rfl, rfl, rfl, rfl, rfl, rfl, rfl, rfl, rfl, rfl, rfl, rfl, rfl, rfl, rfl, rfl, trivial⟩, hB, hS, hb1, hj2, hb10⟩⟩
          · refine L_call rfl cb63 (of_ok (bs := (((H1 ++ d) ++ List.replicate k1 (0 : UInt8)).drop (0 + 4)).take (((H1 ++ d).length) - 4)) hS_3 (by simp only [List.length_take, List.length_drop]; omega) (hT.gb hB)) rfl ?_
            rintro _ w28 ⟨hs26, rfl⟩
            replace hB := gb_tr hB hs26
            replace hS := hS.gb hs26
            replace hb1 := hb1.gb hs26
            replace hj2 := hj2.gb hs26
            replace hb8 := hb8.gb hs26
            replace hS_3 := hS_3.gb hs26
            refine L_nil (N_then ⟨fun hN_ => trivial, ?_⟩)
            refine T_all (rs := [1, 5]) (by kernel_rfl) rfl (all2 (O_one rfl ?_) (O_one rfl ?_))
            · refine T_slB (o := 0) (m := (H1 ++ d).length) (i := 0) (j := 4) (r := ((H1 ++ d).length + k1)) EncB slc46 rfl hb8 (by rw [app_rep]; omega) (by omega) (by omega) (by omega) (Nat.le_refl _) rfl rfl ⟨_, rfl⟩ rfl ?_
              intro A_11 hA5 hS_5
              refine L_nil (N_then ⟨fun hN_ => trivial, ?_⟩)
              refine T_all (rs := [5]) (by kernel_rfl) rfl (all1 (O_one rfl ?_))
              refine L_call rfl cb62 (mask_ok (s := (moreN 0 ((((H1 ++ d) ++ List.replicate k1 (0 : UInt8)).drop (0 + 4)).take (((H1 ++ d).length) - 4)))) (moreN_lt _ _ (by decide))) rfl ?_
              rintro _ w29 ⟨hs27, rfl⟩
              replace hB := gb_tr hB hs27
              replace hS := hS.gb hs27
              replace hb1 := hb1.gb hs27
              replace hj2 := hj2.gb hs27
              replace hb8 := hb8.gb hs27
              replace hS_3 := hS_3.gb hs27
              replace hS_5 := hS_5.gb hs27
              refine L_nil (N_then ⟨fun hN_ => trivial, ?_⟩)
              refine T_takeA (i := 6) rfl rfl (by kernel_rfl) (by kernel_rfl) (by kernel_rfl) (Y_of (fun _ _ => R_eqv (R_conv rfl any90 int22) (v' := .int .u64 (((maskN (moreN 0 ((((H1 ++ d) ++ List.replicate k1 (0 : UInt8)).drop (0 + 4)).take (((H1 ++ d).length) - 4)))) : Nat) : Int)) (congrArg _ (w64n (by unfold maskN; omega))))) trivial rfl ?_
              refine T_all (rs := [7]) (by kernel_rfl) rfl (all1 (O_one rfl ?_))
              have ge10 : w.heap.size ≤ w29.heap.size := hB.size
              refine L_call rfl cb61 (wput (n := (maskN (moreN 0 ((((H1 ++ d) ++ List.replicate k1 (0 : UInt8)).drop (0 + 4)).take (((H1 ++ d).length) - 4))))) (k := 4) (by decide)) rfl ?_
              rintro _ w30 ⟨hs28, A_12, c_7, rfl, ho7⟩
              have lb9 : g2 < w29.heap.size := hj2.lt
              have lb10 : g3 < w29.heap.size := hb8.lt
              replace hB := gb_tr hB hs28
              replace hS := hS.gb hs28
              replace hb1 := hb1.gb hs28
              replace hj2 := hj2.gb hs28
              replace hb8 := hb8.gb hs28
              replace hS_3 := hS_3.gb hs28
              replace hS_5 := hS_5.gb hs28
              have hap3 : ∀ k_, (Value.slice A_12 (putN (maskN (moreN 0 ((((H1 ++ d) ++ List.replicate k1 (0 : UInt8)).drop (0 + 4)).take (((H1 ++ d).length) - 4)))) 4).length c_7).ownBlock = some k_ → k_ ≠ g3 := fun k_ hk => by have h_ := (World.ownsRow.lt ho7 k_ hk).1; omega
              have hlo7 : w29.heap.size ≤ w30.heap.size := hs28.size
              refine L_nil (N_then ⟨fun hN_ => trivial, ?_⟩)
              refine T_all (rs := [8]) (by kernel_rfl) rfl (all1 (O_one rfl ?_))
              refine T_copy (xs := ((H1 ++ d) ++ List.replicate k1 (0 : UInt8))) (ys := putN (maskN (moreN 0 ((((H1 ++ d) ++ List.replicate k1 (0 : UInt8)).drop (0 + 4)).take (((H1 ++ d).length) - 4)))) 4) (o := (0 + 0)) (m := ((((H1 ++ d) ++ List.replicate k1 (0 : UInt8)).drop (0 + 0)).take (4 - 0)).length) EncB slc46 rfl rfl hb8 (fun _ => hA5 (by omega)) (by simp only [List.length_take, List.length_drop, app_rep] <;> omega) (own_of ho7).2.2 rfl ?_
              intro w31 hb11 hs29 hz15
              replace hB := gb_trg hB hs29 ge7
              replace hS := hS.old hs29 ge7
              replace hb1 := hb1.grown hs29 (ne_lt lt2)
              replace hj2 := hj2.grown hs29 (ne_lt lt3)
              replace ho7 := ho7.kept hs29 (.inr (fun e_ => hap3 _ e_ rfl))
              replace hlo7 := Nat.le_trans hlo7 hs29.size
              refine L_nil (N_then ⟨fun hN_ => trivial, ?_⟩)
              refine T_done (by kernel_rfl) (CalmE.normal ?_)
              exact ⟨rfl, ⟨_, Ac_frg ⟨rfl, rfl, rfl, rfl, rfl, rfl, rfl, rfl, rfl, rfl, rfl, rfl, rfl, rfl, rfl, rfl, rfl, trivial⟩, hB, hS, hb1, hj2, hb11⟩⟩
            · refine L_call rfl cb62 (mask_ok (s := (moreN 0 ((((H1 ++ d) ++ List.replicate k1 (0 : UInt8)).drop (0 + 4)).take (((H1 ++ d).length) - 4)))) (moreN_lt _ _ (by decide))) rfl ?_
              rintro _ w32 ⟨hs30, rfl⟩
              replace hB := gb_tr hB hs30
              replace hS := hS.gb hs30
              replace hb1 := hb1.gb hs30
              replace hj2 := hj2.gb hs30
              replace hb8 := hb8.gb hs30
              replace hS_3 := hS_3.gb hs30
              refine L_nil (N_then ⟨fun hN_ => trivial, ?_⟩)
              refine T_takeA (i := 6) rfl rfl (by kernel_rfl) (by kernel_rfl) (by kernel_rfl) (Y_of (fun _ _ => R_eqv (R_conv rfl any90 int22) (v' := .int .u64 (((maskN (moreN 0 ((((H1 ++ d) ++ List.replicate k1 (0 : UInt8)).drop (0 + 4)).take (((H1 ++ d).length) - 4)))) : Nat) : Int)) (congrArg _ (w64n (by unfold maskN; omega))))) trivial rfl ?_
              refine T_all (rs := [1, 7]) (by kernel_rfl) rfl (all2 (O_one rfl ?_) (O_one rfl ?_))
              · refine T_slB (o := 0) (m := (H1 ++ d).length) (i := 0) (j := 4) (r := ((H1 ++ d).length + k1)) EncB slc46 rfl hb8 (by rw [app_rep]; omega) (by omega) (by omega) (by omega) (Nat.le_refl _) rfl rfl ⟨_, rfl⟩ rfl ?_
                intro A_13 hA6 hS_6
                refine L_nil (N_then ⟨fun hN_ => trivial, ?_⟩)
                refine T_all (rs := [7]) (by kernel_rfl) rfl (all1 (O_one rfl ?_))
                have ge11 : w.heap.size ≤ w32.heap.size := hB.size
                refine L_call rfl cb61 (wput (n := (maskN (moreN 0 ((((H1 ++ d) ++ List.replicate k1 (0 : UInt8)).drop (0 + 4)).take (((H1 ++ d).length) - 4))))) (k := 4) (by decide)) rfl ?_
                rintro _ w33 ⟨hs31, A_14, c_8, rfl, ho8⟩
                have lb11 : g2 < w32.heap.size := hj2.lt
                have lb12 : g3 < w32.heap.size := hb8.lt
                replace hB := gb_tr hB hs31
                replace hS := hS.gb hs31
                replace hb1 := hb1.gb hs31
                replace hj2 := hj2.gb hs31
                replace hb8 := hb8.gb hs31
                replace hS_3 := hS_3.gb hs31
                replace hS_6 := hS_6.gb hs31
                have hap4 : ∀ k_, (Value.slice A_14 (putN (maskN (moreN 0 ((((H1 ++ d) ++ List.replicate k1 (0 : UInt8)).drop (0 + 4)).take (((H1 ++ d).length) - 4)))) 4).length c_8).ownBlock = some k_ → k_ ≠ g3 := fun k_ hk => by have h_ := (World.ownsRow.lt ho8 k_ hk).1; omega
                have hlo8 : w32.heap.size ≤ w33.heap.size := hs31.size
                refine L_nil (N_then ⟨fun hN_ => trivial, ?_⟩)
                refine T_all (rs := [8]) (by kernel_rfl) rfl (all1 (O_one rfl ?_))
                refine T_copy (xs := ((H1 ++ d) ++ List.replicate k1 (0 : UInt8))) (ys := putN (maskN (moreN 0 ((((H1 ++ d) ++ List.replicate k1 (0 : UInt8)).drop (0 + 4)).take (((H1 ++ d).length) - 4)))) 4) (o := (0 + 0)) (m := ((((H1 ++ d) ++ List.replicate k1 (0 : UInt8)).drop (0 + 0)).take (4 - 0)).length) EncB slc46 rfl rfl hb8 (fun _ => hA6 (by omega)) (by simp only [List.length_take, List.length_drop, app_rep] <;> omega) (own_of ho8).2.2 rfl ?_
                intro w34 hb12 hs32 hz16
                replace hB := gb_trg hB hs32 ge7
                replace hS := hS.old hs32 ge7
                replace hb1 := hb1.grown hs32 (ne_lt lt2)
                replace hj2 := hj2.grown hs32 (ne_lt lt3)
                replace ho8 := ho8.kept hs32 (.inr (fun e_ => hap4 _ e_ rfl))
                replace hlo8 := Nat.le_trans hlo8 hs32.size
                refine L_nil (N_then ⟨fun hN_ => trivial, ?_⟩)
                refine T_done (by kernel_rfl) (CalmE.normal ?_)
                exact ⟨rfl, ⟨_, Ac_frg ⟨rfl, rfl, rfl, rfl, rfl, rfl, rfl, rfl, rfl, rfl, rfl, rfl, rfl, rfl, rfl, rfl, rfl, trivial⟩, hB, hS, hb1, hj2, hb12⟩⟩
              · have ge12 : w.heap.size ≤ w32.heap.size := hB.size
                refine L_call rfl cb61 (wput (n := (maskN (moreN 0 ((((H1 ++ d) ++ List.replicate k1 (0 : UInt8)).drop (0 + 4)).take (((H1 ++ d).length) - 4))))) (k := 4) (by decide)) rfl ?_
                rintro _ w35 ⟨hs33, A_15, c_9, rfl, ho9⟩
                have lb13 : g2 < w32.heap.size := hj2.lt
                have lb14 : g3 < w32.heap.size := hb8.lt
                replace hB := gb_tr hB hs33
                replace hS := hS.gb hs33
                replace hb1 := hb1.gb hs33
                replace hj2 := hj2.gb hs33
                replace hb8 := hb8.gb hs33
                replace hS_3 := hS_3.gb hs33
                have hap5 : ∀ k_, (Value.slice A_15 (putN (maskN (moreN 0 ((((H1 ++ d) ++ List.replicate k1 (0 : UInt8)).drop (0 + 4)).take (((H1 ++ d).length) - 4)))) 4).length c_9).ownBlock = some k_ → k_ ≠ g3 := fun k_ hk => by have h_ := (World.ownsRow.lt ho9 k_ hk).1; omega
                have hlo9 : w32.heap.size ≤ w35.heap.size := hs33.size
                refine L_nil (N_then ⟨fun hN_ => trivial, ?_⟩)
                refine T_all (rs := [1]) (by kernel_rfl) rfl (all1 (O_one rfl ?_))
                refine T_slB (o := 0) (m := (H1 ++ d).length) (i := 0) (j := 4) (r := ((H1 ++ d).length + k1)) EncB slc46 rfl hb8 (by rw [app_rep]; omega) (by omega) (by omega) (by omega) (Nat.le_refl _) rfl rfl ⟨_, rfl⟩ rfl ?_
                intro A_16 hA7 hS_7
                refine L_nil (N_then ⟨fun hN_ => trivial, ?_⟩)
                refine T_all (rs := [8]) (by kernel_rfl) rfl (all1 (O_one rfl ?_))
                refine T_copy (xs := ((H1 ++ d) ++ List.replicate k1 (0 : UInt8))) (ys := putN (maskN (moreN 0 ((((H1 ++ d) ++ List.replicate k1 (0 : UInt8)).drop (0 + 4)).take (((H1 ++ d).length) - 4)))) 4) (o := (0 + 0)) (m := ((((H1 ++ d) ++ List.replicate k1 (0 : UInt8)).drop (0 + 0)).take (4 - 0)).length) EncB slc46 rfl rfl hb8 (fun _ => hA7 (by omega)) (by simp only [List.length_take, List.length_drop, app_rep] <;> omega) (own_of ho9).2.2 rfl ?_
                intro w36 hb13 hs34 hz17
                replace hB := gb_trg hB hs34 ge7
                replace hS := hS.old hs34 ge7
                replace hb1 := hb1.grown hs34 (ne_lt lt2)
                replace hj2 := hj2.grown hs34 (ne_lt lt3)
                replace ho9 := ho9.kept hs34 (.inr (fun e_ => hap5 _ e_ rfl))
                replace hlo9 := Nat.le_trans hlo9 hs34.size
                refine L_nil (N_then ⟨fun hN_ => trivial, ?_⟩)
                refine T_done (by kernel_rfl) (CalmE.normal ?_)
                exact ⟨rfl, ⟨_, Ac_frg ⟨rfl, rfl, rfl, rfl, rfl, rfl, rfl, rfl, rfl, rfl, rfl, rfl, rfl, rfl, rfl, rfl, rfl, trivial⟩, hB, hS, hb1, hj2, hb13⟩⟩
      · clear hB
        clear hS hb1 hj2 hb8
        rintro a_ w37 ⟨σ_, rfl, hB, hS, hb1, hj2, hj3⟩
        refine N_then (C_seq (C_reg rfl ?_))
        refine L_run (R_move rfl) rfl ?_
        refine L_run (R_assign rfl) rfl ?_
        refine L_run (R_assign rfl) rfl ?_
        refine L_nil (N_then (C_ret ?_))
        refine ret2 Tryd.results49 rfl rfl ?_
        have hz_ := fenc_end (k := k) (ep := ep) (d := d) hH1 hj3
        exact ⟨hB, some ⟨g3, 0, none⟩, ((H1 ++ d).length + k1), (by rw [fragB_len, List.length_append, lH1]), hz_⟩

set_option maxHeartbeats 4000000 in
theorem fenc_0 {w : World} {k ep c2 : Nat}  {A2 : Option Addr} (hk0 : 1 ≤ k) (hk4 : k ≤ 4) (hep : ep < 4294967296) (hT : Tbw w) :
    Runs Tryd.prog 49 #[.agg #[.int .i64 ((k : Nat) : Int), .int .u32 (ep : Int), .slice A2 0 c2]] w (fun v w' => w.grownBy w' none ∧ ∃ A' c', v = .tuple #[.slice A' (fragB k ep []).length c', .int .i64 0] ∧ Sli 0 0 w'.heap.size w' A' (fl encB (fragB k ep []))) := by
  have hB := gb_refl w none
  have hk : k < 256 := by omega
  refine enter Tryd.func49 Tryd.ntmps49 rfl rfl ?_
  refine C_seq (C_reg rfl ?_)
  refine L_box (cs := [.int .i64 ((k : Nat) : Int), .int .u32 (ep : Int), .slice A2 0 c2]) rfl rfl rfl ?_
  intro g1 w1 eg1 hb1 hs1 hz1
  have ge1 : w.heap.size ≤ g1 := eg_ge hB eg1
  replace hB := gb_tr hB hs1
  refine L_run (R_assign rfl) rfl ?_
  refine L_run (R_assign rfl) rfl ?_
  refine L_nil (N_then (C_seq (C_seq (C_reg rfl ?_))))
  refine L_run (R_loadA (vs := [.int .i64 ((k : Nat) : Int), .int .u32 (ep : Int), .slice A2 0 c2]) rfl agg92 (At.pre (hb1.at_ 0) rfl) rfl) rfl ?_
  refine L_call rfl cb60 (fright) rfl ?_
  rintro _ w2 ⟨hs2, rfl⟩
  replace hB := gb_tr hB hs2
  replace hb1 := hb1.gb hs2
  refine L_run (R_notD rfl) rfl ?_
  refine L_nil (N_then (C_condF rfl (decide_eq_false (fun hn => hn ⟨by omega, by omega, by omega⟩)) (C_skip (N_then (C_seq (C_reg rfl ?_))))))
  refine L_alloc (cs := [.int .u8 0, .int .u8 0, .int .u8 0, .int .u8 0, .int .u8 0, .int .u8 0, .int .u8 0, .int .u8 0, .int .u8 0, .int .u8 0, .int .u8 0]) zer109 rfl rfl ?_
  intro g2 w3 eg2 hb2 hs3 hz2
  have ge2 : w.heap.size ≤ g2 := eg_ge hB eg2
  have lt1 : g1 < g2 := lt_of_eg hb1.lt eg2
  replace hB := gb_tr hB hs3
  replace hb1 := hb1.gb hs3
  replace hb2 : Blk w3 g2 109 (fl encB (List.replicate 11 (0 : UInt8))) := hb2
  refine L_nil (N_then (C_seq ?_))
  refine C_join (fun a_ w_ => (∃ (σ_ : Nat → Value) (A2 : Option Addr) (c2 : Nat), a_ = Ac 40 σ_ [] [(0, .agg #[.int .i64 ((k : Nat) : Int), .int .u32 (ep : Int), .slice A2 0 c2]), (1, .pointer (some ⟨g1, 0, none⟩)), (2, .slice none 0 0), (3, .int .i64 0), (4, .pointer (some ⟨g2, 0, none⟩)), (6, .agg #[.int .i64 ((k : Nat) : Int), .int .u32 (ep : Int), .slice A2 0 c2]), (7, .bool (decide (1 ≤ ((k : Nat) : Int) ∧ ((k : Nat) : Int) ≤ 4 ∧ 0 ≤ 197))), (8, .bool (decide (¬ (1 ≤ ((k : Nat) : Int) ∧ ((k : Nat) : Int) ≤ 4 ∧ 0 ≤ 197))))] ∧ w.grownBy w_ none ∧ Blk w_ g1 92 [.int .i64 ((k : Nat) : Int), .int .u32 (ep : Int), .slice A2 0 c2] ∧ Blk w_ g2 109 (fl encB (spl (List.replicate 11 (0 : UInt8)) 4 ((putN 0 2).take 2))))) ?_ ?_
  · refine C_draw2 rfl mix ?_
    intro w4 hs4 hz3
    replace hB := gb_tr hB hs4
    replace hb1 := hb1.gb hs4
    replace hb2 := hb2.gb hs4
    refine ⟨fun W_ => Blk W_ g1 92 [.int .i64 ((k : Nat) : Int), .int .u32 (ep : Int), .slice A2 0 c2] ∧ True, [1, 2, 3, 4], ?_⟩
    refine T_takeA (i := 1) rfl rfl (by kernel_rfl) (by kernel_rfl) (by kernel_rfl) (Y_of (fun _ ⟨hb1, _⟩ => R_field (r := 2) rfl fld92_2 rfl)) ⟨hb1, trivial⟩ rfl ?_
    refine T_takeA (i := 2) rfl rfl (by kernel_rfl) (by kernel_rfl) (by kernel_rfl) (Y_of (fun _ ⟨hb1, _⟩ => R_load1 rfl scl46 (hb1.cell (i := 2) rfl))) ⟨hb1, trivial⟩ rfl ?_
    refine T_takeA (i := 3) rfl rfl (by kernel_rfl) (by kernel_rfl) (by kernel_rfl) (Y_of (fun _ ⟨hb1, _⟩ => R_eqv (R_lenSl rfl slc46) (v' := .int .i64 0) rfl)) ⟨hb1, trivial⟩ rfl ?_
    refine T_takeA (i := 4) rfl rfl (by kernel_rfl) (by kernel_rfl) (by kernel_rfl) (Y_of (fun _ ⟨hb1, _⟩ => R_eqv ((R_conv' rfl any3 int22 (by first | rfl | (simp only [IntKind.wrap_i64, IntKind.wrap_u64, IntKind.wrap_u8, IntKind.wrap_u32]; omega)))) (v' := .int .u64 ((0 : Nat) : Int)) (congrArg _ (w64n (by omega))))) ⟨hb1, trivial⟩ rfl ?_
    refine T_all (rs := [0, 5]) (by kernel_rfl) rfl (all2 (O_one rfl ?_) (O_one rfl ?_))
    · refine T_slArrP (i := 4) (j := 6) (r := 11) arr109 rfl (by decide) (by decide) (by decide) (by decide) rfl ⟨_, rfl⟩ ⟨_, rfl⟩ rfl ?_
      refine L_nil (N_then ⟨fun hN_ => ⟨hb1, trivial⟩, ?_⟩)
      refine T_all (rs := [5]) (by kernel_rfl) rfl (all1 (O_one rfl ?_))
      have ge3 : w.heap.size ≤ w4.heap.size := hB.size
      refine L_call rfl cb61 (wput (n := 0) (k := 2) (by decide)) rfl ?_
      rintro _ w5 ⟨hs5, A_1, c_1, rfl, ho1⟩
      have lb1 : g2 < w4.heap.size := hb2.lt
      replace hB := gb_tr hB hs5
      replace hb1 := hb1.gb hs5
      replace hb2 := hb2.gb hs5
      have hlo1 : w4.heap.size ≤ w5.heap.size := hs5.size
      refine L_nil (N_then ⟨fun hN_ => ⟨hb1, trivial⟩, ?_⟩)
      refine T_all (rs := [6]) (by kernel_rfl) rfl (all1 (O_one rfl ?_))
      refine T_copy (xs := (List.replicate 11 (0 : UInt8))) (ys := putN 0 2) (o := 4) (m := 2) EncB slc46 rfl rfl hb2 (fun _ => rfl) (by rw [List.length_replicate]; first | omega | (simp; omega)) (own_of ho1).2.2 rfl ?_
      intro w6 hb3 hs6 hz4
      replace hB := gb_trg hB hs6 ge2
      replace hb1 := hb1.grown hs6 (ne_lt lt1)
      replace ho1 := own_other ho1 hb2 rfl hs6
      replace hlo1 := Nat.le_trans hlo1 hs6.size
      refine L_nil (N_then ⟨fun hN_ => ⟨hb1, trivial⟩, ?_⟩)
      refine T_done (by kernel_rfl) (CalmE.normal ?_)
      exact ⟨rfl, ⟨_, A2, c2, Ac_frg ⟨rfl, rfl, rfl, rfl, rfl, rfl, rfl, rfl, trivial⟩, hB, hb1, hb3⟩⟩
    · have ge4 : w.heap.size ≤ w4.heap.size := hB.size
      refine L_call rfl cb61 (wput (n := 0) (k := 2) (by decide)) rfl ?_
      rintro _ w7 ⟨hs7, A_2, c_2, rfl, ho2⟩
      have lb2 : g2 < w4.heap.size := hb2.lt
      replace hB := gb_tr hB hs7
      replace hb1 := hb1.gb hs7
      replace hb2 := hb2.gb hs7
      have hlo2 : w4.heap.size ≤ w7.heap.size := hs7.size
      refine L_nil (N_then ⟨fun hN_ => ⟨hb1, trivial⟩, ?_⟩)
      refine T_all (rs := [0]) (by kernel_rfl) rfl (all1 (O_one rfl ?_))
      refine T_slArrP (i := 4) (j := 6) (r := 11) arr109 rfl (by decide) (by decide) (by decide) (by decide) rfl ⟨_, rfl⟩ ⟨_, rfl⟩ rfl ?_
      refine L_nil (N_then ⟨fun hN_ => ⟨hb1, trivial⟩, ?_⟩)
      refine T_all (rs := [6]) (by kernel_rfl) rfl (all1 (O_one rfl ?_))
      refine T_copy (xs := (List.replicate 11 (0 : UInt8))) (ys := putN 0 2) (o := 4) (m := 2) EncB slc46 rfl rfl hb2 (fun _ => rfl) (by rw [List.length_replicate]; first | omega | (simp; omega)) (own_of ho2).2.2 rfl ?_
      intro w8 hb4 hs8 hz5
      replace hB := gb_trg hB hs8 ge2
      replace hb1 := hb1.grown hs8 (ne_lt lt1)
      replace ho2 := own_other ho2 hb2 rfl hs8
      replace hlo2 := Nat.le_trans hlo2 hs8.size
      refine L_nil (N_then ⟨fun hN_ => ⟨hb1, trivial⟩, ?_⟩)
      refine T_done (by kernel_rfl) (CalmE.normal ?_)
      exact ⟨rfl, ⟨_, A2, c2, Ac_frg ⟨rfl, rfl, rfl, rfl, rfl, rfl, rfl, rfl, trivial⟩, hB, hb1, hb4⟩⟩
  · clear hB
    clear hb1 hb2
    rintro a_ w9 ⟨σ_, A2, c2, rfl, hB, hb1, hj1⟩
    refine N_then (C_seq (C_reg rfl ?_))
    refine L_run (R_field (r := 0) rfl fld92_0 rfl) rfl ?_
    refine L_run (R_load1 rfl scl3 (hb1.cell (i := 0) rfl)) rfl ?_
    refine L_run (R_eqv (R_conv rfl any3 int5) (v' := .int .u8 ((UInt8.ofNat k).toNat : Int)) (u8_of _ hk)) rfl ?_
    refine L_run (R_indexArr (i := 6) (r := 6) rfl rfl (by first | rfl | omega) arr109 (by omega) (by omega)) rfl ?_
    refine L_st1v (v := .int .u8 ((UInt8.ofNat k).toNat : Int)) rfl rfl rfl sz5 hj1 (by rw [fl_len EncB, Nat.mul_one]; first | (omega) | (rw [(spl_lenT List.length_replicate (by first | omega | (simp; omega)))]; omega)) ?_
    intro w10 hb5 hs9 hz6
    rw [fl_setB (by first | (omega) | (rw [(spl_lenT List.length_replicate (by first | omega | (simp; omega)))]; omega))] at hb5
    replace hB := gb_trg hB hs9 ge2
    replace hb1 := hb1.grown hs9 (ne_lt lt1)
    refine L_nil (N_then (C_seq ?_))
    refine C_join (fun a_ w_ => (∃ (σ_ : Nat → Value), a_ = Ac 40 σ_ [] [(0, .agg #[.int .i64 ((k : Nat) : Int), .int .u32 (ep : Int), .slice A2 0 c2]), (1, .pointer (some ⟨g1, 0, none⟩)), (2, .slice none 0 0), (3, .int .i64 0), (4, .pointer (some ⟨g2, 0, none⟩)), (6, .agg #[.int .i64 ((k : Nat) : Int), .int .u32 (ep : Int), .slice A2 0 c2]), (7, .bool (decide (1 ≤ ((k : Nat) : Int) ∧ ((k : Nat) : Int) ≤ 4 ∧ 0 ≤ 197))), (8, .bool (decide (¬ (1 ≤ ((k : Nat) : Int) ∧ ((k : Nat) : Int) ≤ 4 ∧ 0 ≤ 197)))), (16, .pointer (some ⟨g1, 0, none⟩)), (17, .int .i64 ((k : Nat) : Int)), (18, .int .u8 ((UInt8.ofNat k).toNat : Int)), (19, .pointer (some ⟨g2, 6, none⟩))] ∧ w.grownBy w_ none ∧ Blk w_ g1 92 [.int .i64 ((k : Nat) : Int), .int .u32 (ep : Int), .slice A2 0 c2] ∧ Blk w_ g2 109 (fl encB (spl ((spl (List.replicate 11 (0 : UInt8)) 4 ((putN 0 2).take 2)).set 6 (UInt8.ofNat k)) 7 ((putN ep 4).take 4))))) ?_ ?_
    · refine C_draw2 rfl mix ?_
      intro w11 hs10 hz7
      replace hB := gb_tr hB hs10
      replace hb1 := hb1.gb hs10
      replace hb5 := hb5.gb hs10
      refine ⟨fun W_ => Blk W_ g1 92 [.int .i64 ((k : Nat) : Int), .int .u32 (ep : Int), .slice A2 0 c2] ∧ True, [1, 2, 3], ?_⟩
      refine T_takeA (i := 1) rfl rfl (by kernel_rfl) (by kernel_rfl) (by kernel_rfl) (Y_of (fun _ ⟨hb1, _⟩ => R_field (r := 1) rfl fld92_1 rfl)) ⟨hb1, trivial⟩ rfl ?_
      refine T_takeA (i := 2) rfl rfl (by kernel_rfl) (by kernel_rfl) (by kernel_rfl) (Y_of (fun _ ⟨hb1, _⟩ => R_load1 rfl scl90 (hb1.cell (i := 1) rfl))) ⟨hb1, trivial⟩ rfl ?_
      refine T_takeA (i := 3) rfl rfl (by kernel_rfl) (by kernel_rfl) (by kernel_rfl) (Y_of (fun _ ⟨hb1, _⟩ => R_eqv (R_conv rfl any90 int22) (v' := .int .u64 ((ep : Nat) : Int)) (congrArg _ (w64n (by omega))))) ⟨hb1, trivial⟩ rfl ?_
      refine T_all (rs := [0, 4]) (by kernel_rfl) rfl (all2 (O_one rfl ?_) (O_one rfl ?_))
      · refine T_slArrP (i := 7) (j := 11) (r := 11) arr109 rfl (by decide) (by decide) (by decide) (by decide) rfl ⟨_, rfl⟩ rfl rfl ?_
        refine L_nil (N_then ⟨fun hN_ => ⟨hb1, trivial⟩, ?_⟩)
        refine T_all (rs := [4]) (by kernel_rfl) rfl (all1 (O_one rfl ?_))
        have ge5 : w.heap.size ≤ w11.heap.size := hB.size
        refine L_call rfl cb61 (wput (n := ep) (k := 4) (by decide)) rfl ?_
        rintro _ w12 ⟨hs11, A_3, c_3, rfl, ho3⟩
        have lb3 : g2 < w11.heap.size := hb5.lt
        replace hB := gb_tr hB hs11
        replace hb1 := hb1.gb hs11
        replace hb5 := hb5.gb hs11
        have hlo3 : w11.heap.size ≤ w12.heap.size := hs11.size
        refine L_nil (N_then ⟨fun hN_ => ⟨hb1, trivial⟩, ?_⟩)
        refine T_all (rs := [5]) (by kernel_rfl) rfl (all1 (O_one rfl ?_))
        refine T_copy (xs := ((spl (List.replicate 11 (0 : UInt8)) 4 ((putN 0 2).take 2)).set 6 (UInt8.ofNat k))) (ys := putN ep 4) (o := 7) (m := 4) EncB slc46 rfl rfl hb5 (fun _ => rfl) (by rw [(List.length_set.trans (spl_lenT List.length_replicate (by first | omega | (simp; omega))))]; first | omega | (simp; omega)) (own_of ho3).2.2 rfl ?_
        intro w13 hb6 hs12 hz8
        replace hB := gb_trg hB hs12 ge2
        replace hb1 := hb1.grown hs12 (ne_lt lt1)
        replace ho3 := own_other ho3 hb5 rfl hs12
        replace hlo3 := Nat.le_trans hlo3 hs12.size
        refine L_nil (N_then ⟨fun hN_ => ⟨hb1, trivial⟩, ?_⟩)
        refine T_done (by kernel_rfl) (CalmE.normal ?_)
        exact ⟨rfl, ⟨_, Ac_frg ⟨rfl, rfl, rfl, rfl, rfl, rfl, rfl, rfl, rfl, rfl, rfl, rfl, trivial⟩, hB, hb1, hb6⟩⟩
      · have ge6 : w.heap.size ≤ w11.heap.size := hB.size
        refine L_call rfl cb61 (wput (n := ep) (k := 4) (by decide)) rfl ?_
        rintro _ w14 ⟨hs13, A_4, c_4, rfl, ho4⟩
        have lb4 : g2 < w11.heap.size := hb5.lt
        replace hB := gb_tr hB hs13
        replace hb1 := hb1.gb hs13
        replace hb5 := hb5.gb hs13
        have hlo4 : w11.heap.size ≤ w14.heap.size := hs13.size
        refine L_nil (N_then ⟨fun hN_ => ⟨hb1, trivial⟩, ?_⟩)
        refine T_all (rs := [0]) (by kernel_rfl) rfl (all1 (O_one rfl ?_))
        refine T_slArrP (i := 7) (j := 11) (r := 11) arr109 rfl (by decide) (by decide) (by decide) (by decide) rfl ⟨_, rfl⟩ rfl rfl ?_
        refine L_nil (N_then ⟨fun hN_ => ⟨hb1, trivial⟩, ?_⟩)
        refine T_all (rs := [5]) (by kernel_rfl) rfl (all1 (O_one rfl ?_))
        refine T_copy (xs := ((spl (List.replicate 11 (0 : UInt8)) 4 ((putN 0 2).take 2)).set 6 (UInt8.ofNat k))) (ys := putN ep 4) (o := 7) (m := 4) EncB slc46 rfl rfl hb5 (fun _ => rfl) (by rw [(List.length_set.trans (spl_lenT List.length_replicate (by first | omega | (simp; omega))))]; first | omega | (simp; omega)) (own_of ho4).2.2 rfl ?_
        intro w15 hb7 hs14 hz9
        replace hB := gb_trg hB hs14 ge2
        replace hb1 := hb1.grown hs14 (ne_lt lt1)
        replace ho4 := own_other ho4 hb5 rfl hs14
        replace hlo4 := Nat.le_trans hlo4 hs14.size
        refine L_nil (N_then ⟨fun hN_ => ⟨hb1, trivial⟩, ?_⟩)
        refine T_done (by kernel_rfl) (CalmE.normal ?_)
        exact ⟨rfl, ⟨_, Ac_frg ⟨rfl, rfl, rfl, rfl, rfl, rfl, rfl, rfl, rfl, rfl, rfl, rfl, trivial⟩, hB, hb1, hb7⟩⟩
    · clear hB
      clear hb1 hb5
      rintro a_ w16 ⟨σ_, rfl, hB, hb1, hj2⟩
      refine N_then (C_seq ?_)
      refine C_draw2 rfl mix ?_
      intro w17 hs15 hz10
      replace hB := gb_tr hB hs15
      replace hb1 := hb1.gb hs15
      replace hj2 := hj2.gb hs15
      refine ⟨fun W_ => Blk W_ g1 92 [.int .i64 ((k : Nat) : Int), .int .u32 (ep : Int), .slice A2 0 c2] ∧ True, [1, 2, 4], ?_⟩
      refine T_takeA (i := 1) rfl rfl (by kernel_rfl) (by kernel_rfl) (by kernel_rfl) (Y_of (fun _ ⟨hb1, _⟩ => R_field (r := 2) rfl fld92_2 rfl)) ⟨hb1, trivial⟩ rfl ?_
      refine T_takeA (i := 2) rfl rfl (by kernel_rfl) (by kernel_rfl) (by kernel_rfl) (Y_of (fun _ ⟨hb1, _⟩ => R_load1 rfl scl46 (hb1.cell (i := 2) rfl))) ⟨hb1, trivial⟩ rfl ?_
      refine T_all (rs := [0]) (by kernel_rfl) rfl (all1 (O_one rfl ?_))
      refine T_slArrP (i := 0) (j := 11) (r := 11) arr109 rfl (by decide) (by decide) (by decide) (by decide) rfl rfl ⟨_, rfl⟩ ⟨rfl, _, rfl⟩ ?_
      refine L_nil (N_then ⟨fun hN_ => ⟨hb1, trivial⟩, ?_⟩)
      refine T_all (rs := [3]) (by kernel_rfl) rfl (all1 (O_one rfl ?_))
      refine T_appE slc46 rfl rfl (by omega) rfl ?_
      refine L_nil (N_then ⟨fun hN_ => ⟨hb1, trivial⟩, ?_⟩)
      refine T_takeA (i := 4) rfl rfl (by kernel_rfl) (by kernel_rfl) (by kernel_rfl) (Y_of (fun _ ⟨hb1, _⟩ => R_assign rfl)) ⟨hb1, trivial⟩ rfl ?_
      refine T_done (by kernel_rfl) (CalmE.normal ?_)
      refine N_then (C_seq ?_)
      refine C_join (fun a_ w_ => (∃ (σ_ : Nat → Value), a_ = Ac 40 σ_ [] [(0, .agg #[.int .i64 ((k : Nat) : Int), .int .u32 (ep : Int), .slice A2 0 c2]), (1, .pointer (some ⟨g1, 0, none⟩)), (2, .slice none 0 0), (3, .int .i64 0), (4, .pointer (some ⟨g2, 0, none⟩)), (5, .slice (some ⟨g2, 0, none⟩) 11 11), (6, .agg #[.int .i64 ((k : Nat) : Int), .int .u32 (ep : Int), .slice A2 0 c2]), (7, .bool (decide (1 ≤ ((k : Nat) : Int) ∧ ((k : Nat) : Int) ≤ 4 ∧ 0 ≤ 197))), (8, .bool (decide (¬ (1 ≤ ((k : Nat) : Int) ∧ ((k : Nat) : Int) ≤ 4 ∧ 0 ≤ 197)))), (16, .pointer (some ⟨g1, 0, none⟩)), (17, .int .i64 ((k : Nat) : Int)), (18, .int .u8 ((UInt8.ofNat k).toNat : Int)), (19, .pointer (some ⟨g2, 6, none⟩)), (26, .slice (some ⟨g2, 0, none⟩) 11 11), (27, .pointer (some ⟨g1, 2, none⟩)), (28, .slice A2 0 c2), (29, .slice (some ⟨g2, 0, none⟩) 11 11)] ∧ w.grownBy w_ none ∧ Blk w_ g1 92 [.int .i64 ((k : Nat) : Int), .int .u32 (ep : Int), .slice A2 0 c2] ∧ Blk w_ g2 109 (fl encB (spl (spl ((spl (List.replicate 11 (0 : UInt8)) 4 ((putN 0 2).take 2)).set 6 (UInt8.ofNat k)) 7 ((putN ep 4).take 4)) (0 + 0) ((putN (maskN (moreN 0 (((spl ((spl (List.replicate 11 (0 : UInt8)) 4 ((putN 0 2).take 2)).set 6 (UInt8.ofNat k)) 7 ((putN ep 4).take 4)).drop (0 + 4)).take (11 - 4)))) 4).take ((((spl ((spl (List.replicate 11 (0 : UInt8)) 4 ((putN 0 2).take 2)).set 6 (UInt8.ofNat k)) 7 ((putN ep 4).take 4)).drop (0 + 0)).take (4 - 0)).length)))))) ?_ ?_
      · refine C_draw2 rfl mix ?_
        intro w18 hs16 hz11
        replace hB := gb_tr hB hs16
        replace hb1 := hb1.gb hs16
        replace hj2 := hj2.gb hs16
        refine ⟨fun W_ => True, [0, 2, 6], ?_⟩
        refine T_takeA (i := 0) rfl rfl (by kernel_rfl) (by kernel_rfl) (by kernel_rfl) (Y_of (fun _ _ => R_move rfl)) trivial rfl ?_
        refine T_takeA (i := 2) rfl rfl (by kernel_rfl) (by kernel_rfl) (by kernel_rfl) (Y_of (fun _ _ => R_move rfl)) trivial rfl ?_
        refine T_all (rs := [1, 3]) (by kernel_rfl) rfl (all2 (O_one rfl ?_) (O_one rfl ?_))
        · refine T_slB (o := 0) (m := 11) (i := 0) (j := 4) (r := 11) EncB slc46 rfl hj2 (by rw [(spl_lenT (List.length_set.trans (spl_lenT List.length_replicate (by first | omega | (simp; omega)))) (by first | omega | (simp; omega)))]; omega) (by omega) (by omega) (by omega) (Nat.le_refl _) rfl rfl ⟨_, rfl⟩ rfl ?_
          intro A_5 hA1 hS_1
          refine L_nil (N_then ⟨fun hN_ => trivial, ?_⟩)
          refine T_all (rs := [3]) (by kernel_rfl) rfl (all1 (O_one rfl ?_))
          refine T_slB (o := 0) (m := 11) (i := 4) (j := 11) (r := 11) EncB slc46 rfl hj2 (by rw [(spl_lenT (List.length_set.trans (spl_lenT List.length_replicate (by first | omega | (simp; omega)))) (by first | omega | (simp; omega)))]; omega) (by omega) (Nat.le_refl _) (by omega) (Nat.le_refl _) rfl ⟨_, rfl⟩ rfl rfl ?_
          intro A_6 hA2 hS_2
          refine L_nil (N_then ⟨fun hN_ => trivial, ?_⟩)
          refine T_all (rs := [4]) (by kernel_rfl) rfl (all1 (O_one rfl ?_))
          refine L_call rfl cb63 (of_ok (bs := ((spl ((spl (List.replicate 11 (0 : UInt8)) 4 ((putN 0 2).take 2)).set 6 (UInt8.ofNat k)) 7 ((putN ep 4).take 4)).drop (0 + 4)).take (11 - 4)) hS_2 (by simp only [List.length_take, List.length_drop]; omega) (hT.gb hB)) rfl ?_
          rintro _ w19 ⟨hs17, rfl⟩
          replace hB := gb_tr hB hs17
          replace hb1 := hb1.gb hs17
          replace hj2 := hj2.gb hs17
          replace hS_1 := hS_1.gb hs17
          replace hS_2 := hS_2.gb hs17
          refine L_nil (N_then ⟨fun hN_ => trivial, ?_⟩)
          refine T_all (rs := [5]) (by kernel_rfl) rfl (all1 (O_one rfl ?_))
          refine L_call rfl cb62 (mask_ok (s := (moreN 0 (((spl ((spl (List.replicate 11 (0 : UInt8)) 4 ((putN 0 2).take 2)).set 6 (UInt8.ofNat k)) 7 ((putN ep 4).take 4)).drop (0 + 4)).take (11 - 4)))) (moreN_lt _ _ (by decide))) rfl ?_
          rintro _ w20 ⟨hs18, rfl⟩
          replace hB := gb_tr hB hs18
          replace hb1 := hb1.gb hs18
          replace hj2 := hj2.gb hs18
          replace hS_1 := hS_1.gb hs18
          replace hS_2 := hS_2.gb hs18
          refine L_nil (N_then ⟨fun hN_ => trivial, ?_⟩)
          refine T_takeA (i := 6) rfl rfl (by kernel_rfl) (by kernel_rfl) (by kernel_rfl) (Y_of (fun _ _ => R_eqv (R_conv rfl any90 int22) (v' := .int .u64 (((maskN (moreN 0 (((spl ((spl (List.replicate 11 (0 : UInt8)) 4 ((putN 0 2).take 2)).set 6 (UInt8.ofNat k)) 7 ((putN ep 4).take 4)).drop (0 + 4)).take (11 - 4)))) : Nat) : Int)) (congrArg _ (w64n (by unfold maskN; omega))))) trivial rfl ?_
          refine T_all (rs := [7]) (by kernel_rfl) rfl (all1 (O_one rfl ?_))
          have ge7 : w.heap.size ≤ w20.heap.size := hB.size
          refine L_call rfl cb61 (wput (n := (maskN (moreN 0 (((spl ((spl (List.replicate 11 (0 : UInt8)) 4 ((putN 0 2).take 2)).set 6 (UInt8.ofNat k)) 7 ((putN ep 4).take 4)).drop (0 + 4)).take (11 - 4))))) (k := 4) (by decide)) rfl ?_
          rintro _ w21 ⟨hs19, A_7, c_5, rfl, ho5⟩
          have lb5 : g2 < w20.heap.size := hj2.lt
          replace hB := gb_tr hB hs19
          replace hb1 := hb1.gb hs19
          replace hj2 := hj2.gb hs19
          replace hS_1 := hS_1.gb hs19
          replace hS_2 := hS_2.gb hs19
          have hlo5 : w20.heap.size ≤ w21.heap.size := hs19.size
          refine L_nil (N_then ⟨fun hN_ => trivial, ?_⟩)
          refine T_all (rs := [8]) (by kernel_rfl) rfl (all1 (O_one rfl ?_))
          refine T_copy (xs := (spl ((spl (List.replicate 11 (0 : UInt8)) 4 ((putN 0 2).take 2)).set 6 (UInt8.ofNat k)) 7 ((putN ep 4).take 4))) (ys := putN (maskN (moreN 0 (((spl ((spl (List.replicate 11 (0 : UInt8)) 4 ((putN 0 2).take 2)).set 6 (UInt8.ofNat k)) 7 ((putN ep 4).take 4)).drop (0 + 4)).take (11 - 4)))) 4) (o := (0 + 0)) (m := (((spl ((spl (List.replicate 11 (0 : UInt8)) 4 ((putN 0 2).take 2)).set 6 (UInt8.ofNat k)) 7 ((putN ep 4).take 4)).drop (0 + 0)).take (4 - 0)).length) EncB slc46 rfl rfl hj2 (fun _ => hA1 (by omega)) (by simp only [List.length_take, List.length_drop, app_rep] <;> omega) (own_of ho5).2.2 rfl ?_
          intro w22 hb8 hs20 hz12
          replace hB := gb_trg hB hs20 ge2
          replace hb1 := hb1.grown hs20 (ne_lt lt1)
          replace ho5 := own_other ho5 hj2 rfl hs20
          replace hlo5 := Nat.le_trans hlo5 hs20.size
          refine L_nil (N_then ⟨fun hN_ => trivial, ?_⟩)
          refine T_done (by kernel_rfl) (CalmE.normal ?_)
          exact ⟨rfl, ⟨_, Ac_frg ⟨rfl, rfl, rfl, rfl, rfl, rfl, rfl, rfl, rfl, rfl, rfl, rfl, rfl, rfl, rfl, rfl, rfl, trivial⟩, hB, hb1, hb8⟩⟩
        · refine T_slB (o := 0) (m := 11) (i := 4) (j := 11) (r := 11) EncB slc46 rfl hj2 (by rw [(spl_lenT (List.length_set.trans (spl_lenT List.length_replicate (by first | omega | (simp; omega)))) (by first | omega | (simp; omega)))]; omega) (by omega) (Nat.le_refl _) (by omega) (Nat.le_refl _) rfl ⟨_, rfl⟩ rfl rfl ?_
          intro A_8 hA3 hS_3
          refine L_nil (N_then ⟨fun hN_ => trivial, ?_⟩)
          refine T_all (rs := [1, 4]) (by kernel_rfl) rfl (all2 (O_one rfl ?_) (O_one rfl ?_))
          · refine T_slB (o := 0) (m := 11) (i := 0) (j := 4) (r := 11) EncB slc46 rfl hj2 (by rw [(spl_lenT (List.length_set.trans (spl_lenT List.length_replicate (by first | omega | (simp; omega)))) (by first | omega | (simp; omega)))]; omega) (by omega) (by omega) (by omega) (Nat.le_refl _) rfl rfl ⟨_, rfl⟩ rfl ?_
            intro A_9 hA4 hS_4
            refine L_nil (N_then ⟨fun hN_ => trivial, ?_⟩)
            refine T_all (rs := [4]) (by kernel_rfl) rfl (all1 (O_one rfl ?_))
            refine L_call rfl cb63 (of_ok (bs := ((spl ((spl (List.replicate 11 (0 : UInt8)) 4 ((putN 0 2).take 2)).set 6 (UInt8.ofNat k)) 7 ((putN ep 4).take 4)).drop (0 + 4)).take (11 - 4)) hS_3 (by simp only [List.length_take, List.length_drop]; omega) (hT.gb hB)) rfl ?_
            rintro _ w23 ⟨hs21, rfl⟩
            replace hB := gb_tr hB hs21
            replace hb1 := hb1.gb hs21
            replace hj2 := hj2.gb hs21
            replace hS_3 := hS_3.gb hs21
            replace hS_4 := hS_4.gb hs21
            refine L_nil (N_then ⟨fun hN_ => trivial, ?_⟩)
            refine T_all (rs := [5]) (by kernel_rfl) rfl (all1 (O_one rfl ?_))
            refine L_call rfl cb62 (mask_ok (s := (moreN 0 (((spl ((spl (List.replicate 11 (0 : UInt8)) 4 ((putN 0 2).take 2)).set 6 (UInt8.ofNat k)) 7 ((putN ep 4).take 4)).drop (0 + 4)).take (11 - 4)))) (moreN_lt _ _ (by decide))) rfl ?_
            rintro _ w24 ⟨hs22, rfl⟩
            replace hB := gb_tr hB hs22
            replace hb1 := hb1.gb hs22
            replace hj2 := hj2.gb hs22
            replace hS_3 := hS_3.gb hs22
            replace hS_4 := hS_4.gb hs22
            refine L_nil (N_then ⟨fun hN_ => trivial, ?_⟩)
            refine T_takeA (i := 6) rfl rfl (by kernel_rfl) (by kernel_rfl) (by kernel_rfl) (Y_of (fun _ _ => R_eqv (R_conv rfl any90 int22) (v' := .int .u64 (((maskN (moreN 0 (((spl ((spl (List.replicate 11 (0 : UInt8)) 4 ((putN 0 2).take 2)).set 6 (UInt8.ofNat k)) 7 ((putN ep 4).take 4)).drop (0 + 4)).take (11 - 4)))) : Nat) : Int)) (congrArg _ (w64n (by unfold maskN; omega))))) trivial rfl ?_
            refine T_all (rs := [7]) (by kernel_rfl) rfl (all1 (O_one rfl ?_))
            have ge8 : w.heap.size ≤ w24.heap.size := hB.size
            refine L_call rfl cb61 (wput (n := (maskN (moreN 0 (((spl ((spl (List.replicate 11 (0 : UInt8)) 4 ((putN 0 2).take 2)).set 6 (UInt8.ofNat k)) 7 ((putN ep 4).take 4)).drop (0 + 4)).take (11 - 4))))) (k := 4) (by decide)) rfl ?_
            rintro _ w25 ⟨hs23, A_10, c_6, rfl, ho6⟩
            have lb6 : g2 < w24.heap.size := hj2.lt
            replace hB := gb_tr hB hs23
            replace hb1 := hb1.gb hs23
            replace hj2 := hj2.gb hs23
            replace hS_3 := hS_3.gb hs23
            replace hS_4 := hS_4.gb hs23
            have hlo6 : w24.heap.size ≤ w25.heap.size := hs23.size
            refine L_nil (N_then ⟨fun hN_ => trivial, ?_⟩)
            refine T_all (rs := [8]) (by kernel_rfl) rfl (all1 (O_one rfl ?_))
            refine T_copy (xs := (spl ((spl (List.replicate 11 (0 : UInt8)) 4 ((putN 0 2).take 2)).set 6 (UInt8.ofNat k)) 7 ((putN ep 4).take 4))) (ys := putN (maskN (moreN 0 (((spl ((spl (List.replicate 11 (0 : UInt8)) 4 ((putN 0 2).take 2)).set 6 (UInt8.ofNat k)) 7 ((putN ep 4).take 4)).drop (0 + 4)).take (11 - 4)))) 4) (o := (0 + 0)) (m := (((spl ((spl (List.replicate 11 (0 : UInt8)) 4 ((putN 0 2).take 2)).set 6 (UInt8.ofNat k)) 7 ((putN ep 4).take 4)).drop (0 + 0)).take (4 - 0)).length) EncB slc46 rfl rfl hj2 (fun _ => hA4 (by omega)) (by simp only [List.length_take, List.length_drop, app_rep] <;> omega) (own_of ho6).2.2 rfl ?_
            intro w26 hb9 hs24 hz13
            replace hB := gb_trg hB hs24 ge2
            replace hb1 := hb1.grown hs24 (ne_lt lt1)
            replace ho6 := own_other ho6 hj2 rfl hs24
            replace hlo6 := Nat.le_trans hlo6 hs24.size
            refine L_nil (N_then ⟨fun hN_ => trivial, ?_⟩)
            refine T_done (by kernel_rfl) (CalmE.normal ?_)
            exact ⟨rfl, ⟨_, Ac_frg ⟨rfl, rfl, rfl, rfl, rfl, rfl, rfl, rfl, rfl, rfl, rfl, rfl, rfl, rfl, rfl, rfl, rfl, trivial⟩, hB, hb1, hb9⟩⟩
          · refine L_call rfl cb63 (of_ok (bs := ((spl ((spl (List.replicate 11 (0 : UInt8)) 4 ((putN 0 2).take 2)).set 6 (UInt8.ofNat k)) 7 ((putN ep 4).take 4)).drop (0 + 4)).take (11 - 4)) hS_3 (by simp only [List.length_take, List.length_drop]; omega) (hT.gb hB)) rfl ?_
            rintro _ w27 ⟨hs25, rfl⟩
            replace hB := gb_tr hB hs25
            replace hb1 := hb1.gb hs25
            replace hj2 := hj2.gb hs25
            replace hS_3 := hS_3.gb hs25
            refine L_nil (N_then ⟨fun hN_ => trivial, ?_⟩)
            refine T_all (rs := [1, 5]) (by kernel_rfl) rfl (all2 (O_one rfl ?_) (O_one rfl ?_))
            · refine T_slB (o := 0) (m := 11) (i := 0) (j := 4) (r := 11) EncB slc46 rfl hj2 (by rw [(spl_lenT (List.length_set.trans (spl_lenT List.length_replicate (by first | omega | (simp; omega)))) (by first | omega | (simp; omega)))]; omega) (by omega) (by omega) (by omega) (Nat.le_refl _) rfl rfl ⟨_, rfl⟩ rfl ?_
              intro A_11 hA5 hS_5
              refine L_nil (N_then ⟨fun hN_ => trivial, ?_⟩)
              refine T_all (rs := [5]) (by kernel_rfl) rfl (all1 (O_one rfl ?_))
              refine L_call rfl cb62 (mask_ok (s := (moreN 0 (((spl ((spl (List.replicate 11 (0 : UInt8)) 4 ((putN 0 2).take 2)).set 6 (UInt8.ofNat k)) 7 ((putN ep 4).take 4)).drop (0 + 4)).take (11 - 4)))) (moreN_lt _ _ (by decide))) rfl ?_
              rintro _ w28 ⟨hs26, rfl⟩
              replace hB := gb_tr hB hs26
              replace hb1 := hb1.gb hs26
              replace hj2 := hj2.gb hs26
              replace hS_3 := hS_3.gb hs26
              replace hS_5 := hS_5.gb hs26
              refine L_nil (N_then ⟨fun hN_ => trivial, ?_⟩)
              refine T_takeA (i := 6) rfl rfl (by kernel_rfl) (by kernel_rfl) (by kernel_rfl) (Y_of (fun _ _ => R_eqv (R_conv rfl any90 int22) (v' := .int .u64 (((maskN (moreN 0 (((spl ((spl (List.replicate 11 (0 : UInt8)) 4 ((putN 0 2).take 2)).set 6 (UInt8.ofNat k)) 7 ((putN ep 4).take 4)).drop (0 + 4)).take (11 - 4)))) : Nat) : Int)) (congrArg _ (w64n (by unfold maskN; omega))))) trivial rfl ?_
              refine T_all (rs := [7]) (by kernel_rfl) rfl (all1 (O_one rfl ?_))
              have ge9 : w.heap.size ≤ w28.heap.size := hB.size
              refine L_call rfl cb61 (wput (n := (maskN (moreN 0 (((spl ((spl (List.replicate 11 (0 : UInt8)) 4 ((putN 0 2).take 2)).set 6 (UInt8.ofNat k)) 7 ((putN ep 4).take 4)).drop (0 + 4)).take (11 - 4))))) (k := 4) (by decide)) rfl ?_
              rintro _ w29 ⟨hs27, A_12, c_7, rfl, ho7⟩
              have lb7 : g2 < w28.heap.size := hj2.lt
              replace hB := gb_tr hB hs27
              replace hb1 := hb1.gb hs27
              replace hj2 := hj2.gb hs27
              replace hS_3 := hS_3.gb hs27
              replace hS_5 := hS_5.gb hs27
              have hlo7 : w28.heap.size ≤ w29.heap.size := hs27.size
              refine L_nil (N_then ⟨fun hN_ => trivial, ?_⟩)
              refine T_all (rs := [8]) (by kernel_rfl) rfl (all1 (O_one rfl ?_))
              refine T_copy (xs := (spl ((spl (List.replicate 11 (0 : UInt8)) 4 ((putN 0 2).take 2)).set 6 (UInt8.ofNat k)) 7 ((putN ep 4).take 4))) (ys := putN (maskN (moreN 0 (((spl ((spl (List.replicate 11 (0 : UInt8)) 4 ((putN 0 2).take 2)).set 6 (UInt8.ofNat k)) 7 ((putN ep 4).take 4)).drop (0 + 4)).take (11 - 4)))) 4) (o := (0 + 0)) (m := (((spl ((spl (List.replicate 11 (0 : UInt8)) 4 ((putN 0 2).take 2)).set 6 (UInt8.ofNat k)) 7 ((putN ep 4).take 4)).drop (0 + 0)).take (4 - 0)).length) EncB slc46 rfl rfl hj2 (fun _ => hA5 (by omega)) (by simp only [List.length_take, List.length_drop, app_rep] <;> omega) (own_of ho7).2.2 rfl ?_
              intro w30 hb10 hs28 hz14
              replace hB := gb_trg hB hs28 ge2
              replace hb1 := hb1.grown hs28 (ne_lt lt1)
              replace ho7 := own_other ho7 hj2 rfl hs28
              replace hlo7 := Nat.le_trans hlo7 hs28.size
              refine L_nil (N_then ⟨fun hN_ => trivial, ?_⟩)
              refine T_done (by kernel_rfl) (CalmE.normal ?_)
              exact ⟨rfl, ⟨_, Ac_frg ⟨rfl, rfl, rfl, rfl, rfl, rfl, rfl, rfl, rfl, rfl, rfl, rfl, rfl, rfl, rfl, rfl, rfl, trivial⟩, hB, hb1, hb10⟩⟩
            · refine L_call rfl cb62 (mask_ok (s := (moreN 0 (((spl ((spl (List.replicate 11 (0 : UInt8)) 4 ((putN 0 2).take 2)).set 6 (UInt8.ofNat k)) 7 ((putN ep 4).take 4)).drop (0 + 4)).take (11 - 4)))) (moreN_lt _ _ (by decide))) rfl ?_
              rintro _ w31 ⟨hs29, rfl⟩
              replace hB := gb_tr hB hs29
              replace hb1 := hb1.gb hs29
              replace hj2 := hj2.gb hs29
              replace hS_3 := hS_3.gb hs29
              refine L_nil (N_then ⟨fun hN_ => trivial, ?_⟩)
              refine T_takeA (i := 6) rfl rfl (by kernel_rfl) (by kernel_rfl) (by kernel_rfl) (Y_of (fun _ _ => R_eqv (R_conv rfl any90 int22) (v' := .int .u64 (((maskN (moreN 0 (((spl ((spl (List.replicate 11 (0 : UInt8)) 4 ((putN 0 2).take 2)).set 6 (UInt8.ofNat k)) 7 ((putN ep 4).take 4)).drop (0 + 4)).take (11 - 4)))) : Nat) : Int)) (congrArg _ (w64n (by unfold maskN; omega))))) trivial rfl ?_
              refine T_all (rs := [1, 7]) (by kernel_rfl) rfl (all2 (O_one rfl ?_) (O_one rfl ?_))
              · refine T_slB (o := 0) (m := 11) (i := 0) (j := 4) (r := 11) EncB slc46 rfl hj2 (by rw [(spl_lenT (List.length_set.trans (spl_lenT List.length_replicate (by first | omega | (simp; omega)))) (by first | omega | (simp; omega)))]; omega) (by omega) (by omega) (by omega) (Nat.le_refl _) rfl rfl ⟨_, rfl⟩ rfl ?_
                intro A_13 hA6 hS_6
                refine L_nil (N_then ⟨fun hN_ => trivial, ?_⟩)
                refine T_all (rs := [7]) (by kernel_rfl) rfl (all1 (O_one rfl ?_))
                have ge10 : w.heap.size ≤ w31.heap.size := hB.size
                refine L_call rfl cb61 (wput (n := (maskN (moreN 0 (((spl ((spl (List.replicate 11 (0 : UInt8)) 4 ((putN 0 2).take 2)).set 6 (UInt8.ofNat k)) 7 ((putN ep 4).take 4)).drop (0 + 4)).take (11 - 4))))) (k := 4) (by decide)) rfl ?_
                rintro _ w32 ⟨hs30, A_14, c_8, rfl, ho8⟩
                have lb8 : g2 < w31.heap.size := hj2.lt
                replace hB := gb_tr hB hs30
                replace hb1 := hb1.gb hs30
                replace hj2 := hj2.gb hs30
                replace hS_3 := hS_3.gb hs30
                replace hS_6 := hS_6.gb hs30
                have hlo8 : w31.heap.size ≤ w32.heap.size := hs30.size
                refine L_nil (N_then ⟨fun hN_ => trivial, ?_⟩)
                refine T_all (rs := [8]) (by kernel_rfl) rfl (all1 (O_one rfl ?_))
                refine T_copy (xs := (spl ((spl (List.replicate 11 (0 : UInt8)) 4 ((putN 0 2).take 2)).set 6 (UInt8.ofNat k)) 7 ((putN ep 4).take 4))) (ys := putN (maskN (moreN 0 (((spl ((spl (List.replicate 11 (0 : UInt8)) 4 ((putN 0 2).take 2)).set 6 (UInt8.ofNat k)) 7 ((putN ep 4).take 4)).drop (0 + 4)).take (11 - 4)))) 4) (o := (0 + 0)) (m := (((spl ((spl (List.replicate 11 (0 : UInt8)) 4 ((putN 0 2).take 2)).set 6 (UInt8.ofNat k)) 7 ((putN ep 4).take 4)).drop (0 + 0)).take (4 - 0)).length) EncB slc46 rfl rfl hj2 (fun _ => hA6 (by omega)) (by simp only [List.length_take, List.length_drop, app_rep] <;> omega) (own_of ho8).2.2 rfl ?_
                intro w33 hb11 hs31 hz15
                replace hB := gb_trg hB hs31 ge2
                replace hb1 := hb1.grown hs31 (ne_lt lt1)
                replace ho8 := own_other ho8 hj2 rfl hs31
                replace hlo8 := Nat.le_trans hlo8 hs31.size
                refine L_nil (N_then ⟨fun hN_ => trivial, ?_⟩)
                refine T_done (by kernel_rfl) (CalmE.normal ?_)
                exact ⟨rfl, ⟨_, Ac_frg ⟨rfl, rfl, rfl, rfl, rfl, rfl, rfl, rfl, rfl, rfl, rfl, rfl, rfl, rfl, rfl, rfl, rfl, trivial⟩, hB, hb1, hb11⟩⟩
              · have ge11 : w.heap.size ≤ w31.heap.size := hB.size
                refine L_call rfl cb61 (wput (n := (maskN (moreN 0 (((spl ((spl (List.replicate 11 (0 : UInt8)) 4 ((putN 0 2).take 2)).set 6 (UInt8.ofNat k)) 7 ((putN ep 4).take 4)).drop (0 + 4)).take (11 - 4))))) (k := 4) (by decide)) rfl ?_
                rintro _ w34 ⟨hs32, A_15, c_9, rfl, ho9⟩
                have lb9 : g2 < w31.heap.size := hj2.lt
                replace hB := gb_tr hB hs32
                replace hb1 := hb1.gb hs32
                replace hj2 := hj2.gb hs32
                replace hS_3 := hS_3.gb hs32
                have hlo9 : w31.heap.size ≤ w34.heap.size := hs32.size
                refine L_nil (N_then ⟨fun hN_ => trivial, ?_⟩)
                refine T_all (rs := [1]) (by kernel_rfl) rfl (all1 (O_one rfl ?_))
                refine T_slB (o := 0) (m := 11) (i := 0) (j := 4) (r := 11) EncB slc46 rfl hj2 (by rw [(spl_lenT (List.length_set.trans (spl_lenT List.length_replicate (by first | omega | (simp; omega)))) (by first | omega | (simp; omega)))]; omega) (by omega) (by omega) (by omega) (Nat.le_refl _) rfl rfl ⟨_, rfl⟩ rfl ?_
                intro A_16 hA7 hS_7
                refine L_nil (N_then ⟨fun hN_ => trivial, ?_⟩)
                refine T_all (rs := [8]) (by kernel_rfl) rfl (all1 (O_one rfl ?_))
                refine T_copy (xs := (spl ((spl (List.replicate 11 (0 : UInt8)) 4 ((putN 0 2).take 2)).set 6 (UInt8.ofNat k)) 7 ((putN ep 4).take 4))) (ys := putN (maskN (moreN 0 (((spl ((spl (List.replicate 11 (0 : UInt8)) 4 ((putN 0 2).take 2)).set 6 (UInt8.ofNat k)) 7 ((putN ep 4).take 4)).drop (0 + 4)).take (11 - 4)))) 4) (o := (0 + 0)) (m := (((spl ((spl (List.replicate 11 (0 : UInt8)) 4 ((putN 0 2).take 2)).set 6 (UInt8.ofNat k)) 7 ((putN ep 4).take 4)).drop (0 + 0)).take (4 - 0)).length) EncB slc46 rfl rfl hj2 (fun _ => hA7 (by omega)) (by simp only [List.length_take, List.length_drop, app_rep] <;> omega) (own_of ho9).2.2 rfl ?_
                intro w35 hb12 hs33 hz16
                replace hB := gb_trg hB hs33 ge2
                replace hb1 := hb1.grown hs33 (ne_lt lt1)
                replace ho9 := own_other ho9 hj2 rfl hs33
                replace hlo9 := Nat.le_trans hlo9 hs33.size
                refine L_nil (N_then ⟨fun hN_ => trivial, ?_⟩)
                refine T_done (by kernel_rfl) (CalmE.normal ?_)
                exact ⟨rfl, ⟨_, Ac_frg ⟨rfl, rfl, rfl, rfl, rfl, rfl, rfl, rfl, rfl, rfl, rfl, rfl, rfl, rfl, rfl, rfl, rfl, trivial⟩, hB, hb1, hb12⟩⟩
      · clear hB
        clear hb1 hj2
        rintro a_ w36 ⟨σ_, rfl, hB, hb1, hj3⟩
        refine N_then (C_seq (C_reg rfl ?_))
        refine L_run (R_move rfl) rfl ?_
        refine L_run (R_assign rfl) rfl ?_
        refine L_run (R_assign rfl) rfl ?_
        refine L_nil (N_then (C_ret ?_))
        refine ret2 Tryd.results49 rfl rfl ?_
        have hz_ := fenc_end0 (k := k) (ep := ep) hj3
        exact ⟨hB, some ⟨g2, 0, none⟩, 11, rfl, hz_⟩

theorem fenc_ok {w : World} {k ep c2 : Nat} {t1 lo hi : Nat} {d : List UInt8} {A2 : Option Addr} (hk0 : 1 ≤ k) (hk4 : k ≤ 4) (hep : ep < 4294967296) (hT : Tbw w) (hS : Sli t1 lo hi w A2 (fl encB d)) (hd : d.length ≤ 197) :
    Runs Tryd.prog 49 #[.agg #[.int .i64 ((k : Nat) : Int), .int .u32 (ep : Int), .slice A2 d.length c2]] w (fun v w' => w.grownBy w' none ∧ ∃ A' c', v = .tuple #[.slice A' (fragB k ep d).length c', .int .i64 0] ∧ Sli 0 0 w'.heap.size w' A' (fl encB (fragB k ep d))) := by
  cases d with
  | nil => exact fenc_0 hk0 hk4 hep hT
  | cons x_ r_ => exact fenc_d hk0 hk4 hep hT hS (Nat.succ_pos _) hd
end Go.Proofs.YtbpjdcpfphnccaaDoor
