import Derived.Test.YtkjgjejkfjhcjaaDoorKc
/-
  What the law's proof stands on, part 4.
-/
namespace Go.Proofs.YtkjgjejkfjhcjaaDoor
open Go.RowKit Gw Pl
set_option linter.unusedVariables false
set_option linter.unusedSimpArgs false
theorem cb35 : callB Tryd.prog 35 = true := by kernel_rfl
theorem cb36 : callB Tryd.prog 36 = true := by kernel_rfl
theorem cb37 : callB Tryd.prog 37 = true := by kernel_rfl
theorem cb85 : callB Tryd.prog 85 = true := by kernel_rfl
theorem bytes13 {w : World} {t1 lo hi : Nat} {A : Option Addr} {c k ep : Nat} {d : List UInt8} (hS : Sli t1 lo hi w A (fl encB d)) (hd : d.length ≤ 197) (hk : k < 256) (hep : ep < 4294967296) :
    Runs Tryd.prog 85 #[.agg #[.int .i64 ((k : Nat) : Int), .int .u32 (ep : Int), .slice A d.length c]] w (fun v w' => w.grownBy w' none ∧ ∃ A' c', v = .slice A' (putN (maskN (moreN 0 (((putN d.length 2 ++ [UInt8.ofNat k]) ++ putN ep 4) ++ d))) 4 ++ (((putN d.length 2 ++ [UInt8.ofNat k]) ++ putN ep 4) ++ d)).length c' ∧ World.ownsRow w' w.heap.size 5 1 (.slice A' (putN (maskN (moreN 0 (((putN d.length 2 ++ [UInt8.ofNat k]) ++ putN ep 4) ++ d))) 4 ++ (((putN d.length 2 ++ [UInt8.ofNat k]) ++ putN ep 4) ++ d)).length c') (putN (maskN (moreN 0 (((putN d.length 2 ++ [UInt8.ofNat k]) ++ putN ep 4) ++ d))) 4 ++ (((putN d.length 2 ++ [UInt8.ofNat k]) ++ putN ep 4) ++ d)).length (fl encB (putN (maskN (moreN 0 (((putN d.length 2 ++ [UInt8.ofNat k]) ++ putN ep 4) ++ d))) 4 ++ (((putN d.length 2 ++ [UInt8.ofNat k]) ++ putN ep 4) ++ d)))) := by
 have hB := gb_refl w none
 replace hS := hS.top
 refine enter Tryd.func85 Tryd.ntmps85 rfl rfl ?_
 refine C_seq (C_reg rfl ?_)
 refine L_box (cs := [.int .i64 ((k : Nat) : Int), .int .u32 (ep : Int), .slice A d.length c]) rfl rfl rfl ?_
 intro g1 w1 eg1 hb1 hs1 hz1
 replace hB := gb_tr hB hs1; replace hS := hS.gb hs1
 refine Las rfl rfl (L_nil (N_then (C_seq (C_reg rfl (L_run (R_field (r := 2) rfl fld86_2 rfl) rfl (L_run (R_load1 rfl scl34 (hb1.cell (i := 2) rfl)) rfl (L_run (R_lenSl rfl slc34) rfl ?_)))))))
 refine L_run (R_eqv (R_conv rfl any3 int30) (v' := .int .u64 (d.length : Int)) (congrArg _ (w64n (by omega)))) rfl ?_
 have ge2 : w.heap.size ≤ w1.heap.size := hB.size
 refine L_call rfl cb104 (ref1_put (n := d.length) (k := 2) (by omega) (by first | omega | (unfold maskN; omega))) rfl ?_
 rintro _ w2 ⟨hs2, A_1, c_1, rfl, ho1⟩
 replace hB := gb_tr hB hs2; replace hS := hS.gb hs2; replace hb1 := hb1.gb hs2
 have hlo1 : w1.heap.size ≤ w2.heap.size := hs2.size
 refine Las rfl rfl (L_nil (N_then (C_seq (C_reg rfl (Lmv rfl rfl (L_run (R_field (r := 0) rfl fld86_0 rfl) rfl (L_run (R_load1 rfl scl3 (hb1.cell (i := 0) rfl)) rfl (L_run (R_eqv (R_conv rfl any3 int5) (v' := .int .u8 ((UInt8.ofNat k).toNat : Int)) (u8_of _ hk)) rfl ?_))))))))
 refine L_buildSlice (pv := [(0, .int .u8 ((UInt8.ofNat k).toNat : Int))]) (cs := [.int .u8 ((UInt8.ofNat k).toNat : Int)]) slc34 zer5 rfl rfl (by kernel_rfl) rfl ?_
 intro g2 w3 eg2 hb2 hs3 hz2
 have hap1 : ∀ k_, (Value.slice A_1 (putN d.length 2).length c_1).ownBlock = some k_ → k_ ≠ g2 := fun k_ hk => by have h_ := (World.ownsRow.lt ho1 k_ hk).2; omega
 replace hB := gb_tr hB hs3; replace hS := hS.gb hs3; replace hb1 := hb1.gb hs3; replace ho1 := own_gb ho1 hs3; replace hlo1 := Nat.le_trans hlo1 hs3.size
 refine T_append (xs := putN d.length 2) (ys := [(UInt8.ofNat k)]) EncB slc34 rfl rfl ho1 (Blk.sli (m := 0) hb2) (by simp only [List.length_append, putN_len, List.length_cons, List.length_nil]; omega) hlo1 rfl ?_
 intro A_2 c_2 w4 ho2 hs4 hat1
 replace hB := gb_tro hB ho1 hs4 ge2; replace hS := hS.grown hs4 (fun k hk => .inr (Nat.le_trans ge2 (World.ownsRow.lt ho1 k hk).1)); replace hb1 := blk_own hb1 ho1 rfl hs4; replace hlo1 := Nat.le_trans hlo1 hs4.size
 refine Las rfl rfl (L_nil (N_then (C_seq (C_reg rfl (Lmv rfl rfl (L_run (R_field (r := 1) rfl fld86_1 rfl) rfl (L_run (R_load1 rfl scl75 (hb1.cell (i := 1) rfl)) rfl ?_)))))))
 refine L_run (R_eqv (R_conv rfl any75 int30) (v' := .int .u64 (ep : Int)) (congrArg _ (w64n (by omega)))) rfl ?_
 refine L_call rfl cb104 (ref1_put (n := ep) (k := 4) (by omega) (by first | omega | (unfold maskN; omega))) rfl ?_
 rintro _ w5 ⟨hs5, A_3, c_3, rfl, ho3⟩
 replace hB := gb_tr hB hs5; replace hS := hS.gb hs5; replace hb1 := hb1.gb hs5; replace hlo1 := Nat.le_trans hlo1 hs5.size; replace ho2 := own_gb ho2 hs5
 have hlo2 : w4.heap.size ≤ w5.heap.size := hs5.size
 refine T_append (xs := (putN d.length 2) ++ ([(UInt8.ofNat k)])) (ys := putN ep 4) EncB slc34 rfl rfl ho2 (own_of ho3).2.2 (by simp only [List.length_append, putN_len, List.length_cons, List.length_nil]; omega) hlo1 rfl ?_
 intro A_4 c_4 w6 ho4 hs6 hat2
 replace hB := gb_tro hB ho2 hs6 ge2; replace hS := hS.grown hs6 (fun k hk => .inr (Nat.le_trans ge2 (World.ownsRow.lt ho2 k hk).1)); replace hb1 := blk_own hb1 ho2 rfl hs6; replace hlo1 := Nat.le_trans hlo1 hs6.size
 refine Las rfl rfl (L_nil (N_then (C_seq (C_reg rfl (Lmv rfl rfl (L_run (R_field (r := 2) rfl fld86_2 rfl) rfl (L_run (R_load1 rfl scl34 (hb1.cell (i := 2) rfl)) rfl ?_)))))))
 refine T_append (xs := ((putN d.length 2) ++ ([(UInt8.ofNat k)])) ++ (putN ep 4)) (ys := d) EncB slc34 rfl rfl ho4 hS (by simp only [List.length_append, putN_len, List.length_cons, List.length_nil]; omega) hlo1 rfl ?_
 intro A_5 c_5 w7 ho5 hs7 hat3
 replace hB := gb_tro hB ho4 hs7 ge2
 refine Las rfl rfl (L_nil (N_then (C_seq (C_reg rfl (Lmv rfl rfl ?_)))))
 refine L_call rfl cb37 (of3 (bs := (((putN d.length 2) ++ ([(UInt8.ofNat k)])) ++ (putN ep 4)) ++ d) (own_of ho5).2.2 (by simp only [List.length_append, putN_len, List.length_cons, List.length_nil]; omega)) rfl ?_
 rintro _ w8 ⟨hs8, rfl⟩
 replace hB := gb_tr hB hs8; replace ho5 := own_gb ho5 hs8
 refine L_call rfl cb36 (mask3 (s := (moreN 0 ((((putN d.length 2) ++ ([(UInt8.ofNat k)])) ++ (putN ep 4)) ++ d))) (moreN_lt _ _ (by decide))) rfl ?_
 rintro _ w9 ⟨hs9, rfl⟩
 replace hB := gb_tr hB hs9; replace ho5 := own_gb ho5 hs9
 refine L_run (R_eqv (R_conv rfl any75 int30) (v' := .int .u64 ((maskN (moreN 0 (((putN d.length 2 ++ [UInt8.ofNat k]) ++ putN ep 4) ++ d)) : Nat) : Int)) (congrArg _ (w64n (by unfold maskN; omega)))) rfl ?_
 have ge5 : w.heap.size ≤ w9.heap.size := hB.size
 refine L_call rfl cb104 (ref1_put (n := (maskN (moreN 0 (((putN d.length 2 ++ [UInt8.ofNat k]) ++ putN ep 4) ++ d)))) (k := 4) (by omega) (by first | omega | (unfold maskN; omega))) rfl ?_
 rintro _ w10 ⟨hs10, A_6, c_6, rfl, ho6⟩
 replace hB := gb_tr hB hs10; replace ho5 := own_gb ho5 hs10
 have hlo3 : w9.heap.size ≤ w10.heap.size := hs10.size
 refine Lmv rfl rfl ?_
 refine T_append (xs := putN (maskN (moreN 0 (((putN d.length 2 ++ [UInt8.ofNat k]) ++ putN ep 4) ++ d))) 4) (ys := (((putN d.length 2) ++ ([(UInt8.ofNat k)])) ++ (putN ep 4)) ++ d) EncB slc34 rfl rfl ho6 (own_of ho5).2.2 (by simp only [List.length_append, putN_len, List.length_cons, List.length_nil]; omega) hlo3 rfl ?_
 intro A_7 c_7 w11 ho7 hs11 hat4
 replace hB := gb_tro hB ho6 hs11 ge5
 refine Las rfl rfl (L_nil (N_then (C_ret ?_)))
 refine ret1 Tryd.results85 rfl ?_
 exact ⟨hB, _, _, rfl, (own_lo ho7 ge5)⟩
theorem getD_at {bs : List UInt8} {k : Nat} (h : k < bs.length) : bs[k] = bs.getD k 0 := by
  rw [List.getD_eq_getElem?_getD, List.getElem?_eq_getElem h]; rfl
theorem cv_b {bs : List UInt8} {k : Nat} (h : k < bs.length) : Value.int .i64 (IntKind.i64.wrap (bs[k].toNat : Int)) = .int .i64 (((bs.getD k 0).toNat : Nat) : Int) := by
  rw [getD_at h]
  exact conv3 (by have := (bs.getD k 0).toNat_lt; omega)
theorem len13 {bs : List UInt8} (h : ¬ bs.length < 11) : getN ((bs.drop 4).take 2) = (bs.getD 4 0).toNat + 256 * (bs.getD 5 0).toNat := by
  have e : (bs.drop 4).take 2 = [bs.getD 4 0, bs.getD 5 0] := by
    rw [List.drop_eq_getElem_cons (by omega : 4 < bs.length), List.drop_eq_getElem_cons (by omega : 5 < bs.length), getD_at, getD_at]; rfl
  rw [e]; rfl
theorem cv_ep13 {bs : List UInt8} : Value.int .u32 (IntKind.u32.wrap ((getN (((bs.drop 7).take (11 - 7)).take 8) : Nat) : Int)) = .int .u32 ((getN ((bs.drop 7).take 4) : Nat) : Int) := by
  have h := get_lt2 (bs := bs.drop 7) (k := 4)
  rw [show ((bs.drop 7).take (11 - 7)).take 8 = (bs.drop 7).take 4 by rw [List.take_take]; rfl]
  refine congrArg (Value.int .u32) ?_
  rw [IntKind.wrap_u32]
  omega
theorem zer_step {bs : List UInt8} {i : Nat} (hi : i < bs.length) : bs.take (i + 1) = List.replicate (i + 1) 0 ↔ bs.take i = List.replicate i 0 ∧ bs[i] = 0 := by
  rw [List.take_succ_eq_append_getElem hi, List.replicate_succ']
  constructor
  · intro h
    have h2 := List.append_inj h (by rw [List.length_take, List.length_replicate]; omega)
    exact ⟨h2.1, by simpa using h2.2⟩
  · rintro ⟨h1, h2⟩; rw [h1, h2]
theorem zs_t {bs : List UInt8} {i : Nat} (hi : i < bs.length) (h : ¬ bs.take i = List.replicate i 0) : Value.bool true = .bool (decide (¬ bs.take (i + 1) = List.replicate (i + 1) 0)) := by
  exact congrArg Value.bool (decide_eq_true (show ¬ bs.take (i + 1) = List.replicate (i + 1) 0 from fun q => h ((zer_step hi).1 q).1)).symm
theorem zs_f {bs : List UInt8} {i : Nat} (hi : i < bs.length) (h : bs.take i = List.replicate i 0) : Value.bool (decide ((bs[i].toNat : Int) ≠ 0)) = .bool (decide (¬ bs.take (i + 1) = List.replicate (i + 1) 0)) := by
  refine congrArg Value.bool (decide_eq_decide.2 ?_)
  rw [zer_step hi]
  have e : ((bs[i].toNat : Nat) : Int) = 0 ↔ bs[i] = 0 := by
    constructor
    · intro q; exact UInt8.toNat_inj.1 (by simpa using q)
    · intro q; rw [q]; rfl
  simp only [ne_eq, e, h, true_and]
theorem T13 {bs : List UInt8} (h1 : ¬ bs.length < 11) (h4 : ¬ bs.length < 11 + getN ((bs.drop 4).take 2)) :
    ((putN ((bs.drop 11).take (11 + getN ((bs.drop 4).take 2) - 11)).length 2 ++ [UInt8.ofNat (bs.getD 6 0).toNat]) ++ putN (getN ((bs.drop 7).take 4)) 4) ++ (bs.drop 11).take (11 + getN ((bs.drop 4).take 2) - 11)
      = (bs.drop 4).take (11 + getN ((bs.drop 4).take 2) - 4) := by
  have hl : ((bs.drop 11).take (11 + getN ((bs.drop 4).take 2) - 11)).length = getN ((bs.drop 4).take 2) := by rw [List.length_take, List.length_drop]; omega
  have e1 : putN (getN ((bs.drop 4).take 2)) 2 = (bs.drop 4).take 2 := by
    have := putN_getN ((bs.drop 4).take 2)
    rwa [show ((bs.drop 4).take 2).length = 2 by rw [List.length_take, List.length_drop]; omega] at this
  have e2 : putN (getN ((bs.drop 7).take 4)) 4 = (bs.drop 7).take 4 := by
    have := putN_getN ((bs.drop 7).take 4)
    rwa [show ((bs.drop 7).take 4).length = 4 by rw [List.length_take, List.length_drop]; omega] at this
  have e3 : [UInt8.ofNat (bs.getD 6 0).toNat] = (bs.drop 6).take 1 := by
    rw [UInt8.ofNat_toNat, List.drop_eq_getElem_cons (by omega : 6 < bs.length), getD_at]; rfl
  rw [hl, e1, e2, e3]
  have c : ∀ (a i j : Nat), (bs.drop a).take i ++ (bs.drop (a + i)).take j = (bs.drop a).take (i + j) := by
    intro a i j
    rw [List.take_add, List.drop_drop]
  generalize getN ((bs.drop 4).take 2) = n
  rw [c 4 2 1, c 4 (2 + 1) 4, c 4 (2 + 1 + 4) (11 + n - 11)]
  congr 1
  omega
theorem b13_eq {bs : List UInt8} (h1 : ¬ bs.length < 11) (h4 : ¬ bs.length < 11 + getN ((bs.drop 4).take 2)) {T : List UInt8}
    (hT : T = ((putN ((bs.drop 11).take (11 + getN ((bs.drop 4).take 2) - 11)).length 2 ++ [UInt8.ofNat (bs.getD 6 0).toNat]) ++ putN (getN ((bs.drop 7).take 4)) 4) ++ (bs.drop 11).take (11 + getN ((bs.drop 4).take 2) - 11)) :
    putN (maskN (moreN 0 T)) 4 ++ T = bs.take (11 + getN ((bs.drop 4).take 2)) ↔ getN (bs.take 4) = maskN (moreN 0 ((bs.drop 4).take (11 + getN ((bs.drop 4).take 2) - 4))) := by
  rw [hT, T13 h1 h4]
  have e : bs.take (11 + getN ((bs.drop 4).take 2)) = bs.take 4 ++ (bs.drop 4).take (11 + getN ((bs.drop 4).take 2) - 4) := by
    rw [← List.take_add]; congr 1; omega
  rw [e]
  generalize (bs.drop 4).take (11 + getN ((bs.drop 4).take 2) - 4) = T'
  have h := putN_eq (bs := bs.take 4) (n := maskN (moreN 0 T')) (k := 4) (by rw [List.length_take]; omega) (by unfold maskN; omega)
  constructor
  · intro q
    exact h.1 (List.append_inj q (by rw [putN_len, List.length_take]; omega)).1
  · intro q
    rw [h.2 q]
theorem dec13_ok {w : World} {t1 lo hi : Nat} {A : Option Addr} {c ep : Nat} {bs : List UInt8} (hS : Sli t1 lo hi w A (fl encB bs)) (hb : bs.length ≤ 1000000) (hc : bs.length ≤ c) (hep : ep < 4294967296) :
    Runs Tryd.prog 63 #[.slice A bs.length c, .int .u32 (ep : Int)] w (fun v w' => w.grownBy w' none ∧ (((fdec bs ep).2.2 = 0 ∧ ∃ A' c', v = .tuple #[.agg #[.int .i64 (((fdec bs ep).1.1 : Nat) : Int), .int .u32 (ep : Int), .slice A' (fdec bs ep).1.2.length c'], .int .i64 (((fdec bs ep).2.1 : Nat) : Int), .int .i64 0] ∧ World.ownsRow w' w.heap.size 5 1 (.slice A' (fdec bs ep).1.2.length c') (fdec bs ep).1.2.length (fl encB (fdec bs ep).1.2)) ∨ ((fdec bs ep).2.2 ≠ 0 ∧ v = .tuple #[.agg #[.int .i64 0, .int .u32 0, .slice none 0 0], .int .i64 0, .int .i64 (fdec bs ep).2.2]))) := by
 have hB := gb_refl w none
 have hgla := get_lt2 (bs := bs.drop 4) (k := 2)
 have hglb := get_lt2 (bs := bs.drop 7) (k := 4)
 have hgda := (bs.getD 4 0).toNat_lt
 have hgdb := (bs.getD 5 0).toNat_lt
 have hgdc := (bs.getD 6 0).toNat_lt
 replace hS := hS.top
 refine enter Tryd.func63 Tryd.ntmps63 rfl rfl ?_
 refine C_seq (C_reg rfl ?_)
 refine L_alloc (cs := [.int .i64 0, .int .u32 0, .slice none 0 0]) zer86 rfl rfl ?_
 intro g1 w1 eg1 hb1 hs1 hz1
 have ge1 : w.heap.size ≤ g1 := eg_ge hB eg1
 replace hB := gb_tr hB hs1; replace hS := hS.gb hs1
 refine Las rfl rfl (Las rfl rfl (L_nil (N_then (C_seq (C_seq (C_reg rfl (Lmv rfl rfl (L_run (R_lenSl rfl slc34) rfl (L_run (R_lss rfl rfl) rfl (L_nil (N_then (C_if rfl (fun h1 => ?_) (fun h1 => ?_)))))))))))))
 ·refine C_seq (C_reg rfl ?_)
  refine L_run (R_build (pv := []) (cs := [.int .i64 0, .int .u32 0, .slice none 0 0]) rfl (by kernel_rfl)) rfl ?_
  refine L_stA (vs := [.int .i64 0, .int .u32 0, .slice none 0 0]) rfl rfl rfl sz86 rfl hb1 rfl ?_
  intro w2 hb2 hs2 hz2
  replace hB := gb_trg hB hs2 ge1
  refine Las rfl rfl (Las rfl rfl (L_nil (N_then (C_ret (R_then ?_)))))
  refine retC2 (vs := [.int .i64 0, .int .u32 0, .slice none 0 0]) Tryd.results63 rfl agg86 (At.pre (hb2.at_ 0) rfl) rfl rfl rfl ?_
  first
    | (exfalso; omega)
    | (have hf : fdec bs ep = ((0, []), 0, 1) := by first | exact fd_short (by omega) | exact fd_cut (by omega) (by first | assumption | exact Decidable.not_not.1 (by assumption)) (by omega) (by omega)
       exact ⟨hB, .inr ⟨by rw [hf]; decide, by rw [hf]⟩⟩)
 ·refine C_skip (N_then (C_seq (C_reg rfl ?_)))
  refine Las rfl rfl (L_nil (N_then (C_seq (C_seq (C_reg rfl (Las rfl rfl (L_nil (N_then (C_block ?_)))))))))
  refine C_loop (fun m_ a_ w_ => ∃ (σ_ : Nat → Value) (i : Nat), a_ = Ac 94 σ_ [] [(0, .slice A bs.length c), (1, .int .u32 (ep : Int)), (4, .pointer (some ⟨g1, 0, none⟩)), (5, .int .i64 0), (6, .int .i64 0), (7, .bool (decide (¬ (bs.take i = List.replicate i 0)))), (8, .int .i64 (i : Int))] ∧ w.grownBy w_ none ∧ Sli t1 lo w.heap.size w_ A (fl encB bs) ∧ Blk w_ g1 86 [.int .i64 0, .int .u32 0, .slice none 0 0] ∧ (i ≤ 11) ∧ 11 - i = m_) (11 - 0) ?_ ?_
  ·exact ⟨_, 0, Ac_frg ⟨rfl, rfl, rfl, rfl, rfl, (agr rfl (by simp)), (agx rfl), trivial⟩, hB, hS, hb1, (by omega), rfl⟩
  ·clear hB
   clear hS hb1
   rintro m_ a_ w3 ⟨σ_, i, rfl, hB, hS, hb1, hi, rfl⟩
   refine C_seq (C_seq (C_reg rfl ?_))
   refine Lmv rfl rfl (L_run (R_lss rfl rfl) rfl (L_nil (N_then (C_if rfl (fun h2 => ?_) (fun h2 => ?_)))))
   ·refine C_skip (N_then (C_seq (C_block (C_reg rfl ?_))))
    refine Lmv rfl rfl (Lmv rfl rfl ?_)
    refine L_splitN (p := bs.take i = List.replicate i 0) (fun h3 => ?_) (fun h3 => ?_)
    ·refine L_no rfl rfl rfl (decide_eq_true h3) rfl (L_no rfl rfl rfl (decide_eq_true h3) rfl (L_no rfl rfl rfl (decide_eq_true h3) rfl (L_no rfl rfl rfl (decide_eq_true h3) rfl (L_no rfl rfl rfl (decide_eq_true h3) rfl (L_run (R_pickT rfl (decide_eq_true h3) rfl) rfl (Las rfl rfl ?_))))))
     refine L_nil (N_in (N_then (C_reg rfl ?_)))
     refine Lmv rfl rfl ?_
     refine L_run (R_add64 rfl rfl (by omega)) rfl ?_
     refine Las rfl rfl (L_nil (N_then ?_))
     exact ⟨11 - (i + 1), by omega, _, (i + 1), Ac_frg ⟨rfl, rfl, rfl, rfl, rfl, (agr rfl (zs_t (by omega) h3)), (agx rfl), trivial⟩, hB, hS, hb1, (by omega), rfl⟩
    ·refine L_yes rfl rfl rfl (decide_eq_false (fun hn => hn h3)) (Lmv rfl rfl (L_yes rfl rfl rfl (decide_eq_false (fun hn => hn h3)) (Lmv rfl rfl (L_yes rfl rfl rfl (decide_eq_false (fun hn => hn h3)) ?_))))
     have hl1 : i < bs.length := by first | omega | (simp; omega)
     refine T_index (xs := bs) (i := i) EncB rfl rfl (by first | rfl | omega) slc34 hl1 hS rfl ?_
     intro g2 o1 ha1
     refine L_yes rfl rfl rfl (decide_eq_false (fun hn => hn h3)) (L_run (R_load1 rfl scl5 (ha1 0 _ rfl)) rfl (L_yes rfl rfl rfl (decide_eq_false (fun hn => hn h3)) (L_run (R_neq rfl rfl) rfl (L_run (R_pickF rfl (decide_eq_false (fun hn => hn h3)) rfl) rfl (Las rfl rfl ?_)))))
     refine L_nil (N_in (N_then (C_reg rfl ?_)))
     refine Lmv rfl rfl ?_
     refine L_run (R_add64 rfl rfl (by omega)) rfl ?_
     refine Las rfl rfl (L_nil (N_then ?_))
     exact ⟨11 - (i + 1), by omega, _, (i + 1), Ac_frg ⟨rfl, rfl, rfl, rfl, rfl, (agr rfl (zs_f (by omega) h3)), (agx rfl), trivial⟩, hB, hS, hb1, (by omega), rfl⟩
   ·refine C_exit (X_then (X_then (X_hit (N_then (C_seq (C_seq (C_reg rfl ?_)))))))
    refine Lmv rfl rfl (L_run (R_notD rfl) rfl (L_nil (N_then (C_ifN rfl (fun h4 => ?_) (fun h4 => ?_)))))
    ·refine C_seq (C_reg rfl ?_)
     refine L_run (R_build (pv := []) (cs := [.int .i64 0, .int .u32 0, .slice none 0 0]) rfl (by kernel_rfl)) rfl ?_
     refine L_stA (vs := [.int .i64 0, .int .u32 0, .slice none 0 0]) rfl rfl rfl sz86 rfl hb1 rfl ?_
     intro w4 hb3 hs3 hz3
     replace hB := gb_trg hB hs3 ge1
     refine Las rfl rfl (Las rfl rfl (L_nil (N_then (C_ret (R_then ?_)))))
     refine retC2 (vs := [.int .i64 0, .int .u32 0, .slice none 0 0]) Tryd.results63 rfl agg86 (At.pre (hb3.at_ 0) rfl) rfl rfl rfl ?_
     obtain rfl : i = 11 := by omega
     first
       | (exfalso; omega)
       | (have hf : fdec bs ep = ((0, []), 0, 7) := by first | exact fd_none (by omega) (by first | assumption | exact Decidable.not_not.1 (by assumption))
          exact ⟨hB, .inr ⟨by rw [hf]; decide, by rw [hf]⟩⟩)
    ·refine C_skip (N_then (C_seq ?_))
     refine C_draw2 rfl mix ?_
     intro w5 hs4 hz4
     replace hB := gb_tr hB hs4; replace hS := hS.gb hs4; replace hb1 := hb1.gb hs4
     have hl2 : 4 < bs.length := by first | omega | (simp; omega)
     obtain ⟨g3, o2, r1, eA1, er1, ha2⟩ := Sli.place' (xs := bs) (i := 4) EncB hS hl2 rfl
     have hl3 : 5 < bs.length := by first | omega | (simp; omega)
     obtain ⟨g4, o3, r2, eA2, er2, ha3⟩ := Sli.place' (xs := bs) (i := 5) EncB hS hl3 rfl
     refine ⟨fun W_ => At W_ g3 r1 [.int .u8 ((bs[4]).toNat : Int)] ∧ At W_ g4 r2 [.int .u8 ((bs[5]).toNat : Int)] ∧ True, [0, 1, 2, 3, 4, 5, 6, 7, 8, 9, 10], ?_⟩
     refine T_tk (i := 0) rfl (Y_of (fun _ _ => R_move rfl)) ⟨ha2, ha3, trivial⟩ rfl ?_
     refine T_tk (i := 1) rfl (Y_of (fun _ _ => R_indexE rfl rfl (by first | rfl | omega) slc34 hl2 eA1 er1)) ⟨ha2, ha3, trivial⟩ rfl ?_
     refine T_tk (i := 2) rfl (Y_of (fun _ ⟨ha2, ha3, _⟩ => R_load1 rfl scl5 (ha2 0 _ rfl))) ⟨ha2, ha3, trivial⟩ rfl ?_
     refine T_tk (i := 3) rfl (Y_of (fun _ _ => R_eqv (R_conv rfl any5 int3) (v' := .int .i64 (((bs.getD 4 0).toNat : Nat) : Int)) (cv_b (by omega)))) ⟨ha2, ha3, trivial⟩ rfl ?_
     refine T_tk (i := 4) rfl (Y_of (fun _ _ => R_move rfl)) ⟨ha2, ha3, trivial⟩ rfl ?_
     refine T_tk (i := 5) rfl (Y_of (fun _ _ => R_indexE rfl rfl (by first | rfl | omega) slc34 hl3 eA2 er2)) ⟨ha2, ha3, trivial⟩ rfl ?_
     refine T_tk (i := 6) rfl (Y_of (fun _ ⟨ha2, ha3, _⟩ => R_load1 rfl scl5 (ha3 0 _ rfl))) ⟨ha2, ha3, trivial⟩ rfl ?_
     refine T_tk (i := 7) rfl (Y_of (fun _ _ => R_eqv (R_conv rfl any5 int3) (v' := .int .i64 (((bs.getD 5 0).toNat : Nat) : Int)) (cv_b (by omega)))) ⟨ha2, ha3, trivial⟩ rfl ?_
     refine T_tk (i := 8) rfl (Y_of (fun _ _ => R_mul64 rfl rfl (by omega))) ⟨ha2, ha3, trivial⟩ rfl ?_
     refine T_tk (i := 9) rfl (Y_of (fun _ _ => R_eqv (R_add64 rfl rfl (by omega)) (v' := .int .i64 ((getN ((bs.drop 4).take 2) : Nat) : Int)) (congrArg _ (by rw [len13 (by omega)]; omega)))) ⟨ha2, ha3, trivial⟩ rfl ?_
     refine T_tk (i := 10) rfl (Y_of (fun _ _ => R_assign rfl)) ⟨ha2, ha3, trivial⟩ rfl ?_
     refine T_done (by kernel_rfl) (CalmE.normal ?_)
     refine N_then (C_seq ?_)
     refine C_join (fun a_ w_ => (∃ (σ_ : Nat → Value) (g6 : Nat), a_ = Ac 94 σ_ [] [(0, .slice A bs.length c), (1, .int .u32 (ep : Int)), (4, .pointer (some ⟨g1, 0, none⟩)), (5, .int .i64 0), (6, .int .i64 0), (7, .bool (decide (¬ (bs.take i = List.replicate i 0)))), (8, .int .i64 (i : Int)), (9, .int .i64 ((getN ((bs.drop 4).take 2) : Nat) : Int)), (10, .pointer (some ⟨g6, 0, none⟩)), (16, .bool (decide ((i : Int) < 11))), (28, .bool (decide (¬ (¬ (bs.take i = List.replicate i 0)))))] ∧ w.grownBy w_ none ∧ Sli t1 lo w.heap.size w_ A (fl encB bs) ∧ Blk w_ g1 86 [.int .i64 0, .int .u32 0, .slice none 0 0] ∧ Blk w_ g6 86 [.int .i64 (((bs.getD 6 0).toNat : Nat) : Int), .int .u32 ((getN ((bs.drop 7).take 4) : Nat) : Int), .slice none 0 0] ∧ w.heap.size ≤ g6 ∧ g1 < g6)) ?_ ?_
     ·refine C_draw2 rfl mix ?_
      intro w6 hs5 hz5
      replace hB := gb_tr hB hs5; replace hS := hS.gb hs5; replace hb1 := hb1.gb hs5
      have hl4 : 6 < bs.length := by first | omega | (simp; omega)
      obtain ⟨g5, o4, r3, eA3, er3, ha4⟩ := Sli.place' (xs := bs) (i := 6) EncB hS hl4 rfl
      refine ⟨fun W_ => At W_ g5 r3 [.int .u8 ((bs[6]).toNat : Int)] ∧ True, [0, 1, 2, 3, 4, 7, 8], ?_⟩
      refine T_tk (i := 0) rfl (Y_of (fun _ _ => R_move rfl)) ⟨ha4, trivial⟩ rfl ?_
      refine T_tk (i := 1) rfl (Y_of (fun _ _ => R_indexE rfl rfl (by first | rfl | omega) slc34 hl4 eA3 er3)) ⟨ha4, trivial⟩ rfl ?_
      refine T_tk (i := 2) rfl (Y_of (fun _ ⟨ha4, _⟩ => R_load1 rfl scl5 (ha4 0 _ rfl))) ⟨ha4, trivial⟩ rfl ?_
      refine T_tk (i := 3) rfl (Y_of (fun _ _ => R_eqv (R_conv rfl any5 int3) (v' := .int .i64 (((bs.getD 6 0).toNat : Nat) : Int)) (cv_b (by omega)))) ⟨ha4, trivial⟩ rfl ?_
      refine T_tk (i := 4) rfl (Y_of (fun _ _ => R_move rfl)) ⟨ha4, trivial⟩ rfl ?_
      refine T_all (rs := [5, 9]) (by kernel_rfl) rfl (all2 (O_one rfl ?_) (O_one rfl ?_))
      ·refine T_slLH (xs := bs) (i := 7) (j := 11) EncB rfl rfl rfl (by first | rfl | omega) (by first | rfl | omega) slc34 (by first | omega | (simp; done) | (simp; omega)) (by first | omega | (simp; done) | (simp; omega)) (by first | omega | (simp; done) | (simp; omega)) hS rfl ?_
       intro A_1 hS_1
       refine L_nil (N_then ⟨fun hN_ => ⟨ha4, trivial⟩, ?_⟩)
       refine T_all (rs := [6, 9]) (by kernel_rfl) rfl (all2 (O_one rfl ?_) (O_one rfl ?_))
       ·refine L_call rfl cb35 (ref1_get (bs := (bs.drop 7).take (11 - 7)) hS_1 (by simp only [List.length_take, List.length_drop]; omega)) rfl ?_
        rintro _ w7 ⟨hs6, rfl⟩
        replace hB := gb_tr hB hs6; replace hS := hS.gb hs6; replace hb1 := hb1.gb hs6; replace ha4 := At.gb ha4 hs6 (by simp)
        refine L_nil (N_then ⟨fun hN_ => ⟨ha4, trivial⟩, ?_⟩)
        refine T_tk (i := 7) rfl (Y_of (fun _ _ => R_eqv (R_conv rfl any30 int75) (v' := .int .u32 ((getN ((bs.drop 7).take 4) : Nat) : Int)) (cv_ep13))) ⟨ha4, trivial⟩ rfl ?_
        refine T_tk (i := 8) rfl (Y_of (fun _ _ => R_build (pv := [(0, .int .i64 (((bs.getD 6 0).toNat : Nat) : Int)), (1, .int .u32 ((getN ((bs.drop 7).take 4) : Nat) : Int))]) (cs := [.int .i64 (((bs.getD 6 0).toNat : Nat) : Int), .int .u32 ((getN ((bs.drop 7).take 4) : Nat) : Int), .slice none 0 0]) rfl (by kernel_rfl))) ⟨ha4, trivial⟩ rfl ?_
        refine T_all (rs := [9]) (by kernel_rfl) rfl (all1 (O_one rfl ?_))
        refine L_alloc (cs := [.int .i64 0, .int .u32 0, .slice none 0 0]) zer86 rfl rfl ?_
        intro g6 w8 eg2 hb4 hs7 hz6
        have ge2 : w.heap.size ≤ g6 := eg_ge hB eg2
        have lt1 : g1 < g6 := lt_of_eg hb1.lt eg2
        replace hB := gb_tr hB hs7; replace hS := hS.gb hs7; replace hb1 := hb1.gb hs7; replace ha4 := At.gb ha4 hs7 (by simp)
        refine L_nil (N_then ⟨fun hN_ => ⟨ha4, trivial⟩, ?_⟩)
        refine T_switch (S' := fun _ => True) (qs' := []) (by kernel_rfl) ?_
        refine T_all (rs := [10]) (by kernel_rfl) rfl (all1 (O_one rfl ?_))
        refine L_stA (vs := [.int .i64 (((bs.getD 6 0).toNat : Nat) : Int), .int .u32 ((getN ((bs.drop 7).take 4) : Nat) : Int), .slice none 0 0]) rfl rfl rfl sz86 rfl hb4 rfl ?_
        intro w9 hb5 hs8 hz7
        replace hB := gb_trg hB hs8 ge2; replace hS := hS.old hs8 ge2; replace hb1 := hb1.grown hs8 (ne_lt lt1)
        refine L_nil (N_then ⟨fun hN_ => trivial, ?_⟩)
        refine T_done (by kernel_rfl) (CalmE.normal ?_)
        exact ⟨rfl, ⟨_, g6, Ac_frg ⟨rfl, rfl, rfl, rfl, rfl, rfl, rfl, rfl, rfl, rfl, rfl, trivial⟩, hB, hS, hb1, hb5, ge2, lt1⟩⟩
       ·refine L_alloc (cs := [.int .i64 0, .int .u32 0, .slice none 0 0]) zer86 rfl rfl ?_
        intro g7 w10 eg3 hb6 hs9 hz8
        have ge3 : w.heap.size ≤ g7 := eg_ge hB eg3
        have lt2 : g1 < g7 := lt_of_eg hb1.lt eg3
        replace hB := gb_tr hB hs9; replace hS := hS.gb hs9; replace hb1 := hb1.gb hs9; replace ha4 := At.gb ha4 hs9 (by simp); replace hS_1 := hS_1.gb hs9
        refine L_nil (N_then ⟨fun hN_ => ⟨ha4, trivial⟩, ?_⟩)
        refine T_all (rs := [6]) (by kernel_rfl) rfl (all1 (O_one rfl ?_))
        refine L_call rfl cb35 (ref1_get (bs := (bs.drop 7).take (11 - 7)) hS_1 (by simp only [List.length_take, List.length_drop]; omega)) rfl ?_
        rintro _ w11 ⟨hs10, rfl⟩
        replace hB := gb_tr hB hs10; replace hS := hS.gb hs10; replace hb1 := hb1.gb hs10; replace ha4 := At.gb ha4 hs10 (by simp); replace hb6 := hb6.gb hs10
        refine L_nil (N_then ⟨fun hN_ => ⟨ha4, trivial⟩, ?_⟩)
        refine T_tk (i := 7) rfl (Y_of (fun _ _ => R_eqv (R_conv rfl any30 int75) (v' := .int .u32 ((getN ((bs.drop 7).take 4) : Nat) : Int)) (cv_ep13))) ⟨ha4, trivial⟩ rfl ?_
        refine T_tk (i := 8) rfl (Y_of (fun _ _ => R_build (pv := [(0, .int .i64 (((bs.getD 6 0).toNat : Nat) : Int)), (1, .int .u32 ((getN ((bs.drop 7).take 4) : Nat) : Int))]) (cs := [.int .i64 (((bs.getD 6 0).toNat : Nat) : Int), .int .u32 ((getN ((bs.drop 7).take 4) : Nat) : Int), .slice none 0 0]) rfl (by kernel_rfl))) ⟨ha4, trivial⟩ rfl ?_
        refine T_switch (S' := fun _ => True) (qs' := []) (by kernel_rfl) ?_
        refine T_all (rs := [10]) (by kernel_rfl) rfl (all1 (O_one rfl ?_))
        refine L_stA (vs := [.int .i64 (((bs.getD 6 0).toNat : Nat) : Int), .int .u32 ((getN ((bs.drop 7).take 4) : Nat) : Int), .slice none 0 0]) rfl rfl rfl sz86 rfl hb6 rfl ?_
        intro w12 hb7 hs11 hz9
        replace hB := gb_trg hB hs11 ge3; replace hS := hS.old hs11 ge3; replace hb1 := hb1.grown hs11 (ne_lt lt2)
        refine L_nil (N_then ⟨fun hN_ => trivial, ?_⟩)
        refine T_done (by kernel_rfl) (CalmE.normal ?_)
        exact ⟨rfl, ⟨_, g7, Ac_frg ⟨rfl, rfl, rfl, rfl, rfl, rfl, rfl, rfl, rfl, rfl, rfl, trivial⟩, hB, hS, hb1, hb7, ge3, lt2⟩⟩
      ·refine L_alloc (cs := [.int .i64 0, .int .u32 0, .slice none 0 0]) zer86 rfl rfl ?_
       intro g8 w13 eg4 hb8 hs12 hz10
       have ge4 : w.heap.size ≤ g8 := eg_ge hB eg4
       have lt3 : g1 < g8 := lt_of_eg hb1.lt eg4
       replace hB := gb_tr hB hs12; replace hS := hS.gb hs12; replace hb1 := hb1.gb hs12; replace ha4 := At.gb ha4 hs12 (by simp)
       refine L_nil (N_then ⟨fun hN_ => ⟨ha4, trivial⟩, ?_⟩)
       refine T_all (rs := [5]) (by kernel_rfl) rfl (all1 (O_one rfl ?_))
       refine T_slLH (xs := bs) (i := 7) (j := 11) EncB rfl rfl rfl (by first | rfl | omega) (by first | rfl | omega) slc34 (by first | omega | (simp; done) | (simp; omega)) (by first | omega | (simp; done) | (simp; omega)) (by first | omega | (simp; done) | (simp; omega)) hS rfl ?_
       intro A_2 hS_2
       refine L_nil (N_then ⟨fun hN_ => ⟨ha4, trivial⟩, ?_⟩)
       refine T_all (rs := [6]) (by kernel_rfl) rfl (all1 (O_one rfl ?_))
       refine L_call rfl cb35 (ref1_get (bs := (bs.drop 7).take (11 - 7)) hS_2 (by simp only [List.length_take, List.length_drop]; omega)) rfl ?_
       rintro _ w14 ⟨hs13, rfl⟩
       replace hB := gb_tr hB hs13; replace hS := hS.gb hs13; replace hb1 := hb1.gb hs13; replace ha4 := At.gb ha4 hs13 (by simp); replace hb8 := hb8.gb hs13
       refine L_nil (N_then ⟨fun hN_ => ⟨ha4, trivial⟩, ?_⟩)
       refine T_tk (i := 7) rfl (Y_of (fun _ _ => R_eqv (R_conv rfl any30 int75) (v' := .int .u32 ((getN ((bs.drop 7).take 4) : Nat) : Int)) (cv_ep13))) ⟨ha4, trivial⟩ rfl ?_
       refine T_tk (i := 8) rfl (Y_of (fun _ _ => R_build (pv := [(0, .int .i64 (((bs.getD 6 0).toNat : Nat) : Int)), (1, .int .u32 ((getN ((bs.drop 7).take 4) : Nat) : Int))]) (cs := [.int .i64 (((bs.getD 6 0).toNat : Nat) : Int), .int .u32 ((getN ((bs.drop 7).take 4) : Nat) : Int), .slice none 0 0]) rfl (by kernel_rfl))) ⟨ha4, trivial⟩ rfl ?_
       refine T_switch (S' := fun _ => True) (qs' := []) (by kernel_rfl) ?_
       refine T_all (rs := [10]) (by kernel_rfl) rfl (all1 (O_one rfl ?_))
       refine L_stA (vs := [.int .i64 (((bs.getD 6 0).toNat : Nat) : Int), .int .u32 ((getN ((bs.drop 7).take 4) : Nat) : Int), .slice none 0 0]) rfl rfl rfl sz86 rfl hb8 rfl ?_
       intro w15 hb9 hs14 hz11
       replace hB := gb_trg hB hs14 ge4; replace hS := hS.old hs14 ge4; replace hb1 := hb1.grown hs14 (ne_lt lt3)
       refine L_nil (N_then ⟨fun hN_ => trivial, ?_⟩)
       refine T_done (by kernel_rfl) (CalmE.normal ?_)
       exact ⟨rfl, ⟨_, g8, Ac_frg ⟨rfl, rfl, rfl, rfl, rfl, rfl, rfl, rfl, rfl, rfl, rfl, trivial⟩, hB, hS, hb1, hb9, ge4, lt3⟩⟩
     ·clear hB
      clear hS hb1 ha2 ha3
      rintro a_ w16 ⟨σ_, g6, rfl, hB, hS, hb1, hj1, ge5, lt4⟩
      refine N_then (C_seq (C_seq (C_reg rfl ?_)))
      refine Lmv rfl rfl (L_run (R_gtr rfl rfl) rfl (Lmv rfl rfl ?_))
      refine L_splitD (p := 197 < ((getN ((bs.drop 4).take 2) : Nat) : Int)) (fun h5 => ?_) (fun h5 => ?_)
      ·refine L_no rfl rfl rfl (decide_eq_true h5) rfl (L_no rfl rfl rfl (decide_eq_true h5) rfl (L_no rfl rfl rfl (decide_eq_true h5) rfl (L_run (R_pickT rfl (decide_eq_true h5) rfl) rfl (Lmv rfl rfl (L_no rfl rfl rfl rfl rfl (L_no rfl rfl rfl rfl rfl (L_no rfl rfl rfl rfl rfl (L_run (R_pickT rfl rfl rfl) rfl (Lmv rfl rfl (L_no rfl rfl rfl rfl rfl (L_no rfl rfl rfl rfl rfl (L_no rfl rfl rfl rfl rfl ?_))))))))))))
       refine L_no rfl rfl rfl rfl rfl (L_run (R_pickT rfl rfl rfl) rfl (L_nil (N_then (C_condT rfl rfl (C_seq (C_reg rfl ?_))))))
       refine L_run (R_build (pv := []) (cs := [.int .i64 0, .int .u32 0, .slice none 0 0]) rfl (by kernel_rfl)) rfl ?_
       refine L_stA (vs := [.int .i64 0, .int .u32 0, .slice none 0 0]) rfl rfl rfl sz86 rfl hb1 rfl ?_
       intro w17 hb10 hs15 hz12
       replace hB := gb_trg hB hs15 ge1
       refine Las rfl rfl (Las rfl rfl (L_nil (N_then (C_ret (R_then ?_)))))
       refine retC2 (vs := [.int .i64 0, .int .u32 0, .slice none 0 0]) Tryd.results63 rfl agg86 (At.pre (hb10.at_ 0) rfl) rfl rfl rfl ?_
       obtain rfl : i = 11 := by omega
       first
         | (exfalso; omega)
         | (have hf : fdec bs ep = ((0, []), 0, 2) := by first | exact fd_form (by omega) (by first | assumption | exact Decidable.not_not.1 (by assumption)) (by omega)
            exact ⟨hB, .inr ⟨by rw [hf]; decide, by rw [hf]⟩⟩)
      ·refine L_yes rfl rfl rfl (decide_eq_false h5) (L_run (R_field (r := 0) rfl fld86_0 rfl) rfl (L_yes rfl rfl rfl (decide_eq_false h5) (L_run (R_load1 rfl scl3 (hj1.cell (i := 0) rfl)) rfl (L_yes rfl rfl rfl (decide_eq_false h5) (L_run (R_lss rfl rfl) rfl (L_run (R_pickF rfl (decide_eq_false h5) rfl) rfl (Lmv rfl rfl ?_)))))))
       refine L_splitD (p := (((bs.getD 6 0).toNat : Nat) : Int) < 1) (fun h6 => ?_) (fun h6 => ?_)
       ·refine L_no rfl rfl rfl (decide_eq_true h6) rfl (L_no rfl rfl rfl (decide_eq_true h6) rfl (L_no rfl rfl rfl (decide_eq_true h6) rfl (L_run (R_pickT rfl (decide_eq_true h6) rfl) rfl (Lmv rfl rfl (L_no rfl rfl rfl rfl rfl (L_no rfl rfl rfl rfl rfl (L_no rfl rfl rfl rfl rfl (L_no rfl rfl rfl rfl rfl (L_run (R_pickT rfl rfl rfl) rfl (L_nil (N_then (C_condT rfl rfl (C_seq (C_reg rfl ?_))))))))))))))
        refine L_run (R_build (pv := []) (cs := [.int .i64 0, .int .u32 0, .slice none 0 0]) rfl (by kernel_rfl)) rfl ?_
        refine L_stA (vs := [.int .i64 0, .int .u32 0, .slice none 0 0]) rfl rfl rfl sz86 rfl hb1 rfl ?_
        intro w18 hb11 hs16 hz13
        replace hB := gb_trg hB hs16 ge1
        refine Las rfl rfl (Las rfl rfl (L_nil (N_then (C_ret (R_then ?_)))))
        refine retC2 (vs := [.int .i64 0, .int .u32 0, .slice none 0 0]) Tryd.results63 rfl agg86 (At.pre (hb11.at_ 0) rfl) rfl rfl rfl ?_
        obtain rfl : i = 11 := by omega
        first
          | (exfalso; omega)
          | (have hf : fdec bs ep = ((0, []), 0, 2) := by first | exact fd_form (by omega) (by first | assumption | exact Decidable.not_not.1 (by assumption)) (by omega)
             exact ⟨hB, .inr ⟨by rw [hf]; decide, by rw [hf]⟩⟩)
       ·refine L_yes rfl rfl rfl (decide_eq_false h6) (L_run (R_field (r := 0) rfl fld86_0 rfl) rfl (L_yes rfl rfl rfl (decide_eq_false h6) (L_run (R_load1 rfl scl3 (hj1.cell (i := 0) rfl)) rfl (L_yes rfl rfl rfl (decide_eq_false h6) (L_run (R_gtr rfl rfl) rfl (L_run (R_pickF rfl (decide_eq_false h6) rfl) rfl (Lmv rfl rfl ?_)))))))
        refine L_splitD (p := 4 < (((bs.getD 6 0).toNat : Nat) : Int)) (fun h7 => ?_) (fun h7 => ?_)
        ·refine L_no rfl rfl rfl (decide_eq_true h7) rfl (L_no rfl rfl rfl (decide_eq_true h7) rfl (L_no rfl rfl rfl (decide_eq_true h7) rfl (L_no rfl rfl rfl (decide_eq_true h7) rfl (L_run (R_pickT rfl (decide_eq_true h7) rfl) rfl (L_nil (N_then (C_condT rfl rfl (C_seq (C_reg rfl ?_)))))))))
         refine L_run (R_build (pv := []) (cs := [.int .i64 0, .int .u32 0, .slice none 0 0]) rfl (by kernel_rfl)) rfl ?_
         refine L_stA (vs := [.int .i64 0, .int .u32 0, .slice none 0 0]) rfl rfl rfl sz86 rfl hb1 rfl ?_
         intro w19 hb12 hs17 hz14
         replace hB := gb_trg hB hs17 ge1
         refine Las rfl rfl (Las rfl rfl (L_nil (N_then (C_ret (R_then ?_)))))
         refine retC2 (vs := [.int .i64 0, .int .u32 0, .slice none 0 0]) Tryd.results63 rfl agg86 (At.pre (hb12.at_ 0) rfl) rfl rfl rfl ?_
         obtain rfl : i = 11 := by omega
         first
           | (exfalso; omega)
           | (have hf : fdec bs ep = ((0, []), 0, 2) := by first | exact fd_form (by omega) (by first | assumption | exact Decidable.not_not.1 (by assumption)) (by omega)
              exact ⟨hB, .inr ⟨by rw [hf]; decide, by rw [hf]⟩⟩)
        ·refine L_yes rfl rfl rfl (decide_eq_false h7) (L_run (R_field (r := 1) rfl fld86_1 rfl) rfl (L_yes rfl rfl rfl (decide_eq_false h7) (L_run (R_load1 rfl scl75 (hj1.cell (i := 1) rfl)) rfl (L_yes rfl rfl rfl (decide_eq_false h7) (Lmv rfl rfl (L_yes rfl rfl rfl (decide_eq_false h7) (L_run (R_neq rfl rfl) rfl (L_run (R_pickF rfl (decide_eq_false h7) rfl) rfl (L_nil (N_then (C_if rfl (fun h8 => ?_) (fun h8 => ?_))))))))))))
         ·refine C_seq (C_reg rfl ?_)
          refine L_run (R_build (pv := []) (cs := [.int .i64 0, .int .u32 0, .slice none 0 0]) rfl (by kernel_rfl)) rfl ?_
          refine L_stA (vs := [.int .i64 0, .int .u32 0, .slice none 0 0]) rfl rfl rfl sz86 rfl hb1 rfl ?_
          intro w20 hb13 hs18 hz15
          replace hB := gb_trg hB hs18 ge1
          refine Las rfl rfl (Las rfl rfl (L_nil (N_then (C_ret (R_then ?_)))))
          refine retC2 (vs := [.int .i64 0, .int .u32 0, .slice none 0 0]) Tryd.results63 rfl agg86 (At.pre (hb13.at_ 0) rfl) rfl rfl rfl ?_
          obtain rfl : i = 11 := by omega
          first
            | (exfalso; omega)
            | (have hf : fdec bs ep = ((0, []), 0, 2) := by first | exact fd_form (by omega) (by first | assumption | exact Decidable.not_not.1 (by assumption)) (by omega)
               exact ⟨hB, .inr ⟨by rw [hf]; decide, by rw [hf]⟩⟩)
         ·refine C_skip (N_then (C_seq (C_seq (C_reg rfl ?_))))
          refine Lmv rfl rfl (L_run (R_lenSl rfl slc34) rfl (Lmv rfl rfl ?_))
          refine L_run (R_eqv (R_add64 rfl rfl (by omega)) (v' := .int .i64 ((11 + getN ((bs.drop 4).take 2) : Nat) : Int)) (congrArg _ (by omega))) rfl ?_
          refine L_run (R_lss rfl rfl) rfl ?_
          refine L_nil (N_then (C_if rfl (fun h9 => ?_) (fun h9 => ?_)))
          ·refine C_seq (C_reg rfl ?_)
           refine L_run (R_build (pv := []) (cs := [.int .i64 0, .int .u32 0, .slice none 0 0]) rfl (by kernel_rfl)) rfl ?_
           refine L_stA (vs := [.int .i64 0, .int .u32 0, .slice none 0 0]) rfl rfl rfl sz86 rfl hb1 rfl ?_
           intro w21 hb14 hs19 hz16
           replace hB := gb_trg hB hs19 ge1
           refine Las rfl rfl (Las rfl rfl (L_nil (N_then (C_ret (R_then ?_)))))
           refine retC2 (vs := [.int .i64 0, .int .u32 0, .slice none 0 0]) Tryd.results63 rfl agg86 (At.pre (hb14.at_ 0) rfl) rfl rfl rfl ?_
           obtain rfl : i = 11 := by omega
           first
             | (exfalso; omega)
             | (have hf : fdec bs ep = ((0, []), 0, 1) := by first | exact fd_short (by omega) | exact fd_cut (by omega) (by first | assumption | exact Decidable.not_not.1 (by assumption)) (by omega) (by omega)
                exact ⟨hB, .inr ⟨by rw [hf]; decide, by rw [hf]⟩⟩)
          ·refine C_skip (N_then (C_seq (C_reg rfl ?_)))
           refine L_buildSlice (pv := []) (cs := []) slc34 zer5 rfl rfl (by kernel_rfl) rfl ?_
           intro g9 w22 eg5 hb15 hs20 hz17
           have ge6 : w.heap.size ≤ g9 := eg_ge hB eg5
           replace hB := gb_tr hB hs20; replace hS := hS.gb hs20; replace hb1 := hb1.gb hs20; replace hj1 := hj1.gb hs20
           refine Lmv rfl rfl (Lmv rfl rfl ?_)
           refine L_run (R_eqv (R_add64 rfl rfl (by omega)) (v' := .int .i64 ((11 + getN ((bs.drop 4).take 2) : Nat) : Int)) (congrArg _ (by omega))) rfl ?_
           refine T_slLH (xs := bs) (i := 11) (j := (11 + getN ((bs.drop 4).take 2))) EncB rfl rfl rfl (by first | rfl | omega) (by first | rfl | omega) slc34 (by first | omega | (simp; done) | (simp; omega)) (by first | omega | (simp; done) | (simp; omega)) (by first | omega | (simp; done) | (simp; omega)) hS rfl ?_
           intro A_3 hS_3
           have hlo1 : g9 ≤ w22.heap.size := Nat.le_of_lt hb15.lt
           have ho1 : World.ownsRow w22 g9 5 1 (.slice (some ⟨g9, 0, none⟩) ([] : List UInt8).length 0) ([] : List UInt8).length (fl encB []) := Blk.own (sz := 1) (m := 0) hb15 (by decide) rfl (Nat.le_refl _)
           refine T_append (xs := []) (ys := (bs.drop 11).take ((11 + getN ((bs.drop 4).take 2)) - 11)) EncB slc34 rfl rfl ho1 hS_3 (by first | omega | (simp; done) | (simp; omega)) hlo1 rfl ?_
           intro A_4 c_1 w23 ho2 hs21 hat1
           replace hB := gb_tro hB ho1 hs21 ge6; replace hS := hS.grown hs21 (fun k hk => .inr (Nat.le_trans ge6 (World.ownsRow.lt ho1 k hk).1)); replace hb1 := blk_own hb1 ho1 rfl hs21; replace hj1 := blk_own hj1 ho1 rfl hs21; replace hS_3 := hS_3.grown hs21 (fun k hk => .inr (Nat.le_trans ge6 (World.ownsRow.lt ho1 k hk).1))
           simp only [List.nil_append] at ho2 ⊢
           refine L_run (R_field (r := 2) rfl fld86_2 rfl) rfl ?_
           refine L_st1 rfl rfl rfl sz34 hj1 rfl ?_
           intro w24 hb16 hs22 hz18
           replace hB := gb_trg hB hs22 ge5; replace hS := hS.old hs22 ge5; replace hb1 := hb1.grown hs22 (ne_lt lt4); replace hS_3 := hS_3.old hs22 ge5; replace ho2 := own_other ho2 hj1 rfl hs22
           refine L_nil (N_then (C_seq (C_seq ?_)))
           refine C_join (fun a_ w_ => (∃ (σ_ : Nat → Value), a_ = Ac 94 σ_ [] [(0, .slice A bs.length c), (1, .int .u32 (ep : Int)), (4, .pointer (some ⟨g1, 0, none⟩)), (5, .int .i64 0), (6, .int .i64 0), (7, .bool (decide (¬ (bs.take i = List.replicate i 0)))), (8, .int .i64 (i : Int)), (9, .int .i64 ((getN ((bs.drop 4).take 2) : Nat) : Int)), (10, .pointer (some ⟨g6, 0, none⟩)), (16, .bool (decide ((i : Int) < 11))), (28, .bool (decide (¬ (¬ (bs.take i = List.replicate i 0))))), (66, .bool (decide (((getN ((bs.drop 7).take 4) : Nat) : Int) ≠ (ep : Int)))), (72, .bool (decide ((bs.length : Int) < ((11 + getN ((bs.drop 4).take 2) : Nat) : Int)))), (89, .bool (decide (¬ ((putN (maskN (moreN 0 (((putN (((bs.drop 11).take ((11 + getN ((bs.drop 4).take 2)) - 11)).length) 2 ++ [UInt8.ofNat ((bs.getD 6 0).toNat)]) ++ putN (getN ((bs.drop 7).take 4)) 4) ++ ((bs.drop 11).take ((11 + getN ((bs.drop 4).take 2)) - 11))))) 4 ++ (((putN (((bs.drop 11).take ((11 + getN ((bs.drop 4).take 2)) - 11)).length) 2 ++ [UInt8.ofNat ((bs.getD 6 0).toNat)]) ++ putN (getN ((bs.drop 7).take 4)) 4) ++ ((bs.drop 11).take ((11 + getN ((bs.drop 4).take 2)) - 11)))) = (bs.take (11 + getN ((bs.drop 4).take 2)))))))] ∧ w.grownBy w_ none ∧ Sli t1 lo w.heap.size w_ A (fl encB bs) ∧ Blk w_ g1 86 [.int .i64 0, .int .u32 0, .slice none 0 0] ∧ Blk w_ g6 86 [.int .i64 (((bs.getD 6 0).toNat : Nat) : Int), .int .u32 ((getN ((bs.drop 7).take 4) : Nat) : Int), .slice A_4 (((bs.drop 11).take ((11 + getN ((bs.drop 4).take 2)) - 11)).length) c_1] ∧ Sli t1 lo w.heap.size w_ A_3 (fl encB ((bs.drop 11).take ((11 + getN ((bs.drop 4).take 2)) - 11))) ∧ World.ownsRow w_ w.heap.size 5 1 (.slice A_4 ((bs.drop 11).take ((11 + getN ((bs.drop 4).take 2)) - 11)).length c_1) ((bs.drop 11).take ((11 + getN ((bs.drop 4).take 2)) - 11)).length (fl encB ((bs.drop 11).take ((11 + getN ((bs.drop 4).take 2)) - 11))))) ?_ ?_
           ·refine C_draw2 rfl mix ?_
            intro w25 hs23 hz19
            replace hB := gb_tr hB hs23; replace hS := hS.gb hs23; replace hb1 := hb1.gb hs23; replace hb16 := hb16.gb hs23; replace hS_3 := hS_3.gb hs23; replace ho2 := own_gb ho2 hs23
            refine ⟨fun W_ => Blk W_ g6 86 [.int .i64 (((bs.getD 6 0).toNat : Nat) : Int), .int .u32 ((getN ((bs.drop 7).take 4) : Nat) : Int), .slice A_4 (((bs.drop 11).take ((11 + getN ((bs.drop 4).take 2)) - 11)).length) c_1] ∧ True, [0, 3, 4, 5, 8], ?_⟩
            refine T_tk (i := 0) rfl (Y_of (fun _ ⟨hb16, _⟩ => R_loadA (vs := [.int .i64 (((bs.getD 6 0).toNat : Nat) : Int), .int .u32 ((getN ((bs.drop 7).take 4) : Nat) : Int), .slice A_4 (((bs.drop 11).take ((11 + getN ((bs.drop 4).take 2)) - 11)).length) c_1]) rfl agg86 (At.pre (hb16.at_ 0) rfl) rfl)) ⟨hb16, trivial⟩ rfl ?_
            refine T_tk (i := 3) rfl (Y_of (fun _ _ => R_move rfl)) ⟨hb16, trivial⟩ rfl ?_
            refine T_tk (i := 4) rfl (Y_of (fun _ _ => R_move rfl)) ⟨hb16, trivial⟩ rfl ?_
            refine T_tk (i := 5) rfl (Y_of (fun _ _ => R_eqv (R_add64 rfl rfl (by omega)) (v' := .int .i64 ((11 + getN ((bs.drop 4).take 2) : Nat) : Int)) (congrArg _ (by omega)))) ⟨hb16, trivial⟩ rfl ?_
            refine T_all (rs := [1, 6]) (by kernel_rfl) rfl (all2 (O_one rfl ?_) (O_one rfl ?_))
            ·refine L_call rfl cb85 (bytes13 (d := (bs.drop 11).take ((11 + getN ((bs.drop 4).take 2)) - 11)) (k := ((bs.getD 6 0).toNat)) (ep := (getN ((bs.drop 7).take 4))) (own_of ho2).2.2 (by simp only [List.length_take, List.length_drop]; omega) (by omega) (by omega)) rfl ?_
             rintro _ w26 ⟨hs24, A_5, c_2, rfl, ho3⟩
             replace hB := gb_tr hB hs24; replace hS := hS.gb hs24; replace hb1 := hb1.gb hs24; replace hb16 := hb16.gb hs24; replace hS_3 := hS_3.gb hs24; replace ho2 := own_gb ho2 hs24
             have hlo2 : w25.heap.size ≤ w26.heap.size := hs24.size
             refine L_nil (N_then ⟨fun hN_ => ⟨hb16, trivial⟩, ?_⟩)
             refine T_all (rs := [2, 6]) (by kernel_rfl) rfl (all2 (O_one rfl ?_) (O_one rfl ?_))
             ·refine L_run (R_b2s' (bs := putN (maskN (moreN 0 (((putN (((bs.drop 11).take ((11 + getN ((bs.drop 4).take 2)) - 11)).length) 2 ++ [UInt8.ofNat ((bs.getD 6 0).toNat)]) ++ putN (getN ((bs.drop 7).take 4)) 4) ++ ((bs.drop 11).take ((11 + getN ((bs.drop 4).take 2)) - 11))))) 4 ++ (((putN (((bs.drop 11).take ((11 + getN ((bs.drop 4).take 2)) - 11)).length) 2 ++ [UInt8.ofNat ((bs.getD 6 0).toNat)]) ++ putN (getN ((bs.drop 7).take 4)) 4) ++ ((bs.drop 11).take ((11 + getN ((bs.drop 4).take 2)) - 11)))) rfl slc34 int5 str9 (own_of ho3).2.2) rfl ?_
              refine L_nil (N_then ⟨fun hN_ => ⟨hb16, trivial⟩, ?_⟩)
              refine T_all (rs := [6]) (by kernel_rfl) rfl (all1 (O_one rfl ?_))
              refine T_slH (xs := bs) (j := (11 + getN ((bs.drop 4).take 2))) EncB rfl rfl (by first | rfl | omega) slc34 (by first | omega | (simp; done) | (simp; omega)) (by first | omega | (simp; done) | (simp; omega)) hS rfl ?_
              intro A_6 hS_4
              refine L_nil (N_then ⟨fun hN_ => ⟨hb16, trivial⟩, ?_⟩)
              refine T_all (rs := [7]) (by kernel_rfl) rfl (all1 (O_one rfl ?_))
              refine L_run (R_b2s' (bs := bs.take (11 + getN ((bs.drop 4).take 2))) rfl slc34 int5 str9 hS_4) rfl ?_
              refine L_nil (N_then ⟨fun hN_ => ⟨hb16, trivial⟩, ?_⟩)
              refine T_tk (i := 8) rfl (Y_of (fun _ _ => R_eqv (R_neqS rfl rfl) (v' := .bool (decide (¬ ((putN (maskN (moreN 0 (((putN (((bs.drop 11).take ((11 + getN ((bs.drop 4).take 2)) - 11)).length) 2 ++ [UInt8.ofNat ((bs.getD 6 0).toNat)]) ++ putN (getN ((bs.drop 7).take 4)) 4) ++ ((bs.drop 11).take ((11 + getN ((bs.drop 4).take 2)) - 11))))) 4 ++ (((putN (((bs.drop 11).take ((11 + getN ((bs.drop 4).take 2)) - 11)).length) 2 ++ [UInt8.ofNat ((bs.getD 6 0).toNat)]) ++ putN (getN ((bs.drop 7).take 4)) 4) ++ ((bs.drop 11).take ((11 + getN ((bs.drop 4).take 2)) - 11)))) = (bs.take (11 + getN ((bs.drop 4).take 2))))))) (bD (not_congr ba_inj)))) ⟨hb16, trivial⟩ rfl ?_
              refine T_done (by kernel_rfl) (CalmE.normal ?_)
              exact ⟨rfl, ⟨_, Ac_frg ⟨rfl, rfl, rfl, rfl, rfl, rfl, rfl, rfl, rfl, rfl, rfl, rfl, rfl, rfl, trivial⟩, hB, hS, hb1, hb16, hS_3, (own_lo ho2 ge6)⟩⟩
             ·refine T_slH (xs := bs) (j := (11 + getN ((bs.drop 4).take 2))) EncB rfl rfl (by first | rfl | omega) slc34 (by first | omega | (simp; done) | (simp; omega)) (by first | omega | (simp; done) | (simp; omega)) hS rfl ?_
              intro A_7 hS_5
              refine L_nil (N_then ⟨fun hN_ => ⟨hb16, trivial⟩, ?_⟩)
              refine T_all (rs := [2, 7]) (by kernel_rfl) rfl (all2 (O_one rfl ?_) (O_one rfl ?_))
              ·refine L_run (R_b2s' (bs := putN (maskN (moreN 0 (((putN (((bs.drop 11).take ((11 + getN ((bs.drop 4).take 2)) - 11)).length) 2 ++ [UInt8.ofNat ((bs.getD 6 0).toNat)]) ++ putN (getN ((bs.drop 7).take 4)) 4) ++ ((bs.drop 11).take ((11 + getN ((bs.drop 4).take 2)) - 11))))) 4 ++ (((putN (((bs.drop 11).take ((11 + getN ((bs.drop 4).take 2)) - 11)).length) 2 ++ [UInt8.ofNat ((bs.getD 6 0).toNat)]) ++ putN (getN ((bs.drop 7).take 4)) 4) ++ ((bs.drop 11).take ((11 + getN ((bs.drop 4).take 2)) - 11)))) rfl slc34 int5 str9 (own_of ho3).2.2) rfl ?_
               refine L_nil (N_then ⟨fun hN_ => ⟨hb16, trivial⟩, ?_⟩)
               refine T_all (rs := [7]) (by kernel_rfl) rfl (all1 (O_one rfl ?_))
               refine L_run (R_b2s' (bs := bs.take (11 + getN ((bs.drop 4).take 2))) rfl slc34 int5 str9 hS_5) rfl ?_
               refine L_nil (N_then ⟨fun hN_ => ⟨hb16, trivial⟩, ?_⟩)
               refine T_tk (i := 8) rfl (Y_of (fun _ _ => R_eqv (R_neqS rfl rfl) (v' := .bool (decide (¬ ((putN (maskN (moreN 0 (((putN (((bs.drop 11).take ((11 + getN ((bs.drop 4).take 2)) - 11)).length) 2 ++ [UInt8.ofNat ((bs.getD 6 0).toNat)]) ++ putN (getN ((bs.drop 7).take 4)) 4) ++ ((bs.drop 11).take ((11 + getN ((bs.drop 4).take 2)) - 11))))) 4 ++ (((putN (((bs.drop 11).take ((11 + getN ((bs.drop 4).take 2)) - 11)).length) 2 ++ [UInt8.ofNat ((bs.getD 6 0).toNat)]) ++ putN (getN ((bs.drop 7).take 4)) 4) ++ ((bs.drop 11).take ((11 + getN ((bs.drop 4).take 2)) - 11)))) = (bs.take (11 + getN ((bs.drop 4).take 2))))))) (bD (not_congr ba_inj)))) ⟨hb16, trivial⟩ rfl ?_
               refine T_done (by kernel_rfl) (CalmE.normal ?_)
               exact ⟨rfl, ⟨_, Ac_frg ⟨rfl, rfl, rfl, rfl, rfl, rfl, rfl, rfl, rfl, rfl, rfl, rfl, rfl, rfl, trivial⟩, hB, hS, hb1, hb16, hS_3, (own_lo ho2 ge6)⟩⟩
              ·refine L_run (R_b2s' (bs := bs.take (11 + getN ((bs.drop 4).take 2))) rfl slc34 int5 str9 hS_5) rfl ?_
               refine L_nil (N_then ⟨fun hN_ => ⟨hb16, trivial⟩, ?_⟩)
               refine T_all (rs := [2]) (by kernel_rfl) rfl (all1 (O_one rfl ?_))
               refine L_run (R_b2s' (bs := putN (maskN (moreN 0 (((putN (((bs.drop 11).take ((11 + getN ((bs.drop 4).take 2)) - 11)).length) 2 ++ [UInt8.ofNat ((bs.getD 6 0).toNat)]) ++ putN (getN ((bs.drop 7).take 4)) 4) ++ ((bs.drop 11).take ((11 + getN ((bs.drop 4).take 2)) - 11))))) 4 ++ (((putN (((bs.drop 11).take ((11 + getN ((bs.drop 4).take 2)) - 11)).length) 2 ++ [UInt8.ofNat ((bs.getD 6 0).toNat)]) ++ putN (getN ((bs.drop 7).take 4)) 4) ++ ((bs.drop 11).take ((11 + getN ((bs.drop 4).take 2)) - 11)))) rfl slc34 int5 str9 (own_of ho3).2.2) rfl ?_
               refine L_nil (N_then ⟨fun hN_ => ⟨hb16, trivial⟩, ?_⟩)
               refine T_tk (i := 8) rfl (Y_of (fun _ _ => R_eqv (R_neqS rfl rfl) (v' := .bool (decide (¬ ((putN (maskN (moreN 0 (((putN (((bs.drop 11).take ((11 + getN ((bs.drop 4).take 2)) - 11)).length) 2 ++ [UInt8.ofNat ((bs.getD 6 0).toNat)]) ++ putN (getN ((bs.drop 7).take 4)) 4) ++ ((bs.drop 11).take ((11 + getN ((bs.drop 4).take 2)) - 11))))) 4 ++ (((putN (((bs.drop 11).take ((11 + getN ((bs.drop 4).take 2)) - 11)).length) 2 ++ [UInt8.ofNat ((bs.getD 6 0).toNat)]) ++ putN (getN ((bs.drop 7).take 4)) 4) ++ ((bs.drop 11).take ((11 + getN ((bs.drop 4).take 2)) - 11)))) = (bs.take (11 + getN ((bs.drop 4).take 2))))))) (bD (not_congr ba_inj)))) ⟨hb16, trivial⟩ rfl ?_
               refine T_done (by kernel_rfl) (CalmE.normal ?_)
               exact ⟨rfl, ⟨_, Ac_frg ⟨rfl, rfl, rfl, rfl, rfl, rfl, rfl, rfl, rfl, rfl, rfl, rfl, rfl, rfl, trivial⟩, hB, hS, hb1, hb16, hS_3, (own_lo ho2 ge6)⟩⟩
            ·refine T_slH (xs := bs) (j := (11 + getN ((bs.drop 4).take 2))) EncB rfl rfl (by first | rfl | omega) slc34 (by first | omega | (simp; done) | (simp; omega)) (by first | omega | (simp; done) | (simp; omega)) hS rfl ?_
             intro A_8 hS_6
             refine L_nil (N_then ⟨fun hN_ => ⟨hb16, trivial⟩, ?_⟩)
             refine T_all (rs := [1, 7]) (by kernel_rfl) rfl (all2 (O_one rfl ?_) (O_one rfl ?_))
             ·refine L_call rfl cb85 (bytes13 (d := (bs.drop 11).take ((11 + getN ((bs.drop 4).take 2)) - 11)) (k := ((bs.getD 6 0).toNat)) (ep := (getN ((bs.drop 7).take 4))) (own_of ho2).2.2 (by simp only [List.length_take, List.length_drop]; omega) (by omega) (by omega)) rfl ?_
              rintro _ w27 ⟨hs25, A_9, c_3, rfl, ho4⟩
              replace hB := gb_tr hB hs25; replace hS := hS.gb hs25; replace hb1 := hb1.gb hs25; replace hb16 := hb16.gb hs25; replace hS_3 := hS_3.gb hs25; replace ho2 := own_gb ho2 hs25; replace hS_6 := hS_6.gb hs25
              have hlo3 : w25.heap.size ≤ w27.heap.size := hs25.size
              refine L_nil (N_then ⟨fun hN_ => ⟨hb16, trivial⟩, ?_⟩)
              refine T_all (rs := [2, 7]) (by kernel_rfl) rfl (all2 (O_one rfl ?_) (O_one rfl ?_))
              ·refine L_run (R_b2s' (bs := putN (maskN (moreN 0 (((putN (((bs.drop 11).take ((11 + getN ((bs.drop 4).take 2)) - 11)).length) 2 ++ [UInt8.ofNat ((bs.getD 6 0).toNat)]) ++ putN (getN ((bs.drop 7).take 4)) 4) ++ ((bs.drop 11).take ((11 + getN ((bs.drop 4).take 2)) - 11))))) 4 ++ (((putN (((bs.drop 11).take ((11 + getN ((bs.drop 4).take 2)) - 11)).length) 2 ++ [UInt8.ofNat ((bs.getD 6 0).toNat)]) ++ putN (getN ((bs.drop 7).take 4)) 4) ++ ((bs.drop 11).take ((11 + getN ((bs.drop 4).take 2)) - 11)))) rfl slc34 int5 str9 (own_of ho4).2.2) rfl ?_
               refine L_nil (N_then ⟨fun hN_ => ⟨hb16, trivial⟩, ?_⟩)
               refine T_all (rs := [7]) (by kernel_rfl) rfl (all1 (O_one rfl ?_))
               refine L_run (R_b2s' (bs := bs.take (11 + getN ((bs.drop 4).take 2))) rfl slc34 int5 str9 hS_6) rfl ?_
               refine L_nil (N_then ⟨fun hN_ => ⟨hb16, trivial⟩, ?_⟩)
               refine T_tk (i := 8) rfl (Y_of (fun _ _ => R_eqv (R_neqS rfl rfl) (v' := .bool (decide (¬ ((putN (maskN (moreN 0 (((putN (((bs.drop 11).take ((11 + getN ((bs.drop 4).take 2)) - 11)).length) 2 ++ [UInt8.ofNat ((bs.getD 6 0).toNat)]) ++ putN (getN ((bs.drop 7).take 4)) 4) ++ ((bs.drop 11).take ((11 + getN ((bs.drop 4).take 2)) - 11))))) 4 ++ (((putN (((bs.drop 11).take ((11 + getN ((bs.drop 4).take 2)) - 11)).length) 2 ++ [UInt8.ofNat ((bs.getD 6 0).toNat)]) ++ putN (getN ((bs.drop 7).take 4)) 4) ++ ((bs.drop 11).take ((11 + getN ((bs.drop 4).take 2)) - 11)))) = (bs.take (11 + getN ((bs.drop 4).take 2))))))) (bD (not_congr ba_inj)))) ⟨hb16, trivial⟩ rfl ?_
               refine T_done (by kernel_rfl) (CalmE.normal ?_)
               exact ⟨rfl, ⟨_, Ac_frg ⟨rfl, rfl, rfl, rfl, rfl, rfl, rfl, rfl, rfl, rfl, rfl, rfl, rfl, rfl, trivial⟩, hB, hS, hb1, hb16, hS_3, (own_lo ho2 ge6)⟩⟩
              ·refine L_run (R_b2s' (bs := bs.take (11 + getN ((bs.drop 4).take 2))) rfl slc34 int5 str9 hS_6) rfl ?_
               refine L_nil (N_then ⟨fun hN_ => ⟨hb16, trivial⟩, ?_⟩)
               refine T_all (rs := [2]) (by kernel_rfl) rfl (all1 (O_one rfl ?_))
               refine L_run (R_b2s' (bs := putN (maskN (moreN 0 (((putN (((bs.drop 11).take ((11 + getN ((bs.drop 4).take 2)) - 11)).length) 2 ++ [UInt8.ofNat ((bs.getD 6 0).toNat)]) ++ putN (getN ((bs.drop 7).take 4)) 4) ++ ((bs.drop 11).take ((11 + getN ((bs.drop 4).take 2)) - 11))))) 4 ++ (((putN (((bs.drop 11).take ((11 + getN ((bs.drop 4).take 2)) - 11)).length) 2 ++ [UInt8.ofNat ((bs.getD 6 0).toNat)]) ++ putN (getN ((bs.drop 7).take 4)) 4) ++ ((bs.drop 11).take ((11 + getN ((bs.drop 4).take 2)) - 11)))) rfl slc34 int5 str9 (own_of ho4).2.2) rfl ?_
               refine L_nil (N_then ⟨fun hN_ => ⟨hb16, trivial⟩, ?_⟩)
               refine T_tk (i := 8) rfl (Y_of (fun _ _ => R_eqv (R_neqS rfl rfl) (v' := .bool (decide (¬ ((putN (maskN (moreN 0 (((putN (((bs.drop 11).take ((11 + getN ((bs.drop 4).take 2)) - 11)).length) 2 ++ [UInt8.ofNat ((bs.getD 6 0).toNat)]) ++ putN (getN ((bs.drop 7).take 4)) 4) ++ ((bs.drop 11).take ((11 + getN ((bs.drop 4).take 2)) - 11))))) 4 ++ (((putN (((bs.drop 11).take ((11 + getN ((bs.drop 4).take 2)) - 11)).length) 2 ++ [UInt8.ofNat ((bs.getD 6 0).toNat)]) ++ putN (getN ((bs.drop 7).take 4)) 4) ++ ((bs.drop 11).take ((11 + getN ((bs.drop 4).take 2)) - 11)))) = (bs.take (11 + getN ((bs.drop 4).take 2))))))) (bD (not_congr ba_inj)))) ⟨hb16, trivial⟩ rfl ?_
               refine T_done (by kernel_rfl) (CalmE.normal ?_)
               exact ⟨rfl, ⟨_, Ac_frg ⟨rfl, rfl, rfl, rfl, rfl, rfl, rfl, rfl, rfl, rfl, rfl, rfl, rfl, rfl, trivial⟩, hB, hS, hb1, hb16, hS_3, (own_lo ho2 ge6)⟩⟩
             ·refine L_run (R_b2s' (bs := bs.take (11 + getN ((bs.drop 4).take 2))) rfl slc34 int5 str9 hS_6) rfl ?_
              refine L_nil (N_then ⟨fun hN_ => ⟨hb16, trivial⟩, ?_⟩)
              refine T_all (rs := [1]) (by kernel_rfl) rfl (all1 (O_one rfl ?_))
              refine L_call rfl cb85 (bytes13 (d := (bs.drop 11).take ((11 + getN ((bs.drop 4).take 2)) - 11)) (k := ((bs.getD 6 0).toNat)) (ep := (getN ((bs.drop 7).take 4))) (own_of ho2).2.2 (by simp only [List.length_take, List.length_drop]; omega) (by omega) (by omega)) rfl ?_
              rintro _ w28 ⟨hs26, A_10, c_4, rfl, ho5⟩
              replace hB := gb_tr hB hs26; replace hS := hS.gb hs26; replace hb1 := hb1.gb hs26; replace hb16 := hb16.gb hs26; replace hS_3 := hS_3.gb hs26; replace ho2 := own_gb ho2 hs26
              have hlo4 : w25.heap.size ≤ w28.heap.size := hs26.size
              refine L_nil (N_then ⟨fun hN_ => ⟨hb16, trivial⟩, ?_⟩)
              refine T_all (rs := [2]) (by kernel_rfl) rfl (all1 (O_one rfl ?_))
              refine L_run (R_b2s' (bs := putN (maskN (moreN 0 (((putN (((bs.drop 11).take ((11 + getN ((bs.drop 4).take 2)) - 11)).length) 2 ++ [UInt8.ofNat ((bs.getD 6 0).toNat)]) ++ putN (getN ((bs.drop 7).take 4)) 4) ++ ((bs.drop 11).take ((11 + getN ((bs.drop 4).take 2)) - 11))))) 4 ++ (((putN (((bs.drop 11).take ((11 + getN ((bs.drop 4).take 2)) - 11)).length) 2 ++ [UInt8.ofNat ((bs.getD 6 0).toNat)]) ++ putN (getN ((bs.drop 7).take 4)) 4) ++ ((bs.drop 11).take ((11 + getN ((bs.drop 4).take 2)) - 11)))) rfl slc34 int5 str9 (own_of ho5).2.2) rfl ?_
              refine L_nil (N_then ⟨fun hN_ => ⟨hb16, trivial⟩, ?_⟩)
              refine T_tk (i := 8) rfl (Y_of (fun _ _ => R_eqv (R_neqS rfl rfl) (v' := .bool (decide (¬ ((putN (maskN (moreN 0 (((putN (((bs.drop 11).take ((11 + getN ((bs.drop 4).take 2)) - 11)).length) 2 ++ [UInt8.ofNat ((bs.getD 6 0).toNat)]) ++ putN (getN ((bs.drop 7).take 4)) 4) ++ ((bs.drop 11).take ((11 + getN ((bs.drop 4).take 2)) - 11))))) 4 ++ (((putN (((bs.drop 11).take ((11 + getN ((bs.drop 4).take 2)) - 11)).length) 2 ++ [UInt8.ofNat ((bs.getD 6 0).toNat)]) ++ putN (getN ((bs.drop 7).take 4)) 4) ++ ((bs.drop 11).take ((11 + getN ((bs.drop 4).take 2)) - 11)))) = (bs.take (11 + getN ((bs.drop 4).take 2))))))) (bD (not_congr ba_inj)))) ⟨hb16, trivial⟩ rfl ?_
              refine T_done (by kernel_rfl) (CalmE.normal ?_)
              exact ⟨rfl, ⟨_, Ac_frg ⟨rfl, rfl, rfl, rfl, rfl, rfl, rfl, rfl, rfl, rfl, rfl, rfl, rfl, rfl, trivial⟩, hB, hS, hb1, hb16, hS_3, (own_lo ho2 ge6)⟩⟩
           ·clear hB
            clear hS hb1 hb16 hS_3 hlo1 ho2
            rintro a_ w29 ⟨σ_, rfl, hB, hS, hb1, hb16, hS_3, ho2⟩
            refine N_then ?_
            refine C_ifN rfl (fun h10 => ?_) (fun h10 => ?_)
            ·refine C_seq (C_reg rfl ?_)
             refine L_run (R_build (pv := []) (cs := [.int .i64 0, .int .u32 0, .slice none 0 0]) rfl (by kernel_rfl)) rfl ?_
             refine L_stA (vs := [.int .i64 0, .int .u32 0, .slice none 0 0]) rfl rfl rfl sz86 rfl hb1 rfl ?_
             intro w30 hb17 hs27 hz20
             replace hB := gb_trg hB hs27 ge1
             refine Las rfl rfl (Las rfl rfl (L_nil (N_then (C_ret (R_then ?_)))))
             refine retC2 (vs := [.int .i64 0, .int .u32 0, .slice none 0 0]) Tryd.results63 rfl agg86 (At.pre (hb17.at_ 0) rfl) rfl rfl rfl ?_
             obtain rfl : i = 11 := by omega
             first
               | (exfalso; omega)
               | (have hf : fdec bs ep = ((0, []), 0, 3) := by first | exact fd_sum (by omega) (by first | assumption | exact Decidable.not_not.1 (by assumption)) (by omega) (by omega) (fun q_ => h10 ((b13_eq (bs := bs) (by omega) (by omega) rfl).2 q_))
                  exact ⟨hB, .inr ⟨by rw [hf]; decide, by rw [hf]⟩⟩)
            ·refine C_skip (N_then (C_seq (C_reg rfl ?_)))
             refine L_run (R_loadA (vs := [.int .i64 (((bs.getD 6 0).toNat : Nat) : Int), .int .u32 ((getN ((bs.drop 7).take 4) : Nat) : Int), .slice A_4 (((bs.drop 11).take ((11 + getN ((bs.drop 4).take 2)) - 11)).length) c_1]) rfl agg86 (At.pre (hb16.at_ 0) rfl) rfl) rfl (Lmv rfl rfl ?_)
             refine L_run (R_eqv (R_add64 rfl rfl (by omega)) (v' := .int .i64 ((11 + getN ((bs.drop 4).take 2) : Nat) : Int)) (congrArg _ (by omega))) rfl ?_
             refine L_stA (vs := [.int .i64 (((bs.getD 6 0).toNat : Nat) : Int), .int .u32 ((getN ((bs.drop 7).take 4) : Nat) : Int), .slice A_4 (((bs.drop 11).take ((11 + getN ((bs.drop 4).take 2)) - 11)).length) c_1]) rfl rfl rfl sz86 rfl hb1 rfl ?_
             intro w31 hb18 hs28 hz21
             replace hB := gb_trg hB hs28 ge1; replace ho2 := own_other ho2 hb1 rfl hs28
             refine Las rfl rfl (Las rfl rfl (L_nil (N_then (C_ret ?_))))
             refine retC2 (vs := [.int .i64 (((bs.getD 6 0).toNat : Nat) : Int), .int .u32 ((getN ((bs.drop 7).take 4) : Nat) : Int), .slice A_4 (((bs.drop 11).take ((11 + getN ((bs.drop 4).take 2)) - 11)).length) c_1]) Tryd.results63 rfl agg86 (At.pre (hb18.at_ 0) rfl) rfl rfl rfl ?_
             obtain rfl : i = 11 := by omega
             have hs_ := (b13_eq (bs := bs) (by omega) (by omega) rfl).1 h10
             have he_ : getN ((bs.drop 7).take 4) = ep := by omega
             have hf := fd_ok (bs := bs) (ep := ep) (by omega) (by first | assumption | exact Decidable.not_not.1 (by assumption)) (by omega) (by omega) hs_
             exact ⟨hB, .inl ⟨by rw [hf], _, _, by rw [hf, he_], by rw [hf]; exact (own_lo ho2 (Nat.le_refl _))⟩⟩
theorem dec13_y {w : World} {t1 lo hi : Nat} {A : Option Addr} {c ep : Nat} {bs : List UInt8} (hS : Sli t1 lo hi w A (fl encB bs)) (hb : bs.length ≤ 1000000) (hc : bs.length ≤ c) (hep : ep < 4294967296) (hq : (fdec bs ep).2.2 = 0) : Runs Tryd.prog 63 #[.slice A bs.length c, .int .u32 (ep : Int)] w (fun v w' => w.grownBy w' none ∧ ∃ A' c', v = .tuple #[.agg #[.int .i64 (((fdec bs ep).1.1 : Nat) : Int), .int .u32 (ep : Int), .slice A' (fdec bs ep).1.2.length c'], .int .i64 (((fdec bs ep).2.1 : Nat) : Int), .int .i64 0] ∧ World.ownsRow w' w.heap.size 5 1 (.slice A' (fdec bs ep).1.2.length c') (fdec bs ep).1.2.length (fl encB (fdec bs ep).1.2)) := (dec13_ok hS hb hc hep).mono fun v w' h => by
  obtain ⟨h1, h2 | h2⟩ := h
  · exact ⟨h1, h2.2⟩
  · exact absurd hq h2.1
theorem dec13_n {w : World} {t1 lo hi : Nat} {A : Option Addr} {c ep : Nat} {bs : List UInt8} (hS : Sli t1 lo hi w A (fl encB bs)) (hb : bs.length ≤ 1000000) (hc : bs.length ≤ c) (hep : ep < 4294967296) (hq : ¬ (fdec bs ep).2.2 = 0) : Runs Tryd.prog 63 #[.slice A bs.length c, .int .u32 (ep : Int)] w (fun v w' => w.grownBy w' none ∧ v = .tuple #[.agg #[.int .i64 0, .int .u32 0, .slice none 0 0], .int .i64 0, .int .i64 (fdec bs ep).2.2]) := (dec13_ok hS hb hc hep).mono fun v w' h => by
  obtain ⟨h1, h2 | h2⟩ := h
  · exact absurd h2.1 hq
  · exact ⟨h1, h2.2⟩
end Go.Proofs.YtkjgjejkfjhcjaaDoor
namespace Go.Proofs.YtkjgjejkfjhcjaaDoor
open Go.RowKit Gw Pl
set_option linter.unusedVariables false
set_option linter.unusedSimpArgs false
theorem agg130 : aggB Tryd.prog 130 2 = true := by kernel_rfl
theorem agg83 : aggB Tryd.prog 83 2 = true := by kernel_rfl
theorem boo4 : Tryd.prog.underlying 4 = some .bool := by kernel_rfl
theorem fld130_0 : fldB Tryd.prog 130 0 0 = true := by kernel_rfl
theorem fld130_1 : fldB Tryd.prog 130 1 1 = true := by kernel_rfl
theorem fld83_0 : fldB Tryd.prog 83 0 0 = true := by kernel_rfl
theorem fld83_1 : fldB Tryd.prog 83 1 1 = true := by kernel_rfl
theorem sz130 : szB Tryd.prog 130 2 = true := by kernel_rfl
theorem sz83 : szB Tryd.prog 83 2 = true := by kernel_rfl
theorem zer130 : (Tryd.prog.info? 130).bind (·.zero) = some (.agg #[.bool false, .slice none 0 0]) := by kernel_rfl
theorem zer83 : (Tryd.prog.info? 83).bind (·.zero) = some (.agg #[.bool false, .slice none 0 0]) := by kernel_rfl
theorem fee_form {o : Bool} {k : Nat} {bs d : List UInt8} (h : ¬ (if o then k = 3 ∨ k = 4 else k = 1 ∨ k = 2)) : feedN o bs k d = ((false, []), [], false, 2) := by unfold feedN; rw [if_neg h]
theorem fee_long {o : Bool} {k : Nat} {bs d : List UInt8} (h : if o then k = 3 ∨ k = 4 else k = 1 ∨ k = 2) (h2 : 512 < bs.length + d.length) : feedN o bs k d = ((false, []), [], false, 5) := by unfold feedN; rw [if_pos h, if_pos h2]
theorem fee_done {o : Bool} {k : Nat} {bs d : List UInt8} (h : if o then k = 3 ∨ k = 4 else k = 1 ∨ k = 2) (h2 : ¬ 512 < bs.length + d.length) (h3 : k = 1 ∨ k = 4) : feedN o bs k d = ((false, []), bs ++ d, true, 0) := by unfold feedN; rw [if_pos h, if_neg h2, if_pos h3]
theorem fee_on {o : Bool} {k : Nat} {bs d : List UInt8} (h : if o then k = 3 ∨ k = 4 else k = 1 ∨ k = 2) (h2 : ¬ 512 < bs.length + d.length) (h3 : ¬ (k = 1 ∨ k = 4)) : feedN o bs k d = ((true, bs ++ d), [], false, 0) := by unfold feedN; rw [if_pos h, if_neg h2, if_neg h3]
theorem feedN_len {o : Bool} {k : Nat} {bs d : List UInt8} : (feedN o bs k d).1.2.length ≤ 512 ∧ (feedN o bs k d).2.1.length ≤ 512 := by
  unfold feedN
  repeat' split
  all_goals simp
  all_goals omega
theorem new_ok {w : World} :
    Runs Tryd.prog 71 #[] w (fun v w' => w.grownBy w' none ∧ ∃ g, w.heap.size ≤ g ∧ v = .pointer (some ⟨g, 0, none⟩) ∧ Blk w' g 130 [.bool false, .slice none 0 0]) := by
 have hB := gb_refl w none
 refine enter Tryd.func71 Tryd.ntmps71 rfl rfl ?_
 refine C_seq (C_reg rfl ?_)
 refine Las rfl rfl (L_nil (N_then (C_seq (C_reg rfl ?_))))
 refine L_run (R_build (pv := []) (cs := [.bool false, .slice none 0 0]) rfl (by kernel_rfl)) rfl ?_
 refine L_box (cs := [.bool false, .slice none 0 0]) rfl rfl rfl ?_
 intro g1 w1 eg1 hb1 hs1 hz1
 have ge1 : w.heap.size ≤ g1 := eg_ge hB eg1
 replace hB := gb_tr hB hs1
 refine Las rfl rfl (L_nil (N_then (C_ret ?_)))
 refine ret1 Tryd.results71 rfl ?_
 exact ⟨hB, g1, ge1, rfl, hb1⟩
theorem feed_t {w : World} {g : Nat} {lo hi lo2 hi2 : Nat} {A A2 : Option Addr} {c c2 k : Nat} {ep : Int} {bs d : List UInt8} (hb : Blk w g 130 [.bool true, .slice A bs.length c]) (hS : Sli 5 lo hi w A (fl encB bs)) (hD : Sli 5 lo2 hi2 w A2 (fl encB d)) (hl : bs.length ≤ 1000000) (hd : d.length ≤ 1000000) :
    Runs Tryd.prog 94 #[.pointer (some ⟨g, 0, none⟩), .agg #[.int .i64 ((k : Nat) : Int), .int .u32 ep, .slice A2 d.length c2]] w (fun v w' => w.grownBy w' (some g) ∧ ∃ A' c' A3 c3, v = .tuple #[.slice A3 (feedN true bs k d).2.1.length c3, .bool (feedN true bs k d).2.2.1, .int .i64 (feedN true bs k d).2.2.2] ∧ Blk w' g 130 [.bool (feedN true bs k d).1.1, .slice A' (feedN true bs k d).1.2.length c'] ∧ World.ownsRow w' w.heap.size 5 1 (.slice A' ((feedN true bs k d).1.2).length c') ((feedN true bs k d).1.2).length (fl encB ((feedN true bs k d).1.2)) ∧ World.ownsRow w' w.heap.size 5 1 (.slice A3 ((feedN true bs k d).2.1).length c3) ((feedN true bs k d).2.1).length (fl encB ((feedN true bs k d).2.1))) := by
 have hB := gb_refl w (some g)
 replace hS := hS.top; replace hD := hD.top
 refine enter Tryd.func94 Tryd.ntmps94 rfl rfl ?_
 refine C_seq (C_reg rfl ?_)
 refine L_box (cs := [.int .i64 ((k : Nat) : Int), .int .u32 ep, .slice A2 d.length c2]) rfl rfl rfl ?_
 intro g1 w1 eg1 hb1 hs1 hz1
 have lt1 : g < g1 := lt_of_eg hb.lt eg1
 replace hB := gb_tr hB hs1; replace hb := hb.gb hs1; replace hS := hS.gb hs1; replace hD := hD.gb hs1
 refine Las rfl rfl (Las rfl rfl (Las rfl rfl (L_nil (N_then (C_seq (C_seq (C_reg rfl (Lmv rfl rfl (L_run (R_eqlpPN rfl rfl Tryd.underlying116) rfl (L_nil (N_then (C_condF rfl rfl (C_skip (N_then (C_seq (C_reg rfl (Lmv rfl rfl (L_run (R_nilck rfl) rfl (L_run (R_loadA (vs := [.bool true, .slice A bs.length c]) rfl agg130 (At.pre (hb.at_ 0) rfl) rfl) rfl (L_alloc (cs := [.bool false, .slice none 0 0]) zer130 rfl rfl ?_))))))))))))))))))))
 intro g2 w2 eg2 hb2 hs2 hz2
 have ge2 : w.heap.size ≤ g2 := eg_ge hB eg2
 have lt2 : g < g2 := lt_of_eg hb.lt eg2
 have lt3 : g1 < g2 := lt_of_eg hb1.lt eg2
 replace hB := gb_tr hB hs2; replace hb := hb.gb hs2; replace hS := hS.gb hs2; replace hD := hD.gb hs2; replace hb1 := hb1.gb hs2
 refine L_stA (vs := [.bool true, .slice A bs.length c]) rfl rfl rfl sz130 rfl hb2 rfl ?_
 intro w3 hb3 hs3 hz3
 replace hB := gb_trg hB hs3 ge2; replace hb := hb.grown hs3 (ne_lt lt2); replace hS := hS.other hb2 rfl rfl hs3; replace hD := hD.other hb2 rfl rfl hs3; replace hb1 := hb1.grown hs3 (ne_lt lt3)
 refine L_nil (N_then (C_seq (C_reg rfl (Lmv rfl rfl ?_))))
 refine L_run (R_build (pv := []) (cs := [.bool false, .slice none 0 0]) rfl (by kernel_rfl)) rfl ?_
 refine L_run (R_nilck rfl) rfl ?_
 refine L_stA (vs := [.bool false, .slice none 0 0]) rfl rfl rfl sz130 rfl hb rfl ?_
 intro w4 hb4 hs4 hz4
 replace hB := gb_trans hB hs4; replace hS := hS.other hb rfl rfl hs4; replace hD := hD.other hb rfl rfl hs4; replace hb1 := hb1.grown hs4 (ne_gt lt1); replace hb3 := hb3.grown hs4 (ne_gt lt2)
 refine L_nil (N_then (C_seq (C_reg rfl (L_run (R_field (r := 0) rfl fld86_0 rfl) rfl (L_run (R_load1 rfl scl3 (hb1.cell (i := 0) rfl)) rfl (L_run (R_eql rfl rfl) rfl (Lmv rfl rfl ?_)))))))
 refine L_splitD (p := ((k : Nat) : Int) = 1) (fun h1 => ?_) (fun h1 => ?_)
 ·refine L_no rfl rfl rfl (decide_eq_true h1) rfl (L_no rfl rfl rfl (decide_eq_true h1) rfl (L_no rfl rfl rfl (decide_eq_true h1) rfl (L_run (R_pickT rfl (decide_eq_true h1) rfl) rfl (Las rfl rfl (L_nil (N_then (C_seq (C_reg rfl (L_run (R_field (r := 0) rfl fld86_0 rfl) rfl (L_run (R_load1 rfl scl3 (hb1.cell (i := 0) rfl)) rfl (L_run (R_eql rfl rfl) rfl (Lmv rfl rfl ?_))))))))))))
  refine L_splitD (p := ((k : Nat) : Int) = 3) (fun h2 => ?_) (fun h2 => ?_)
  ·refine L_no rfl rfl rfl (decide_eq_true h2) rfl (L_no rfl rfl rfl (decide_eq_true h2) rfl (L_no rfl rfl rfl (decide_eq_true h2) rfl (L_run (R_pickT rfl (decide_eq_true h2) rfl) rfl (Las rfl rfl (L_nil (N_then (C_seq (C_block (C_seq (C_reg rfl (L_run (R_field (r := 0) rfl fld130_0 rfl) rfl (L_run (R_load1 rfl scl4 (hb3.cell (i := 0) rfl)) rfl (Lmv rfl rfl ?_)))))))))))))
   refine L_run (R_eqv (R_neqB rfl rfl boo4) (v' := .bool false) (by simp)) rfl ?_
   refine Lmv rfl rfl (L_yes rfl rfl rfl rfl (L_run (R_field (r := 0) rfl fld130_0 rfl) rfl (L_yes rfl rfl rfl rfl (L_run (R_load1 rfl scl4 (hb3.cell (i := 0) rfl)) rfl (L_yes rfl rfl rfl rfl (Lmv rfl rfl (L_yes rfl rfl rfl rfl ?_)))))))
   refine L_run (R_eqv (R_eqlB rfl rfl boo4) (v' := .bool true) (by simp)) rfl ?_
   refine L_run (R_pickF rfl rfl rfl) rfl ?_
   refine Las rfl rfl (L_nil (N_then (C_condT rfl rfl (C_seq (C_reg rfl (Las rfl rfl (Las rfl rfl (Las rfl rfl (L_nil (N_then (C_ret (R_in (R_then ?_)))))))))))))
   refine ret3 Tryd.results94 rfl rfl rfl ?_
   have hf : feedN true bs k d = _ := fee_form (by first | (show k = 3 ∨ k = 4; omega) | (show k = 1 ∨ k = 2; omega) | (show ¬ (k = 3 ∨ k = 4); omega) | (show ¬ (k = 1 ∨ k = 2); omega))
   exact ⟨hB, none, 0, none, 0, by first | (rw [hf]; done) | (rw [hf]; rfl), by rw [hf]; exact hb4, by rw [hf]; exact (own_nil _ _ _ _), by rw [hf]; exact (own_nil _ _ _ _)⟩
  ·refine L_yes rfl rfl rfl (decide_eq_false h2) (L_run (R_field (r := 0) rfl fld86_0 rfl) rfl (L_yes rfl rfl rfl (decide_eq_false h2) (L_run (R_load1 rfl scl3 (hb1.cell (i := 0) rfl)) rfl (L_yes rfl rfl rfl (decide_eq_false h2) (L_run (R_eql rfl rfl) rfl (L_run (R_pickF rfl (decide_eq_false h2) rfl) rfl (Las rfl rfl (L_nil (N_then (C_seq (C_block (C_seq (C_reg rfl (L_run (R_field (r := 0) rfl fld130_0 rfl) rfl ?_))))))))))))))
   refine L_run (R_load1 rfl scl4 (hb3.cell (i := 0) rfl)) rfl (Lmv rfl rfl ?_)
   refine L_run (R_eqv (R_neqB rfl rfl boo4) (v' := .bool (decide (¬ (((k : Nat) : Int) = 4)))) (congrArg _ (by simp))) rfl ?_
   refine Lmv rfl rfl ?_
   refine L_splitN (p := ((k : Nat) : Int) = 4) (fun h3 => ?_) (fun h3 => ?_)
   ·refine L_no rfl rfl rfl (decide_eq_true h3) rfl (L_no rfl rfl rfl (decide_eq_true h3) rfl (L_no rfl rfl rfl (decide_eq_true h3) rfl (L_no rfl rfl rfl (decide_eq_true h3) rfl (L_run (R_pickT rfl (decide_eq_true h3) rfl) rfl (Las rfl rfl (L_nil (N_then (C_condT rfl rfl (C_seq (C_reg rfl (Las rfl rfl (Las rfl rfl (Las rfl rfl (L_nil (N_then (C_ret (R_in (R_then ?_))))))))))))))))))
    refine ret3 Tryd.results94 rfl rfl rfl ?_
    have hf : feedN true bs k d = _ := fee_form (by first | (show k = 3 ∨ k = 4; omega) | (show k = 1 ∨ k = 2; omega) | (show ¬ (k = 3 ∨ k = 4); omega) | (show ¬ (k = 1 ∨ k = 2); omega))
    exact ⟨hB, none, 0, none, 0, by first | (rw [hf]; done) | (rw [hf]; rfl), by rw [hf]; exact hb4, by rw [hf]; exact (own_nil _ _ _ _), by rw [hf]; exact (own_nil _ _ _ _)⟩
   ·refine L_yes rfl rfl rfl (decide_eq_false (fun hn => hn h3)) (L_run (R_field (r := 0) rfl fld130_0 rfl) rfl (L_yes rfl rfl rfl (decide_eq_false (fun hn => hn h3)) (L_run (R_load1 rfl scl4 (hb3.cell (i := 0) rfl)) rfl (L_yes rfl rfl rfl (decide_eq_false (fun hn => hn h3)) (Lmv rfl rfl (L_yes rfl rfl rfl (decide_eq_false (fun hn => hn h3)) ?_))))))
    refine L_run (R_eqv (R_eqlB rfl rfl boo4) (v' := .bool true) (by simp)) rfl ?_
    refine L_run (R_pickF rfl (decide_eq_false (fun hn => hn h3)) rfl) rfl ?_
    refine Las rfl rfl (L_nil (N_then (C_condT rfl rfl (C_seq (C_reg rfl (Las rfl rfl (Las rfl rfl (Las rfl rfl (L_nil (N_then (C_ret (R_in (R_then ?_)))))))))))))
    refine ret3 Tryd.results94 rfl rfl rfl ?_
    have hf : feedN true bs k d = _ := fee_form (by first | (show k = 3 ∨ k = 4; omega) | (show k = 1 ∨ k = 2; omega) | (show ¬ (k = 3 ∨ k = 4); omega) | (show ¬ (k = 1 ∨ k = 2); omega))
    exact ⟨hB, none, 0, none, 0, by first | (rw [hf]; done) | (rw [hf]; rfl), by rw [hf]; exact hb4, by rw [hf]; exact (own_nil _ _ _ _), by rw [hf]; exact (own_nil _ _ _ _)⟩
 ·refine L_yes rfl rfl rfl (decide_eq_false h1) (L_run (R_field (r := 0) rfl fld86_0 rfl) rfl (L_yes rfl rfl rfl (decide_eq_false h1) (L_run (R_load1 rfl scl3 (hb1.cell (i := 0) rfl)) rfl (L_yes rfl rfl rfl (decide_eq_false h1) (L_run (R_eql rfl rfl) rfl (L_run (R_pickF rfl (decide_eq_false h1) rfl) rfl (Las rfl rfl (L_nil (N_then (C_seq (C_reg rfl (L_run (R_field (r := 0) rfl fld86_0 rfl) rfl ?_))))))))))))
  refine L_run (R_load1 rfl scl3 (hb1.cell (i := 0) rfl)) rfl (L_run (R_eql rfl rfl) rfl (Lmv rfl rfl ?_))
  refine L_splitD (p := ((k : Nat) : Int) = 3) (fun h4 => ?_) (fun h4 => ?_)
  ·refine L_no rfl rfl rfl (decide_eq_true h4) rfl (L_no rfl rfl rfl (decide_eq_true h4) rfl (L_no rfl rfl rfl (decide_eq_true h4) rfl (L_run (R_pickT rfl (decide_eq_true h4) rfl) rfl (Las rfl rfl (L_nil (N_then (C_seq (C_block (C_seq (C_reg rfl (L_run (R_field (r := 0) rfl fld130_0 rfl) rfl (L_run (R_load1 rfl scl4 (hb3.cell (i := 0) rfl)) rfl (Lmv rfl rfl ?_)))))))))))))
   refine L_run (R_eqv (R_neqB rfl rfl boo4) (v' := .bool false) (by simp)) rfl ?_
   refine Lmv rfl rfl (L_yes rfl rfl rfl rfl (L_run (R_field (r := 0) rfl fld130_0 rfl) rfl (L_yes rfl rfl rfl rfl (L_run (R_load1 rfl scl4 (hb3.cell (i := 0) rfl)) rfl (L_yes rfl rfl rfl rfl (Lmv rfl rfl (L_yes rfl rfl rfl rfl ?_)))))))
   refine L_run (R_eqv (R_eqlB rfl rfl boo4) (v' := .bool (decide (((k : Nat) : Int) = 2))) (congrArg _ (by simp))) rfl ?_
   refine L_run (R_pickF rfl rfl rfl) rfl ?_
   refine Las rfl rfl (L_nil (N_then (C_if rfl (fun h5 => ?_) (fun h5 => ?_))))
   ·refine C_seq (C_reg rfl ?_)
    refine Las rfl rfl (Las rfl rfl (Las rfl rfl (L_nil (N_then (C_ret (R_in (R_then ?_)))))))
    refine ret3 Tryd.results94 rfl rfl rfl ?_
    have hf : feedN true bs k d = _ := fee_form (by first | (show k = 3 ∨ k = 4; omega) | (show k = 1 ∨ k = 2; omega) | (show ¬ (k = 3 ∨ k = 4); omega) | (show ¬ (k = 1 ∨ k = 2); omega))
    exact ⟨hB, none, 0, none, 0, by first | (rw [hf]; done) | (rw [hf]; rfl), by rw [hf]; exact hb4, by rw [hf]; exact (own_nil _ _ _ _), by rw [hf]; exact (own_nil _ _ _ _)⟩
   ·refine C_seq (C_reg rfl ?_)
    refine L_run (R_field (r := 1) rfl fld130_1 rfl) rfl (L_run (R_load1 rfl scl34 (hb3.cell (i := 1) rfl)) rfl (L_run (R_lenSl rfl slc34) rfl (L_run (R_field (r := 2) rfl fld86_2 rfl) rfl (L_run (R_load1 rfl scl34 (hb1.cell (i := 2) rfl)) rfl (L_run (R_lenSl rfl slc34) rfl ?_)))))
    refine L_run (R_add64 rfl rfl (by omega)) rfl ?_
    refine L_run (R_gtr rfl rfl) rfl ?_
    refine Las rfl rfl (L_nil (N_then (C_if rfl (fun h6 => ?_) (fun h6 => ?_))))
    ·refine C_seq (C_reg rfl ?_)
     refine Las rfl rfl (Las rfl rfl (Las rfl rfl (L_nil (N_then (C_ret (R_in (R_then ?_)))))))
     refine ret3 Tryd.results94 rfl rfl rfl ?_
     have hf : feedN true bs k d = _ := fee_long (by first | (show k = 3 ∨ k = 4; omega) | (show k = 1 ∨ k = 2; omega) | (show ¬ (k = 3 ∨ k = 4); omega) | (show ¬ (k = 1 ∨ k = 2); omega)) (by first | omega | (simp only [List.length_append] at *; omega))
     exact ⟨hB, none, 0, none, 0, by first | (rw [hf]; done) | (rw [hf]; rfl), by rw [hf]; exact hb4, by rw [hf]; exact (own_nil _ _ _ _), by rw [hf]; exact (own_nil _ _ _ _)⟩
    ·refine C_skip (N_in (N_then (C_seq ?_)))
     refine C_draw2 rfl mix ?_
     intro w5 hs5 hz5
     replace hB := gb_tr hB hs5; replace hb4 := hb4.gb hs5; replace hS := hS.gb hs5; replace hD := hD.gb hs5; replace hb1 := hb1.gb hs5; replace hb3 := hb3.gb hs5
     refine ⟨fun W_ => Blk W_ g1 86 [.int .i64 ((k : Nat) : Int), .int .u32 ep, .slice A2 d.length c2] ∧ Blk W_ g2 130 [.bool true, .slice A bs.length c] ∧ True, [1, 2, 4, 5, 7], ?_⟩
     refine T_tk (i := 1) rfl (Y_of (fun _ _ => R_field (r := 1) rfl fld130_1 rfl)) ⟨hb1, hb3, trivial⟩ rfl ?_
     refine T_tk (i := 2) rfl (Y_of (fun _ ⟨hb1, hb3, _⟩ => R_load1 rfl scl34 (hb3.cell (i := 1) rfl))) ⟨hb1, hb3, trivial⟩ rfl ?_
     refine T_tk (i := 4) rfl (Y_of (fun _ _ => R_field (r := 2) rfl fld86_2 rfl)) ⟨hb1, hb3, trivial⟩ rfl ?_
     refine T_tk (i := 5) rfl (Y_of (fun _ ⟨hb1, hb3, _⟩ => R_load1 rfl scl34 (hb1.cell (i := 2) rfl))) ⟨hb1, hb3, trivial⟩ rfl ?_
     refine T_all (rs := [0]) (by kernel_rfl) rfl (all1 (O_one rfl ?_))
     refine L_buildSlice (pv := []) (cs := []) slc34 zer5 rfl rfl (by kernel_rfl) rfl ?_
     intro g3 w6 eg3 hb5 hs6 hz6
     have ge3 : w.heap.size ≤ g3 := eg_ge hB eg3
     replace hB := gb_tr hB hs6; replace hb4 := hb4.gb hs6; replace hS := hS.gb hs6; replace hD := hD.gb hs6; replace hb1 := hb1.gb hs6; replace hb3 := hb3.gb hs6
     refine L_nil (N_then ⟨fun hN_ => ⟨hb1, hb3, trivial⟩, ?_⟩)
     refine T_all (rs := [3]) (by kernel_rfl) rfl (all1 (O_one rfl ?_))
     have hlo1 : g3 ≤ w6.heap.size := Nat.le_of_lt hb5.lt
     have ho1 : World.ownsRow w6 g3 5 1 (.slice (some ⟨g3, 0, none⟩) ([] : List UInt8).length 0) ([] : List UInt8).length (fl encB []) := Blk.own (sz := 1) (m := 0) hb5 (by decide) rfl (Nat.le_refl _)
     refine T_append (xs := []) (ys := bs) EncB slc34 rfl rfl ho1 hS (by first | omega | (simp; done) | (simp; omega)) hlo1 rfl ?_
     intro A_1 c_1 w7 ho2 hs7 hat1
     replace hB := gb_tro hB ho1 hs7 ge3; replace hb4 := blk_own hb4 ho1 rfl hs7; replace hD := hD.grown hs7 (fun k hk => .inr (Nat.le_trans ge3 (World.ownsRow.lt ho1 k hk).1)); replace hb1 := blk_own hb1 ho1 rfl hs7; replace hb3 := blk_own hb3 ho1 rfl hs7; replace hlo1 := Nat.le_trans hlo1 hs7.size
     simp only [List.nil_append] at ho2 ⊢
     refine L_nil (N_then ⟨fun hN_ => ⟨hb1, hb3, trivial⟩, ?_⟩)
     refine T_all (rs := [6]) (by kernel_rfl) rfl (all1 (O_one rfl ?_))
     refine T_append (xs := bs) (ys := d) EncB slc34 rfl rfl ho2 hD (by first | omega | (simp; done) | (simp; omega)) hlo1 rfl ?_
     intro A_2 c_2 w8 ho3 hs8 hat2
     replace hB := gb_tro hB ho2 hs8 ge3; replace hb4 := blk_own hb4 ho2 rfl hs8; replace hb1 := blk_own hb1 ho2 rfl hs8; replace hb3 := blk_own hb3 ho2 rfl hs8
     refine L_nil (N_then ⟨fun hN_ => ⟨hb1, hb3, trivial⟩, ?_⟩)
     refine T_tk (i := 7) rfl (Y_of (fun _ _ => R_assign rfl)) ⟨hb1, hb3, trivial⟩ rfl ?_
     refine T_done (by kernel_rfl) (CalmE.normal ?_)
     refine N_then (C_seq (C_seq (C_reg rfl ?_)))
     refine L_run (R_field (r := 0) rfl fld86_0 rfl) rfl (L_run (R_load1 rfl scl3 (hb1.cell (i := 0) rfl)) rfl (L_run (R_eql rfl rfl) rfl (Lmv rfl rfl (L_yes rfl rfl rfl (decide_eq_false h1) (L_run (R_field (r := 0) rfl fld86_0 rfl) rfl (L_yes rfl rfl rfl (decide_eq_false h1) (L_run (R_load1 rfl scl3 (hb1.cell (i := 0) rfl)) rfl (L_yes rfl rfl rfl (decide_eq_false h1) (L_run (R_eql rfl rfl) rfl ?_)))))))))
     refine L_run (R_pickF rfl (decide_eq_false h1) rfl) rfl ?_
     refine L_nil (N_then (C_if rfl (fun h7 => ?_) (fun h7 => ?_)))
     ·refine C_seq (C_reg rfl ?_)
      refine Lmv rfl rfl (Las rfl rfl (Las rfl rfl (Las rfl rfl (L_nil (N_then (C_ret (R_then ?_)))))))
      refine ret3 Tryd.results94 rfl rfl rfl ?_
      have hf : feedN true bs k d = _ := fee_done (by first | (show k = 3 ∨ k = 4; omega) | (show k = 1 ∨ k = 2; omega) | (show ¬ (k = 3 ∨ k = 4); omega) | (show ¬ (k = 1 ∨ k = 2); omega)) (by first | omega | (simp only [List.length_append] at *; omega)) (by omega)
      exact ⟨hB, none, 0, A_2, c_2, by first | (rw [hf]; done) | (rw [hf]; rfl), by rw [hf]; exact hb4, by rw [hf]; exact (own_nil _ _ _ _), by rw [hf]; exact (own_lo ho3 ge3)⟩
     ·refine C_skip (N_then (C_seq (C_reg rfl ?_)))
      refine Lmv rfl rfl (Lmv rfl rfl ?_)
      refine L_run (R_build (pv := [(0, .bool true), (1, .slice A_2 ((bs ++ d).length) c_2)]) (cs := [.bool true, .slice A_2 ((bs ++ d).length) c_2]) rfl (by kernel_rfl)) rfl ?_
      refine L_run (R_nilck rfl) rfl ?_
      refine L_stA (vs := [.bool true, .slice A_2 ((bs ++ d).length) c_2]) rfl rfl rfl sz130 rfl hb4 rfl ?_
      intro w9 hb6 hs9 hz7
      replace hB := gb_trans hB hs9; replace ho3 := own_other ho3 hb4 rfl hs9
      refine L_nil (N_then (C_seq (C_reg rfl (Las rfl rfl (Las rfl rfl (Las rfl rfl (L_nil (N_then (C_ret ?_)))))))))
      refine ret3 Tryd.results94 rfl rfl rfl ?_
      have hf : feedN true bs k d = _ := fee_on (by first | (show k = 3 ∨ k = 4; omega) | (show k = 1 ∨ k = 2; omega) | (show ¬ (k = 3 ∨ k = 4); omega) | (show ¬ (k = 1 ∨ k = 2); omega)) (by first | omega | (simp only [List.length_append] at *; omega)) (by omega)
      exact ⟨hB, A_2, c_2, none, 0, by first | (rw [hf]; done) | (rw [hf]; rfl), by rw [hf]; exact hb6, by rw [hf]; exact (own_lo ho3 ge3), by rw [hf]; exact (own_nil _ _ _ _)⟩
  ·refine L_yes rfl rfl rfl (decide_eq_false h4) (L_run (R_field (r := 0) rfl fld86_0 rfl) rfl (L_yes rfl rfl rfl (decide_eq_false h4) (L_run (R_load1 rfl scl3 (hb1.cell (i := 0) rfl)) rfl (L_yes rfl rfl rfl (decide_eq_false h4) (L_run (R_eql rfl rfl) rfl (L_run (R_pickF rfl (decide_eq_false h4) rfl) rfl (Las rfl rfl (L_nil (N_then (C_seq (C_block (C_seq (C_reg rfl (L_run (R_field (r := 0) rfl fld130_0 rfl) rfl ?_))))))))))))))
   refine L_run (R_load1 rfl scl4 (hb3.cell (i := 0) rfl)) rfl (Lmv rfl rfl ?_)
   refine L_run (R_eqv (R_neqB rfl rfl boo4) (v' := .bool (decide (¬ (((k : Nat) : Int) = 4)))) (congrArg _ (by simp))) rfl ?_
   refine Lmv rfl rfl ?_
   refine L_splitN (p := ((k : Nat) : Int) = 4) (fun h8 => ?_) (fun h8 => ?_)
   ·refine L_no rfl rfl rfl (decide_eq_true h8) rfl (L_no rfl rfl rfl (decide_eq_true h8) rfl (L_no rfl rfl rfl (decide_eq_true h8) rfl (L_no rfl rfl rfl (decide_eq_true h8) rfl (L_run (R_pickT rfl (decide_eq_true h8) rfl) rfl (Las rfl rfl (L_nil (N_then (C_condT rfl rfl (C_seq (C_reg rfl (Las rfl rfl (Las rfl rfl (Las rfl rfl (L_nil (N_then (C_ret (R_in (R_then ?_))))))))))))))))))
    refine ret3 Tryd.results94 rfl rfl rfl ?_
    have hf : feedN true bs k d = _ := fee_form (by first | (show k = 3 ∨ k = 4; omega) | (show k = 1 ∨ k = 2; omega) | (show ¬ (k = 3 ∨ k = 4); omega) | (show ¬ (k = 1 ∨ k = 2); omega))
    exact ⟨hB, none, 0, none, 0, by first | (rw [hf]; done) | (rw [hf]; rfl), by rw [hf]; exact hb4, by rw [hf]; exact (own_nil _ _ _ _), by rw [hf]; exact (own_nil _ _ _ _)⟩
   ·refine L_yes rfl rfl rfl (decide_eq_false (fun hn => hn h8)) (L_run (R_field (r := 0) rfl fld130_0 rfl) rfl (L_yes rfl rfl rfl (decide_eq_false (fun hn => hn h8)) (L_run (R_load1 rfl scl4 (hb3.cell (i := 0) rfl)) rfl (L_yes rfl rfl rfl (decide_eq_false (fun hn => hn h8)) (Lmv rfl rfl (L_yes rfl rfl rfl (decide_eq_false (fun hn => hn h8)) ?_))))))
    refine L_run (R_eqv (R_eqlB rfl rfl boo4) (v' := .bool (decide (((k : Nat) : Int) = 2))) (congrArg _ (by simp))) rfl ?_
    refine L_run (R_pickF rfl (decide_eq_false (fun hn => hn h8)) rfl) rfl ?_
    refine Las rfl rfl (L_nil (N_then (C_if rfl (fun h9 => ?_) (fun h9 => ?_))))
    ·refine C_seq (C_reg rfl ?_)
     refine Las rfl rfl (Las rfl rfl (Las rfl rfl (L_nil (N_then (C_ret (R_in (R_then ?_)))))))
     refine ret3 Tryd.results94 rfl rfl rfl ?_
     have hf : feedN true bs k d = _ := fee_form (by first | (show k = 3 ∨ k = 4; omega) | (show k = 1 ∨ k = 2; omega) | (show ¬ (k = 3 ∨ k = 4); omega) | (show ¬ (k = 1 ∨ k = 2); omega))
     exact ⟨hB, none, 0, none, 0, by first | (rw [hf]; done) | (rw [hf]; rfl), by rw [hf]; exact hb4, by rw [hf]; exact (own_nil _ _ _ _), by rw [hf]; exact (own_nil _ _ _ _)⟩
    ·refine C_seq (C_reg rfl ?_)
     refine L_run (R_field (r := 1) rfl fld130_1 rfl) rfl (L_run (R_load1 rfl scl34 (hb3.cell (i := 1) rfl)) rfl (L_run (R_lenSl rfl slc34) rfl (L_run (R_field (r := 2) rfl fld86_2 rfl) rfl (L_run (R_load1 rfl scl34 (hb1.cell (i := 2) rfl)) rfl (L_run (R_lenSl rfl slc34) rfl ?_)))))
     refine L_run (R_add64 rfl rfl (by omega)) rfl ?_
     refine L_run (R_gtr rfl rfl) rfl ?_
     refine Las rfl rfl (L_nil (N_then (C_if rfl (fun h10 => ?_) (fun h10 => ?_))))
     ·refine C_seq (C_reg rfl ?_)
      refine Las rfl rfl (Las rfl rfl (Las rfl rfl (L_nil (N_then (C_ret (R_in (R_then ?_)))))))
      refine ret3 Tryd.results94 rfl rfl rfl ?_
      have hf : feedN true bs k d = _ := fee_long (by first | (show k = 3 ∨ k = 4; omega) | (show k = 1 ∨ k = 2; omega) | (show ¬ (k = 3 ∨ k = 4); omega) | (show ¬ (k = 1 ∨ k = 2); omega)) (by first | omega | (simp only [List.length_append] at *; omega))
      exact ⟨hB, none, 0, none, 0, by first | (rw [hf]; done) | (rw [hf]; rfl), by rw [hf]; exact hb4, by rw [hf]; exact (own_nil _ _ _ _), by rw [hf]; exact (own_nil _ _ _ _)⟩
     ·refine C_skip (N_in (N_then (C_seq ?_)))
      refine C_draw2 rfl mix ?_
      intro w10 hs10 hz8
      replace hB := gb_tr hB hs10; replace hb4 := hb4.gb hs10; replace hS := hS.gb hs10; replace hD := hD.gb hs10; replace hb1 := hb1.gb hs10; replace hb3 := hb3.gb hs10
      refine ⟨fun W_ => Blk W_ g1 86 [.int .i64 ((k : Nat) : Int), .int .u32 ep, .slice A2 d.length c2] ∧ Blk W_ g2 130 [.bool true, .slice A bs.length c] ∧ True, [1, 2, 4, 5, 7], ?_⟩
      refine T_tk (i := 1) rfl (Y_of (fun _ _ => R_field (r := 1) rfl fld130_1 rfl)) ⟨hb1, hb3, trivial⟩ rfl ?_
      refine T_tk (i := 2) rfl (Y_of (fun _ ⟨hb1, hb3, _⟩ => R_load1 rfl scl34 (hb3.cell (i := 1) rfl))) ⟨hb1, hb3, trivial⟩ rfl ?_
      refine T_tk (i := 4) rfl (Y_of (fun _ _ => R_field (r := 2) rfl fld86_2 rfl)) ⟨hb1, hb3, trivial⟩ rfl ?_
      refine T_tk (i := 5) rfl (Y_of (fun _ ⟨hb1, hb3, _⟩ => R_load1 rfl scl34 (hb1.cell (i := 2) rfl))) ⟨hb1, hb3, trivial⟩ rfl ?_
      refine T_all (rs := [0]) (by kernel_rfl) rfl (all1 (O_one rfl ?_))
      refine L_buildSlice (pv := []) (cs := []) slc34 zer5 rfl rfl (by kernel_rfl) rfl ?_
      intro g4 w11 eg4 hb7 hs11 hz9
      have ge4 : w.heap.size ≤ g4 := eg_ge hB eg4
      replace hB := gb_tr hB hs11; replace hb4 := hb4.gb hs11; replace hS := hS.gb hs11; replace hD := hD.gb hs11; replace hb1 := hb1.gb hs11; replace hb3 := hb3.gb hs11
      refine L_nil (N_then ⟨fun hN_ => ⟨hb1, hb3, trivial⟩, ?_⟩)
      refine T_all (rs := [3]) (by kernel_rfl) rfl (all1 (O_one rfl ?_))
      have hlo2 : g4 ≤ w11.heap.size := Nat.le_of_lt hb7.lt
      have ho4 : World.ownsRow w11 g4 5 1 (.slice (some ⟨g4, 0, none⟩) ([] : List UInt8).length 0) ([] : List UInt8).length (fl encB []) := Blk.own (sz := 1) (m := 0) hb7 (by decide) rfl (Nat.le_refl _)
      refine T_append (xs := []) (ys := bs) EncB slc34 rfl rfl ho4 hS (by first | omega | (simp; done) | (simp; omega)) hlo2 rfl ?_
      intro A_3 c_3 w12 ho5 hs12 hat3
      replace hB := gb_tro hB ho4 hs12 ge4; replace hb4 := blk_own hb4 ho4 rfl hs12; replace hD := hD.grown hs12 (fun k hk => .inr (Nat.le_trans ge4 (World.ownsRow.lt ho4 k hk).1)); replace hb1 := blk_own hb1 ho4 rfl hs12; replace hb3 := blk_own hb3 ho4 rfl hs12; replace hlo2 := Nat.le_trans hlo2 hs12.size
      simp only [List.nil_append] at ho5 ⊢
      refine L_nil (N_then ⟨fun hN_ => ⟨hb1, hb3, trivial⟩, ?_⟩)
      refine T_all (rs := [6]) (by kernel_rfl) rfl (all1 (O_one rfl ?_))
      refine T_append (xs := bs) (ys := d) EncB slc34 rfl rfl ho5 hD (by first | omega | (simp; done) | (simp; omega)) hlo2 rfl ?_
      intro A_4 c_4 w13 ho6 hs13 hat4
      replace hB := gb_tro hB ho5 hs13 ge4; replace hb4 := blk_own hb4 ho5 rfl hs13; replace hb1 := blk_own hb1 ho5 rfl hs13; replace hb3 := blk_own hb3 ho5 rfl hs13
      refine L_nil (N_then ⟨fun hN_ => ⟨hb1, hb3, trivial⟩, ?_⟩)
      refine T_tk (i := 7) rfl (Y_of (fun _ _ => R_assign rfl)) ⟨hb1, hb3, trivial⟩ rfl ?_
      refine T_done (by kernel_rfl) (CalmE.normal ?_)
      refine N_then (C_seq (C_seq (C_reg rfl ?_)))
      refine L_run (R_field (r := 0) rfl fld86_0 rfl) rfl (L_run (R_load1 rfl scl3 (hb1.cell (i := 0) rfl)) rfl (L_run (R_eql rfl rfl) rfl (Lmv rfl rfl (L_yes rfl rfl rfl (decide_eq_false h1) (L_run (R_field (r := 0) rfl fld86_0 rfl) rfl (L_yes rfl rfl rfl (decide_eq_false h1) (L_run (R_load1 rfl scl3 (hb1.cell (i := 0) rfl)) rfl (L_yes rfl rfl rfl (decide_eq_false h1) (L_run (R_eql rfl rfl) rfl ?_)))))))))
      refine L_run (R_pickF rfl (decide_eq_false h1) rfl) rfl ?_
      refine L_nil (N_then (C_condT rfl (decide_eq_true h8) (C_seq (C_reg rfl (Lmv rfl rfl (Las rfl rfl (Las rfl rfl (Las rfl rfl (L_nil (N_then (C_ret (R_then ?_))))))))))))
      refine ret3 Tryd.results94 rfl rfl rfl ?_
      have hf : feedN true bs k d = _ := fee_done (by first | (show k = 3 ∨ k = 4; omega) | (show k = 1 ∨ k = 2; omega) | (show ¬ (k = 3 ∨ k = 4); omega) | (show ¬ (k = 1 ∨ k = 2); omega)) (by first | omega | (simp only [List.length_append] at *; omega)) (by omega)
      exact ⟨hB, none, 0, A_4, c_4, by first | (rw [hf]; done) | (rw [hf]; rfl), by rw [hf]; exact hb4, by rw [hf]; exact (own_nil _ _ _ _), by rw [hf]; exact (own_lo ho6 ge4)⟩
theorem feed_f {w : World} {g : Nat} {lo hi lo2 hi2 : Nat} {A A2 : Option Addr} {c c2 k : Nat} {ep : Int} {bs d : List UInt8} (hb : Blk w g 130 [.bool false, .slice A bs.length c]) (hS : Sli 5 lo hi w A (fl encB bs)) (hD : Sli 5 lo2 hi2 w A2 (fl encB d)) (hl : bs.length ≤ 1000000) (hd : d.length ≤ 1000000) :
    Runs Tryd.prog 94 #[.pointer (some ⟨g, 0, none⟩), .agg #[.int .i64 ((k : Nat) : Int), .int .u32 ep, .slice A2 d.length c2]] w (fun v w' => w.grownBy w' (some g) ∧ ∃ A' c' A3 c3, v = .tuple #[.slice A3 (feedN false bs k d).2.1.length c3, .bool (feedN false bs k d).2.2.1, .int .i64 (feedN false bs k d).2.2.2] ∧ Blk w' g 130 [.bool (feedN false bs k d).1.1, .slice A' (feedN false bs k d).1.2.length c'] ∧ World.ownsRow w' w.heap.size 5 1 (.slice A' ((feedN false bs k d).1.2).length c') ((feedN false bs k d).1.2).length (fl encB ((feedN false bs k d).1.2)) ∧ World.ownsRow w' w.heap.size 5 1 (.slice A3 ((feedN false bs k d).2.1).length c3) ((feedN false bs k d).2.1).length (fl encB ((feedN false bs k d).2.1))) := by
 have hB := gb_refl w (some g)
 replace hS := hS.top; replace hD := hD.top
 refine enter Tryd.func94 Tryd.ntmps94 rfl rfl ?_
 refine C_seq (C_reg rfl ?_)
 refine L_box (cs := [.int .i64 ((k : Nat) : Int), .int .u32 ep, .slice A2 d.length c2]) rfl rfl rfl ?_
 intro g1 w1 eg1 hb1 hs1 hz1
 have lt1 : g < g1 := lt_of_eg hb.lt eg1
 replace hB := gb_tr hB hs1; replace hb := hb.gb hs1; replace hS := hS.gb hs1; replace hD := hD.gb hs1
 refine Las rfl rfl (Las rfl rfl (Las rfl rfl (L_nil (N_then (C_seq (C_seq (C_reg rfl (Lmv rfl rfl (L_run (R_eqlpPN rfl rfl Tryd.underlying116) rfl (L_nil (N_then (C_condF rfl rfl (C_skip (N_then (C_seq (C_reg rfl (Lmv rfl rfl (L_run (R_nilck rfl) rfl (L_run (R_loadA (vs := [.bool false, .slice A bs.length c]) rfl agg130 (At.pre (hb.at_ 0) rfl) rfl) rfl (L_alloc (cs := [.bool false, .slice none 0 0]) zer130 rfl rfl ?_))))))))))))))))))))
 intro g2 w2 eg2 hb2 hs2 hz2
 have ge2 : w.heap.size ≤ g2 := eg_ge hB eg2
 have lt2 : g < g2 := lt_of_eg hb.lt eg2
 have lt3 : g1 < g2 := lt_of_eg hb1.lt eg2
 replace hB := gb_tr hB hs2; replace hb := hb.gb hs2; replace hS := hS.gb hs2; replace hD := hD.gb hs2; replace hb1 := hb1.gb hs2
 refine L_stA (vs := [.bool false, .slice A bs.length c]) rfl rfl rfl sz130 rfl hb2 rfl ?_
 intro w3 hb3 hs3 hz3
 replace hB := gb_trg hB hs3 ge2; replace hb := hb.grown hs3 (ne_lt lt2); replace hS := hS.other hb2 rfl rfl hs3; replace hD := hD.other hb2 rfl rfl hs3; replace hb1 := hb1.grown hs3 (ne_lt lt3)
 refine L_nil (N_then (C_seq (C_reg rfl (Lmv rfl rfl ?_))))
 refine L_run (R_build (pv := []) (cs := [.bool false, .slice none 0 0]) rfl (by kernel_rfl)) rfl ?_
 refine L_run (R_nilck rfl) rfl ?_
 refine L_stA (vs := [.bool false, .slice none 0 0]) rfl rfl rfl sz130 rfl hb rfl ?_
 intro w4 hb4 hs4 hz4
 replace hB := gb_trans hB hs4; replace hS := hS.other hb rfl rfl hs4; replace hD := hD.other hb rfl rfl hs4; replace hb1 := hb1.grown hs4 (ne_gt lt1); replace hb3 := hb3.grown hs4 (ne_gt lt2)
 refine L_nil (N_then (C_seq (C_reg rfl (L_run (R_field (r := 0) rfl fld86_0 rfl) rfl (L_run (R_load1 rfl scl3 (hb1.cell (i := 0) rfl)) rfl (L_run (R_eql rfl rfl) rfl (Lmv rfl rfl ?_)))))))
 refine L_splitD (p := ((k : Nat) : Int) = 1) (fun h1 => ?_) (fun h1 => ?_)
 ·refine L_no rfl rfl rfl (decide_eq_true h1) rfl (L_no rfl rfl rfl (decide_eq_true h1) rfl (L_no rfl rfl rfl (decide_eq_true h1) rfl (L_run (R_pickT rfl (decide_eq_true h1) rfl) rfl (Las rfl rfl (L_nil (N_then (C_seq (C_reg rfl (L_run (R_field (r := 0) rfl fld86_0 rfl) rfl (L_run (R_load1 rfl scl3 (hb1.cell (i := 0) rfl)) rfl (L_run (R_eql rfl rfl) rfl (Lmv rfl rfl ?_))))))))))))
  refine L_splitD (p := ((k : Nat) : Int) = 3) (fun h2 => ?_) (fun h2 => ?_)
  ·refine L_no rfl rfl rfl (decide_eq_true h2) rfl (L_no rfl rfl rfl (decide_eq_true h2) rfl (L_no rfl rfl rfl (decide_eq_true h2) rfl (L_run (R_pickT rfl (decide_eq_true h2) rfl) rfl (Las rfl rfl (L_nil (N_then (C_seq (C_block (C_seq (C_reg rfl (L_run (R_field (r := 0) rfl fld130_0 rfl) rfl (L_run (R_load1 rfl scl4 (hb3.cell (i := 0) rfl)) rfl (Lmv rfl rfl ?_)))))))))))))
   refine L_run (R_eqv (R_neqB rfl rfl boo4) (v' := .bool true) (by rfl)) rfl ?_
   refine Lmv rfl rfl (L_no rfl rfl rfl rfl rfl (L_no rfl rfl rfl rfl rfl (L_no rfl rfl rfl rfl rfl (L_no rfl rfl rfl rfl rfl (L_run (R_pickT rfl rfl rfl) rfl (Las rfl rfl (L_nil (N_then (C_condT rfl rfl (C_seq (C_reg rfl (Las rfl rfl (Las rfl rfl (Las rfl rfl (L_nil (N_then (C_ret (R_in (R_then ?_)))))))))))))))))))
   refine ret3 Tryd.results94 rfl rfl rfl ?_
   have hf : feedN false bs k d = _ := fee_form (by first | (show k = 3 ∨ k = 4; omega) | (show k = 1 ∨ k = 2; omega) | (show ¬ (k = 3 ∨ k = 4); omega) | (show ¬ (k = 1 ∨ k = 2); omega))
   exact ⟨hB, none, 0, none, 0, by first | (rw [hf]; done) | (rw [hf]; rfl), by rw [hf]; exact hb4, by rw [hf]; exact (own_nil _ _ _ _), by rw [hf]; exact (own_nil _ _ _ _)⟩
  ·refine L_yes rfl rfl rfl (decide_eq_false h2) (L_run (R_field (r := 0) rfl fld86_0 rfl) rfl (L_yes rfl rfl rfl (decide_eq_false h2) (L_run (R_load1 rfl scl3 (hb1.cell (i := 0) rfl)) rfl (L_yes rfl rfl rfl (decide_eq_false h2) (L_run (R_eql rfl rfl) rfl (L_run (R_pickF rfl (decide_eq_false h2) rfl) rfl (Las rfl rfl (L_nil (N_then (C_seq (C_block (C_seq (C_reg rfl (L_run (R_field (r := 0) rfl fld130_0 rfl) rfl ?_))))))))))))))
   refine L_run (R_load1 rfl scl4 (hb3.cell (i := 0) rfl)) rfl (Lmv rfl rfl ?_)
   refine L_run (R_eqv (R_neqB rfl rfl boo4) (v' := .bool (decide (((k : Nat) : Int) = 4))) (congrArg _ (by simp))) rfl ?_
   refine Lmv rfl rfl ?_
   refine L_splitD (p := ((k : Nat) : Int) = 4) (fun h3 => ?_) (fun h3 => ?_)
   ·refine L_no rfl rfl rfl (decide_eq_true h3) rfl (L_no rfl rfl rfl (decide_eq_true h3) rfl (L_no rfl rfl rfl (decide_eq_true h3) rfl (L_no rfl rfl rfl (decide_eq_true h3) rfl (L_run (R_pickT rfl (decide_eq_true h3) rfl) rfl (Las rfl rfl (L_nil (N_then (C_condT rfl rfl (C_seq (C_reg rfl (Las rfl rfl (Las rfl rfl (Las rfl rfl (L_nil (N_then (C_ret (R_in (R_then ?_))))))))))))))))))
    refine ret3 Tryd.results94 rfl rfl rfl ?_
    have hf : feedN false bs k d = _ := fee_form (by first | (show k = 3 ∨ k = 4; omega) | (show k = 1 ∨ k = 2; omega) | (show ¬ (k = 3 ∨ k = 4); omega) | (show ¬ (k = 1 ∨ k = 2); omega))
    exact ⟨hB, none, 0, none, 0, by first | (rw [hf]; done) | (rw [hf]; rfl), by rw [hf]; exact hb4, by rw [hf]; exact (own_nil _ _ _ _), by rw [hf]; exact (own_nil _ _ _ _)⟩
   ·refine L_yes rfl rfl rfl (decide_eq_false h3) (L_run (R_field (r := 0) rfl fld130_0 rfl) rfl (L_yes rfl rfl rfl (decide_eq_false h3) (L_run (R_load1 rfl scl4 (hb3.cell (i := 0) rfl)) rfl (L_yes rfl rfl rfl (decide_eq_false h3) (Lmv rfl rfl (L_yes rfl rfl rfl (decide_eq_false h3) ?_))))))
    refine L_run (R_eqv (R_eqlB rfl rfl boo4) (v' := .bool false) (by rfl)) rfl ?_
    refine L_run (R_pickF rfl (decide_eq_false h3) rfl) rfl ?_
    refine Las rfl rfl (L_nil (N_then (C_condF rfl rfl (C_seq (C_reg rfl (L_run (R_field (r := 1) rfl fld130_1 rfl) rfl (L_run (R_load1 rfl scl34 (hb3.cell (i := 1) rfl)) rfl (L_run (R_lenSl rfl slc34) rfl (L_run (R_field (r := 2) rfl fld86_2 rfl) rfl (L_run (R_load1 rfl scl34 (hb1.cell (i := 2) rfl)) rfl (L_run (R_lenSl rfl slc34) rfl ?_)))))))))))
    refine L_run (R_add64 rfl rfl (by omega)) rfl ?_
    refine L_run (R_gtr rfl rfl) rfl ?_
    refine Las rfl rfl (L_nil (N_then (C_if rfl (fun h4 => ?_) (fun h4 => ?_))))
    ·refine C_seq (C_reg rfl ?_)
     refine Las rfl rfl (Las rfl rfl (Las rfl rfl (L_nil (N_then (C_ret (R_in (R_then ?_)))))))
     refine ret3 Tryd.results94 rfl rfl rfl ?_
     have hf : feedN false bs k d = _ := fee_long (by first | (show k = 3 ∨ k = 4; omega) | (show k = 1 ∨ k = 2; omega) | (show ¬ (k = 3 ∨ k = 4); omega) | (show ¬ (k = 1 ∨ k = 2); omega)) (by first | omega | (simp only [List.length_append] at *; omega))
     exact ⟨hB, none, 0, none, 0, by first | (rw [hf]; done) | (rw [hf]; rfl), by rw [hf]; exact hb4, by rw [hf]; exact (own_nil _ _ _ _), by rw [hf]; exact (own_nil _ _ _ _)⟩
    ·refine C_skip (N_in (N_then (C_seq ?_)))
     refine C_draw2 rfl mix ?_
     intro w5 hs5 hz5
     replace hB := gb_tr hB hs5; replace hb4 := hb4.gb hs5; replace hS := hS.gb hs5; replace hD := hD.gb hs5; replace hb1 := hb1.gb hs5; replace hb3 := hb3.gb hs5
     refine ⟨fun W_ => Blk W_ g1 86 [.int .i64 ((k : Nat) : Int), .int .u32 ep, .slice A2 d.length c2] ∧ Blk W_ g2 130 [.bool false, .slice A bs.length c] ∧ True, [1, 2, 4, 5, 7], ?_⟩
     refine T_tk (i := 1) rfl (Y_of (fun _ _ => R_field (r := 1) rfl fld130_1 rfl)) ⟨hb1, hb3, trivial⟩ rfl ?_
     refine T_tk (i := 2) rfl (Y_of (fun _ ⟨hb1, hb3, _⟩ => R_load1 rfl scl34 (hb3.cell (i := 1) rfl))) ⟨hb1, hb3, trivial⟩ rfl ?_
     refine T_tk (i := 4) rfl (Y_of (fun _ _ => R_field (r := 2) rfl fld86_2 rfl)) ⟨hb1, hb3, trivial⟩ rfl ?_
     refine T_tk (i := 5) rfl (Y_of (fun _ ⟨hb1, hb3, _⟩ => R_load1 rfl scl34 (hb1.cell (i := 2) rfl))) ⟨hb1, hb3, trivial⟩ rfl ?_
     refine T_all (rs := [0]) (by kernel_rfl) rfl (all1 (O_one rfl ?_))
     refine L_buildSlice (pv := []) (cs := []) slc34 zer5 rfl rfl (by kernel_rfl) rfl ?_
     intro g3 w6 eg3 hb5 hs6 hz6
     have ge3 : w.heap.size ≤ g3 := eg_ge hB eg3
     replace hB := gb_tr hB hs6; replace hb4 := hb4.gb hs6; replace hS := hS.gb hs6; replace hD := hD.gb hs6; replace hb1 := hb1.gb hs6; replace hb3 := hb3.gb hs6
     refine L_nil (N_then ⟨fun hN_ => ⟨hb1, hb3, trivial⟩, ?_⟩)
     refine T_all (rs := [3]) (by kernel_rfl) rfl (all1 (O_one rfl ?_))
     have hlo1 : g3 ≤ w6.heap.size := Nat.le_of_lt hb5.lt
     have ho1 : World.ownsRow w6 g3 5 1 (.slice (some ⟨g3, 0, none⟩) ([] : List UInt8).length 0) ([] : List UInt8).length (fl encB []) := Blk.own (sz := 1) (m := 0) hb5 (by decide) rfl (Nat.le_refl _)
     refine T_append (xs := []) (ys := bs) EncB slc34 rfl rfl ho1 hS (by first | omega | (simp; done) | (simp; omega)) hlo1 rfl ?_
     intro A_1 c_1 w7 ho2 hs7 hat1
     replace hB := gb_tro hB ho1 hs7 ge3; replace hb4 := blk_own hb4 ho1 rfl hs7; replace hD := hD.grown hs7 (fun k hk => .inr (Nat.le_trans ge3 (World.ownsRow.lt ho1 k hk).1)); replace hb1 := blk_own hb1 ho1 rfl hs7; replace hb3 := blk_own hb3 ho1 rfl hs7; replace hlo1 := Nat.le_trans hlo1 hs7.size
     simp only [List.nil_append] at ho2 ⊢
     refine L_nil (N_then ⟨fun hN_ => ⟨hb1, hb3, trivial⟩, ?_⟩)
     refine T_all (rs := [6]) (by kernel_rfl) rfl (all1 (O_one rfl ?_))
     refine T_append (xs := bs) (ys := d) EncB slc34 rfl rfl ho2 hD (by first | omega | (simp; done) | (simp; omega)) hlo1 rfl ?_
     intro A_2 c_2 w8 ho3 hs8 hat2
     replace hB := gb_tro hB ho2 hs8 ge3; replace hb4 := blk_own hb4 ho2 rfl hs8; replace hb1 := blk_own hb1 ho2 rfl hs8; replace hb3 := blk_own hb3 ho2 rfl hs8
     refine L_nil (N_then ⟨fun hN_ => ⟨hb1, hb3, trivial⟩, ?_⟩)
     refine T_tk (i := 7) rfl (Y_of (fun _ _ => R_assign rfl)) ⟨hb1, hb3, trivial⟩ rfl ?_
     refine T_done (by kernel_rfl) (CalmE.normal ?_)
     refine N_then (C_seq (C_seq (C_reg rfl ?_)))
     refine L_run (R_field (r := 0) rfl fld86_0 rfl) rfl (L_run (R_load1 rfl scl3 (hb1.cell (i := 0) rfl)) rfl (L_run (R_eql rfl rfl) rfl (Lmv rfl rfl (L_no rfl rfl rfl (decide_eq_true h1) rfl (L_no rfl rfl rfl (decide_eq_true h1) rfl (L_no rfl rfl rfl (decide_eq_true h1) rfl (L_run (R_pickT rfl (decide_eq_true h1) rfl) rfl (L_nil (N_then (C_condT rfl rfl (C_seq (C_reg rfl (Lmv rfl rfl ?_)))))))))))))
     refine Las rfl rfl (Las rfl rfl (Las rfl rfl (L_nil (N_then (C_ret (R_then ?_))))))
     refine ret3 Tryd.results94 rfl rfl rfl ?_
     have hf : feedN false bs k d = _ := fee_done (by first | (show k = 3 ∨ k = 4; omega) | (show k = 1 ∨ k = 2; omega) | (show ¬ (k = 3 ∨ k = 4); omega) | (show ¬ (k = 1 ∨ k = 2); omega)) (by first | omega | (simp only [List.length_append] at *; omega)) (by omega)
     exact ⟨hB, none, 0, A_2, c_2, by first | (rw [hf]; done) | (rw [hf]; rfl), by rw [hf]; exact hb4, by rw [hf]; exact (own_nil _ _ _ _), by rw [hf]; exact (own_lo ho3 ge3)⟩
 ·refine L_yes rfl rfl rfl (decide_eq_false h1) (L_run (R_field (r := 0) rfl fld86_0 rfl) rfl (L_yes rfl rfl rfl (decide_eq_false h1) (L_run (R_load1 rfl scl3 (hb1.cell (i := 0) rfl)) rfl (L_yes rfl rfl rfl (decide_eq_false h1) (L_run (R_eql rfl rfl) rfl (L_run (R_pickF rfl (decide_eq_false h1) rfl) rfl (Las rfl rfl (L_nil (N_then (C_seq (C_reg rfl (L_run (R_field (r := 0) rfl fld86_0 rfl) rfl ?_))))))))))))
  refine L_run (R_load1 rfl scl3 (hb1.cell (i := 0) rfl)) rfl (L_run (R_eql rfl rfl) rfl (Lmv rfl rfl ?_))
  refine L_splitD (p := ((k : Nat) : Int) = 3) (fun h5 => ?_) (fun h5 => ?_)
  ·refine L_no rfl rfl rfl (decide_eq_true h5) rfl (L_no rfl rfl rfl (decide_eq_true h5) rfl (L_no rfl rfl rfl (decide_eq_true h5) rfl (L_run (R_pickT rfl (decide_eq_true h5) rfl) rfl (Las rfl rfl (L_nil (N_then (C_seq (C_block (C_seq (C_reg rfl (L_run (R_field (r := 0) rfl fld130_0 rfl) rfl (L_run (R_load1 rfl scl4 (hb3.cell (i := 0) rfl)) rfl (Lmv rfl rfl ?_)))))))))))))
   refine L_run (R_eqv (R_neqB rfl rfl boo4) (v' := .bool true) (by rfl)) rfl ?_
   refine Lmv rfl rfl (L_no rfl rfl rfl rfl rfl (L_no rfl rfl rfl rfl rfl (L_no rfl rfl rfl rfl rfl (L_no rfl rfl rfl rfl rfl (L_run (R_pickT rfl rfl rfl) rfl (Las rfl rfl (L_nil (N_then (C_condT rfl rfl (C_seq (C_reg rfl (Las rfl rfl (Las rfl rfl (Las rfl rfl (L_nil (N_then (C_ret (R_in (R_then ?_)))))))))))))))))))
   refine ret3 Tryd.results94 rfl rfl rfl ?_
   have hf : feedN false bs k d = _ := fee_form (by first | (show k = 3 ∨ k = 4; omega) | (show k = 1 ∨ k = 2; omega) | (show ¬ (k = 3 ∨ k = 4); omega) | (show ¬ (k = 1 ∨ k = 2); omega))
   exact ⟨hB, none, 0, none, 0, by first | (rw [hf]; done) | (rw [hf]; rfl), by rw [hf]; exact hb4, by rw [hf]; exact (own_nil _ _ _ _), by rw [hf]; exact (own_nil _ _ _ _)⟩
  ·refine L_yes rfl rfl rfl (decide_eq_false h5) (L_run (R_field (r := 0) rfl fld86_0 rfl) rfl (L_yes rfl rfl rfl (decide_eq_false h5) (L_run (R_load1 rfl scl3 (hb1.cell (i := 0) rfl)) rfl (L_yes rfl rfl rfl (decide_eq_false h5) (L_run (R_eql rfl rfl) rfl (L_run (R_pickF rfl (decide_eq_false h5) rfl) rfl (Las rfl rfl (L_nil (N_then (C_seq (C_block (C_seq (C_reg rfl (L_run (R_field (r := 0) rfl fld130_0 rfl) rfl ?_))))))))))))))
   refine L_run (R_load1 rfl scl4 (hb3.cell (i := 0) rfl)) rfl (Lmv rfl rfl ?_)
   refine L_run (R_eqv (R_neqB rfl rfl boo4) (v' := .bool (decide (((k : Nat) : Int) = 4))) (congrArg _ (by simp))) rfl ?_
   refine Lmv rfl rfl ?_
   refine L_splitD (p := ((k : Nat) : Int) = 4) (fun h6 => ?_) (fun h6 => ?_)
   ·refine L_no rfl rfl rfl (decide_eq_true h6) rfl (L_no rfl rfl rfl (decide_eq_true h6) rfl (L_no rfl rfl rfl (decide_eq_true h6) rfl (L_no rfl rfl rfl (decide_eq_true h6) rfl (L_run (R_pickT rfl (decide_eq_true h6) rfl) rfl (Las rfl rfl (L_nil (N_then (C_condT rfl rfl (C_seq (C_reg rfl (Las rfl rfl (Las rfl rfl (Las rfl rfl (L_nil (N_then (C_ret (R_in (R_then ?_))))))))))))))))))
    refine ret3 Tryd.results94 rfl rfl rfl ?_
    have hf : feedN false bs k d = _ := fee_form (by first | (show k = 3 ∨ k = 4; omega) | (show k = 1 ∨ k = 2; omega) | (show ¬ (k = 3 ∨ k = 4); omega) | (show ¬ (k = 1 ∨ k = 2); omega))
    exact ⟨hB, none, 0, none, 0, by first | (rw [hf]; done) | (rw [hf]; rfl), by rw [hf]; exact hb4, by rw [hf]; exact (own_nil _ _ _ _), by rw [hf]; exact (own_nil _ _ _ _)⟩
   ·refine L_yes rfl rfl rfl (decide_eq_false h6) (L_run (R_field (r := 0) rfl fld130_0 rfl) rfl (L_yes rfl rfl rfl (decide_eq_false h6) (L_run (R_load1 rfl scl4 (hb3.cell (i := 0) rfl)) rfl (L_yes rfl rfl rfl (decide_eq_false h6) (Lmv rfl rfl (L_yes rfl rfl rfl (decide_eq_false h6) ?_))))))
    refine L_run (R_eqv (R_eqlB rfl rfl boo4) (v' := .bool (decide (¬ (((k : Nat) : Int) = 2)))) (congrArg _ (by simp))) rfl ?_
    refine L_run (R_pickF rfl (decide_eq_false h6) rfl) rfl ?_
    refine Las rfl rfl (L_nil (N_then (C_ifN rfl (fun h7 => ?_) (fun h7 => ?_))))
    ·refine C_seq (C_reg rfl ?_)
     refine Las rfl rfl (Las rfl rfl (Las rfl rfl (L_nil (N_then (C_ret (R_in (R_then ?_)))))))
     refine ret3 Tryd.results94 rfl rfl rfl ?_
     have hf : feedN false bs k d = _ := fee_form (by first | (show k = 3 ∨ k = 4; omega) | (show k = 1 ∨ k = 2; omega) | (show ¬ (k = 3 ∨ k = 4); omega) | (show ¬ (k = 1 ∨ k = 2); omega))
     exact ⟨hB, none, 0, none, 0, by first | (rw [hf]; done) | (rw [hf]; rfl), by rw [hf]; exact hb4, by rw [hf]; exact (own_nil _ _ _ _), by rw [hf]; exact (own_nil _ _ _ _)⟩
    ·refine C_seq (C_reg rfl ?_)
     refine L_run (R_field (r := 1) rfl fld130_1 rfl) rfl (L_run (R_load1 rfl scl34 (hb3.cell (i := 1) rfl)) rfl (L_run (R_lenSl rfl slc34) rfl (L_run (R_field (r := 2) rfl fld86_2 rfl) rfl (L_run (R_load1 rfl scl34 (hb1.cell (i := 2) rfl)) rfl (L_run (R_lenSl rfl slc34) rfl ?_)))))
     refine L_run (R_add64 rfl rfl (by omega)) rfl ?_
     refine L_run (R_gtr rfl rfl) rfl ?_
     refine Las rfl rfl (L_nil (N_then (C_if rfl (fun h8 => ?_) (fun h8 => ?_))))
     ·refine C_seq (C_reg rfl ?_)
      refine Las rfl rfl (Las rfl rfl (Las rfl rfl (L_nil (N_then (C_ret (R_in (R_then ?_)))))))
      refine ret3 Tryd.results94 rfl rfl rfl ?_
      have hf : feedN false bs k d = _ := fee_long (by first | (show k = 3 ∨ k = 4; omega) | (show k = 1 ∨ k = 2; omega) | (show ¬ (k = 3 ∨ k = 4); omega) | (show ¬ (k = 1 ∨ k = 2); omega)) (by first | omega | (simp only [List.length_append] at *; omega))
      exact ⟨hB, none, 0, none, 0, by first | (rw [hf]; done) | (rw [hf]; rfl), by rw [hf]; exact hb4, by rw [hf]; exact (own_nil _ _ _ _), by rw [hf]; exact (own_nil _ _ _ _)⟩
     ·refine C_skip (N_in (N_then (C_seq ?_)))
      refine C_draw2 rfl mix ?_
      intro w9 hs9 hz7
      replace hB := gb_tr hB hs9; replace hb4 := hb4.gb hs9; replace hS := hS.gb hs9; replace hD := hD.gb hs9; replace hb1 := hb1.gb hs9; replace hb3 := hb3.gb hs9
      refine ⟨fun W_ => Blk W_ g1 86 [.int .i64 ((k : Nat) : Int), .int .u32 ep, .slice A2 d.length c2] ∧ Blk W_ g2 130 [.bool false, .slice A bs.length c] ∧ True, [1, 2, 4, 5, 7], ?_⟩
      refine T_tk (i := 1) rfl (Y_of (fun _ _ => R_field (r := 1) rfl fld130_1 rfl)) ⟨hb1, hb3, trivial⟩ rfl ?_
      refine T_tk (i := 2) rfl (Y_of (fun _ ⟨hb1, hb3, _⟩ => R_load1 rfl scl34 (hb3.cell (i := 1) rfl))) ⟨hb1, hb3, trivial⟩ rfl ?_
      refine T_tk (i := 4) rfl (Y_of (fun _ _ => R_field (r := 2) rfl fld86_2 rfl)) ⟨hb1, hb3, trivial⟩ rfl ?_
      refine T_tk (i := 5) rfl (Y_of (fun _ ⟨hb1, hb3, _⟩ => R_load1 rfl scl34 (hb1.cell (i := 2) rfl))) ⟨hb1, hb3, trivial⟩ rfl ?_
      refine T_all (rs := [0]) (by kernel_rfl) rfl (all1 (O_one rfl ?_))
      refine L_buildSlice (pv := []) (cs := []) slc34 zer5 rfl rfl (by kernel_rfl) rfl ?_
      intro g4 w10 eg4 hb6 hs10 hz8
      have ge4 : w.heap.size ≤ g4 := eg_ge hB eg4
      replace hB := gb_tr hB hs10; replace hb4 := hb4.gb hs10; replace hS := hS.gb hs10; replace hD := hD.gb hs10; replace hb1 := hb1.gb hs10; replace hb3 := hb3.gb hs10
      refine L_nil (N_then ⟨fun hN_ => ⟨hb1, hb3, trivial⟩, ?_⟩)
      refine T_all (rs := [3]) (by kernel_rfl) rfl (all1 (O_one rfl ?_))
      have hlo2 : g4 ≤ w10.heap.size := Nat.le_of_lt hb6.lt
      have ho4 : World.ownsRow w10 g4 5 1 (.slice (some ⟨g4, 0, none⟩) ([] : List UInt8).length 0) ([] : List UInt8).length (fl encB []) := Blk.own (sz := 1) (m := 0) hb6 (by decide) rfl (Nat.le_refl _)
      refine T_append (xs := []) (ys := bs) EncB slc34 rfl rfl ho4 hS (by first | omega | (simp; done) | (simp; omega)) hlo2 rfl ?_
      intro A_3 c_3 w11 ho5 hs11 hat3
      replace hB := gb_tro hB ho4 hs11 ge4; replace hb4 := blk_own hb4 ho4 rfl hs11; replace hD := hD.grown hs11 (fun k hk => .inr (Nat.le_trans ge4 (World.ownsRow.lt ho4 k hk).1)); replace hb1 := blk_own hb1 ho4 rfl hs11; replace hb3 := blk_own hb3 ho4 rfl hs11; replace hlo2 := Nat.le_trans hlo2 hs11.size
      simp only [List.nil_append] at ho5 ⊢
      refine L_nil (N_then ⟨fun hN_ => ⟨hb1, hb3, trivial⟩, ?_⟩)
      refine T_all (rs := [6]) (by kernel_rfl) rfl (all1 (O_one rfl ?_))
      refine T_append (xs := bs) (ys := d) EncB slc34 rfl rfl ho5 hD (by first | omega | (simp; done) | (simp; omega)) hlo2 rfl ?_
      intro A_4 c_4 w12 ho6 hs12 hat4
      replace hB := gb_tro hB ho5 hs12 ge4; replace hb4 := blk_own hb4 ho5 rfl hs12; replace hb1 := blk_own hb1 ho5 rfl hs12; replace hb3 := blk_own hb3 ho5 rfl hs12
      refine L_nil (N_then ⟨fun hN_ => ⟨hb1, hb3, trivial⟩, ?_⟩)
      refine T_tk (i := 7) rfl (Y_of (fun _ _ => R_assign rfl)) ⟨hb1, hb3, trivial⟩ rfl ?_
      refine T_done (by kernel_rfl) (CalmE.normal ?_)
      refine N_then (C_seq (C_seq (C_reg rfl ?_)))
      refine L_run (R_field (r := 0) rfl fld86_0 rfl) rfl (L_run (R_load1 rfl scl3 (hb1.cell (i := 0) rfl)) rfl (L_run (R_eql rfl rfl) rfl (Lmv rfl rfl (L_yes rfl rfl rfl (decide_eq_false h1) (L_run (R_field (r := 0) rfl fld86_0 rfl) rfl (L_yes rfl rfl rfl (decide_eq_false h1) (L_run (R_load1 rfl scl3 (hb1.cell (i := 0) rfl)) rfl (L_yes rfl rfl rfl (decide_eq_false h1) (L_run (R_eql rfl rfl) rfl ?_)))))))))
      refine L_run (R_pickF rfl (decide_eq_false h1) rfl) rfl ?_
      refine L_nil (N_then (C_condF rfl (decide_eq_false h6) (C_skip (N_then (C_seq (C_reg rfl (Lmv rfl rfl (Lmv rfl rfl ?_))))))))
      refine L_run (R_build (pv := [(0, .bool true), (1, .slice A_4 ((bs ++ d).length) c_4)]) (cs := [.bool true, .slice A_4 ((bs ++ d).length) c_4]) rfl (by kernel_rfl)) rfl ?_
      refine L_run (R_nilck rfl) rfl ?_
      refine L_stA (vs := [.bool true, .slice A_4 ((bs ++ d).length) c_4]) rfl rfl rfl sz130 rfl hb4 rfl ?_
      intro w13 hb7 hs13 hz9
      replace hB := gb_trans hB hs13; replace ho6 := own_other ho6 hb4 rfl hs13
      refine L_nil (N_then (C_seq (C_reg rfl (Las rfl rfl (Las rfl rfl (Las rfl rfl (L_nil (N_then (C_ret ?_)))))))))
      refine ret3 Tryd.results94 rfl rfl rfl ?_
      have hf : feedN false bs k d = _ := fee_on (by first | (show k = 3 ∨ k = 4; omega) | (show k = 1 ∨ k = 2; omega) | (show ¬ (k = 3 ∨ k = 4); omega) | (show ¬ (k = 1 ∨ k = 2); omega)) (by first | omega | (simp only [List.length_append] at *; omega)) (by omega)
      exact ⟨hB, A_4, c_4, none, 0, by first | (rw [hf]; done) | (rw [hf]; rfl), by rw [hf]; exact hb7, by rw [hf]; exact (own_lo ho6 ge4), by rw [hf]; exact (own_nil _ _ _ _)⟩
theorem feed_ok {w : World} {g : Nat} {o : Bool} {lo hi lo2 hi2 : Nat} {A A2 : Option Addr} {c c2 k : Nat} {ep : Int} {bs d : List UInt8} (hb : Blk w g 130 [.bool o, .slice A bs.length c]) (hS : Sli 5 lo hi w A (fl encB bs)) (hD : Sli 5 lo2 hi2 w A2 (fl encB d)) (hl : bs.length ≤ 1000000) (hd : d.length ≤ 1000000) :
    Runs Tryd.prog 94 #[.pointer (some ⟨g, 0, none⟩), .agg #[.int .i64 ((k : Nat) : Int), .int .u32 ep, .slice A2 d.length c2]] w (fun v w' => w.grownBy w' (some g) ∧ ∃ A' c' A3 c3, v = .tuple #[.slice A3 (feedN o bs k d).2.1.length c3, .bool (feedN o bs k d).2.2.1, .int .i64 (feedN o bs k d).2.2.2] ∧ Blk w' g 130 [.bool (feedN o bs k d).1.1, .slice A' (feedN o bs k d).1.2.length c'] ∧ World.ownsRow w' w.heap.size 5 1 (.slice A' ((feedN o bs k d).1.2).length c') ((feedN o bs k d).1.2).length (fl encB ((feedN o bs k d).1.2)) ∧ World.ownsRow w' w.heap.size 5 1 (.slice A3 ((feedN o bs k d).2.1).length c3) ((feedN o bs k d).2.1).length (fl encB ((feedN o bs k d).2.1))) := by
  cases o
  · exact feed_f hb hS hD hl hd
  · exact feed_t hb hS hD hl hd
theorem feed15_t {w : World} {lo hi lo2 hi2 : Nat} {A A2 : Option Addr} {c c2 k : Nat} {ep : Int} {bs d : List UInt8} (hS : Sli 5 lo hi w A (fl encB bs)) (hD : Sli 5 lo2 hi2 w A2 (fl encB d)) (hl : bs.length ≤ 1000000) (hd : d.length ≤ 1000000) :
    Runs Tryd.prog 42 #[.agg #[.bool true, .slice A bs.length c], .agg #[.int .i64 ((k : Nat) : Int), .int .u32 ep, .slice A2 d.length c2]] w (fun v w' => w.grownBy w' none ∧ ∃ A' c' A3 c3, v = .tuple #[.agg #[.bool (feedN true bs k d).1.1, .slice A' (feedN true bs k d).1.2.length c'], .slice A3 (feedN true bs k d).2.1.length c3, .bool (feedN true bs k d).2.2.1, .int .i64 (feedN true bs k d).2.2.2] ∧ World.ownsRow w' w.heap.size 5 1 (.slice A' ((feedN true bs k d).1.2).length c') ((feedN true bs k d).1.2).length (fl encB ((feedN true bs k d).1.2)) ∧ World.ownsRow w' w.heap.size 5 1 (.slice A3 ((feedN true bs k d).2.1).length c3) ((feedN true bs k d).2.1).length (fl encB ((feedN true bs k d).2.1))) := by
 have hB := gb_refl w none
 replace hS := hS.top; replace hD := hD.top
 refine enter Tryd.func42 Tryd.ntmps42 rfl rfl ?_
 refine C_seq (C_reg rfl ?_)
 refine L_box (cs := [.bool true, .slice A bs.length c]) rfl rfl rfl ?_
 intro g1 w1 eg1 hb1 hs1 hz1
 replace hB := gb_tr hB hs1; replace hS := hS.gb hs1; replace hD := hD.gb hs1
 refine L_box (cs := [.int .i64 ((k : Nat) : Int), .int .u32 ep, .slice A2 d.length c2]) rfl rfl rfl ?_
 intro g2 w2 eg2 hb2 hs2 hz2
 replace hB := gb_tr hB hs2; replace hS := hS.gb hs2; replace hD := hD.gb hs2; replace hb1 := hb1.gb hs2
 refine L_alloc (cs := [.bool false, .slice none 0 0]) zer83 rfl rfl ?_
 intro g3 w3 eg3 hb3 hs3 hz3
 have ge3 : w.heap.size ≤ g3 := eg_ge hB eg3
 replace hB := gb_tr hB hs3; replace hS := hS.gb hs3; replace hD := hD.gb hs3; replace hb1 := hb1.gb hs3; replace hb2 := hb2.gb hs3
 refine Las rfl rfl (Las rfl rfl (Las rfl rfl (L_nil (N_then (C_seq (C_seq (C_reg rfl (L_run (R_field (r := 0) rfl fld83_0 rfl) rfl (L_run (R_load1 rfl scl4 (hb1.cell (i := 0) rfl)) rfl (Lmv rfl rfl (L_yes rfl rfl rfl rfl (L_run (R_field (r := 0) rfl fld86_0 rfl) rfl (L_yes rfl rfl rfl rfl (L_run (R_load1 rfl scl3 (hb2.cell (i := 0) rfl)) rfl (L_yes rfl rfl rfl rfl (L_run (R_neq rfl rfl) rfl ?_))))))))))))))))
 refine L_run (R_pickT rfl rfl rfl) rfl ?_
 refine Lmv rfl rfl ?_
 refine L_splitD (p := ((k : Nat) : Int) ≠ 3) (fun h1 => ?_) (fun h1 => ?_)
 ·refine L_yes rfl rfl rfl (decide_eq_true h1) (L_run (R_field (r := 0) rfl fld86_0 rfl) rfl (L_yes rfl rfl rfl (decide_eq_true h1) (L_run (R_load1 rfl scl3 (hb2.cell (i := 0) rfl)) rfl (L_yes rfl rfl rfl (decide_eq_true h1) (L_run (R_neq rfl rfl) rfl (L_run (R_pickT rfl (decide_eq_true h1) rfl) rfl (Lmv rfl rfl ?_)))))))
  refine L_splitD (p := ((k : Nat) : Int) ≠ 4) (fun h2 => ?_) (fun h2 => ?_)
  ·refine L_no rfl rfl rfl (decide_eq_true h2) rfl (L_no rfl rfl rfl (decide_eq_true h2) rfl (L_no rfl rfl rfl (decide_eq_true h2) rfl (L_no rfl rfl rfl (decide_eq_true h2) rfl ?_)))
   refine L_noU rfl rfl rfl rfl ?_
   refine L_noU rfl rfl rfl rfl ?_
   refine L_noU rfl rfl rfl rfl ?_
   refine L_no rfl rfl rfl (decide_eq_true h2) rfl (L_no rfl rfl rfl (decide_eq_true h2) rfl ?_)
   refine L_noU rfl rfl rfl rfl ?_
   refine L_noU rfl rfl rfl rfl ?_
   refine L_noU rfl rfl rfl rfl ?_
   refine L_no rfl rfl rfl (decide_eq_true h2) rfl (L_run (R_pickT rfl (decide_eq_true h2) rfl) rfl (L_nil (N_then (C_condT rfl rfl (C_seq (C_reg rfl ?_))))))
   refine L_run (R_build (pv := []) (cs := [.bool false, .slice none 0 0]) rfl (by kernel_rfl)) rfl ?_
   refine L_stA (vs := [.bool false, .slice none 0 0]) rfl rfl rfl sz83 rfl hb3 rfl ?_
   intro w4 hb4 hs4 hz4
   replace hB := gb_trg hB hs4 ge3
   refine Las rfl rfl (Las rfl rfl (Las rfl rfl (L_nil (N_then (C_ret (R_then ?_))))))
   refine rv4 (.inr rfl) Tryd.results42 (rvA (vs := [.bool false, .slice none 0 0]) rfl agg83 (At.pre (hb4.at_ 0) rfl) rfl) (rvT rfl) (rvT rfl) (rvT rfl) ?_
   have hf : feedN true bs k d = _ := fee_form (by first | (show k = 3 ∨ k = 4; omega) | (show k = 1 ∨ k = 2; omega) | (show ¬ (k = 3 ∨ k = 4); omega) | (show ¬ (k = 1 ∨ k = 2); omega))
   exact ⟨hB, none, 0, none, 0, by first | (rw [hf]; done) | (rw [hf]; rfl), by rw [hf]; exact (own_nil _ _ _ _), by rw [hf]; exact (own_nil _ _ _ _)⟩
  ·refine L_yes rfl rfl rfl (decide_eq_false h2) (L_run (R_field (r := 0) rfl fld83_0 rfl) rfl (L_yes rfl rfl rfl (decide_eq_false h2) (L_run (R_load1 rfl scl4 (hb1.cell (i := 0) rfl)) rfl (L_yes rfl rfl rfl (decide_eq_false h2) (L_run (R_not rfl) rfl (L_yes rfl rfl rfl (decide_eq_false h2) (Lmv rfl rfl (L_no rfl rfl rfl rfl rfl (L_no rfl rfl rfl rfl rfl (L_no rfl rfl rfl rfl rfl (L_yes rfl rfl rfl (decide_eq_false h2) ?_)))))))))))
   refine L_run (R_pickF rfl rfl rfl) rfl ?_
   refine L_yes rfl rfl rfl (decide_eq_false h2) (Lmv rfl rfl (L_no rfl rfl rfl rfl rfl (L_no rfl rfl rfl rfl rfl (L_no rfl rfl rfl rfl rfl (L_yes rfl rfl rfl (decide_eq_false h2) (L_run (R_pickF rfl rfl rfl) rfl (L_run (R_pickF rfl (decide_eq_false h2) rfl) rfl (L_nil (N_then (C_condF rfl rfl (C_skip (N_then (C_seq ?_)))))))))))))
   refine C_draw2 rfl mix ?_
   intro w5 hs5 hz5
   replace hB := gb_tr hB hs5; replace hS := hS.gb hs5; replace hD := hD.gb hs5; replace hb1 := hb1.gb hs5; replace hb2 := hb2.gb hs5; replace hb3 := hb3.gb hs5
   refine ⟨fun W_ => Blk W_ g1 83 [.bool true, .slice A bs.length c] ∧ Blk W_ g2 86 [.int .i64 ((k : Nat) : Int), .int .u32 ep, .slice A2 d.length c2] ∧ True, [1, 2, 4, 5, 7], ?_⟩
   refine T_tk (i := 1) rfl (Y_of (fun _ _ => R_field (r := 1) rfl fld83_1 rfl)) ⟨hb1, hb2, trivial⟩ rfl ?_
   refine T_tk (i := 2) rfl (Y_of (fun _ ⟨hb1, hb2, _⟩ => R_load1 rfl scl34 (hb1.cell (i := 1) rfl))) ⟨hb1, hb2, trivial⟩ rfl ?_
   refine T_tk (i := 4) rfl (Y_of (fun _ _ => R_field (r := 2) rfl fld86_2 rfl)) ⟨hb1, hb2, trivial⟩ rfl ?_
   refine T_tk (i := 5) rfl (Y_of (fun _ ⟨hb1, hb2, _⟩ => R_load1 rfl scl34 (hb2.cell (i := 2) rfl))) ⟨hb1, hb2, trivial⟩ rfl ?_
   refine T_all (rs := [0]) (by kernel_rfl) rfl (all1 (O_one rfl ?_))
   refine L_buildSlice (pv := []) (cs := []) slc34 zer5 rfl rfl (by kernel_rfl) rfl ?_
   intro g4 w6 eg4 hb5 hs6 hz6
   have ge4 : w.heap.size ≤ g4 := eg_ge hB eg4
   replace hB := gb_tr hB hs6; replace hS := hS.gb hs6; replace hD := hD.gb hs6; replace hb1 := hb1.gb hs6; replace hb2 := hb2.gb hs6; replace hb3 := hb3.gb hs6
   refine L_nil (N_then ⟨fun hN_ => ⟨hb1, hb2, trivial⟩, ?_⟩)
   refine T_all (rs := [3]) (by kernel_rfl) rfl (all1 (O_one rfl ?_))
   have hlo1 : g4 ≤ w6.heap.size := Nat.le_of_lt hb5.lt
   have ho1 : World.ownsRow w6 g4 5 1 (.slice (some ⟨g4, 0, none⟩) ([] : List UInt8).length 0) ([] : List UInt8).length (fl encB []) := Blk.own (sz := 1) (m := 0) hb5 (by decide) rfl (Nat.le_refl _)
   refine T_append (xs := []) (ys := bs) EncB slc34 rfl rfl ho1 hS (by first | omega | (simp; done) | (simp; omega)) hlo1 rfl ?_
   intro A_1 c_1 w7 ho2 hs7 hat1
   replace hB := gb_tro hB ho1 hs7 ge4; replace hD := hD.grown hs7 (fun k hk => .inr (Nat.le_trans ge4 (World.ownsRow.lt ho1 k hk).1)); replace hb1 := blk_own hb1 ho1 rfl hs7; replace hb2 := blk_own hb2 ho1 rfl hs7; replace hb3 := blk_own hb3 ho1 rfl hs7; replace hlo1 := Nat.le_trans hlo1 hs7.size
   simp only [List.nil_append] at ho2 ⊢
   refine L_nil (N_then ⟨fun hN_ => ⟨hb1, hb2, trivial⟩, ?_⟩)
   refine T_all (rs := [6]) (by kernel_rfl) rfl (all1 (O_one rfl ?_))
   refine T_append (xs := bs) (ys := d) EncB slc34 rfl rfl ho2 hD (by first | omega | (simp; done) | (simp; omega)) hlo1 rfl ?_
   intro A_2 c_2 w8 ho3 hs8 hat2
   replace hB := gb_tro hB ho2 hs8 ge4; replace hb1 := blk_own hb1 ho2 rfl hs8; replace hb2 := blk_own hb2 ho2 rfl hs8; replace hb3 := blk_own hb3 ho2 rfl hs8
   refine L_nil (N_then ⟨fun hN_ => ⟨hb1, hb2, trivial⟩, ?_⟩)
   refine T_tk (i := 7) rfl (Y_of (fun _ _ => R_assign rfl)) ⟨hb1, hb2, trivial⟩ rfl ?_
   refine T_done (by kernel_rfl) (CalmE.normal ?_)
   refine N_then (C_seq (C_seq (C_reg rfl ?_)))
   refine Lmv rfl rfl (L_run (R_lenSl rfl slc34) rfl (L_run (R_gtr rfl rfl) rfl (L_nil (N_then (C_if rfl (fun h3 => ?_) (fun h3 => ?_))))))
   ·refine C_seq (C_reg rfl ?_)
    refine L_run (R_build (pv := []) (cs := [.bool false, .slice none 0 0]) rfl (by kernel_rfl)) rfl ?_
    refine L_stA (vs := [.bool false, .slice none 0 0]) rfl rfl rfl sz83 rfl hb3 rfl ?_
    intro w9 hb6 hs9 hz7
    replace hB := gb_trg hB hs9 ge3
    refine Las rfl rfl (Las rfl rfl (Las rfl rfl (L_nil (N_then (C_ret (R_then ?_))))))
    refine rv4 (.inr rfl) Tryd.results42 (rvA (vs := [.bool false, .slice none 0 0]) rfl agg83 (At.pre (hb6.at_ 0) rfl) rfl) (rvT rfl) (rvT rfl) (rvT rfl) ?_
    have hf : feedN true bs k d = _ := fee_long (by first | (show k = 3 ∨ k = 4; omega) | (show k = 1 ∨ k = 2; omega) | (show ¬ (k = 3 ∨ k = 4); omega) | (show ¬ (k = 1 ∨ k = 2); omega)) (by first | omega | (simp only [List.length_append] at *; omega))
    exact ⟨hB, none, 0, none, 0, by first | (rw [hf]; done) | (rw [hf]; rfl), by rw [hf]; exact (own_nil _ _ _ _), by rw [hf]; exact (own_nil _ _ _ _)⟩
   ·refine C_skip (N_then (C_seq (C_seq (C_reg rfl ?_))))
    refine L_run (R_field (r := 0) rfl fld86_0 rfl) rfl (L_run (R_load1 rfl scl3 (hb2.cell (i := 0) rfl)) rfl (L_run (R_eql rfl rfl) rfl (Lmv rfl rfl ?_)))
    refine L_splitD (p := ((k : Nat) : Int) = 1) (fun h4 => ?_) (fun h4 => ?_)
    ·refine L_no rfl rfl rfl (decide_eq_true h4) rfl (L_no rfl rfl rfl (decide_eq_true h4) rfl (L_no rfl rfl rfl (decide_eq_true h4) rfl (L_run (R_pickT rfl (decide_eq_true h4) rfl) rfl (L_nil (N_then (C_condT rfl rfl (C_seq (C_reg rfl ?_))))))))
     refine L_run (R_build (pv := []) (cs := [.bool false, .slice none 0 0]) rfl (by kernel_rfl)) rfl ?_
     refine Lmv rfl rfl ?_
     refine L_stA (vs := [.bool false, .slice none 0 0]) rfl rfl rfl sz83 rfl hb3 rfl ?_
     intro w10 hb7 hs10 hz8
     replace hB := gb_trg hB hs10 ge3; replace ho3 := own_other ho3 hb3 rfl hs10
     refine Las rfl rfl (Las rfl rfl (Las rfl rfl (L_nil (N_then (C_ret (R_then ?_))))))
     refine rv4 (.inr rfl) Tryd.results42 (rvA (vs := [.bool false, .slice none 0 0]) rfl agg83 (At.pre (hb7.at_ 0) rfl) rfl) (rvT rfl) (rvT rfl) (rvT rfl) ?_
     have hf : feedN true bs k d = _ := fee_done (by first | (show k = 3 ∨ k = 4; omega) | (show k = 1 ∨ k = 2; omega) | (show ¬ (k = 3 ∨ k = 4); omega) | (show ¬ (k = 1 ∨ k = 2); omega)) (by first | omega | (simp only [List.length_append] at *; omega)) (by omega)
     exact ⟨hB, none, 0, A_2, c_2, by first | (rw [hf]; done) | (rw [hf]; rfl), by rw [hf]; exact (own_nil _ _ _ _), by rw [hf]; exact (own_lo ho3 ge4)⟩
    ·refine L_yes rfl rfl rfl (decide_eq_false h4) (L_run (R_field (r := 0) rfl fld86_0 rfl) rfl (L_yes rfl rfl rfl (decide_eq_false h4) (L_run (R_load1 rfl scl3 (hb2.cell (i := 0) rfl)) rfl (L_yes rfl rfl rfl (decide_eq_false h4) (L_run (R_eql rfl rfl) rfl (L_run (R_pickF rfl (decide_eq_false h4) rfl) rfl (L_nil (N_then (C_condT rfl (decide_eq_true (Decidable.not_not.1 h2)) (C_seq (C_reg rfl ?_)))))))))))
     refine L_run (R_build (pv := []) (cs := [.bool false, .slice none 0 0]) rfl (by kernel_rfl)) rfl ?_
     refine Lmv rfl rfl ?_
     refine L_stA (vs := [.bool false, .slice none 0 0]) rfl rfl rfl sz83 rfl hb3 rfl ?_
     intro w11 hb8 hs11 hz9
     replace hB := gb_trg hB hs11 ge3; replace ho3 := own_other ho3 hb3 rfl hs11
     refine Las rfl rfl (Las rfl rfl (Las rfl rfl (L_nil (N_then (C_ret (R_then ?_))))))
     refine rv4 (.inr rfl) Tryd.results42 (rvA (vs := [.bool false, .slice none 0 0]) rfl agg83 (At.pre (hb8.at_ 0) rfl) rfl) (rvT rfl) (rvT rfl) (rvT rfl) ?_
     have hf : feedN true bs k d = _ := fee_done (by first | (show k = 3 ∨ k = 4; omega) | (show k = 1 ∨ k = 2; omega) | (show ¬ (k = 3 ∨ k = 4); omega) | (show ¬ (k = 1 ∨ k = 2); omega)) (by first | omega | (simp only [List.length_append] at *; omega)) (by omega)
     exact ⟨hB, none, 0, A_2, c_2, by first | (rw [hf]; done) | (rw [hf]; rfl), by rw [hf]; exact (own_nil _ _ _ _), by rw [hf]; exact (own_lo ho3 ge4)⟩
 ·refine L_no rfl rfl rfl (decide_eq_false h1) rfl (L_no rfl rfl rfl (decide_eq_false h1) rfl (L_no rfl rfl rfl (decide_eq_false h1) rfl (L_run (R_pickF rfl (decide_eq_false h1) rfl) rfl (Lmv rfl rfl (L_yes rfl rfl rfl rfl (L_run (R_field (r := 0) rfl fld83_0 rfl) rfl (L_yes rfl rfl rfl rfl (L_run (R_load1 rfl scl4 (hb1.cell (i := 0) rfl)) rfl (L_yes rfl rfl rfl rfl (L_run (R_not rfl) rfl ?_))))))))))
  refine L_yes rfl rfl rfl rfl (Lmv rfl rfl (L_no rfl rfl rfl rfl rfl (L_no rfl rfl rfl rfl rfl (L_no rfl rfl rfl rfl rfl (L_yes rfl rfl rfl rfl (L_run (R_pickF rfl rfl rfl) rfl (L_yes rfl rfl rfl rfl (Lmv rfl rfl (L_no rfl rfl rfl rfl rfl (L_no rfl rfl rfl rfl rfl (L_no rfl rfl rfl rfl rfl (L_yes rfl rfl rfl rfl (L_run (R_pickF rfl rfl rfl) rfl (L_run (R_pickF rfl rfl rfl) rfl (L_nil (N_then (C_condF rfl rfl (C_skip (N_then (C_seq ?_))))))))))))))))))))
  refine C_draw2 rfl mix ?_
  intro w12 hs12 hz10
  replace hB := gb_tr hB hs12; replace hS := hS.gb hs12; replace hD := hD.gb hs12; replace hb1 := hb1.gb hs12; replace hb2 := hb2.gb hs12; replace hb3 := hb3.gb hs12
  refine ⟨fun W_ => Blk W_ g1 83 [.bool true, .slice A bs.length c] ∧ Blk W_ g2 86 [.int .i64 ((k : Nat) : Int), .int .u32 ep, .slice A2 d.length c2] ∧ True, [1, 2, 4, 5, 7], ?_⟩
  refine T_tk (i := 1) rfl (Y_of (fun _ _ => R_field (r := 1) rfl fld83_1 rfl)) ⟨hb1, hb2, trivial⟩ rfl ?_
  refine T_tk (i := 2) rfl (Y_of (fun _ ⟨hb1, hb2, _⟩ => R_load1 rfl scl34 (hb1.cell (i := 1) rfl))) ⟨hb1, hb2, trivial⟩ rfl ?_
  refine T_tk (i := 4) rfl (Y_of (fun _ _ => R_field (r := 2) rfl fld86_2 rfl)) ⟨hb1, hb2, trivial⟩ rfl ?_
  refine T_tk (i := 5) rfl (Y_of (fun _ ⟨hb1, hb2, _⟩ => R_load1 rfl scl34 (hb2.cell (i := 2) rfl))) ⟨hb1, hb2, trivial⟩ rfl ?_
  refine T_all (rs := [0]) (by kernel_rfl) rfl (all1 (O_one rfl ?_))
  refine L_buildSlice (pv := []) (cs := []) slc34 zer5 rfl rfl (by kernel_rfl) rfl ?_
  intro g5 w13 eg5 hb9 hs13 hz11
  have ge5 : w.heap.size ≤ g5 := eg_ge hB eg5
  replace hB := gb_tr hB hs13; replace hS := hS.gb hs13; replace hD := hD.gb hs13; replace hb1 := hb1.gb hs13; replace hb2 := hb2.gb hs13; replace hb3 := hb3.gb hs13
  refine L_nil (N_then ⟨fun hN_ => ⟨hb1, hb2, trivial⟩, ?_⟩)
  refine T_all (rs := [3]) (by kernel_rfl) rfl (all1 (O_one rfl ?_))
  have hlo2 : g5 ≤ w13.heap.size := Nat.le_of_lt hb9.lt
  have ho4 : World.ownsRow w13 g5 5 1 (.slice (some ⟨g5, 0, none⟩) ([] : List UInt8).length 0) ([] : List UInt8).length (fl encB []) := Blk.own (sz := 1) (m := 0) hb9 (by decide) rfl (Nat.le_refl _)
  refine T_append (xs := []) (ys := bs) EncB slc34 rfl rfl ho4 hS (by first | omega | (simp; done) | (simp; omega)) hlo2 rfl ?_
  intro A_3 c_3 w14 ho5 hs14 hat3
  replace hB := gb_tro hB ho4 hs14 ge5; replace hD := hD.grown hs14 (fun k hk => .inr (Nat.le_trans ge5 (World.ownsRow.lt ho4 k hk).1)); replace hb1 := blk_own hb1 ho4 rfl hs14; replace hb2 := blk_own hb2 ho4 rfl hs14; replace hb3 := blk_own hb3 ho4 rfl hs14; replace hlo2 := Nat.le_trans hlo2 hs14.size
  simp only [List.nil_append] at ho5 ⊢
  refine L_nil (N_then ⟨fun hN_ => ⟨hb1, hb2, trivial⟩, ?_⟩)
  refine T_all (rs := [6]) (by kernel_rfl) rfl (all1 (O_one rfl ?_))
  refine T_append (xs := bs) (ys := d) EncB slc34 rfl rfl ho5 hD (by first | omega | (simp; done) | (simp; omega)) hlo2 rfl ?_
  intro A_4 c_4 w15 ho6 hs15 hat4
  replace hB := gb_tro hB ho5 hs15 ge5; replace hb1 := blk_own hb1 ho5 rfl hs15; replace hb2 := blk_own hb2 ho5 rfl hs15; replace hb3 := blk_own hb3 ho5 rfl hs15
  refine L_nil (N_then ⟨fun hN_ => ⟨hb1, hb2, trivial⟩, ?_⟩)
  refine T_tk (i := 7) rfl (Y_of (fun _ _ => R_assign rfl)) ⟨hb1, hb2, trivial⟩ rfl ?_
  refine T_done (by kernel_rfl) (CalmE.normal ?_)
  refine N_then (C_seq (C_seq (C_reg rfl ?_)))
  refine Lmv rfl rfl (L_run (R_lenSl rfl slc34) rfl (L_run (R_gtr rfl rfl) rfl (L_nil (N_then (C_if rfl (fun h5 => ?_) (fun h5 => ?_))))))
  ·refine C_seq (C_reg rfl ?_)
   refine L_run (R_build (pv := []) (cs := [.bool false, .slice none 0 0]) rfl (by kernel_rfl)) rfl ?_
   refine L_stA (vs := [.bool false, .slice none 0 0]) rfl rfl rfl sz83 rfl hb3 rfl ?_
   intro w16 hb10 hs16 hz12
   replace hB := gb_trg hB hs16 ge3
   refine Las rfl rfl (Las rfl rfl (Las rfl rfl (L_nil (N_then (C_ret (R_then ?_))))))
   refine rv4 (.inr rfl) Tryd.results42 (rvA (vs := [.bool false, .slice none 0 0]) rfl agg83 (At.pre (hb10.at_ 0) rfl) rfl) (rvT rfl) (rvT rfl) (rvT rfl) ?_
   have hf : feedN true bs k d = _ := fee_long (by first | (show k = 3 ∨ k = 4; omega) | (show k = 1 ∨ k = 2; omega) | (show ¬ (k = 3 ∨ k = 4); omega) | (show ¬ (k = 1 ∨ k = 2); omega)) (by first | omega | (simp only [List.length_append] at *; omega))
   exact ⟨hB, none, 0, none, 0, by first | (rw [hf]; done) | (rw [hf]; rfl), by rw [hf]; exact (own_nil _ _ _ _), by rw [hf]; exact (own_nil _ _ _ _)⟩
  ·refine C_skip (N_then (C_seq (C_seq (C_reg rfl ?_))))
   refine L_run (R_field (r := 0) rfl fld86_0 rfl) rfl (L_run (R_load1 rfl scl3 (hb2.cell (i := 0) rfl)) rfl (L_run (R_eql rfl rfl) rfl (Lmv rfl rfl ?_)))
   refine L_splitD (p := ((k : Nat) : Int) = 1) (fun h6 => ?_) (fun h6 => ?_)
   ·refine L_no rfl rfl rfl (decide_eq_true h6) rfl (L_no rfl rfl rfl (decide_eq_true h6) rfl (L_no rfl rfl rfl (decide_eq_true h6) rfl (L_run (R_pickT rfl (decide_eq_true h6) rfl) rfl (L_nil (N_then (C_condT rfl rfl (C_seq (C_reg rfl ?_))))))))
    refine L_run (R_build (pv := []) (cs := [.bool false, .slice none 0 0]) rfl (by kernel_rfl)) rfl ?_
    refine Lmv rfl rfl ?_
    refine L_stA (vs := [.bool false, .slice none 0 0]) rfl rfl rfl sz83 rfl hb3 rfl ?_
    intro w17 hb11 hs17 hz13
    replace hB := gb_trg hB hs17 ge3; replace ho6 := own_other ho6 hb3 rfl hs17
    refine Las rfl rfl (Las rfl rfl (Las rfl rfl (L_nil (N_then (C_ret (R_then ?_))))))
    refine rv4 (.inr rfl) Tryd.results42 (rvA (vs := [.bool false, .slice none 0 0]) rfl agg83 (At.pre (hb11.at_ 0) rfl) rfl) (rvT rfl) (rvT rfl) (rvT rfl) ?_
    have hf : feedN true bs k d = _ := fee_done (by first | (show k = 3 ∨ k = 4; omega) | (show k = 1 ∨ k = 2; omega) | (show ¬ (k = 3 ∨ k = 4); omega) | (show ¬ (k = 1 ∨ k = 2); omega)) (by first | omega | (simp only [List.length_append] at *; omega)) (by omega)
    exact ⟨hB, none, 0, A_4, c_4, by first | (rw [hf]; done) | (rw [hf]; rfl), by rw [hf]; exact (own_nil _ _ _ _), by rw [hf]; exact (own_lo ho6 ge5)⟩
   ·refine L_yes rfl rfl rfl (decide_eq_false h6) (L_run (R_field (r := 0) rfl fld86_0 rfl) rfl (L_yes rfl rfl rfl (decide_eq_false h6) (L_run (R_load1 rfl scl3 (hb2.cell (i := 0) rfl)) rfl (L_yes rfl rfl rfl (decide_eq_false h6) (L_run (R_eql rfl rfl) rfl (L_run (R_pickF rfl (decide_eq_false h6) rfl) rfl (L_nil (N_then (C_if rfl (fun h7 => ?_) (fun h7 => ?_))))))))))
    ·refine C_seq (C_reg rfl ?_)
     refine L_run (R_build (pv := []) (cs := [.bool false, .slice none 0 0]) rfl (by kernel_rfl)) rfl ?_
     refine Lmv rfl rfl ?_
     refine L_stA (vs := [.bool false, .slice none 0 0]) rfl rfl rfl sz83 rfl hb3 rfl ?_
     intro w18 hb12 hs18 hz14
     replace hB := gb_trg hB hs18 ge3; replace ho6 := own_other ho6 hb3 rfl hs18
     refine Las rfl rfl (Las rfl rfl (Las rfl rfl (L_nil (N_then (C_ret (R_then ?_))))))
     refine rv4 (.inr rfl) Tryd.results42 (rvA (vs := [.bool false, .slice none 0 0]) rfl agg83 (At.pre (hb12.at_ 0) rfl) rfl) (rvT rfl) (rvT rfl) (rvT rfl) ?_
     have hf : feedN true bs k d = _ := fee_done (by first | (show k = 3 ∨ k = 4; omega) | (show k = 1 ∨ k = 2; omega) | (show ¬ (k = 3 ∨ k = 4); omega) | (show ¬ (k = 1 ∨ k = 2); omega)) (by first | omega | (simp only [List.length_append] at *; omega)) (by omega)
     exact ⟨hB, none, 0, A_4, c_4, by first | (rw [hf]; done) | (rw [hf]; rfl), by rw [hf]; exact (own_nil _ _ _ _), by rw [hf]; exact (own_lo ho6 ge5)⟩
    ·refine C_skip (N_then (C_seq (C_reg rfl ?_)))
     refine Lmv rfl rfl ?_
     refine L_run (R_build (pv := [(0, .bool true), (1, .slice A_4 ((bs ++ d).length) c_4)]) (cs := [.bool true, .slice A_4 ((bs ++ d).length) c_4]) rfl (by kernel_rfl)) rfl ?_
     refine L_stA (vs := [.bool true, .slice A_4 ((bs ++ d).length) c_4]) rfl rfl rfl sz83 rfl hb3 rfl ?_
     intro w19 hb13 hs19 hz15
     replace hB := gb_trg hB hs19 ge3; replace ho6 := own_other ho6 hb3 rfl hs19
     refine Las rfl rfl (Las rfl rfl (Las rfl rfl (L_nil (N_then (C_ret ?_)))))
     refine rv4 (.inr rfl) Tryd.results42 (rvA (vs := [.bool true, .slice A_4 ((bs ++ d).length) c_4]) rfl agg83 (At.pre (hb13.at_ 0) rfl) rfl) (rvT rfl) (rvT rfl) (rvT rfl) ?_
     have hf : feedN true bs k d = _ := fee_on (by first | (show k = 3 ∨ k = 4; omega) | (show k = 1 ∨ k = 2; omega) | (show ¬ (k = 3 ∨ k = 4); omega) | (show ¬ (k = 1 ∨ k = 2); omega)) (by first | omega | (simp only [List.length_append] at *; omega)) (by omega)
     exact ⟨hB, A_4, c_4, none, 0, by first | (rw [hf]; done) | (rw [hf]; rfl), by rw [hf]; exact (own_lo ho6 ge5), by rw [hf]; exact (own_nil _ _ _ _)⟩
theorem feed15_f {w : World} {lo hi lo2 hi2 : Nat} {A A2 : Option Addr} {c c2 k : Nat} {ep : Int} {bs d : List UInt8} (hS : Sli 5 lo hi w A (fl encB bs)) (hD : Sli 5 lo2 hi2 w A2 (fl encB d)) (hl : bs.length ≤ 1000000) (hd : d.length ≤ 1000000) :
    Runs Tryd.prog 42 #[.agg #[.bool false, .slice A bs.length c], .agg #[.int .i64 ((k : Nat) : Int), .int .u32 ep, .slice A2 d.length c2]] w (fun v w' => w.grownBy w' none ∧ ∃ A' c' A3 c3, v = .tuple #[.agg #[.bool (feedN false bs k d).1.1, .slice A' (feedN false bs k d).1.2.length c'], .slice A3 (feedN false bs k d).2.1.length c3, .bool (feedN false bs k d).2.2.1, .int .i64 (feedN false bs k d).2.2.2] ∧ World.ownsRow w' w.heap.size 5 1 (.slice A' ((feedN false bs k d).1.2).length c') ((feedN false bs k d).1.2).length (fl encB ((feedN false bs k d).1.2)) ∧ World.ownsRow w' w.heap.size 5 1 (.slice A3 ((feedN false bs k d).2.1).length c3) ((feedN false bs k d).2.1).length (fl encB ((feedN false bs k d).2.1))) := by
 have hB := gb_refl w none
 replace hS := hS.top; replace hD := hD.top
 refine enter Tryd.func42 Tryd.ntmps42 rfl rfl ?_
 refine C_seq (C_reg rfl ?_)
 refine L_box (cs := [.bool false, .slice A bs.length c]) rfl rfl rfl ?_
 intro g1 w1 eg1 hb1 hs1 hz1
 replace hB := gb_tr hB hs1; replace hS := hS.gb hs1; replace hD := hD.gb hs1
 refine L_box (cs := [.int .i64 ((k : Nat) : Int), .int .u32 ep, .slice A2 d.length c2]) rfl rfl rfl ?_
 intro g2 w2 eg2 hb2 hs2 hz2
 replace hB := gb_tr hB hs2; replace hS := hS.gb hs2; replace hD := hD.gb hs2; replace hb1 := hb1.gb hs2
 refine L_alloc (cs := [.bool false, .slice none 0 0]) zer83 rfl rfl ?_
 intro g3 w3 eg3 hb3 hs3 hz3
 have ge3 : w.heap.size ≤ g3 := eg_ge hB eg3
 replace hB := gb_tr hB hs3; replace hS := hS.gb hs3; replace hD := hD.gb hs3; replace hb1 := hb1.gb hs3; replace hb2 := hb2.gb hs3
 refine Las rfl rfl (Las rfl rfl (Las rfl rfl (L_nil (N_then (C_seq (C_seq (C_reg rfl (L_run (R_field (r := 0) rfl fld83_0 rfl) rfl (L_run (R_load1 rfl scl4 (hb1.cell (i := 0) rfl)) rfl (Lmv rfl rfl (L_no rfl rfl rfl rfl rfl (L_no rfl rfl rfl rfl rfl (L_no rfl rfl rfl rfl rfl (L_run (R_pickF rfl rfl rfl) rfl (Lmv rfl rfl (L_no rfl rfl rfl rfl rfl (L_no rfl rfl rfl rfl rfl (L_no rfl rfl rfl rfl rfl ?_))))))))))))))))))
 refine L_run (R_pickF rfl rfl rfl) rfl ?_
 refine Lmv rfl rfl (L_yes rfl rfl rfl rfl (L_run (R_field (r := 0) rfl fld83_0 rfl) rfl (L_yes rfl rfl rfl rfl (L_run (R_load1 rfl scl4 (hb1.cell (i := 0) rfl)) rfl (L_yes rfl rfl rfl rfl (L_run (R_not rfl) rfl (L_yes rfl rfl rfl rfl (Lmv rfl rfl (L_yes rfl rfl rfl rfl (L_run (R_field (r := 0) rfl fld86_0 rfl) rfl (L_yes rfl rfl rfl rfl (L_run (R_load1 rfl scl3 (hb2.cell (i := 0) rfl)) rfl ?_))))))))))))
 refine L_yes rfl rfl rfl rfl (L_run (R_neq rfl rfl) rfl (L_yes rfl rfl rfl rfl (L_run (R_pickT rfl rfl rfl) rfl (L_yes rfl rfl rfl rfl (Lmv rfl rfl ?_)))))
 refine L_splitD (p := ((k : Nat) : Int) ≠ 1) (fun h1 => ?_) (fun h1 => ?_)
 ·refine L_yes rfl rfl rfl (decide_eq_true h1) (L_run (R_field (r := 0) rfl fld86_0 rfl) rfl (L_yes rfl rfl rfl (decide_eq_true h1) (L_run (R_load1 rfl scl3 (hb2.cell (i := 0) rfl)) rfl (L_yes rfl rfl rfl (decide_eq_true h1) (L_run (R_neq rfl rfl) rfl (L_yes rfl rfl rfl rfl (L_run (R_pickT rfl (decide_eq_true h1) rfl) rfl (L_run (R_pickF rfl rfl rfl) rfl (L_nil (N_then (C_if rfl (fun h2 => ?_) (fun h2 => ?_))))))))))))
  ·refine C_seq (C_reg rfl ?_)
   refine L_run (R_build (pv := []) (cs := [.bool false, .slice none 0 0]) rfl (by kernel_rfl)) rfl ?_
   refine L_stA (vs := [.bool false, .slice none 0 0]) rfl rfl rfl sz83 rfl hb3 rfl ?_
   intro w4 hb4 hs4 hz4
   replace hB := gb_trg hB hs4 ge3
   refine Las rfl rfl (Las rfl rfl (Las rfl rfl (L_nil (N_then (C_ret (R_then ?_))))))
   refine rv4 (.inr rfl) Tryd.results42 (rvA (vs := [.bool false, .slice none 0 0]) rfl agg83 (At.pre (hb4.at_ 0) rfl) rfl) (rvT rfl) (rvT rfl) (rvT rfl) ?_
   have hf : feedN false bs k d = _ := fee_form (by first | (show k = 3 ∨ k = 4; omega) | (show k = 1 ∨ k = 2; omega) | (show ¬ (k = 3 ∨ k = 4); omega) | (show ¬ (k = 1 ∨ k = 2); omega))
   exact ⟨hB, none, 0, none, 0, by first | (rw [hf]; done) | (rw [hf]; rfl), by rw [hf]; exact (own_nil _ _ _ _), by rw [hf]; exact (own_nil _ _ _ _)⟩
  ·refine C_skip (N_then (C_seq ?_))
   refine C_draw2 rfl mix ?_
   intro w5 hs5 hz5
   replace hB := gb_tr hB hs5; replace hS := hS.gb hs5; replace hD := hD.gb hs5; replace hb1 := hb1.gb hs5; replace hb2 := hb2.gb hs5; replace hb3 := hb3.gb hs5
   refine ⟨fun W_ => Blk W_ g1 83 [.bool false, .slice A bs.length c] ∧ Blk W_ g2 86 [.int .i64 ((k : Nat) : Int), .int .u32 ep, .slice A2 d.length c2] ∧ True, [1, 2, 4, 5, 7], ?_⟩
   refine T_tk (i := 1) rfl (Y_of (fun _ _ => R_field (r := 1) rfl fld83_1 rfl)) ⟨hb1, hb2, trivial⟩ rfl ?_
   refine T_tk (i := 2) rfl (Y_of (fun _ ⟨hb1, hb2, _⟩ => R_load1 rfl scl34 (hb1.cell (i := 1) rfl))) ⟨hb1, hb2, trivial⟩ rfl ?_
   refine T_tk (i := 4) rfl (Y_of (fun _ _ => R_field (r := 2) rfl fld86_2 rfl)) ⟨hb1, hb2, trivial⟩ rfl ?_
   refine T_tk (i := 5) rfl (Y_of (fun _ ⟨hb1, hb2, _⟩ => R_load1 rfl scl34 (hb2.cell (i := 2) rfl))) ⟨hb1, hb2, trivial⟩ rfl ?_
   refine T_all (rs := [0]) (by kernel_rfl) rfl (all1 (O_one rfl ?_))
   refine L_buildSlice (pv := []) (cs := []) slc34 zer5 rfl rfl (by kernel_rfl) rfl ?_
   intro g4 w6 eg4 hb5 hs6 hz6
   have ge4 : w.heap.size ≤ g4 := eg_ge hB eg4
   replace hB := gb_tr hB hs6; replace hS := hS.gb hs6; replace hD := hD.gb hs6; replace hb1 := hb1.gb hs6; replace hb2 := hb2.gb hs6; replace hb3 := hb3.gb hs6
   refine L_nil (N_then ⟨fun hN_ => ⟨hb1, hb2, trivial⟩, ?_⟩)
   refine T_all (rs := [3]) (by kernel_rfl) rfl (all1 (O_one rfl ?_))
   have hlo1 : g4 ≤ w6.heap.size := Nat.le_of_lt hb5.lt
   have ho1 : World.ownsRow w6 g4 5 1 (.slice (some ⟨g4, 0, none⟩) ([] : List UInt8).length 0) ([] : List UInt8).length (fl encB []) := Blk.own (sz := 1) (m := 0) hb5 (by decide) rfl (Nat.le_refl _)
   refine T_append (xs := []) (ys := bs) EncB slc34 rfl rfl ho1 hS (by first | omega | (simp; done) | (simp; omega)) hlo1 rfl ?_
   intro A_1 c_1 w7 ho2 hs7 hat1
   replace hB := gb_tro hB ho1 hs7 ge4; replace hD := hD.grown hs7 (fun k hk => .inr (Nat.le_trans ge4 (World.ownsRow.lt ho1 k hk).1)); replace hb1 := blk_own hb1 ho1 rfl hs7; replace hb2 := blk_own hb2 ho1 rfl hs7; replace hb3 := blk_own hb3 ho1 rfl hs7; replace hlo1 := Nat.le_trans hlo1 hs7.size
   simp only [List.nil_append] at ho2 ⊢
   refine L_nil (N_then ⟨fun hN_ => ⟨hb1, hb2, trivial⟩, ?_⟩)
   refine T_all (rs := [6]) (by kernel_rfl) rfl (all1 (O_one rfl ?_))
   refine T_append (xs := bs) (ys := d) EncB slc34 rfl rfl ho2 hD (by first | omega | (simp; done) | (simp; omega)) hlo1 rfl ?_
   intro A_2 c_2 w8 ho3 hs8 hat2
   replace hB := gb_tro hB ho2 hs8 ge4; replace hb1 := blk_own hb1 ho2 rfl hs8; replace hb2 := blk_own hb2 ho2 rfl hs8; replace hb3 := blk_own hb3 ho2 rfl hs8
   refine L_nil (N_then ⟨fun hN_ => ⟨hb1, hb2, trivial⟩, ?_⟩)
   refine T_tk (i := 7) rfl (Y_of (fun _ _ => R_assign rfl)) ⟨hb1, hb2, trivial⟩ rfl ?_
   refine T_done (by kernel_rfl) (CalmE.normal ?_)
   refine N_then (C_seq (C_seq (C_reg rfl ?_)))
   refine Lmv rfl rfl (L_run (R_lenSl rfl slc34) rfl (L_run (R_gtr rfl rfl) rfl (L_nil (N_then (C_if rfl (fun h3 => ?_) (fun h3 => ?_))))))
   ·refine C_seq (C_reg rfl ?_)
    refine L_run (R_build (pv := []) (cs := [.bool false, .slice none 0 0]) rfl (by kernel_rfl)) rfl ?_
    refine L_stA (vs := [.bool false, .slice none 0 0]) rfl rfl rfl sz83 rfl hb3 rfl ?_
    intro w9 hb6 hs9 hz7
    replace hB := gb_trg hB hs9 ge3
    refine Las rfl rfl (Las rfl rfl (Las rfl rfl (L_nil (N_then (C_ret (R_then ?_))))))
    refine rv4 (.inr rfl) Tryd.results42 (rvA (vs := [.bool false, .slice none 0 0]) rfl agg83 (At.pre (hb6.at_ 0) rfl) rfl) (rvT rfl) (rvT rfl) (rvT rfl) ?_
    have hf : feedN false bs k d = _ := fee_long (by first | (show k = 3 ∨ k = 4; omega) | (show k = 1 ∨ k = 2; omega) | (show ¬ (k = 3 ∨ k = 4); omega) | (show ¬ (k = 1 ∨ k = 2); omega)) (by first | omega | (simp only [List.length_append] at *; omega))
    exact ⟨hB, none, 0, none, 0, by first | (rw [hf]; done) | (rw [hf]; rfl), by rw [hf]; exact (own_nil _ _ _ _), by rw [hf]; exact (own_nil _ _ _ _)⟩
   ·refine C_skip (N_then (C_seq (C_seq (C_reg rfl ?_))))
    refine L_run (R_field (r := 0) rfl fld86_0 rfl) rfl (L_run (R_load1 rfl scl3 (hb2.cell (i := 0) rfl)) rfl (L_run (R_eql rfl rfl) rfl (Lmv rfl rfl (L_yes rfl rfl rfl (decide_eq_false h1) (L_run (R_field (r := 0) rfl fld86_0 rfl) rfl (L_yes rfl rfl rfl (decide_eq_false h1) (L_run (R_load1 rfl scl3 (hb2.cell (i := 0) rfl)) rfl (L_yes rfl rfl rfl (decide_eq_false h1) (L_run (R_eql rfl rfl) rfl ?_)))))))))
    refine L_run (R_pickF rfl (decide_eq_false h1) rfl) rfl ?_
    refine L_nil (N_then (C_if rfl (fun h4 => ?_) (fun h4 => ?_)))
    ·refine C_seq (C_reg rfl ?_)
     refine L_run (R_build (pv := []) (cs := [.bool false, .slice none 0 0]) rfl (by kernel_rfl)) rfl ?_
     refine Lmv rfl rfl ?_
     refine L_stA (vs := [.bool false, .slice none 0 0]) rfl rfl rfl sz83 rfl hb3 rfl ?_
     intro w10 hb7 hs10 hz8
     replace hB := gb_trg hB hs10 ge3; replace ho3 := own_other ho3 hb3 rfl hs10
     refine Las rfl rfl (Las rfl rfl (Las rfl rfl (L_nil (N_then (C_ret (R_then ?_))))))
     refine rv4 (.inr rfl) Tryd.results42 (rvA (vs := [.bool false, .slice none 0 0]) rfl agg83 (At.pre (hb7.at_ 0) rfl) rfl) (rvT rfl) (rvT rfl) (rvT rfl) ?_
     have hf : feedN false bs k d = _ := fee_done (by first | (show k = 3 ∨ k = 4; omega) | (show k = 1 ∨ k = 2; omega) | (show ¬ (k = 3 ∨ k = 4); omega) | (show ¬ (k = 1 ∨ k = 2); omega)) (by first | omega | (simp only [List.length_append] at *; omega)) (by omega)
     exact ⟨hB, none, 0, A_2, c_2, by first | (rw [hf]; done) | (rw [hf]; rfl), by rw [hf]; exact (own_nil _ _ _ _), by rw [hf]; exact (own_lo ho3 ge4)⟩
    ·refine C_skip (N_then (C_seq (C_reg rfl ?_)))
     refine Lmv rfl rfl ?_
     refine L_run (R_build (pv := [(0, .bool true), (1, .slice A_2 ((bs ++ d).length) c_2)]) (cs := [.bool true, .slice A_2 ((bs ++ d).length) c_2]) rfl (by kernel_rfl)) rfl ?_
     refine L_stA (vs := [.bool true, .slice A_2 ((bs ++ d).length) c_2]) rfl rfl rfl sz83 rfl hb3 rfl ?_
     intro w11 hb8 hs11 hz9
     replace hB := gb_trg hB hs11 ge3; replace ho3 := own_other ho3 hb3 rfl hs11
     refine Las rfl rfl (Las rfl rfl (Las rfl rfl (L_nil (N_then (C_ret ?_)))))
     refine rv4 (.inr rfl) Tryd.results42 (rvA (vs := [.bool true, .slice A_2 ((bs ++ d).length) c_2]) rfl agg83 (At.pre (hb8.at_ 0) rfl) rfl) (rvT rfl) (rvT rfl) (rvT rfl) ?_
     have hf : feedN false bs k d = _ := fee_on (by first | (show k = 3 ∨ k = 4; omega) | (show k = 1 ∨ k = 2; omega) | (show ¬ (k = 3 ∨ k = 4); omega) | (show ¬ (k = 1 ∨ k = 2); omega)) (by first | omega | (simp only [List.length_append] at *; omega)) (by omega)
     exact ⟨hB, A_2, c_2, none, 0, by first | (rw [hf]; done) | (rw [hf]; rfl), by rw [hf]; exact (own_lo ho3 ge4), by rw [hf]; exact (own_nil _ _ _ _)⟩
 ·refine L_no rfl rfl rfl (decide_eq_false h1) rfl (L_no rfl rfl rfl (decide_eq_false h1) rfl (L_no rfl rfl rfl (decide_eq_false h1) rfl (L_yes rfl rfl rfl rfl (L_run (R_pickF rfl (decide_eq_false h1) rfl) rfl (L_run (R_pickF rfl rfl rfl) rfl (L_nil (N_then (C_condF rfl rfl (C_skip (N_then (C_seq ?_)))))))))))
  refine C_draw2 rfl mix ?_
  intro w12 hs12 hz10
  replace hB := gb_tr hB hs12; replace hS := hS.gb hs12; replace hD := hD.gb hs12; replace hb1 := hb1.gb hs12; replace hb2 := hb2.gb hs12; replace hb3 := hb3.gb hs12
  refine ⟨fun W_ => Blk W_ g1 83 [.bool false, .slice A bs.length c] ∧ Blk W_ g2 86 [.int .i64 ((k : Nat) : Int), .int .u32 ep, .slice A2 d.length c2] ∧ True, [1, 2, 4, 5, 7], ?_⟩
  refine T_tk (i := 1) rfl (Y_of (fun _ _ => R_field (r := 1) rfl fld83_1 rfl)) ⟨hb1, hb2, trivial⟩ rfl ?_
  refine T_tk (i := 2) rfl (Y_of (fun _ ⟨hb1, hb2, _⟩ => R_load1 rfl scl34 (hb1.cell (i := 1) rfl))) ⟨hb1, hb2, trivial⟩ rfl ?_
  refine T_tk (i := 4) rfl (Y_of (fun _ _ => R_field (r := 2) rfl fld86_2 rfl)) ⟨hb1, hb2, trivial⟩ rfl ?_
  refine T_tk (i := 5) rfl (Y_of (fun _ ⟨hb1, hb2, _⟩ => R_load1 rfl scl34 (hb2.cell (i := 2) rfl))) ⟨hb1, hb2, trivial⟩ rfl ?_
  refine T_all (rs := [0]) (by kernel_rfl) rfl (all1 (O_one rfl ?_))
  refine L_buildSlice (pv := []) (cs := []) slc34 zer5 rfl rfl (by kernel_rfl) rfl ?_
  intro g5 w13 eg5 hb9 hs13 hz11
  have ge5 : w.heap.size ≤ g5 := eg_ge hB eg5
  replace hB := gb_tr hB hs13; replace hS := hS.gb hs13; replace hD := hD.gb hs13; replace hb1 := hb1.gb hs13; replace hb2 := hb2.gb hs13; replace hb3 := hb3.gb hs13
  refine L_nil (N_then ⟨fun hN_ => ⟨hb1, hb2, trivial⟩, ?_⟩)
  refine T_all (rs := [3]) (by kernel_rfl) rfl (all1 (O_one rfl ?_))
  have hlo2 : g5 ≤ w13.heap.size := Nat.le_of_lt hb9.lt
  have ho4 : World.ownsRow w13 g5 5 1 (.slice (some ⟨g5, 0, none⟩) ([] : List UInt8).length 0) ([] : List UInt8).length (fl encB []) := Blk.own (sz := 1) (m := 0) hb9 (by decide) rfl (Nat.le_refl _)
  refine T_append (xs := []) (ys := bs) EncB slc34 rfl rfl ho4 hS (by first | omega | (simp; done) | (simp; omega)) hlo2 rfl ?_
  intro A_3 c_3 w14 ho5 hs14 hat3
  replace hB := gb_tro hB ho4 hs14 ge5; replace hD := hD.grown hs14 (fun k hk => .inr (Nat.le_trans ge5 (World.ownsRow.lt ho4 k hk).1)); replace hb1 := blk_own hb1 ho4 rfl hs14; replace hb2 := blk_own hb2 ho4 rfl hs14; replace hb3 := blk_own hb3 ho4 rfl hs14; replace hlo2 := Nat.le_trans hlo2 hs14.size
  simp only [List.nil_append] at ho5 ⊢
  refine L_nil (N_then ⟨fun hN_ => ⟨hb1, hb2, trivial⟩, ?_⟩)
  refine T_all (rs := [6]) (by kernel_rfl) rfl (all1 (O_one rfl ?_))
  refine T_append (xs := bs) (ys := d) EncB slc34 rfl rfl ho5 hD (by first | omega | (simp; done) | (simp; omega)) hlo2 rfl ?_
  intro A_4 c_4 w15 ho6 hs15 hat4
  replace hB := gb_tro hB ho5 hs15 ge5; replace hb1 := blk_own hb1 ho5 rfl hs15; replace hb2 := blk_own hb2 ho5 rfl hs15; replace hb3 := blk_own hb3 ho5 rfl hs15
  refine L_nil (N_then ⟨fun hN_ => ⟨hb1, hb2, trivial⟩, ?_⟩)
  refine T_tk (i := 7) rfl (Y_of (fun _ _ => R_assign rfl)) ⟨hb1, hb2, trivial⟩ rfl ?_
  refine T_done (by kernel_rfl) (CalmE.normal ?_)
  refine N_then (C_seq (C_seq (C_reg rfl ?_)))
  refine Lmv rfl rfl (L_run (R_lenSl rfl slc34) rfl (L_run (R_gtr rfl rfl) rfl (L_nil (N_then (C_if rfl (fun h5 => ?_) (fun h5 => ?_))))))
  ·refine C_seq (C_reg rfl ?_)
   refine L_run (R_build (pv := []) (cs := [.bool false, .slice none 0 0]) rfl (by kernel_rfl)) rfl ?_
   refine L_stA (vs := [.bool false, .slice none 0 0]) rfl rfl rfl sz83 rfl hb3 rfl ?_
   intro w16 hb10 hs16 hz12
   replace hB := gb_trg hB hs16 ge3
   refine Las rfl rfl (Las rfl rfl (Las rfl rfl (L_nil (N_then (C_ret (R_then ?_))))))
   refine rv4 (.inr rfl) Tryd.results42 (rvA (vs := [.bool false, .slice none 0 0]) rfl agg83 (At.pre (hb10.at_ 0) rfl) rfl) (rvT rfl) (rvT rfl) (rvT rfl) ?_
   have hf : feedN false bs k d = _ := fee_long (by first | (show k = 3 ∨ k = 4; omega) | (show k = 1 ∨ k = 2; omega) | (show ¬ (k = 3 ∨ k = 4); omega) | (show ¬ (k = 1 ∨ k = 2); omega)) (by first | omega | (simp only [List.length_append] at *; omega))
   exact ⟨hB, none, 0, none, 0, by first | (rw [hf]; done) | (rw [hf]; rfl), by rw [hf]; exact (own_nil _ _ _ _), by rw [hf]; exact (own_nil _ _ _ _)⟩
  ·refine C_skip (N_then (C_seq (C_seq (C_reg rfl ?_))))
   refine L_run (R_field (r := 0) rfl fld86_0 rfl) rfl (L_run (R_load1 rfl scl3 (hb2.cell (i := 0) rfl)) rfl (L_run (R_eql rfl rfl) rfl (Lmv rfl rfl (L_no rfl rfl rfl (decide_eq_true (Decidable.not_not.1 h1)) rfl (L_no rfl rfl rfl (decide_eq_true (Decidable.not_not.1 h1)) rfl (L_no rfl rfl rfl (decide_eq_true (Decidable.not_not.1 h1)) rfl (L_run (R_pickT rfl (decide_eq_true (Decidable.not_not.1 h1)) rfl) rfl ?_)))))))
   refine L_nil (N_then (C_condT rfl rfl (C_seq (C_reg rfl ?_))))
   refine L_run (R_build (pv := []) (cs := [.bool false, .slice none 0 0]) rfl (by kernel_rfl)) rfl ?_
   refine Lmv rfl rfl ?_
   refine L_stA (vs := [.bool false, .slice none 0 0]) rfl rfl rfl sz83 rfl hb3 rfl ?_
   intro w17 hb11 hs17 hz13
   replace hB := gb_trg hB hs17 ge3; replace ho6 := own_other ho6 hb3 rfl hs17
   refine Las rfl rfl (Las rfl rfl (Las rfl rfl (L_nil (N_then (C_ret (R_then ?_))))))
   refine rv4 (.inr rfl) Tryd.results42 (rvA (vs := [.bool false, .slice none 0 0]) rfl agg83 (At.pre (hb11.at_ 0) rfl) rfl) (rvT rfl) (rvT rfl) (rvT rfl) ?_
   have hf : feedN false bs k d = _ := fee_done (by first | (show k = 3 ∨ k = 4; omega) | (show k = 1 ∨ k = 2; omega) | (show ¬ (k = 3 ∨ k = 4); omega) | (show ¬ (k = 1 ∨ k = 2); omega)) (by first | omega | (simp only [List.length_append] at *; omega)) (by omega)
   exact ⟨hB, none, 0, A_4, c_4, by first | (rw [hf]; done) | (rw [hf]; rfl), by rw [hf]; exact (own_nil _ _ _ _), by rw [hf]; exact (own_lo ho6 ge5)⟩
theorem feed15_ok {w : World} {o : Bool} {lo hi lo2 hi2 : Nat} {A A2 : Option Addr} {c c2 k : Nat} {ep : Int} {bs d : List UInt8} (hS : Sli 5 lo hi w A (fl encB bs)) (hD : Sli 5 lo2 hi2 w A2 (fl encB d)) (hl : bs.length ≤ 1000000) (hd : d.length ≤ 1000000) :
    Runs Tryd.prog 42 #[.agg #[.bool o, .slice A bs.length c], .agg #[.int .i64 ((k : Nat) : Int), .int .u32 ep, .slice A2 d.length c2]] w (fun v w' => w.grownBy w' none ∧ ∃ A' c' A3 c3, v = .tuple #[.agg #[.bool (feedN o bs k d).1.1, .slice A' (feedN o bs k d).1.2.length c'], .slice A3 (feedN o bs k d).2.1.length c3, .bool (feedN o bs k d).2.2.1, .int .i64 (feedN o bs k d).2.2.2] ∧ World.ownsRow w' w.heap.size 5 1 (.slice A' ((feedN o bs k d).1.2).length c') ((feedN o bs k d).1.2).length (fl encB ((feedN o bs k d).1.2)) ∧ World.ownsRow w' w.heap.size 5 1 (.slice A3 ((feedN o bs k d).2.1).length c3) ((feedN o bs k d).2.1).length (fl encB ((feedN o bs k d).2.1))) := by
  cases o
  · exact feed15_f hS hD hl hd
  · exact feed15_t hS hD hl hd
end Go.Proofs.YtkjgjejkfjhcjaaDoor
namespace Go.Proofs.YtkjgjejkfjhcjaaDoor
open Go.RowKit Gw Pl
set_option linter.unusedVariables false
set_option linter.unusedSimpArgs false
theorem cb62 : callB Tryd.prog 62 = true := by kernel_rfl
theorem cb63 : callB Tryd.prog 63 = true := by kernel_rfl
theorem cb64 : callB Tryd.prog 64 = true := by kernel_rfl
section
variable {e a : Nat} {body : List UInt8} {ok : List Bool}
theorem acc_far (h : 832 < a + 11) : (accN e body ok a) = ((0, []), 0) := by unfold accN; rw [if_pos (.inl h)]
theorem acc_unc (h : covN ok (min a 832) (min (a + 11) 832) = false) : (accN e body ok a) = ((0, []), 0) := by
  rcases Nat.lt_or_ge 832 (a + 11) with h2 | h2
  · exact acc_far h2
  · rw [Nat.min_eq_left (by omega), Nat.min_eq_left (by omega)] at h
    unfold accN; rw [if_pos (.inr h)]
theorem acc_err (h : ¬ (fdec ((body.drop a).take (a + leftN a - a)) (e % 4294967296)).2.2 = 0) : (accN e body ok a) = ((0, []), 0) := by
  rw [Nat.add_sub_cancel_left] at h
  unfold accN
  split
  · rfl
  · rw [if_pos (.inl h)]
theorem acc_bnd (hb : body.length = 832) (ha : a ≤ 832) (h : (fdec ((body.drop a).take (a + leftN a - a)) (e % 4294967296)).2.2 = 0) : a + (fdec ((body.drop a).take (a + leftN a - a)) (e % 4294967296)).2.1 ≤ 832 ∧ 11 ≤ (fdec ((body.drop a).take (a + leftN a - a)) (e % 4294967296)).2.1 ∧ (fdec ((body.drop a).take (a + leftN a - a)) (e % 4294967296)).1.2.length + 11 = (fdec ((body.drop a).take (a + leftN a - a)) (e % 4294967296)).2.1 ∧ 1 ≤ (fdec ((body.drop a).take (a + leftN a - a)) (e % 4294967296)).1.1 ∧ (fdec ((body.drop a).take (a + leftN a - a)) (e % 4294967296)).1.1 ≤ 4 := by
  obtain ⟨a1, a2, a3, a4, a5, a6⟩ := fdec_ok h
  have hl := leftN_le ha
  rw [List.length_take, List.length_drop, hb] at a2
  exact ⟨by omega, a1, a4, a5, a6⟩
theorem acc_unc2 (hb : body.length = 832) (ha : a ≤ 832) (h : (fdec ((body.drop a).take (a + leftN a - a)) (e % 4294967296)).2.2 = 0) (h2 : covN ok (min a 832) (min (a + (fdec ((body.drop a).take (a + leftN a - a)) (e % 4294967296)).2.1) 832) = false) : (accN e body ok a) = ((0, []), 0) := by
  have h3 := acc_bnd hb ha h
  rw [Nat.min_eq_left ha, Nat.min_eq_left h3.1, Nat.add_sub_cancel_left] at h2
  unfold accN
  split
  · rfl
  · rw [if_pos (.inr h2)]
theorem acc_yes (hb : body.length = 832) (ha : a ≤ 832) (h1 : covN ok (min a 832) (min (a + 11) 832) = true) (h : (fdec ((body.drop a).take (a + leftN a - a)) (e % 4294967296)).2.2 = 0) (h2 : covN ok (min a 832) (min (a + (fdec ((body.drop a).take (a + leftN a - a)) (e % 4294967296)).2.1) 832) = true) : (accN e body ok a) = ((fdec ((body.drop a).take (a + leftN a - a)) (e % 4294967296)).1, (fdec ((body.drop a).take (a + leftN a - a)) (e % 4294967296)).2.1) := by
  have h3 := acc_bnd hb ha h
  have hl := leftN_le ha
  rw [Nat.min_eq_left ha, Nat.min_eq_left h3.1] at h2
  rw [Nat.min_eq_left ha, Nat.min_eq_left (by omega)] at h1
  rw [Nat.add_sub_cancel_left] at h h2 h3 ⊢
  unfold accN
  rw [if_neg (by rw [h1]; simp; omega), if_neg (by rw [h, h2]; simp)]
end
theorem flatB_n {ss : List Sx} {e : Nat} : (flatB (bsOf ss) e 16).length = 832 := by rw [flatB_len bsOf_len]
theorem flatO_n {ss : List Sx} {e : Nat} : (flatO (bsOf ss) e 16).length = 16 := flatO_len _ _ _
theorem acc_ok {w : World} {t1 lo hi t2 lo2 hi2 : Nat} {A A2 : Option Addr} {c c2 e a : Nat} {body : List UInt8} {oks : List Bool} (hS : Sli t1 lo hi w A (fl encB body)) (hO : Sli t2 lo2 hi2 w A2 (fl encO oks)) (hbl : body.length = 832) (hc : body.length ≤ c) (ha : a ≤ 832) :
    Runs Tryd.prog 41 #[.int .u64 (e : Int), .slice A body.length c, .slice A2 oks.length c2, .int .i64 (a : Int)] w (fun v w' => w.grownBy w' none ∧ ∃ E A' c', v = .tuple #[.agg #[.int .i64 (((accN e body oks a).1.1 : Nat) : Int), .int .u32 E, .slice A' (accN e body oks a).1.2.length c'], .int .i64 (((accN e body oks a).2 : Nat) : Int)] ∧ World.ownsRow w' w.heap.size 5 1 (.slice A' ((accN e body oks a).1.2).length c') ((accN e body oks a).1.2).length (fl encB ((accN e body oks a).1.2))) := by
 have hB := gb_refl w none
 have hll := leftN_le ha
 replace hS := hS.top; replace hO := hO.top
 refine enter Tryd.func41 Tryd.ntmps41 rfl rfl ?_
 refine C_seq (C_reg rfl ?_)
 refine L_alloc (cs := [.int .i64 0, .int .u32 0, .slice none 0 0]) zer86 rfl rfl ?_
 intro g1 w1 eg1 hb1 hs1 hz1
 have ge1 : w.heap.size ≤ g1 := eg_ge hB eg1
 replace hB := gb_tr hB hs1; replace hS := hS.gb hs1; replace hO := hO.gb hs1
 refine Las rfl rfl (L_nil (N_then (C_seq (C_seq (C_reg rfl (Lmv rfl rfl ?_))))))
 refine L_run (R_add64 rfl rfl (by first | omega | (have h_ := acc_bnd hbl ha (by assumption); omega))) rfl ?_
 refine L_run (R_gtr rfl rfl) rfl ?_
 refine Lmv rfl rfl ?_
 refine L_splitD (p := 832 < ((a : Int) + 11)) (fun h1 => ?_) (fun h1 => ?_)
 ·refine L_no rfl rfl rfl (decide_eq_true h1) rfl (L_no rfl rfl rfl (decide_eq_true h1) rfl (L_no rfl rfl rfl (decide_eq_true h1) rfl (L_no rfl rfl rfl (decide_eq_true h1) rfl (L_no rfl rfl rfl (decide_eq_true h1) rfl (L_no rfl rfl rfl (decide_eq_true h1) rfl (L_run (R_pickT rfl (decide_eq_true h1) rfl) rfl (L_nil (N_then (C_condT rfl rfl (C_seq (C_reg rfl ?_)))))))))))
  refine L_run (R_build (pv := []) (cs := [.int .i64 0, .int .u32 0, .slice none 0 0]) rfl (by kernel_rfl)) rfl ?_
  refine L_stA (vs := [.int .i64 0, .int .u32 0, .slice none 0 0]) rfl rfl rfl sz86 rfl hb1 rfl ?_
  intro w2 hb2 hs2 hz2
  replace hB := gb_trg hB hs2 ge1
  refine Las rfl rfl (L_nil (N_then (C_ret (R_then ?_))))
  refine retC1 (vs := [.int .i64 0, .int .u32 0, .slice none 0 0]) Tryd.results41 rfl agg86 (At.pre (hb2.at_ 0) rfl) rfl rfl ?_
  have hf : accN e body oks a = _ := acc_far (by omega)
  exact ⟨hB, 0, none, 0, by first | (rw [hf]; done) | (rw [hf]; rfl), by rw [hf]; exact own_nil _ _ _ _⟩
 ·refine L_yes rfl rfl rfl (decide_eq_false h1) (Lmv rfl rfl (L_yes rfl rfl rfl (decide_eq_false h1) (Lmv rfl rfl (L_yes rfl rfl rfl (decide_eq_false h1) (Lmv rfl rfl (L_yes rfl rfl rfl (decide_eq_false h1) ?_))))))
  refine L_run (R_add64 rfl rfl (by first | omega | (have h_ := acc_bnd hbl ha (by assumption); omega))) rfl ?_
  refine L_yes rfl rfl rfl (decide_eq_false h1) ?_
  refine L_call rfl cb62 (cov16 (ok := oks) (a := a) (b := (a + 11)) hO) rfl ?_
  rintro _ w3 ⟨hs3, rfl⟩
  replace hB := gb_tr hB hs3; replace hS := hS.gb hs3; replace hO := hO.gb hs3; replace hb1 := hb1.gb hs3
  refine L_yes rfl rfl rfl (decide_eq_false h1) (L_run (R_not rfl) rfl (L_run (R_pickF rfl (decide_eq_false h1) rfl) rfl (L_nil (N_then ?_))))
  refine C_cond rfl (fun h2 => ?_) (fun h2 => ?_)
  ·refine C_seq (C_reg rfl ?_)
   refine L_run (R_build (pv := []) (cs := [.int .i64 0, .int .u32 0, .slice none 0 0]) rfl (by kernel_rfl)) rfl ?_
   refine L_stA (vs := [.int .i64 0, .int .u32 0, .slice none 0 0]) rfl rfl rfl sz86 rfl hb1 rfl ?_
   intro w4 hb3 hs4 hz3
   replace hB := gb_trg hB hs4 ge1
   refine Las rfl rfl (L_nil (N_then (C_ret (R_then ?_))))
   refine retC1 (vs := [.int .i64 0, .int .u32 0, .slice none 0 0]) Tryd.results41 rfl agg86 (At.pre (hb3.at_ 0) rfl) rfl rfl ?_
   have hf : accN e body oks a = _ := acc_unc (by simpa using h2)
   exact ⟨hB, 0, none, 0, by first | (rw [hf]; done) | (rw [hf]; rfl), by rw [hf]; exact own_nil _ _ _ _⟩
  ·refine C_skip (N_then (C_seq (C_reg rfl ?_)))
   refine Lmv rfl rfl (Lmv rfl rfl (Lmv rfl rfl (Lmv rfl rfl ?_)))
   refine L_call rfl cb64 (left7 (n := a) (by first | omega | (simp; done) | (simp; omega))) rfl ?_
   rintro _ w5 ⟨hs5, rfl⟩
   replace hB := gb_tr hB hs5; replace hS := hS.gb hs5; replace hO := hO.gb hs5; replace hb1 := hb1.gb hs5
   refine L_run (R_add64 rfl rfl (by first | omega | (have h_ := acc_bnd hbl ha (by assumption); omega))) rfl ?_
   refine T_slLH (xs := body) (i := a) (j := (a + (leftN a))) EncB rfl rfl rfl (by first | rfl | omega) (by first | rfl | omega) slc34 (by first | omega | (simp; done) | (simp; omega)) (by first | omega | (simp; done) | (simp; omega)) (by first | omega | (simp; done) | (simp; omega)) hS rfl ?_
   intro A_1 hS_1
   refine Lmv rfl rfl ?_
   refine L_run (R_eqv (R_rem rfl rfl (by first | decide | omega)) (v' := .int .u64 ((e % 4294967296 : Nat) : Int)) (remU (k := 4294967296))) rfl ?_
   refine L_run (R_eqv (R_conv rfl any30 int75) (v' := .int .u32 ((e % 4294967296 : Nat) : Int)) (congrArg _ (by rw [IntKind.wrap_u32]; omega))) rfl ?_
   have ge2 : w.heap.size ≤ w5.heap.size := hB.size
   by_cases h3 : (fdec ((body.drop a).take ((a + (leftN a)) - a)) (e % 4294967296)).2.2 = 0
   ·refine L_call rfl cb63 (dec13_y (bs := (body.drop a).take ((a + (leftN a)) - a)) (ep := (e % 4294967296)) hS_1 (by simp only [List.length_take, List.length_drop]; omega) (by simp only [List.length_take, List.length_drop]; omega) (by omega)  h3) rfl ?_
    rintro _ w6 ⟨hs6, A_2, c_1, rfl, ho1⟩
    replace hB := gb_tr hB hs6; replace hO := hO.gb hs6; replace hb1 := hb1.gb hs6
    have hlo1 : w5.heap.size ≤ w6.heap.size := hs6.size
    refine Lmv rfl rfl (L_run (R_extract rfl rfl) rfl (L_run (R_extract rfl rfl) rfl (L_run (R_extract rfl rfl) rfl (L_alloc (cs := [.int .i64 0, .int .u32 0, .slice none 0 0]) zer86 rfl rfl ?_))))
    intro g2 w7 eg2 hb4 hs7 hz4
    have ge3 : w.heap.size ≤ g2 := eg_ge hB eg2
    have lt1 : g1 < g2 := lt_of_eg hb1.lt eg2
    replace hB := gb_tr hB hs7; replace hO := hO.gb hs7; replace hb1 := hb1.gb hs7; replace ho1 := own_gb ho1 hs7
    refine L_stA (vs := [.int .i64 (((fdec ((body.drop a).take ((a + (leftN a)) - a)) (e % 4294967296)).1.1 : Nat) : Int), .int .u32 ((e % 4294967296 : Nat) : Int), .slice A_2 (((fdec ((body.drop a).take ((a + (leftN a)) - a)) (e % 4294967296)).1.2).length) c_1]) rfl rfl rfl sz86 rfl hb4 rfl ?_
    intro w8 hb5 hs8 hz5
    replace hB := gb_trg hB hs8 ge3; replace hO := hO.old hs8 ge3; replace hb1 := hb1.grown hs8 (ne_lt lt1); replace ho1 := own_other ho1 hb4 rfl hs8
    refine Las rfl rfl (Las rfl rfl (L_nil (N_then (C_seq (C_seq (C_reg rfl (Lmv rfl rfl (L_run (R_eqv (R_neq rfl rfl) (v' := .bool false) rfl) rfl (Lmv rfl rfl (L_yes rfl rfl rfl rfl (Lmv rfl rfl (L_yes rfl rfl rfl rfl (Lmv rfl rfl (L_yes rfl rfl rfl rfl (Lmv rfl rfl (L_yes rfl rfl rfl rfl (Lmv rfl rfl (L_yes rfl rfl rfl rfl ?_))))))))))))))))))
    refine L_run (R_add64 rfl rfl (by first | omega | (have h_ := acc_bnd hbl ha (by assumption); omega))) rfl ?_
    refine L_yes rfl rfl rfl rfl ?_
    refine L_call rfl cb62 (cov16 (ok := oks) (a := a) (b := (a + ((fdec ((body.drop a).take ((a + (leftN a)) - a)) (e % 4294967296)).2.1))) hO) rfl ?_
    rintro _ w9 ⟨hs9, rfl⟩
    replace hB := gb_tr hB hs9; replace hb1 := hb1.gb hs9; replace ho1 := own_gb ho1 hs9; replace hb5 := hb5.gb hs9
    refine L_yes rfl rfl rfl rfl (L_run (R_not rfl) rfl (L_run (R_pickF rfl rfl rfl) rfl (L_nil (N_then ?_))))
    refine C_cond rfl (fun h4 => ?_) (fun h4 => ?_)
    ·refine C_seq (C_reg rfl ?_)
     refine L_run (R_build (pv := []) (cs := [.int .i64 0, .int .u32 0, .slice none 0 0]) rfl (by kernel_rfl)) rfl ?_
     refine L_stA (vs := [.int .i64 0, .int .u32 0, .slice none 0 0]) rfl rfl rfl sz86 rfl hb1 rfl ?_
     intro w10 hb6 hs10 hz6
     replace hB := gb_trg hB hs10 ge1
     refine Las rfl rfl (L_nil (N_then (C_ret (R_then ?_))))
     refine retC1 (vs := [.int .i64 0, .int .u32 0, .slice none 0 0]) Tryd.results41 rfl agg86 (At.pre (hb6.at_ 0) rfl) rfl rfl ?_
     have hf : accN e body oks a = _ := acc_unc2 hbl (by omega) h3 (by simpa using h4)
     exact ⟨hB, 0, none, 0, by first | (rw [hf]; done) | (rw [hf]; rfl), by rw [hf]; exact own_nil _ _ _ _⟩
    ·refine C_skip (N_then (C_seq (C_reg rfl ?_)))
     refine L_run (R_loadA (vs := [.int .i64 (((fdec ((body.drop a).take ((a + (leftN a)) - a)) (e % 4294967296)).1.1 : Nat) : Int), .int .u32 ((e % 4294967296 : Nat) : Int), .slice A_2 (((fdec ((body.drop a).take ((a + (leftN a)) - a)) (e % 4294967296)).1.2).length) c_1]) rfl agg86 (At.pre (hb5.at_ 0) rfl) rfl) rfl (Lmv rfl rfl ?_)
     refine L_stA (vs := [.int .i64 (((fdec ((body.drop a).take ((a + (leftN a)) - a)) (e % 4294967296)).1.1 : Nat) : Int), .int .u32 ((e % 4294967296 : Nat) : Int), .slice A_2 (((fdec ((body.drop a).take ((a + (leftN a)) - a)) (e % 4294967296)).1.2).length) c_1]) rfl rfl rfl sz86 rfl hb1 rfl ?_
     intro w11 hb7 hs11 hz7
     replace hB := gb_trg hB hs11 ge1; replace ho1 := own_other ho1 hb1 rfl hs11
     refine Las rfl rfl (L_nil (N_then (C_ret ?_)))
     refine retC1 (vs := [.int .i64 (((fdec ((body.drop a).take ((a + (leftN a)) - a)) (e % 4294967296)).1.1 : Nat) : Int), .int .u32 ((e % 4294967296 : Nat) : Int), .slice A_2 (((fdec ((body.drop a).take ((a + (leftN a)) - a)) (e % 4294967296)).1.2).length) c_1]) Tryd.results41 rfl agg86 (At.pre (hb7.at_ 0) rfl) rfl rfl ?_
     have hf : accN e body oks a = _ := acc_yes hbl (by omega) (by simpa using h2) h3 (by simpa using h4)
     exact ⟨hB, ((e % 4294967296 : Nat) : Int), A_2, c_1, by first | (rw [hf]; done) | (rw [hf]; rfl), by rw [hf]; exact (own_lo ho1 ge2)⟩
   ·refine L_call rfl cb63 (dec13_n (bs := (body.drop a).take ((a + (leftN a)) - a)) (ep := (e % 4294967296)) hS_1 (by simp only [List.length_take, List.length_drop]; omega) (by simp only [List.length_take, List.length_drop]; omega) (by omega)  h3) rfl ?_
    rintro _ w12 ⟨hs12, rfl⟩
    replace hB := gb_tr hB hs12; replace hb1 := hb1.gb hs12
    refine Lmv rfl rfl (L_run (R_extract rfl rfl) rfl (L_run (R_extract rfl rfl) rfl (L_run (R_extract rfl rfl) rfl (L_alloc (cs := [.int .i64 0, .int .u32 0, .slice none 0 0]) zer86 rfl rfl ?_))))
    intro g3 w13 eg3 hb8 hs13 hz8
    have ge4 : w.heap.size ≤ g3 := eg_ge hB eg3
    have lt2 : g1 < g3 := lt_of_eg hb1.lt eg3
    replace hB := gb_tr hB hs13; replace hb1 := hb1.gb hs13
    refine L_stA (vs := [.int .i64 0, .int .u32 0, .slice none 0 0]) rfl rfl rfl sz86 rfl hb8 rfl ?_
    intro w14 hb9 hs14 hz9
    replace hB := gb_trg hB hs14 ge4; replace hb1 := hb1.grown hs14 (ne_lt lt2)
    refine Las rfl rfl (Las rfl rfl (L_nil (N_then (C_seq (C_seq (C_reg rfl (Lmv rfl rfl (L_run (R_neq rfl rfl) rfl (Lmv rfl rfl (L_no rfl rfl rfl (decide_eq_true h3) rfl (L_no rfl rfl rfl (decide_eq_true h3) rfl (L_no rfl rfl rfl (decide_eq_true h3) rfl (L_no rfl rfl rfl (decide_eq_true h3) rfl (L_no rfl rfl rfl (decide_eq_true h3) rfl (L_no rfl rfl rfl (decide_eq_true h3) rfl (L_no rfl rfl rfl (decide_eq_true h3) rfl ?_))))))))))))))))
    refine L_run (R_pickT rfl (decide_eq_true h3) rfl) rfl ?_
    refine L_nil (N_then (C_condT rfl rfl (C_seq (C_reg rfl ?_))))
    refine L_run (R_build (pv := []) (cs := [.int .i64 0, .int .u32 0, .slice none 0 0]) rfl (by kernel_rfl)) rfl ?_
    refine L_stA (vs := [.int .i64 0, .int .u32 0, .slice none 0 0]) rfl rfl rfl sz86 rfl hb1 rfl ?_
    intro w15 hb10 hs15 hz10
    replace hB := gb_trg hB hs15 ge1
    refine Las rfl rfl (L_nil (N_then (C_ret (R_then ?_))))
    refine retC1 (vs := [.int .i64 0, .int .u32 0, .slice none 0 0]) Tryd.results41 rfl agg86 (At.pre (hb10.at_ 0) rfl) rfl rfl ?_
    have hf : accN e body oks a = _ := acc_err h3
    exact ⟨hB, 0, none, 0, by first | (rw [hf]; done) | (rw [hf]; rfl), by rw [hf]; exact own_nil _ _ _ _⟩
end Go.Proofs.YtkjgjejkfjhcjaaDoor
