/-
  Contracts of the reference of fragments: a fragment read.
-/
import Derived.Test.YtnggbodilhpohaaDoorSk
namespace Go.Proofs.YtnggbodilhpohaaDoor
open Go.RowKit Gw Pl
set_option linter.unusedVariables false
set_option linter.unusedSimpArgs false
theorem cb44 : callB Tryd.prog 44 = true := by kernel_rfl
theorem cb45 : callB Tryd.prog 45 = true := by kernel_rfl
theorem str9 : strB Tryd.prog 9 = true := by kernel_rfl
theorem getD_at {bs : List UInt8} {k : Nat} (h : k < bs.length) : bs[k] = bs.getD k 0 := by
  rw [List.getD_eq_getElem?_getD, List.getElem?_eq_getElem h]; rfl
theorem cv_b {bs : List UInt8} {k : Nat} (h : k < bs.length) : Value.int .i64 (IntKind.i64.wrap (bs[k].toNat : Int)) = .int .i64 (((bs.getD k 0).toNat : Nat) : Int) := by
  rw [getD_at h]
  exact conv3 (by have := (bs.getD k 0).toNat_lt; omega)
theorem len13 {bs : List UInt8} (h : ¬ bs.length < 11) : getN ((bs.drop 4).take 2) = (bs.getD 4 0).toNat + 256 * (bs.getD 5 0).toNat := by
  have e : (bs.drop 4).take 2 = [bs.getD 4 0, bs.getD 5 0] := by
    rw [List.drop_eq_getElem_cons (by omega : 4 < bs.length), List.drop_eq_getElem_cons (by omega : 5 < bs.length), getD_at, getD_at]; rfl
  rw [e]; rfl
theorem cv_ep13 {bs : List UInt8} : Value.int .u32 (IntKind.u32.wrap ((getN (((bs.drop 7).take (11 - 7)).take 8) : Nat) : Int)) = .int .u32 ((getN ((bs.drop 7).take 4) : Nat) : Int) := by
  have h := get_lt2 (bs := bs.drop 7) (k := 4)
  rw [show ((bs.drop 7).take (11 - 7)).take 8 = (bs.drop 7).take 4 by rw [List.take_take]; rfl]
  refine congrArg (Value.int .u32) ?_
  rw [IntKind.wrap_u32]
  omega
theorem zer_step {bs : List UInt8} {i : Nat} (hi : i < bs.length) : bs.take (i + 1) = List.replicate (i + 1) 0 ↔ bs.take i = List.replicate i 0 ∧ bs[i] = 0 := by
  rw [List.take_succ_eq_append_getElem hi, List.replicate_succ']
  constructor
  · intro h
    have h2 := List.append_inj h (by rw [List.length_take, List.length_replicate]; omega)
    exact ⟨h2.1, by simpa using h2.2⟩
  · rintro ⟨h1, h2⟩; rw [h1, h2]
theorem zs_t {bs : List UInt8} {i : Nat} (hi : i < bs.length) (h : ¬ bs.take i = List.replicate i 0) : Value.bool true = .bool (decide (¬ bs.take (i + 1) = List.replicate (i + 1) 0)) := by
  exact congrArg Value.bool (decide_eq_true (show ¬ bs.take (i + 1) = List.replicate (i + 1) 0 from fun q => h ((zer_step hi).1 q).1)).symm
theorem zs_f {bs : List UInt8} {i : Nat} (hi : i < bs.length) (h : bs.take i = List.replicate i 0) : Value.bool (decide ((bs[i].toNat : Int) ≠ 0)) = .bool (decide (¬ bs.take (i + 1) = List.replicate (i + 1) 0)) := by
  refine congrArg Value.bool (decide_eq_decide.2 ?_)
  rw [zer_step hi]
  have e : ((bs[i].toNat : Nat) : Int) = 0 ↔ bs[i] = 0 := by
    constructor
    · intro q; exact UInt8.toNat_inj.1 (by simpa using q)
    · intro q; rw [q]; rfl
  simp only [ne_eq, e, h, true_and]
theorem T13 {bs : List UInt8} (h1 : ¬ bs.length < 11) (h4 : ¬ bs.length < 11 + getN ((bs.drop 4).take 2)) :
    ((putN ((bs.drop 11).take (11 + getN ((bs.drop 4).take 2) - 11)).length 2 ++ [UInt8.ofNat (bs.getD 6 0).toNat]) ++ putN (getN ((bs.drop 7).take 4)) 4) ++ (bs.drop 11).take (11 + getN ((bs.drop 4).take 2) - 11)
      = (bs.drop 4).take (11 + getN ((bs.drop 4).take 2) - 4) := by
  have hl : ((bs.drop 11).take (11 + getN ((bs.drop 4).take 2) - 11)).length = getN ((bs.drop 4).take 2) := by rw [List.length_take, List.length_drop]; omega
  have e1 : putN (getN ((bs.drop 4).take 2)) 2 = (bs.drop 4).take 2 := by
    have := putN_getN ((bs.drop 4).take 2)
    rwa [show ((bs.drop 4).take 2).length = 2 by rw [List.length_take, List.length_drop]; omega] at this
  have e2 : putN (getN ((bs.drop 7).take 4)) 4 = (bs.drop 7).take 4 := by
    have := putN_getN ((bs.drop 7).take 4)
    rwa [show ((bs.drop 7).take 4).length = 4 by rw [List.length_take, List.length_drop]; omega] at this
  have e3 : [UInt8.ofNat (bs.getD 6 0).toNat] = (bs.drop 6).take 1 := by
    rw [UInt8.ofNat_toNat, List.drop_eq_getElem_cons (by omega : 6 < bs.length), getD_at]; rfl
  rw [hl, e1, e2, e3]
  have c : ∀ (a i j : Nat), (bs.drop a).take i ++ (bs.drop (a + i)).take j = (bs.drop a).take (i + j) := by
    intro a i j
    rw [List.take_add, List.drop_drop]
  generalize getN ((bs.drop 4).take 2) = n
  rw [c 4 2 1, c 4 (2 + 1) 4, c 4 (2 + 1 + 4) (11 + n - 11)]
  congr 1
  omega
theorem b13_eq {bs : List UInt8} (h1 : ¬ bs.length < 11) (h4 : ¬ bs.length < 11 + getN ((bs.drop 4).take 2)) {T : List UInt8}
    (hT : T = ((putN ((bs.drop 11).take (11 + getN ((bs.drop 4).take 2) - 11)).length 2 ++ [UInt8.ofNat (bs.getD 6 0).toNat]) ++ putN (getN ((bs.drop 7).take 4)) 4) ++ (bs.drop 11).take (11 + getN ((bs.drop 4).take 2) - 11)) :
    putN (maskN (moreN 0 T)) 4 ++ T = bs.take (11 + getN ((bs.drop 4).take 2)) ↔ getN (bs.take 4) = maskN (moreN 0 ((bs.drop 4).take (11 + getN ((bs.drop 4).take 2) - 4))) := by
  rw [hT, T13 h1 h4]
  have e : bs.take (11 + getN ((bs.drop 4).take 2)) = bs.take 4 ++ (bs.drop 4).take (11 + getN ((bs.drop 4).take 2) - 4) := by
    rw [← List.take_add]; congr 1; omega
  rw [e]
  generalize (bs.drop 4).take (11 + getN ((bs.drop 4).take 2) - 4) = T'
  have h := putN_eq (bs := bs.take 4) (n := maskN (moreN 0 T')) (k := 4) (by rw [List.length_take]; omega) (by unfold maskN; omega)
  constructor
  · intro q
    exact h.1 (List.append_inj q (by rw [putN_len, List.length_take]; omega)).1
  · intro q
    rw [h.2 q]
theorem dec13_ok {w : World} {t1 lo hi : Nat} {A : Option Addr} {c ep : Nat} {bs : List UInt8} (hS : Sli t1 lo hi w A (fl encB bs)) (hb : bs.length ≤ 1000000) (hc : bs.length ≤ c) (hep : ep < 4294967296) :
    Runs Tryd.prog 27 #[.slice A bs.length c, .int .u32 (ep : Int)] w (fun v w' => w.grownBy w' none ∧ (((fdec bs ep).2.2 = 0 ∧ ∃ A' c', v = .tuple #[.agg #[.int .i64 (((fdec bs ep).1.1 : Nat) : Int), .int .u32 (ep : Int), .slice A' (fdec bs ep).1.2.length c'], .int .i64 (((fdec bs ep).2.1 : Nat) : Int), .int .i64 0] ∧ World.ownsRow w' w.heap.size 5 1 (.slice A' (fdec bs ep).1.2.length c') (fdec bs ep).1.2.length (fl encB (fdec bs ep).1.2)) ∨ ((fdec bs ep).2.2 ≠ 0 ∧ v = .tuple #[.agg #[.int .i64 0, .int .u32 0, .slice none 0 0], .int .i64 0, .int .i64 (fdec bs ep).2.2]))) := by
  have hB := gb_refl w none
  have hgla := get_lt2 (bs := bs.drop 4) (k := 2)
  have hglb := get_lt2 (bs := bs.drop 7) (k := 4)
  have hgda := (bs.getD 4 0).toNat_lt
  have hgdb := (bs.getD 5 0).toNat_lt
  have hgdc := (bs.getD 6 0).toNat_lt
  replace hS := hS.top
  refine enter Tryd.func27 Tryd.ntmps27 rfl rfl ?_
  refine C_seq (C_reg rfl ?_)
  refine L_alloc (cs := [.int .i64 0, .int .u32 0, .slice none 0 0]) zer43 rfl rfl ?_
  intro g1 w1 eg1 hb1 hs1 hz1
  have ge1 : w.heap.size ≤ g1 := eg_ge hB eg1
  replace hB := gb_tr hB hs1
  replace hS := hS.gb hs1
  refine L_run (R_assign rfl) rfl ?_
  refine L_run (R_assign rfl) rfl ?_
  refine L_nil (N_then (C_seq (C_seq (C_reg rfl ?_))))
  refine L_run (R_move rfl) rfl ?_
  refine L_run (R_lenSl rfl slc25) rfl ?_
  refine L_run (R_lss rfl rfl) rfl ?_
  refine L_nil (N_then ?_)
  refine C_if rfl (fun h1 => ?_) (fun h1 => ?_)
  · refine C_seq (C_reg rfl ?_)
    refine L_run (R_build (pv := []) (cs := [.int .i64 0, .int .u32 0, .slice none 0 0]) rfl (by kernel_rfl)) rfl ?_
    refine L_stA (vs := [.int .i64 0, .int .u32 0, .slice none 0 0]) rfl rfl rfl sz43 rfl hb1 rfl ?_
    intro w2 hb2 hs2 hz2
    replace hB := gb_trg hB hs2 ge1
    replace hS := hS.old hs2 ge1
    refine L_run (R_assign rfl) rfl ?_
    refine L_run (R_assign rfl) rfl ?_
    refine L_nil (N_then (C_ret (R_then ?_)))
    refine retC2 (vs := [.int .i64 0, .int .u32 0, .slice none 0 0]) Tryd.results27 rfl agg43 (At.pre (hb2.at_ 0) rfl) rfl rfl rfl ?_
    first
      | (exfalso; omega)
      | (have hf : fdec bs ep = ((0, []), 0, 1) := by first | exact fd_short (by omega) | exact fd_cut (by omega) (by first | assumption | exact Decidable.not_not.1 (by assumption)) (by omega) (by omega)
         exact ⟨hB, .inr ⟨by rw [hf]; decide, by rw [hf]⟩⟩)
  · refine C_skip (N_then (C_seq (C_reg rfl ?_)))
    refine L_run (R_assign rfl) rfl ?_
    refine L_nil (N_then (C_seq (C_seq (C_reg rfl ?_))))
    refine L_run (R_assign rfl) rfl ?_
    refine L_nil (N_then (C_block ?_))
    refine C_loop (fun m_ a_ w_ => ∃ (σ_ : Nat → Value) (i : Nat), a_ = Ac 94 σ_ [] [(0, .slice A bs.length c), (1, .int .u32 (ep : Int)), (4, .pointer (some ⟨g1, 0, none⟩)), (5, .int .i64 0), (6, .int .i64 0), (7, .bool (decide (¬ (bs.take i = List.replicate i 0)))), (8, .int .i64 (i : Int))] ∧ w.grownBy w_ none ∧ Sli t1 lo w.heap.size w_ A (fl encB bs) ∧ Blk w_ g1 43 [.int .i64 0, .int .u32 0, .slice none 0 0] ∧ (i ≤ 11) ∧ 11 - i = m_) (11 - 0) ?_ ?_
    · exact ⟨_, 0, Ac_frg ⟨rfl, rfl, rfl, rfl, rfl, (agr rfl (by simp)), (agr rfl (by first | rfl | (congr 1; omega) | (congr 1; simp; done) | (congr 1; simp only [IntKind.wrap_u64, IntKind.wrap_i64, IntKind.wrap_u8]; omega) | (congr 1 <;> omega))), trivial⟩, hB, hS, hb1, (by omega), rfl⟩
    · clear hB
      clear hS hb1
      rintro m_ a_ w3 ⟨σ_, i, rfl, hB, hS, hb1, hi, rfl⟩
      refine C_seq (C_seq (C_reg rfl ?_))
      refine L_run (R_move rfl) rfl ?_
      refine L_run (R_lss rfl rfl) rfl ?_
      refine L_nil (N_then ?_)
      refine C_if rfl (fun h2 => ?_) (fun h2 => ?_)
      · refine C_skip (N_then (C_seq (C_block (C_reg rfl ?_))))
        refine L_run (R_move rfl) rfl ?_
        refine L_run (R_move rfl) rfl ?_
        refine L_splitN (p := bs.take i = List.replicate i 0) (fun h3 => ?_) (fun h3 => ?_)
        · refine L_no rfl rfl rfl (decide_eq_true h3) rfl ?_
          refine L_no rfl rfl rfl (decide_eq_true h3) rfl ?_
          refine L_no rfl rfl rfl (decide_eq_true h3) rfl ?_
          refine L_no rfl rfl rfl (decide_eq_true h3) rfl ?_
          refine L_no rfl rfl rfl (decide_eq_true h3) rfl ?_
          refine L_run (R_pickT rfl (decide_eq_true h3) rfl) rfl ?_
          refine L_run (R_assign rfl) rfl ?_
          refine L_nil (N_in (N_then (C_reg rfl ?_)))
          refine L_run (R_move rfl) rfl ?_
          refine L_run (R_add64 rfl rfl (by omega)) rfl ?_
          refine L_run (R_assign rfl) rfl ?_
          refine L_nil (N_then ?_)
          exact ⟨11 - (i + 1), by omega, _, (i + 1), Ac_frg ⟨rfl, rfl, rfl, rfl, rfl, (agr rfl (zs_t (by omega) h3)), (agr rfl (by first | rfl | (congr 1; omega) | (congr 1; simp; done) | (congr 1; simp only [IntKind.wrap_u64, IntKind.wrap_i64, IntKind.wrap_u8]; omega) | (congr 1 <;> omega))), trivial⟩, hB, hS, hb1, (by omega), rfl⟩
        · refine L_yes rfl rfl rfl (decide_eq_false (fun hn => hn h3)) ?_
          refine L_run (R_move rfl) rfl ?_
          refine L_yes rfl rfl rfl (decide_eq_false (fun hn => hn h3)) ?_
          refine L_run (R_move rfl) rfl ?_
          refine L_yes rfl rfl rfl (decide_eq_false (fun hn => hn h3)) ?_
          have hl1 : i < bs.length := by first | omega | (simp; omega)
          refine T_index (xs := bs) (i := i) EncB rfl rfl (by first | rfl | omega) slc25 hl1 hS rfl ?_
          intro g2 o1 ha1
          refine L_yes rfl rfl rfl (decide_eq_false (fun hn => hn h3)) ?_
          refine L_run (R_load1 rfl scl5 (ha1 0 _ rfl)) rfl ?_
          refine L_yes rfl rfl rfl (decide_eq_false (fun hn => hn h3)) ?_
          refine L_run (R_neq rfl rfl) rfl ?_
          refine L_run (R_pickF rfl (decide_eq_false (fun hn => hn h3)) rfl) rfl ?_
          refine L_run (R_assign rfl) rfl ?_
          refine L_nil (N_in (N_then (C_reg rfl ?_)))
          refine L_run (R_move rfl) rfl ?_
          refine L_run (R_add64 rfl rfl (by omega)) rfl ?_
          refine L_run (R_assign rfl) rfl ?_
          refine L_nil (N_then ?_)
          exact ⟨11 - (i + 1), by omega, _, (i + 1), Ac_frg ⟨rfl, rfl, rfl, rfl, rfl, (agr rfl (zs_f (by omega) h3)), (agr rfl (by first | rfl | (congr 1; omega) | (congr 1; simp; done) | (congr 1; simp only [IntKind.wrap_u64, IntKind.wrap_i64, IntKind.wrap_u8]; omega) | (congr 1 <;> omega))), trivial⟩, hB, hS, hb1, (by omega), rfl⟩
      · refine C_exit (X_then (X_then (X_hit (N_then (C_seq (C_seq (C_reg rfl ?_)))))))
        refine L_run (R_move rfl) rfl ?_
        refine L_run (R_notD rfl) rfl ?_
        refine L_nil (N_then ?_)
        refine C_ifN rfl (fun h4 => ?_) (fun h4 => ?_)
        · refine C_seq (C_reg rfl ?_)
          refine L_run (R_build (pv := []) (cs := [.int .i64 0, .int .u32 0, .slice none 0 0]) rfl (by kernel_rfl)) rfl ?_
          refine L_stA (vs := [.int .i64 0, .int .u32 0, .slice none 0 0]) rfl rfl rfl sz43 rfl hb1 rfl ?_
          intro w4 hb3 hs3 hz3
          replace hB := gb_trg hB hs3 ge1
          replace hS := hS.old hs3 ge1
          refine L_run (R_assign rfl) rfl ?_
          refine L_run (R_assign rfl) rfl ?_
          refine L_nil (N_then (C_ret (R_then ?_)))
          refine retC2 (vs := [.int .i64 0, .int .u32 0, .slice none 0 0]) Tryd.results27 rfl agg43 (At.pre (hb3.at_ 0) rfl) rfl rfl rfl ?_
          obtain rfl : i = 11 := by omega
          first
            | (exfalso; omega)
            | (have hf : fdec bs ep = ((0, []), 0, 7) := by first | exact fd_none (by omega) (by first | assumption | exact Decidable.not_not.1 (by assumption))
               exact ⟨hB, .inr ⟨by rw [hf]; decide, by rw [hf]⟩⟩)
        · refine C_skip (N_then (C_seq ?_))
          refine C_draw2 rfl mix ?_
          intro w5 hs4 hz4
          replace hB := gb_tr hB hs4
          replace hS := hS.gb hs4
          replace hb1 := hb1.gb hs4
          have hl2 : 4 < bs.length := by first | omega | (simp; omega)
          obtain ⟨g3, o2, r1, eA1, er1, ha2⟩ := Sli.place' (xs := bs) (i := 4) EncB hS hl2 rfl
          have hl3 : 5 < bs.length := by first | omega | (simp; omega)
          obtain ⟨g4, o3, r2, eA2, er2, ha3⟩ := Sli.place' (xs := bs) (i := 5) EncB hS hl3 rfl
          refine ⟨fun W_ => At W_ g3 r1 [.int .u8 ((bs[4]).toNat : Int)] ∧ At W_ g4 r2 [.int .u8 ((bs[5]).toNat : Int)] ∧ True, [0, 1, 2, 3, 4, 5, 6, 7, 8, 9, 10], ?_⟩
          refine T_takeA (i := 0) rfl rfl (by kernel_rfl) (by kernel_rfl) (by kernel_rfl) (Y_of (fun _ ⟨ha2, ha3, _⟩ => R_move rfl)) ⟨ha2, ha3, trivial⟩ rfl ?_
          refine T_takeA (i := 1) rfl rfl (by kernel_rfl) (by kernel_rfl) (by kernel_rfl) (Y_of (fun _ ⟨ha2, ha3, _⟩ => R_indexE rfl rfl (by first | rfl | omega) slc25 hl2 eA1 er1)) ⟨ha2, ha3, trivial⟩ rfl ?_
          refine T_takeA (i := 2) rfl rfl (by kernel_rfl) (by kernel_rfl) (by kernel_rfl) (Y_of (fun _ ⟨ha2, ha3, _⟩ => R_load1 rfl scl5 (ha2 0 _ rfl))) ⟨ha2, ha3, trivial⟩ rfl ?_
          refine T_takeA (i := 3) rfl rfl (by kernel_rfl) (by kernel_rfl) (by kernel_rfl) (Y_of (fun _ ⟨ha2, ha3, _⟩ => R_eqv (R_conv rfl any5 int3) (v' := .int .i64 (((bs.getD 4 0).toNat : Nat) : Int)) (cv_b (by omega)))) ⟨ha2, ha3, trivial⟩ rfl ?_
          refine T_takeA (i := 4) rfl rfl (by kernel_rfl) (by kernel_rfl) (by kernel_rfl) (Y_of (fun _ ⟨ha2, ha3, _⟩ => R_move rfl)) ⟨ha2, ha3, trivial⟩ rfl ?_
          refine T_takeA (i := 5) rfl rfl (by kernel_rfl) (by kernel_rfl) (by kernel_rfl) (Y_of (fun _ ⟨ha2, ha3, _⟩ => R_indexE rfl rfl (by first | rfl | omega) slc25 hl3 eA2 er2)) ⟨ha2, ha3, trivial⟩ rfl ?_
          refine T_takeA (i := 6) rfl rfl (by kernel_rfl) (by kernel_rfl) (by kernel_rfl) (Y_of (fun _ ⟨ha2, ha3, _⟩ => R_load1 rfl scl5 (ha3 0 _ rfl))) ⟨ha2, ha3, trivial⟩ rfl ?_
          refine T_takeA (i := 7) rfl rfl (by kernel_rfl) (by kernel_rfl) (by kernel_rfl) (Y_of (fun _ ⟨ha2, ha3, _⟩ => R_eqv (R_conv rfl any5 int3) (v' := .int .i64 (((bs.getD 5 0).toNat : Nat) : Int)) (cv_b (by omega)))) ⟨ha2, ha3, trivial⟩ rfl ?_
          refine T_takeA (i := 8) rfl rfl (by kernel_rfl) (by kernel_rfl) (by kernel_rfl) (Y_of (fun _ ⟨ha2, ha3, _⟩ => R_mul64 rfl rfl (by omega))) ⟨ha2, ha3, trivial⟩ rfl ?_
          refine T_takeA (i := 9) rfl rfl (by kernel_rfl) (by kernel_rfl) (by kernel_rfl) (Y_of (fun _ ⟨ha2, ha3, _⟩ => R_eqv (R_add64 rfl rfl (by omega)) (v' := .int .i64 ((getN ((bs.drop 4).take 2) : Nat) : Int)) (congrArg _ (by rw [len13 (by omega)]; omega)))) ⟨ha2, ha3, trivial⟩ rfl ?_
          refine T_takeA (i := 10) rfl rfl (by kernel_rfl) (by kernel_rfl) (by kernel_rfl) (Y_of (fun _ ⟨ha2, ha3, _⟩ => R_assign rfl)) ⟨ha2, ha3, trivial⟩ rfl ?_
          refine T_done (by kernel_rfl) (CalmE.normal ?_)
          refine N_then (C_seq ?_)
          refine C_join (fun a_ w_ => (∃ (σ_ : Nat → Value) (g6 : Nat), a_ = Ac 94 σ_ [] [(0, .slice A bs.length c), (1, .int .u32 (ep : Int)), (4, .pointer (some ⟨g1, 0, none⟩)), (5, .int .i64 0), (6, .int .i64 0), (7, .bool (decide (¬ (bs.take i = List.replicate i 0)))), (8, .int .i64 (i : Int)), (9, .int .i64 ((getN ((bs.drop 4).take 2) : Nat) : Int)), (10, .pointer (some ⟨g6, 0, none⟩)), (15, .int .i64 (i : Int)), (16, .bool (decide ((i : Int) < 11))), (27, .bool (decide (¬ (bs.take i = List.replicate i 0)))), (28, .bool (decide (¬ (¬ (bs.take i = List.replicate i 0))))), (30, .slice A bs.length c), (31, .pointer (some ⟨g3, r1, none⟩)), (32, .int .u8 ((bs[4]).toNat : Int)), (33, .int .i64 (((bs.getD 4 0).toNat : Nat) : Int)), (34, .slice A bs.length c), (35, .pointer (some ⟨g4, r2, none⟩)), (36, .int .u8 ((bs[5]).toNat : Int)), (37, .int .i64 (((bs.getD 5 0).toNat : Nat) : Int)), (38, .int .i64 (256 * (((bs.getD 5 0).toNat : Nat) : Int))), (39, .int .i64 ((getN ((bs.drop 4).take 2) : Nat) : Int))] ∧ w.grownBy w_ none ∧ Sli t1 lo w.heap.size w_ A (fl encB bs) ∧ Blk w_ g1 43 [.int .i64 0, .int .u32 0, .slice none 0 0] ∧ Blk w_ g6 43 [.int .i64 (((bs.getD 6 0).toNat : Nat) : Int), .int .u32 ((getN ((bs.drop 7).take 4) : Nat) : Int), .slice none 0 0] ∧ w.heap.size ≤ g6 ∧ g1 < g6)) ?_ ?_
          · refine C_draw2 rfl mix ?_
            intro w6 hs5 hz5
            replace hB := gb_tr hB hs5
            replace hS := hS.gb hs5
            replace hb1 := hb1.gb hs5
            replace ha2 := At.gb ha2 hs5 (by simp)
            replace ha3 := At.gb ha3 hs5 (by simp)
            have hl4 : 6 < bs.length := by first | omega | (simp; omega)
            obtain ⟨g5, o4, r3, eA3, er3, ha4⟩ := Sli.place' (xs := bs) (i := 6) EncB hS hl4 rfl
            refine ⟨fun W_ => At W_ g5 r3 [.int .u8 ((bs[6]).toNat : Int)] ∧ True, [0, 1, 2, 3, 4, 7, 8], ?_⟩
            refine T_takeA (i := 0) rfl rfl (by kernel_rfl) (by kernel_rfl) (by kernel_rfl) (Y_of (fun _ ⟨ha4, _⟩ => R_move rfl)) ⟨ha4, trivial⟩ rfl ?_
            refine T_takeA (i := 1) rfl rfl (by kernel_rfl) (by kernel_rfl) (by kernel_rfl) (Y_of (fun _ ⟨ha4, _⟩ => R_indexE rfl rfl (by first | rfl | omega) slc25 hl4 eA3 er3)) ⟨ha4, trivial⟩ rfl ?_
            refine T_takeA (i := 2) rfl rfl (by kernel_rfl) (by kernel_rfl) (by kernel_rfl) (Y_of (fun _ ⟨ha4, _⟩ => R_load1 rfl scl5 (ha4 0 _ rfl))) ⟨ha4, trivial⟩ rfl ?_
            refine T_takeA (i := 3) rfl rfl (by kernel_rfl) (by kernel_rfl) (by kernel_rfl) (Y_of (fun _ ⟨ha4, _⟩ => R_eqv (R_conv rfl any5 int3) (v' := .int .i64 (((bs.getD 6 0).toNat : Nat) : Int)) (cv_b (by omega)))) ⟨ha4, trivial⟩ rfl ?_
            refine T_takeA (i := 4) rfl rfl (by kernel_rfl) (by kernel_rfl) (by kernel_rfl) (Y_of (fun _ ⟨ha4, _⟩ => R_move rfl)) ⟨ha4, trivial⟩ rfl ?_
            refine T_all (rs := [5, 9]) (by kernel_rfl) rfl (all2 (O_one rfl ?_) (O_one rfl ?_))
            · refine T_slLH (xs := bs) (i := 7) (j := 11) EncB rfl rfl rfl (by first | rfl | omega) (by first | rfl | omega) slc25 (by first | omega | (simp; done) | (simp; omega)) (by first | omega | (simp; done) | (simp; omega)) (by first | omega | (simp; done) | (simp; omega)) hS rfl ?_
              intro A_1 hS_1
              refine L_nil (N_then ⟨fun hN_ => ⟨ha4, trivial⟩, ?_⟩)
              refine T_all (rs := [6, 9]) (by kernel_rfl) rfl (all2 (O_one rfl ?_) (O_one rfl ?_))
              · refine L_call rfl cb44 (ref1_get (bs := (bs.drop 7).take (11 - 7)) hS_1 (by simp only [List.length_take, List.length_drop]; omega)) rfl ?_
                rintro _ w7 ⟨hs6, rfl⟩
                replace hB := gb_tr hB hs6
                replace hS := hS.gb hs6
                replace hb1 := hb1.gb hs6
                replace ha2 := At.gb ha2 hs6 (by simp)
                replace ha3 := At.gb ha3 hs6 (by simp)
                replace ha4 := At.gb ha4 hs6 (by simp)
                replace hS_1 := hS_1.gb hs6
                refine L_nil (N_then ⟨fun hN_ => ⟨ha4, trivial⟩, ?_⟩)
                refine T_takeA (i := 7) rfl rfl (by kernel_rfl) (by kernel_rfl) (by kernel_rfl) (Y_of (fun _ ⟨ha4, _⟩ => R_eqv (R_conv rfl any22 int41) (v' := .int .u32 ((getN ((bs.drop 7).take 4) : Nat) : Int)) (cv_ep13))) ⟨ha4, trivial⟩ rfl ?_
                refine T_takeA (i := 8) rfl rfl (by kernel_rfl) (by kernel_rfl) (by kernel_rfl) (Y_of (fun _ ⟨ha4, _⟩ => R_build (pv := [(0, .int .i64 (((bs.getD 6 0).toNat : Nat) : Int)), (1, .int .u32 ((getN ((bs.drop 7).take 4) : Nat) : Int))]) (cs := [.int .i64 (((bs.getD 6 0).toNat : Nat) : Int), .int .u32 ((getN ((bs.drop 7).take 4) : Nat) : Int), .slice none 0 0]) rfl (by kernel_rfl))) ⟨ha4, trivial⟩ rfl ?_
                refine T_all (rs := [9]) (by kernel_rfl) rfl (all1 (O_one rfl ?_))
                refine L_alloc (cs := [.int .i64 0, .int .u32 0, .slice none 0 0]) zer43 rfl rfl ?_
                intro g6 w8 eg2 hb4 hs7 hz6
                have ge2 : w.heap.size ≤ g6 := eg_ge hB eg2
                have lt1 : g1 < g6 := lt_of_eg hb1.lt eg2
                replace hB := gb_tr hB hs7
                replace hS := hS.gb hs7
                replace hb1 := hb1.gb hs7
                replace ha2 := At.gb ha2 hs7 (by simp)
                replace ha3 := At.gb ha3 hs7 (by simp)
                replace ha4 := At.gb ha4 hs7 (by simp)
                replace hS_1 := hS_1.gb hs7
                refine L_nil (N_then ⟨fun hN_ => ⟨ha4, trivial⟩, ?_⟩)
                refine T_switch (S' := fun _ => True) (qs' := []) (by kernel_rfl) ?_
                refine T_all (rs := [10]) (by kernel_rfl) rfl (all1 (O_one rfl ?_))
                refine L_stA (vs := [.int .i64 (((bs.getD 6 0).toNat : Nat) : Int), .int .u32 ((getN ((bs.drop 7).take 4) : Nat) : Int), .slice none 0 0]) rfl rfl rfl sz43 rfl hb4 rfl ?_
                intro w9 hb5 hs8 hz7
                replace hB := gb_trg hB hs8 ge2
                replace hS := hS.old hs8 ge2
                replace hb1 := hb1.grown hs8 (ne_lt lt1)
                replace hS_1 := hS_1.old hs8 ge2
                refine L_nil (N_then ⟨fun hN_ => trivial, ?_⟩)
                refine T_done (by kernel_rfl) (CalmE.normal ?_)
                exact ⟨rfl, ⟨_, g6, Ac_frg ⟨rfl, rfl, rfl, rfl, rfl, rfl, rfl, rfl, rfl, rfl, rfl, rfl, rfl, rfl, rfl, rfl, rfl, rfl, rfl, rfl, rfl, rfl, rfl, trivial⟩, hB, hS, hb1, hb5, ge2, lt1⟩⟩
              · refine L_alloc (cs := [.int .i64 0, .int .u32 0, .slice none 0 0]) zer43 rfl rfl ?_
                intro g7 w10 eg3 hb6 hs9 hz8
                have ge3 : w.heap.size ≤ g7 := eg_ge hB eg3
                have lt2 : g1 < g7 := lt_of_eg hb1.lt eg3
                replace hB := gb_tr hB hs9
                replace hS := hS.gb hs9
                replace hb1 := hb1.gb hs9
                replace ha2 := At.gb ha2 hs9 (by simp)
                replace ha3 := At.gb ha3 hs9 (by simp)
                replace ha4 := At.gb ha4 hs9 (by simp)
                replace hS_1 := hS_1.gb hs9
                refine L_nil (N_then ⟨fun hN_ => ⟨ha4, trivial⟩, ?_⟩)
                refine T_all (rs := [6]) (by kernel_rfl) rfl (all1 (O_one rfl ?_))
                refine L_call rfl cb44 (ref1_get (bs := (bs.drop 7).take (11 - 7)) hS_1 (by simp only [List.length_take, List.length_drop]; omega)) rfl ?_
                rintro _ w11 ⟨hs10, rfl⟩
                replace hB := gb_tr hB hs10
                replace hS := hS.gb hs10
                replace hb1 := hb1.gb hs10
                replace ha2 := At.gb ha2 hs10 (by simp)
                replace ha3 := At.gb ha3 hs10 (by simp)
                replace ha4 := At.gb ha4 hs10 (by simp)
                replace hS_1 := hS_1.gb hs10
                replace hb6 := hb6.gb hs10
                refine L_nil (N_then ⟨fun hN_ => ⟨ha4, trivial⟩, ?_⟩)
                refine T_takeA (i := 7) rfl rfl (by kernel_rfl) (by kernel_rfl) (by kernel_rfl) (Y_of (fun _ ⟨ha4, _⟩ => R_eqv (R_conv rfl any22 int41) (v' := .int .u32 ((getN ((bs.drop 7).take 4) : Nat) : Int)) (cv_ep13))) ⟨ha4, trivial⟩ rfl ?_
                refine T_takeA (i := 8) rfl rfl (by kernel_rfl) (by kernel_rfl) (by kernel_rfl) (Y_of (fun _ ⟨ha4, _⟩ => R_build (pv := [(0, .int .i64 (((bs.getD 6 0).toNat : Nat) : Int)), (1, .int .u32 ((getN ((bs.drop 7).take 4) : Nat) : Int))]) (cs := [.int .i64 (((bs.getD 6 0).toNat : Nat) : Int), .int .u32 ((getN ((bs.drop 7).take 4) : Nat) : Int), .slice none 0 0]) rfl (by kernel_rfl))) ⟨ha4, trivial⟩ rfl ?_
                refine T_switch (S' := fun _ => True) (qs' := []) (by kernel_rfl) ?_
                refine T_all (rs := [10]) (by kernel_rfl) rfl (all1 (O_one rfl ?_))
                refine L_stA (vs := [.int .i64 (((bs.getD 6 0).toNat : Nat) : Int), .int .u32 ((getN ((bs.drop 7).take 4) : Nat) : Int), .slice none 0 0]) rfl rfl rfl sz43 rfl hb6 rfl ?_
                intro w12 hb7 hs11 hz9
                replace hB := gb_trg hB hs11 ge3
                replace hS := hS.old hs11 ge3
                replace hb1 := hb1.grown hs11 (ne_lt lt2)
                replace hS_1 := hS_1.old hs11 ge3
                refine L_nil (N_then ⟨fun hN_ => trivial, ?_⟩)
                refine T_done (by kernel_rfl) (CalmE.normal ?_)
                exact ⟨rfl, ⟨_, g7, Ac_frg ⟨rfl, rfl, rfl, rfl, rfl, rfl, rfl, rfl, rfl, rfl, rfl, rfl, rfl, rfl, rfl, rfl, rfl, rfl, rfl, rfl, rfl, rfl, rfl, trivial⟩, hB, hS, hb1, hb7, ge3, lt2⟩⟩
            · refine L_alloc (cs := [.int .i64 0, .int .u32 0, .slice none 0 0]) zer43 rfl rfl ?_
              intro g8 w13 eg4 hb8 hs12 hz10
              have ge4 : w.heap.size ≤ g8 := eg_ge hB eg4
              have lt3 : g1 < g8 := lt_of_eg hb1.lt eg4
              replace hB := gb_tr hB hs12
              replace hS := hS.gb hs12
              replace hb1 := hb1.gb hs12
              replace ha2 := At.gb ha2 hs12 (by simp)
              replace ha3 := At.gb ha3 hs12 (by simp)
              replace ha4 := At.gb ha4 hs12 (by simp)
              refine L_nil (N_then ⟨fun hN_ => ⟨ha4, trivial⟩, ?_⟩)
              refine T_all (rs := [5]) (by kernel_rfl) rfl (all1 (O_one rfl ?_))
              refine T_slLH (xs := bs) (i := 7) (j := 11) EncB rfl rfl rfl (by first | rfl | omega) (by first | rfl | omega) slc25 (by first | omega | (simp; done) | (simp; omega)) (by first | omega | (simp; done) | (simp; omega)) (by first | omega | (simp; done) | (simp; omega)) hS rfl ?_
              intro A_2 hS_2
              refine L_nil (N_then ⟨fun hN_ => ⟨ha4, trivial⟩, ?_⟩)
              refine T_all (rs := [6]) (by kernel_rfl) rfl (all1 (O_one rfl ?_))
              refine L_call rfl cb44 (ref1_get (bs := (bs.drop 7).take (11 - 7)) hS_2 (by simp only [List.length_take, List.length_drop]; omega)) rfl ?_
              rintro _ w14 ⟨hs13, rfl⟩
              replace hB := gb_tr hB hs13
              replace hS := hS.gb hs13
              replace hb1 := hb1.gb hs13
              replace ha2 := At.gb ha2 hs13 (by simp)
              replace ha3 := At.gb ha3 hs13 (by simp)
              replace ha4 := At.gb ha4 hs13 (by simp)
              replace hb8 := hb8.gb hs13
              replace hS_2 := hS_2.gb hs13
              refine L_nil (N_then ⟨fun hN_ => ⟨ha4, trivial⟩, ?_⟩)
              refine T_takeA (i := 7) rfl rfl (by kernel_rfl) (by kernel_rfl) (by kernel_rfl) (Y_of (fun _ ⟨ha4, _⟩ => R_eqv (R_conv rfl any22 int41) (v' := .int .u32 ((getN ((bs.drop 7).take 4) : Nat) : Int)) (cv_ep13))) ⟨ha4, trivial⟩ rfl ?_
              refine T_takeA (i := 8) rfl rfl (by kernel_rfl) (by kernel_rfl) (by kernel_rfl) (Y_of (fun _ ⟨ha4, _⟩ => R_build (pv := [(0, .int .i64 (((bs.getD 6 0).toNat : Nat) : Int)), (1, .int .u32 ((getN ((bs.drop 7).take 4) : Nat) : Int))]) (cs := [.int .i64 (((bs.getD 6 0).toNat : Nat) : Int), .int .u32 ((getN ((bs.drop 7).take 4) : Nat) : Int), .slice none 0 0]) rfl (by kernel_rfl))) ⟨ha4, trivial⟩ rfl ?_
              refine T_switch (S' := fun _ => True) (qs' := []) (by kernel_rfl) ?_
              refine T_all (rs := [10]) (by kernel_rfl) rfl (all1 (O_one rfl ?_))
              refine L_stA (vs := [.int .i64 (((bs.getD 6 0).toNat : Nat) : Int), .int .u32 ((getN ((bs.drop 7).take 4) : Nat) : Int), .slice none 0 0]) rfl rfl rfl sz43 rfl hb8 rfl ?_
              intro w15 hb9 hs14 hz11
              replace hB := gb_trg hB hs14 ge4
              replace hS := hS.old hs14 ge4
              replace hb1 := hb1.grown hs14 (ne_lt lt3)
              replace hS_2 := hS_2.old hs14 ge4
              refine L_nil (N_then ⟨fun hN_ => trivial, ?_⟩)
              refine T_done (by kernel_rfl) (CalmE.normal ?_)
              exact ⟨rfl, ⟨_, g8, Ac_frg ⟨rfl, rfl, rfl, rfl, rfl, rfl, rfl, rfl, rfl, rfl, rfl, rfl, rfl, rfl, rfl, rfl, rfl, rfl, rfl, rfl, rfl, rfl, rfl, trivial⟩, hB, hS, hb1, hb9, ge4, lt3⟩⟩
          · clear hB
            clear hS hb1 ha2 ha3
            rintro a_ w16 ⟨σ_, g6, rfl, hB, hS, hb1, hj1, ge5, lt4⟩
            refine N_then (C_seq (C_seq (C_reg rfl ?_)))
            refine L_run (R_move rfl) rfl ?_
            refine L_run (R_gtr rfl rfl) rfl ?_
            refine L_run (R_move rfl) rfl ?_
            refine L_splitD (p := 197 < ((getN ((bs.drop 4).take 2) : Nat) : Int)) (fun h5 => ?_) (fun h5 => ?_)
            · refine L_no rfl rfl rfl (decide_eq_true h5) rfl ?_
              refine L_no rfl rfl rfl (decide_eq_true h5) rfl ?_
              refine L_no rfl rfl rfl (decide_eq_true h5) rfl ?_
              refine L_run (R_pickT rfl (decide_eq_true h5) rfl) rfl ?_
              refine L_run (R_move rfl) rfl ?_
              refine L_no rfl rfl rfl rfl rfl ?_
              refine L_no rfl rfl rfl rfl rfl ?_
              refine L_no rfl rfl rfl rfl rfl ?_
              refine L_run (R_pickT rfl rfl rfl) rfl ?_
              refine L_run (R_move rfl) rfl ?_
              refine L_no rfl rfl rfl rfl rfl ?_
              refine L_no rfl rfl rfl rfl rfl ?_
              refine L_no rfl rfl rfl rfl rfl ?_
              refine L_no rfl rfl rfl rfl rfl ?_
              refine L_run (R_pickT rfl rfl rfl) rfl ?_
              refine L_nil (N_then (C_condT rfl rfl (C_seq (C_reg rfl ?_))))
              refine L_run (R_build (pv := []) (cs := [.int .i64 0, .int .u32 0, .slice none 0 0]) rfl (by kernel_rfl)) rfl ?_
              refine L_stA (vs := [.int .i64 0, .int .u32 0, .slice none 0 0]) rfl rfl rfl sz43 rfl hb1 rfl ?_
              intro w17 hb10 hs15 hz12
              replace hB := gb_trg hB hs15 ge1
              replace hS := hS.old hs15 ge1
              replace hj1 := hj1.grown hs15 (ne_gt lt4)
              refine L_run (R_assign rfl) rfl ?_
              refine L_run (R_assign rfl) rfl ?_
              refine L_nil (N_then (C_ret (R_then ?_)))
              refine retC2 (vs := [.int .i64 0, .int .u32 0, .slice none 0 0]) Tryd.results27 rfl agg43 (At.pre (hb10.at_ 0) rfl) rfl rfl rfl ?_
              obtain rfl : i = 11 := by omega
              first
                | (exfalso; omega)
                | (have hf : fdec bs ep = ((0, []), 0, 2) := by first | exact fd_form (by omega) (by first | assumption | exact Decidable.not_not.1 (by assumption)) (by omega)
                   exact ⟨hB, .inr ⟨by rw [hf]; decide, by rw [hf]⟩⟩)
            · refine L_yes rfl rfl rfl (decide_eq_false h5) ?_
              refine L_run (R_field (r := 0) rfl fld43_0 rfl) rfl ?_
              refine L_yes rfl rfl rfl (decide_eq_false h5) ?_
              refine L_run (R_load1 rfl scl3 (hj1.cell (i := 0) rfl)) rfl ?_
              refine L_yes rfl rfl rfl (decide_eq_false h5) ?_
              refine L_run (R_lss rfl rfl) rfl ?_
              refine L_run (R_pickF rfl (decide_eq_false h5) rfl) rfl ?_
              refine L_run (R_move rfl) rfl ?_
              refine L_splitD (p := (((bs.getD 6 0).toNat : Nat) : Int) < 1) (fun h6 => ?_) (fun h6 => ?_)
              · refine L_no rfl rfl rfl (decide_eq_true h6) rfl ?_
                refine L_no rfl rfl rfl (decide_eq_true h6) rfl ?_
                refine L_no rfl rfl rfl (decide_eq_true h6) rfl ?_
                refine L_run (R_pickT rfl (decide_eq_true h6) rfl) rfl ?_
                refine L_run (R_move rfl) rfl ?_
                refine L_no rfl rfl rfl rfl rfl ?_
                refine L_no rfl rfl rfl rfl rfl ?_
                refine L_no rfl rfl rfl rfl rfl ?_
                refine L_no rfl rfl rfl rfl rfl ?_
                refine L_run (R_pickT rfl rfl rfl) rfl ?_
                refine L_nil (N_then (C_condT rfl rfl (C_seq (C_reg rfl ?_))))
                refine L_run (R_build (pv := []) (cs := [.int .i64 0, .int .u32 0, .slice none 0 0]) rfl (by kernel_rfl)) rfl ?_
                refine L_stA (vs := [.int .i64 0, .int .u32 0, .slice none 0 0]) rfl rfl rfl sz43 rfl hb1 rfl ?_
                intro w18 hb11 hs16 hz13
                replace hB := gb_trg hB hs16 ge1
                replace hS := hS.old hs16 ge1
                replace hj1 := hj1.grown hs16 (ne_gt lt4)
                refine L_run (R_assign rfl) rfl ?_
                refine L_run (R_assign rfl) rfl ?_
                refine L_nil (N_then (C_ret (R_then ?_)))
                refine retC2 (vs := [.int .i64 0, .int .u32 0, .slice none 0 0]) Tryd.results27 rfl agg43 (At.pre (hb11.at_ 0) rfl) rfl rfl rfl ?_
                obtain rfl : i = 11 := by omega
                first
                  | (exfalso; omega)
                  | (have hf : fdec bs ep = ((0, []), 0, 2) := by first | exact fd_form (by omega) (by first | assumption | exact Decidable.not_not.1 (by assumption)) (by omega)
                     exact ⟨hB, .inr ⟨by rw [hf]; decide, by rw [hf]⟩⟩)
              · refine L_yes rfl rfl rfl (decide_eq_false h6) ?_
                refine L_run (R_field (r := 0) rfl fld43_0 rfl) rfl ?_
                refine L_yes rfl rfl rfl (decide_eq_false h6) ?_
                refine L_run (R_load1 rfl scl3 (hj1.cell (i := 0) rfl)) rfl ?_
                refine L_yes rfl rfl rfl (decide_eq_false h6) ?_
                refine L_run (R_gtr rfl rfl) rfl ?_
                refine L_run (R_pickF rfl (decide_eq_false h6) rfl) rfl ?_
                refine L_run (R_move rfl) rfl ?_
                refine L_splitD (p := 4 < (((bs.getD 6 0).toNat : Nat) : Int)) (fun h7 => ?_) (fun h7 => ?_)
                · refine L_no rfl rfl rfl (decide_eq_true h7) rfl ?_
                  refine L_no rfl rfl rfl (decide_eq_true h7) rfl ?_
                  refine L_no rfl rfl rfl (decide_eq_true h7) rfl ?_
                  refine L_no rfl rfl rfl (decide_eq_true h7) rfl ?_
                  refine L_run (R_pickT rfl (decide_eq_true h7) rfl) rfl ?_
                  refine L_nil (N_then (C_condT rfl rfl (C_seq (C_reg rfl ?_))))
                  refine L_run (R_build (pv := []) (cs := [.int .i64 0, .int .u32 0, .slice none 0 0]) rfl (by kernel_rfl)) rfl ?_
                  refine L_stA (vs := [.int .i64 0, .int .u32 0, .slice none 0 0]) rfl rfl rfl sz43 rfl hb1 rfl ?_
                  intro w19 hb12 hs17 hz14
                  replace hB := gb_trg hB hs17 ge1
                  replace hS := hS.old hs17 ge1
                  replace hj1 := hj1.grown hs17 (ne_gt lt4)
                  refine L_run (R_assign rfl) rfl ?_
                  refine L_run (R_assign rfl) rfl ?_
                  refine L_nil (N_then (C_ret (R_then ?_)))
                  refine retC2 (vs := [.int .i64 0, .int .u32 0, .slice none 0 0]) Tryd.results27 rfl agg43 (At.pre (hb12.at_ 0) rfl) rfl rfl rfl ?_
                  obtain rfl : i = 11 := by omega
                  first
                    | (exfalso; omega)
                    | (have hf : fdec bs ep = ((0, []), 0, 2) := by first | exact fd_form (by omega) (by first | assumption | exact Decidable.not_not.1 (by assumption)) (by omega)
                       exact ⟨hB, .inr ⟨by rw [hf]; decide, by rw [hf]⟩⟩)
                · refine L_yes rfl rfl rfl (decide_eq_false h7) ?_
                  refine L_run (R_field (r := 1) rfl fld43_1 rfl) rfl ?_
                  refine L_yes rfl rfl rfl (decide_eq_false h7) ?_
                  refine L_run (R_load1 rfl scl41 (hj1.cell (i := 1) rfl)) rfl ?_
                  refine L_yes rfl rfl rfl (decide_eq_false h7) ?_
                  refine L_run (R_move rfl) rfl ?_
                  refine L_yes rfl rfl rfl (decide_eq_false h7) ?_
                  refine L_run (R_neq rfl rfl) rfl ?_
                  refine L_run (R_pickF rfl (decide_eq_false h7) rfl) rfl ?_
                  refine L_nil (N_then ?_)
                  refine C_if rfl (fun h8 => ?_) (fun h8 => ?_)
                  · refine C_seq (C_reg rfl ?_)
                    refine L_run (R_build (pv := []) (cs := [.int .i64 0, .int .u32 0, .slice none 0 0]) rfl (by kernel_rfl)) rfl ?_
                    refine L_stA (vs := [.int .i64 0, .int .u32 0, .slice none 0 0]) rfl rfl rfl sz43 rfl hb1 rfl ?_
                    intro w20 hb13 hs18 hz15
                    replace hB := gb_trg hB hs18 ge1
                    replace hS := hS.old hs18 ge1
                    replace hj1 := hj1.grown hs18 (ne_gt lt4)
                    refine L_run (R_assign rfl) rfl ?_
                    refine L_run (R_assign rfl) rfl ?_
                    refine L_nil (N_then (C_ret (R_then ?_)))
                    refine retC2 (vs := [.int .i64 0, .int .u32 0, .slice none 0 0]) Tryd.results27 rfl agg43 (At.pre (hb13.at_ 0) rfl) rfl rfl rfl ?_
                    obtain rfl : i = 11 := by omega
                    first
                      | (exfalso; omega)
                      | (have hf : fdec bs ep = ((0, []), 0, 2) := by first | exact fd_form (by omega) (by first | assumption | exact Decidable.not_not.1 (by assumption)) (by omega)
                         exact ⟨hB, .inr ⟨by rw [hf]; decide, by rw [hf]⟩⟩)
                  · refine C_skip (N_then (C_seq (C_seq (C_reg rfl ?_))))
                    refine L_run (R_move rfl) rfl ?_
                    refine L_run (R_lenSl rfl slc25) rfl ?_
                    refine L_run (R_move rfl) rfl ?_
                    refine L_run (R_eqv (R_add64 rfl rfl (by omega)) (v' := .int .i64 ((11 + getN ((bs.drop 4).take 2) : Nat) : Int)) (congrArg _ (by omega))) rfl ?_
                    refine L_run (R_lss rfl rfl) rfl ?_
                    refine L_nil (N_then ?_)
                    refine C_if rfl (fun h9 => ?_) (fun h9 => ?_)
                    · refine C_seq (C_reg rfl ?_)
                      refine L_run (R_build (pv := []) (cs := [.int .i64 0, .int .u32 0, .slice none 0 0]) rfl (by kernel_rfl)) rfl ?_
                      refine L_stA (vs := [.int .i64 0, .int .u32 0, .slice none 0 0]) rfl rfl rfl sz43 rfl hb1 rfl ?_
                      intro w21 hb14 hs19 hz16
                      replace hB := gb_trg hB hs19 ge1
                      replace hS := hS.old hs19 ge1
                      replace hj1 := hj1.grown hs19 (ne_gt lt4)
                      refine L_run (R_assign rfl) rfl ?_
                      refine L_run (R_assign rfl) rfl ?_
                      refine L_nil (N_then (C_ret (R_then ?_)))
                      refine retC2 (vs := [.int .i64 0, .int .u32 0, .slice none 0 0]) Tryd.results27 rfl agg43 (At.pre (hb14.at_ 0) rfl) rfl rfl rfl ?_
                      obtain rfl : i = 11 := by omega
                      first
                        | (exfalso; omega)
                        | (have hf : fdec bs ep = ((0, []), 0, 1) := by first | exact fd_short (by omega) | exact fd_cut (by omega) (by first | assumption | exact Decidable.not_not.1 (by assumption)) (by omega) (by omega)
                           exact ⟨hB, .inr ⟨by rw [hf]; decide, by rw [hf]⟩⟩)
                    · refine C_skip (N_then (C_seq (C_reg rfl ?_)))
                      refine L_buildSlice (pv := []) (cs := []) slc25 zer5 rfl rfl (by kernel_rfl) rfl ?_
                      intro g9 w22 eg5 hb15 hs20 hz17
                      have ge6 : w.heap.size ≤ g9 := eg_ge hB eg5
                      have lt5 : g1 < g9 := lt_of_eg hb1.lt eg5
                      have lt6 : g6 < g9 := lt_of_eg hj1.lt eg5
                      replace hB := gb_tr hB hs20
                      replace hS := hS.gb hs20
                      replace hb1 := hb1.gb hs20
                      replace hj1 := hj1.gb hs20
                      refine L_run (R_move rfl) rfl ?_
                      refine L_run (R_move rfl) rfl ?_
                      refine L_run (R_eqv (R_add64 rfl rfl (by omega)) (v' := .int .i64 ((11 + getN ((bs.drop 4).take 2) : Nat) : Int)) (congrArg _ (by omega))) rfl ?_
                      refine T_slLH (xs := bs) (i := 11) (j := (11 + getN ((bs.drop 4).take 2))) EncB rfl rfl rfl (by first | rfl | omega) (by first | rfl | omega) slc25 (by first | omega | (simp; done) | (simp; omega)) (by first | omega | (simp; done) | (simp; omega)) (by first | omega | (simp; done) | (simp; omega)) hS rfl ?_
                      intro A_3 hS_3
                      have hlo1 : g9 ≤ w22.heap.size := Nat.le_of_lt hb15.lt
                      have ho1 : World.ownsRow w22 g9 5 1 (.slice (some ⟨g9, 0, none⟩) ([] : List UInt8).length 0) ([] : List UInt8).length (fl encB []) := Blk.own (sz := 1) (m := 0) hb15 (by decide) rfl (Nat.le_refl _)
                      refine T_append (xs := []) (ys := (bs.drop 11).take ((11 + getN ((bs.drop 4).take 2)) - 11)) EncB slc25 rfl rfl ho1 hS_3 (by first | omega | (simp; done) | (simp; omega)) hlo1 rfl ?_
                      intro A_4 c_1 w23 ho2 hs21 hat1
                      replace hB := gb_tro hB ho1 hs21 ge6
                      replace hS := hS.grown hs21 (fun k hk => .inr (Nat.le_trans ge6 (World.ownsRow.lt ho1 k hk).1))
                      replace hb1 := blk_own hb1 ho1 rfl hs21
                      replace hj1 := blk_own hj1 ho1 rfl hs21
                      replace hS_3 := hS_3.grown hs21 (fun k hk => .inr (Nat.le_trans ge6 (World.ownsRow.lt ho1 k hk).1))
                      replace hlo1 := Nat.le_trans hlo1 hs21.size
                      simp only [List.nil_append] at ho2 ⊢
                      refine L_run (R_field (r := 2) rfl fld43_2 rfl) rfl ?_
                      refine L_st1 rfl rfl rfl sz25 hj1 rfl ?_
                      intro w24 hb16 hs22 hz18
                      replace hB := gb_trg hB hs22 ge5
                      replace hS := hS.old hs22 ge5
                      replace hb1 := hb1.grown hs22 (ne_lt lt4)
                      replace hS_3 := hS_3.old hs22 ge5
                      replace hlo1 := Nat.le_trans hlo1 hs22.size
                      replace ho2 := own_other ho2 hj1 rfl hs22
                      refine L_nil (N_then (C_seq (C_seq ?_)))
                      refine C_join (fun a_ w_ => (∃ (σ_ : Nat → Value), a_ = Ac 94 σ_ [] [(0, .slice A bs.length c), (1, .int .u32 (ep : Int)), (4, .pointer (some ⟨g1, 0, none⟩)), (5, .int .i64 0), (6, .int .i64 0), (7, .bool (decide (¬ (bs.take i = List.replicate i 0)))), (8, .int .i64 (i : Int)), (9, .int .i64 ((getN ((bs.drop 4).take 2) : Nat) : Int)), (10, .pointer (some ⟨g6, 0, none⟩)), (15, .int .i64 (i : Int)), (16, .bool (decide ((i : Int) < 11))), (27, .bool (decide (¬ (bs.take i = List.replicate i 0)))), (28, .bool (decide (¬ (¬ (bs.take i = List.replicate i 0))))), (30, .slice A bs.length c), (31, .pointer (some ⟨g3, r1, none⟩)), (32, .int .u8 ((bs[4]).toNat : Int)), (33, .int .i64 (((bs.getD 4 0).toNat : Nat) : Int)), (34, .slice A bs.length c), (35, .pointer (some ⟨g4, r2, none⟩)), (36, .int .u8 ((bs[5]).toNat : Int)), (37, .int .i64 (((bs.getD 5 0).toNat : Nat) : Int)), (38, .int .i64 (256 * (((bs.getD 5 0).toNat : Nat) : Int))), (39, .int .i64 ((getN ((bs.drop 4).take 2) : Nat) : Int)), (49, .int .i64 ((getN ((bs.drop 4).take 2) : Nat) : Int)), (50, .bool (decide (197 < ((getN ((bs.drop 4).take 2) : Nat) : Int)))), (51, .bool (decide (197 < ((getN ((bs.drop 4).take 2) : Nat) : Int)))), (52, .pointer (some ⟨g6, 0, none⟩)), (53, .int .i64 (((bs.getD 6 0).toNat : Nat) : Int)), (54, .bool (decide ((((bs.getD 6 0).toNat : Nat) : Int) < 1))), (55, .bool (decide ((((bs.getD 6 0).toNat : Nat) : Int) < 1))), (56, .bool (decide ((((bs.getD 6 0).toNat : Nat) : Int) < 1))), (57, .pointer (some ⟨g6, 0, none⟩)), (58, .int .i64 (((bs.getD 6 0).toNat : Nat) : Int)), (59, .bool (decide (4 < (((bs.getD 6 0).toNat : Nat) : Int)))), (60, .bool (decide (4 < (((bs.getD 6 0).toNat : Nat) : Int)))), (61, .bool (decide (4 < (((bs.getD 6 0).toNat : Nat) : Int)))), (62, .pointer (some ⟨g6, 1, none⟩)), (63, .int .u32 ((getN ((bs.drop 7).take 4) : Nat) : Int)), (64, .int .u32 (ep : Int)), (65, .bool (decide (((getN ((bs.drop 7).take 4) : Nat) : Int) ≠ (ep : Int)))), (66, .bool (decide (((getN ((bs.drop 7).take 4) : Nat) : Int) ≠ (ep : Int)))), (68, .slice A bs.length c), (69, .int .i64 (bs.length : Int)), (70, .int .i64 ((getN ((bs.drop 4).take 2) : Nat) : Int)), (71, .int .i64 ((11 + getN ((bs.drop 4).take 2) : Nat) : Int)), (72, .bool (decide ((bs.length : Int) < ((11 + getN ((bs.drop 4).take 2) : Nat) : Int)))), (74, .slice (some ⟨g9, 0, none⟩) 0 0), (75, .slice A bs.length c), (76, .int .i64 ((getN ((bs.drop 4).take 2) : Nat) : Int)), (77, .int .i64 ((11 + getN ((bs.drop 4).take 2) : Nat) : Int)), (78, .slice A_3 (((bs.drop 11).take ((11 + getN ((bs.drop 4).take 2)) - 11)).length) (c - 11)), (79, .slice A_4 (((bs.drop 11).take ((11 + getN ((bs.drop 4).take 2)) - 11)).length) c_1), (80, .pointer (some ⟨g6, 2, none⟩)), (89, .bool (decide (¬ ((putN (maskN (moreN 0 (((putN (((bs.drop 11).take ((11 + getN ((bs.drop 4).take 2)) - 11)).length) 2 ++ [UInt8.ofNat ((bs.getD 6 0).toNat)]) ++ putN (getN ((bs.drop 7).take 4)) 4) ++ ((bs.drop 11).take ((11 + getN ((bs.drop 4).take 2)) - 11))))) 4 ++ (((putN (((bs.drop 11).take ((11 + getN ((bs.drop 4).take 2)) - 11)).length) 2 ++ [UInt8.ofNat ((bs.getD 6 0).toNat)]) ++ putN (getN ((bs.drop 7).take 4)) 4) ++ ((bs.drop 11).take ((11 + getN ((bs.drop 4).take 2)) - 11)))) = (bs.take (11 + getN ((bs.drop 4).take 2)))))))] ∧ w.grownBy w_ none ∧ Sli t1 lo w.heap.size w_ A (fl encB bs) ∧ Blk w_ g1 43 [.int .i64 0, .int .u32 0, .slice none 0 0] ∧ Blk w_ g6 43 [.int .i64 (((bs.getD 6 0).toNat : Nat) : Int), .int .u32 ((getN ((bs.drop 7).take 4) : Nat) : Int), .slice A_4 (((bs.drop 11).take ((11 + getN ((bs.drop 4).take 2)) - 11)).length) c_1] ∧ Sli t1 lo w.heap.size w_ A_3 (fl encB ((bs.drop 11).take ((11 + getN ((bs.drop 4).take 2)) - 11))) ∧ World.ownsRow w_ w.heap.size 5 1 (.slice A_4 ((bs.drop 11).take ((11 + getN ((bs.drop 4).take 2)) - 11)).length c_1) ((bs.drop 11).take ((11 + getN ((bs.drop 4).take 2)) - 11)).length (fl encB ((bs.drop 11).take ((11 + getN ((bs.drop 4).take 2)) - 11))))) ?_ ?_
                      · refine C_draw2 rfl mix ?_
                        intro w25 hs23 hz19
                        replace hB := gb_tr hB hs23
                        replace hS := hS.gb hs23
                        replace hb1 := hb1.gb hs23
                        replace hb16 := hb16.gb hs23
                        replace hS_3 := hS_3.gb hs23
                        replace hlo1 := Nat.le_trans hlo1 hs23.size
                        replace ho2 := own_gb ho2 hs23
                        refine ⟨fun W_ => Blk W_ g6 43 [.int .i64 (((bs.getD 6 0).toNat : Nat) : Int), .int .u32 ((getN ((bs.drop 7).take 4) : Nat) : Int), .slice A_4 (((bs.drop 11).take ((11 + getN ((bs.drop 4).take 2)) - 11)).length) c_1] ∧ True, [0, 3, 4, 5, 8], ?_⟩
                        refine T_takeA (i := 0) rfl rfl (by kernel_rfl) (by kernel_rfl) (by kernel_rfl) (Y_of (fun _ ⟨hb16, _⟩ => R_loadA (vs := [.int .i64 (((bs.getD 6 0).toNat : Nat) : Int), .int .u32 ((getN ((bs.drop 7).take 4) : Nat) : Int), .slice A_4 (((bs.drop 11).take ((11 + getN ((bs.drop 4).take 2)) - 11)).length) c_1]) rfl agg43 (At.pre (hb16.at_ 0) rfl) rfl)) ⟨hb16, trivial⟩ rfl ?_
                        refine T_takeA (i := 3) rfl rfl (by kernel_rfl) (by kernel_rfl) (by kernel_rfl) (Y_of (fun _ ⟨hb16, _⟩ => R_move rfl)) ⟨hb16, trivial⟩ rfl ?_
                        refine T_takeA (i := 4) rfl rfl (by kernel_rfl) (by kernel_rfl) (by kernel_rfl) (Y_of (fun _ ⟨hb16, _⟩ => R_move rfl)) ⟨hb16, trivial⟩ rfl ?_
                        refine T_takeA (i := 5) rfl rfl (by kernel_rfl) (by kernel_rfl) (by kernel_rfl) (Y_of (fun _ ⟨hb16, _⟩ => R_eqv (R_add64 rfl rfl (by omega)) (v' := .int .i64 ((11 + getN ((bs.drop 4).take 2) : Nat) : Int)) (congrArg _ (by omega)))) ⟨hb16, trivial⟩ rfl ?_
                        refine T_all (rs := [1, 6]) (by kernel_rfl) rfl (all2 (O_one rfl ?_) (O_one rfl ?_))
                        · have ge7 : w.heap.size ≤ w25.heap.size := hB.size
                          refine L_call rfl cb45 (bytes13 (d := (bs.drop 11).take ((11 + getN ((bs.drop 4).take 2)) - 11)) (k := ((bs.getD 6 0).toNat)) (ep := (getN ((bs.drop 7).take 4))) (own_of ho2).2.2 (by simp only [List.length_take, List.length_drop]; omega) (by omega) (by omega)) rfl ?_
                          rintro _ w26 ⟨hs24, A_5, c_2, rfl, ho3⟩
                          replace hB := gb_tr hB hs24
                          replace hS := hS.gb hs24
                          replace hb1 := hb1.gb hs24
                          replace hb16 := hb16.gb hs24
                          replace hS_3 := hS_3.gb hs24
                          replace hlo1 := Nat.le_trans hlo1 hs24.size
                          replace ho2 := own_gb ho2 hs24
                          have hlo2 : w25.heap.size ≤ w26.heap.size := hs24.size
                          refine L_nil (N_then ⟨fun hN_ => ⟨hb16, trivial⟩, ?_⟩)
                          refine T_all (rs := [2, 6]) (by kernel_rfl) rfl (all2 (O_one rfl ?_) (O_one rfl ?_))
                          · refine L_run (R_b2s' (bs := putN (maskN (moreN 0 (((putN (((bs.drop 11).take ((11 + getN ((bs.drop 4).take 2)) - 11)).length) 2 ++ [UInt8.ofNat ((bs.getD 6 0).toNat)]) ++ putN (getN ((bs.drop 7).take 4)) 4) ++ ((bs.drop 11).take ((11 + getN ((bs.drop 4).take 2)) - 11))))) 4 ++ (((putN (((bs.drop 11).take ((11 + getN ((bs.drop 4).take 2)) - 11)).length) 2 ++ [UInt8.ofNat ((bs.getD 6 0).toNat)]) ++ putN (getN ((bs.drop 7).take 4)) 4) ++ ((bs.drop 11).take ((11 + getN ((bs.drop 4).take 2)) - 11)))) rfl slc25 int5 str9 (own_of ho3).2.2) rfl ?_
                            refine L_nil (N_then ⟨fun hN_ => ⟨hb16, trivial⟩, ?_⟩)
                            refine T_all (rs := [6]) (by kernel_rfl) rfl (all1 (O_one rfl ?_))
                            refine T_slH (xs := bs) (j := (11 + getN ((bs.drop 4).take 2))) EncB rfl rfl (by first | rfl | omega) slc25 (by first | omega | (simp; done) | (simp; omega)) (by first | omega | (simp; done) | (simp; omega)) hS rfl ?_
                            intro A_6 hS_4
                            refine L_nil (N_then ⟨fun hN_ => ⟨hb16, trivial⟩, ?_⟩)
                            refine T_all (rs := [7]) (by kernel_rfl) rfl (all1 (O_one rfl ?_))
                            refine L_run (R_b2s' (bs := bs.take (11 + getN ((bs.drop 4).take 2))) rfl slc25 int5 str9 hS_4) rfl ?_
                            refine L_nil (N_then ⟨fun hN_ => ⟨hb16, trivial⟩, ?_⟩)
                            refine T_takeA (i := 8) rfl rfl (by kernel_rfl) (by kernel_rfl) (by kernel_rfl) (Y_of (fun _ ⟨hb16, _⟩ => R_eqv (R_neqS rfl rfl) (v' := .bool (decide (¬ ((putN (maskN (moreN 0 (((putN (((bs.drop 11).take ((11 + getN ((bs.drop 4).take 2)) - 11)).length) 2 ++ [UInt8.ofNat ((bs.getD 6 0).toNat)]) ++ putN (getN ((bs.drop 7).take 4)) 4) ++ ((bs.drop 11).take ((11 + getN ((bs.drop 4).take 2)) - 11))))) 4 ++ (((putN (((bs.drop 11).take ((11 + getN ((bs.drop 4).take 2)) - 11)).length) 2 ++ [UInt8.ofNat ((bs.getD 6 0).toNat)]) ++ putN (getN ((bs.drop 7).take 4)) 4) ++ ((bs.drop 11).take ((11 + getN ((bs.drop 4).take 2)) - 11)))) = (bs.take (11 + getN ((bs.drop 4).take 2))))))) (bD (not_congr ba_inj)))) ⟨hb16, trivial⟩ rfl ?_
                            refine T_done (by kernel_rfl) (CalmE.normal ?_)
                            exact ⟨rfl, ⟨_, Ac_frg ⟨rfl, rfl, rfl, rfl, rfl, rfl, rfl, rfl, rfl, rfl, rfl, rfl, rfl, rfl, rfl, rfl, rfl, rfl, rfl, rfl, rfl, rfl, rfl, rfl, rfl, rfl, rfl, rfl, rfl, rfl, rfl, rfl, rfl, rfl, rfl, rfl, rfl, rfl, rfl, rfl, rfl, rfl, rfl, rfl, rfl, rfl, rfl, rfl, rfl, rfl, rfl, rfl, rfl, rfl, trivial⟩, hB, hS, hb1, hb16, hS_3, (own_lo ho2 ge6)⟩⟩
                          · refine T_slH (xs := bs) (j := (11 + getN ((bs.drop 4).take 2))) EncB rfl rfl (by first | rfl | omega) slc25 (by first | omega | (simp; done) | (simp; omega)) (by first | omega | (simp; done) | (simp; omega)) hS rfl ?_
                            intro A_7 hS_5
                            refine L_nil (N_then ⟨fun hN_ => ⟨hb16, trivial⟩, ?_⟩)
                            refine T_all (rs := [2, 7]) (by kernel_rfl) rfl (all2 (O_one rfl ?_) (O_one rfl ?_))
                            · refine L_run (R_b2s' (bs := putN (maskN (moreN 0 (((putN (((bs.drop 11).take ((11 + getN ((bs.drop 4).take 2)) - 11)).length) 2 ++ [UInt8.ofNat ((bs.getD 6 0).toNat)]) ++ putN (getN ((bs.drop 7).take 4)) 4) ++ ((bs.drop 11).take ((11 + getN ((bs.drop 4).take 2)) - 11))))) 4 ++ (((putN (((bs.drop 11).take ((11 + getN ((bs.drop 4).take 2)) - 11)).length) 2 ++ [UInt8.ofNat ((bs.getD 6 0).toNat)]) ++ putN (getN ((bs.drop 7).take 4)) 4) ++ ((bs.drop 11).take ((11 + getN ((bs.drop 4).take 2)) - 11)))) rfl slc25 int5 str9 (own_of ho3).2.2) rfl ?_
                              refine L_nil (N_then ⟨fun hN_ => ⟨hb16, trivial⟩, ?_⟩)
                              refine T_all (rs := [7]) (by kernel_rfl) rfl (all1 (O_one rfl ?_))
                              refine L_run (R_b2s' (bs := bs.take (11 + getN ((bs.drop 4).take 2))) rfl slc25 int5 str9 hS_5) rfl ?_
                              refine L_nil (N_then ⟨fun hN_ => ⟨hb16, trivial⟩, ?_⟩)
                              refine T_takeA (i := 8) rfl rfl (by kernel_rfl) (by kernel_rfl) (by kernel_rfl) (Y_of (fun _ ⟨hb16, _⟩ => R_eqv (R_neqS rfl rfl) (v' := .bool (decide (¬ ((putN (maskN (moreN 0 (((putN (((bs.drop 11).take ((11 + getN ((bs.drop 4).take 2)) - 11)).length) 2 ++ [UInt8.ofNat ((bs.getD 6 0).toNat)]) ++ putN (getN ((bs.drop 7).take 4)) 4) ++ ((bs.drop 11).take ((11 + getN ((bs.drop 4).take 2)) - 11))))) 4 ++ (((putN (((bs.drop 11).take ((11 + getN ((bs.drop 4).take 2)) - 11)).length) 2 ++ [UInt8.ofNat ((bs.getD 6 0).toNat)]) ++ putN (getN ((bs.drop 7).take 4)) 4) ++ ((bs.drop 11).take ((11 + getN ((bs.drop 4).take 2)) - 11)))) = (bs.take (11 + getN ((bs.drop 4).take 2))))))) (bD (not_congr ba_inj)))) ⟨hb16, trivial⟩ rfl ?_
                              refine T_done (by kernel_rfl) (CalmE.normal ?_)
                              exact ⟨rfl, ⟨_, Ac_frg ⟨rfl, rfl, rfl, rfl, rfl, rfl, rfl, rfl, rfl, rfl, rfl, rfl, rfl, rfl, rfl, rfl, rfl, rfl, rfl, rfl, rfl, rfl, rfl, rfl, rfl, rfl, rfl, rfl, rfl, rfl, rfl, rfl, rfl, rfl, rfl, rfl, rfl, rfl, rfl, rfl, rfl, rfl, rfl, rfl, rfl, rfl, rfl, rfl, rfl, rfl, rfl, rfl, rfl, rfl, trivial⟩, hB, hS, hb1, hb16, hS_3, (own_lo ho2 ge6)⟩⟩
                            · refine L_run (R_b2s' (bs := bs.take (11 + getN ((bs.drop 4).take 2))) rfl slc25 int5 str9 hS_5) rfl ?_
                              refine L_nil (N_then ⟨fun hN_ => ⟨hb16, trivial⟩, ?_⟩)
                              refine T_all (rs := [2]) (by kernel_rfl) rfl (all1 (O_one rfl ?_))
                              refine L_run (R_b2s' (bs := putN (maskN (moreN 0 (((putN (((bs.drop 11).take ((11 + getN ((bs.drop 4).take 2)) - 11)).length) 2 ++ [UInt8.ofNat ((bs.getD 6 0).toNat)]) ++ putN (getN ((bs.drop 7).take 4)) 4) ++ ((bs.drop 11).take ((11 + getN ((bs.drop 4).take 2)) - 11))))) 4 ++ (((putN (((bs.drop 11).take ((11 + getN ((bs.drop 4).take 2)) - 11)).length) 2 ++ [UInt8.ofNat ((bs.getD 6 0).toNat)]) ++ putN (getN ((bs.drop 7).take 4)) 4) ++ ((bs.drop 11).take ((11 + getN ((bs.drop 4).take 2)) - 11)))) rfl slc25 int5 str9 (own_of ho3).2.2) rfl ?_
                              refine L_nil (N_then ⟨fun hN_ => ⟨hb16, trivial⟩, ?_⟩)
                              refine T_takeA (i := 8) rfl rfl (by kernel_rfl) (by kernel_rfl) (by kernel_rfl) (Y_of (fun _ ⟨hb16, _⟩ => R_eqv (R_neqS rfl rfl) (v' := .bool (decide (¬ ((putN (maskN (moreN 0 (((putN (((bs.drop 11).take ((11 + getN ((bs.drop 4).take 2)) - 11)).length) 2 ++ [UInt8.ofNat ((bs.getD 6 0).toNat)]) ++ putN (getN ((bs.drop 7).take 4)) 4) ++ ((bs.drop 11).take ((11 + getN ((bs.drop 4).take 2)) - 11))))) 4 ++ (((putN (((bs.drop 11).take ((11 + getN ((bs.drop 4).take 2)) - 11)).length) 2 ++ [UInt8.ofNat ((bs.getD 6 0).toNat)]) ++ putN (getN ((bs.drop 7).take 4)) 4) ++ ((bs.drop 11).take ((11 + getN ((bs.drop 4).take 2)) - 11)))) = (bs.take (11 + getN ((bs.drop 4).take 2))))))) (bD (not_congr ba_inj)))) ⟨hb16, trivial⟩ rfl ?_
                              refine T_done (by kernel_rfl) (CalmE.normal ?_)
                              exact ⟨rfl, ⟨_, Ac_frg ⟨rfl, rfl, rfl, rfl, rfl, rfl, rfl, rfl, rfl, rfl, rfl, rfl, rfl, rfl, rfl, rfl, rfl, rfl, rfl, rfl, rfl, rfl, rfl, rfl, rfl, rfl, rfl, rfl, rfl, rfl, rfl, rfl, rfl, rfl, rfl, rfl, rfl, rfl, rfl, rfl, rfl, rfl, rfl, rfl, rfl, rfl, rfl, rfl, rfl, rfl, rfl, rfl, rfl, rfl, trivial⟩, hB, hS, hb1, hb16, hS_3, (own_lo ho2 ge6)⟩⟩
                        · refine T_slH (xs := bs) (j := (11 + getN ((bs.drop 4).take 2))) EncB rfl rfl (by first | rfl | omega) slc25 (by first | omega | (simp; done) | (simp; omega)) (by first | omega | (simp; done) | (simp; omega)) hS rfl ?_
                          intro A_8 hS_6
                          refine L_nil (N_then ⟨fun hN_ => ⟨hb16, trivial⟩, ?_⟩)
                          refine T_all (rs := [1, 7]) (by kernel_rfl) rfl (all2 (O_one rfl ?_) (O_one rfl ?_))
                          · have ge8 : w.heap.size ≤ w25.heap.size := hB.size
                            refine L_call rfl cb45 (bytes13 (d := (bs.drop 11).take ((11 + getN ((bs.drop 4).take 2)) - 11)) (k := ((bs.getD 6 0).toNat)) (ep := (getN ((bs.drop 7).take 4))) (own_of ho2).2.2 (by simp only [List.length_take, List.length_drop]; omega) (by omega) (by omega)) rfl ?_
                            rintro _ w27 ⟨hs25, A_9, c_3, rfl, ho4⟩
                            replace hB := gb_tr hB hs25
                            replace hS := hS.gb hs25
                            replace hb1 := hb1.gb hs25
                            replace hb16 := hb16.gb hs25
                            replace hS_3 := hS_3.gb hs25
                            replace hlo1 := Nat.le_trans hlo1 hs25.size
                            replace ho2 := own_gb ho2 hs25
                            replace hS_6 := hS_6.gb hs25
                            have hlo3 : w25.heap.size ≤ w27.heap.size := hs25.size
                            refine L_nil (N_then ⟨fun hN_ => ⟨hb16, trivial⟩, ?_⟩)
                            refine T_all (rs := [2, 7]) (by kernel_rfl) rfl (all2 (O_one rfl ?_) (O_one rfl ?_))
                            · refine L_run (R_b2s' (bs := putN (maskN (moreN 0 (((putN (((bs.drop 11).take ((11 + getN ((bs.drop 4).take 2)) - 11)).length) 2 ++ [UInt8.ofNat ((bs.getD 6 0).toNat)]) ++ putN (getN ((bs.drop 7).take 4)) 4) ++ ((bs.drop 11).take ((11 + getN ((bs.drop 4).take 2)) - 11))))) 4 ++ (((putN (((bs.drop 11).take ((11 + getN ((bs.drop 4).take 2)) - 11)).length) 2 ++ [UInt8.ofNat ((bs.getD 6 0).toNat)]) ++ putN (getN ((bs.drop 7).take 4)) 4) ++ ((bs.drop 11).take ((11 + getN ((bs.drop 4).take 2)) - 11)))) rfl slc25 int5 str9 (own_of ho4).2.2) rfl ?_
                              refine L_nil (N_then ⟨fun hN_ => ⟨hb16, trivial⟩, ?_⟩)
                              refine T_all (rs := [7]) (by kernel_rfl) rfl (all1 (O_one rfl ?_))
                              refine L_run (R_b2s' (bs := bs.take (11 + getN ((bs.drop 4).take 2))) rfl slc25 int5 str9 hS_6) rfl ?_
                              refine L_nil (N_then ⟨fun hN_ => ⟨hb16, trivial⟩, ?_⟩)
                              refine T_takeA (i := 8) rfl rfl (by kernel_rfl) (by kernel_rfl) (by kernel_rfl) (Y_of (fun _ ⟨hb16, _⟩ => R_eqv (R_neqS rfl rfl) (v' := .bool (decide (¬ ((putN (maskN (moreN 0 (((putN (((bs.drop 11).take ((11 + getN ((bs.drop 4).take 2)) - 11)).length) 2 ++ [UInt8.ofNat ((bs.getD 6 0).toNat)]) ++ putN (getN ((bs.drop 7).take 4)) 4) ++ ((bs.drop 11).take ((11 + getN ((bs.drop 4).take 2)) - 11))))) 4 ++ (((putN (((bs.drop 11).take ((11 + getN ((bs.drop 4).take 2)) - 11)).length) 2 ++ [UInt8.ofNat ((bs.getD 6 0).toNat)]) ++ putN (getN ((bs.drop 7).take 4)) 4) ++ ((bs.drop 11).take ((11 + getN ((bs.drop 4).take 2)) - 11)))) = (bs.take (11 + getN ((bs.drop 4).take 2))))))) (bD (not_congr ba_inj)))) ⟨hb16, trivial⟩ rfl ?_
                              refine T_done (by kernel_rfl) (CalmE.normal ?_)
                              exact ⟨rfl, ⟨_, Ac_frg ⟨rfl, rfl, rfl, rfl, rfl, rfl, rfl, rfl, rfl, rfl, rfl, rfl, rfl, rfl, rfl, rfl, rfl, rfl, rfl, rfl, rfl, rfl, rfl, rfl, rfl, rfl, rfl, rfl, rfl, rfl, rfl, rfl, rfl, rfl, rfl, rfl, rfl, rfl, rfl, rfl, rfl, rfl, rfl, rfl, rfl, rfl, rfl, rfl, rfl, rfl, rfl, rfl, rfl, rfl, trivial⟩, hB, hS, hb1, hb16, hS_3, (own_lo ho2 ge6)⟩⟩
                            · refine L_run (R_b2s' (bs := bs.take (11 + getN ((bs.drop 4).take 2))) rfl slc25 int5 str9 hS_6) rfl ?_
                              refine L_nil (N_then ⟨fun hN_ => ⟨hb16, trivial⟩, ?_⟩)
                              refine T_all (rs := [2]) (by kernel_rfl) rfl (all1 (O_one rfl ?_))
                              refine L_run (R_b2s' (bs := putN (maskN (moreN 0 (((putN (((bs.drop 11).take ((11 + getN ((bs.drop 4).take 2)) - 11)).length) 2 ++ [UInt8.ofNat ((bs.getD 6 0).toNat)]) ++ putN (getN ((bs.drop 7).take 4)) 4) ++ ((bs.drop 11).take ((11 + getN ((bs.drop 4).take 2)) - 11))))) 4 ++ (((putN (((bs.drop 11).take ((11 + getN ((bs.drop 4).take 2)) - 11)).length) 2 ++ [UInt8.ofNat ((bs.getD 6 0).toNat)]) ++ putN (getN ((bs.drop 7).take 4)) 4) ++ ((bs.drop 11).take ((11 + getN ((bs.drop 4).take 2)) - 11)))) rfl slc25 int5 str9 (own_of ho4).2.2) rfl ?_
                              refine L_nil (N_then ⟨fun hN_ => ⟨hb16, trivial⟩, ?_⟩)
                              refine T_takeA (i := 8) rfl rfl (by kernel_rfl) (by kernel_rfl) (by kernel_rfl) (Y_of (fun _ ⟨hb16, _⟩ => R_eqv (R_neqS rfl rfl) (v' := .bool (decide (¬ ((putN (maskN (moreN 0 (((putN (((bs.drop 11).take ((11 + getN ((bs.drop 4).take 2)) - 11)).length) 2 ++ [UInt8.ofNat ((bs.getD 6 0).toNat)]) ++ putN (getN ((bs.drop 7).take 4)) 4) ++ ((bs.drop 11).take ((11 + getN ((bs.drop 4).take 2)) - 11))))) 4 ++ (((putN (((bs.drop 11).take ((11 + getN ((bs.drop 4).take 2)) - 11)).length) 2 ++ [UInt8.ofNat ((bs.getD 6 0).toNat)]) ++ putN (getN ((bs.drop 7).take 4)) 4) ++ ((bs.drop 11).take ((11 + getN ((bs.drop 4).take 2)) - 11)))) = (bs.take (11 + getN ((bs.drop 4).take 2))))))) (bD (not_congr ba_inj)))) ⟨hb16, trivial⟩ rfl ?_
                              refine T_done (by kernel_rfl) (CalmE.normal ?_)
                              exact ⟨rfl, ⟨_, Ac_frg ⟨rfl, rfl, rfl, rfl, rfl, rfl, rfl, rfl, rfl, rfl, rfl, rfl, rfl, rfl, rfl, rfl, rfl, rfl, rfl, rfl, rfl, rfl, rfl, rfl, rfl, rfl, rfl, rfl, rfl, rfl, rfl, rfl, rfl, rfl, rfl, rfl, rfl, rfl, rfl, rfl, rfl, rfl, rfl, rfl, rfl, rfl, rfl, rfl, rfl, rfl, rfl, rfl, rfl, rfl, trivial⟩, hB, hS, hb1, hb16, hS_3, (own_lo ho2 ge6)⟩⟩
                          · refine L_run (R_b2s' (bs := bs.take (11 + getN ((bs.drop 4).take 2))) rfl slc25 int5 str9 hS_6) rfl ?_
                            refine L_nil (N_then ⟨fun hN_ => ⟨hb16, trivial⟩, ?_⟩)
                            refine T_all (rs := [1]) (by kernel_rfl) rfl (all1 (O_one rfl ?_))
                            have ge9 : w.heap.size ≤ w25.heap.size := hB.size
                            refine L_call rfl cb45 (bytes13 (d := (bs.drop 11).take ((11 + getN ((bs.drop 4).take 2)) - 11)) (k := ((bs.getD 6 0).toNat)) (ep := (getN ((bs.drop 7).take 4))) (own_of ho2).2.2 (by simp only [List.length_take, List.length_drop]; omega) (by omega) (by omega)) rfl ?_
                            rintro _ w28 ⟨hs26, A_10, c_4, rfl, ho5⟩
                            replace hB := gb_tr hB hs26
                            replace hS := hS.gb hs26
                            replace hb1 := hb1.gb hs26
                            replace hb16 := hb16.gb hs26
                            replace hS_3 := hS_3.gb hs26
                            replace hlo1 := Nat.le_trans hlo1 hs26.size
                            replace ho2 := own_gb ho2 hs26
                            replace hS_6 := hS_6.gb hs26
                            have hlo4 : w25.heap.size ≤ w28.heap.size := hs26.size
                            refine L_nil (N_then ⟨fun hN_ => ⟨hb16, trivial⟩, ?_⟩)
                            refine T_all (rs := [2]) (by kernel_rfl) rfl (all1 (O_one rfl ?_))
                            refine L_run (R_b2s' (bs := putN (maskN (moreN 0 (((putN (((bs.drop 11).take ((11 + getN ((bs.drop 4).take 2)) - 11)).length) 2 ++ [UInt8.ofNat ((bs.getD 6 0).toNat)]) ++ putN (getN ((bs.drop 7).take 4)) 4) ++ ((bs.drop 11).take ((11 + getN ((bs.drop 4).take 2)) - 11))))) 4 ++ (((putN (((bs.drop 11).take ((11 + getN ((bs.drop 4).take 2)) - 11)).length) 2 ++ [UInt8.ofNat ((bs.getD 6 0).toNat)]) ++ putN (getN ((bs.drop 7).take 4)) 4) ++ ((bs.drop 11).take ((11 + getN ((bs.drop 4).take 2)) - 11)))) rfl slc25 int5 str9 (own_of ho5).2.2) rfl ?_
                            refine L_nil (N_then ⟨fun hN_ => ⟨hb16, trivial⟩, ?_⟩)
                            refine T_takeA (i := 8) rfl rfl (by kernel_rfl) (by kernel_rfl) (by kernel_rfl) (Y_of (fun _ ⟨hb16, _⟩ => R_eqv (R_neqS rfl rfl) (v' := .bool (decide (¬ ((putN (maskN (moreN 0 (((putN (((bs.drop 11).take ((11 + getN ((bs.drop 4).take 2)) - 11)).length) 2 ++ [UInt8.ofNat ((bs.getD 6 0).toNat)]) ++ putN (getN ((bs.drop 7).take 4)) 4) ++ ((bs.drop 11).take ((11 + getN ((bs.drop 4).take 2)) - 11))))) 4 ++ (((putN (((bs.drop 11).take ((11 + getN ((bs.drop 4).take 2)) - 11)).length) 2 ++ [UInt8.ofNat ((bs.getD 6 0).toNat)]) ++ putN (getN ((bs.drop 7).take 4)) 4) ++ ((bs.drop 11).take ((11 + getN ((bs.drop 4).take 2)) - 11)))) = (bs.take (11 + getN ((bs.drop 4).take 2))))))) (bD (not_congr ba_inj)))) ⟨hb16, trivial⟩ rfl ?_
                            refine T_done (by kernel_rfl) (CalmE.normal ?_)
                            exact ⟨rfl, ⟨_, Ac_frg ⟨rfl, rfl, rfl, rfl, rfl, rfl, rfl, rfl, rfl, rfl, rfl, rfl, rfl, rfl, rfl, rfl, rfl, rfl, rfl, rfl, rfl, rfl, rfl, rfl, rfl, rfl, rfl, rfl, rfl, rfl, rfl, rfl, rfl, rfl, rfl, rfl, rfl, rfl, rfl, rfl, rfl, rfl, rfl, rfl, rfl, rfl, rfl, rfl, rfl, rfl, rfl, rfl, rfl, rfl, trivial⟩, hB, hS, hb1, hb16, hS_3, (own_lo ho2 ge6)⟩⟩
                      · clear hB
                        clear hS hb1 hb16 hS_3 hlo1 ho2
                        rintro a_ w29 ⟨σ_, rfl, hB, hS, hb1, hb16, hS_3, ho2⟩
                        refine N_then ?_
                        refine C_ifN rfl (fun h10 => ?_) (fun h10 => ?_)
                        · refine C_seq (C_reg rfl ?_)
                          refine L_run (R_build (pv := []) (cs := [.int .i64 0, .int .u32 0, .slice none 0 0]) rfl (by kernel_rfl)) rfl ?_
                          refine L_stA (vs := [.int .i64 0, .int .u32 0, .slice none 0 0]) rfl rfl rfl sz43 rfl hb1 rfl ?_
                          intro w30 hb17 hs27 hz20
                          replace hB := gb_trg hB hs27 ge1
                          replace hS := hS.old hs27 ge1
                          replace hb16 := hb16.grown hs27 (ne_gt lt4)
                          replace hS_3 := hS_3.old hs27 ge1
                          replace ho2 := own_other ho2 hb1 rfl hs27
                          refine L_run (R_assign rfl) rfl ?_
                          refine L_run (R_assign rfl) rfl ?_
                          refine L_nil (N_then (C_ret (R_then ?_)))
                          refine retC2 (vs := [.int .i64 0, .int .u32 0, .slice none 0 0]) Tryd.results27 rfl agg43 (At.pre (hb17.at_ 0) rfl) rfl rfl rfl ?_
                          obtain rfl : i = 11 := by omega
                          first
                            | (exfalso; omega)
                            | (have hf : fdec bs ep = ((0, []), 0, 3) := by first | exact fd_sum (by omega) (by first | assumption | exact Decidable.not_not.1 (by assumption)) (by omega) (by omega) (fun q_ => h10 ((b13_eq (bs := bs) (by omega) (by omega) rfl).2 q_))
                               exact ⟨hB, .inr ⟨by rw [hf]; decide, by rw [hf]⟩⟩)
                        · refine C_skip (N_then (C_seq (C_reg rfl ?_)))
                          refine L_run (R_loadA (vs := [.int .i64 (((bs.getD 6 0).toNat : Nat) : Int), .int .u32 ((getN ((bs.drop 7).take 4) : Nat) : Int), .slice A_4 (((bs.drop 11).take ((11 + getN ((bs.drop 4).take 2)) - 11)).length) c_1]) rfl agg43 (At.pre (hb16.at_ 0) rfl) rfl) rfl ?_
                          refine L_run (R_move rfl) rfl ?_
                          refine L_run (R_eqv (R_add64 rfl rfl (by omega)) (v' := .int .i64 ((11 + getN ((bs.drop 4).take 2) : Nat) : Int)) (congrArg _ (by omega))) rfl ?_
                          refine L_stA (vs := [.int .i64 (((bs.getD 6 0).toNat : Nat) : Int), .int .u32 ((getN ((bs.drop 7).take 4) : Nat) : Int), .slice A_4 (((bs.drop 11).take ((11 + getN ((bs.drop 4).take 2)) - 11)).length) c_1]) rfl rfl rfl sz43 rfl hb1 rfl ?_
                          intro w31 hb18 hs28 hz21
                          replace hB := gb_trg hB hs28 ge1
                          replace hS := hS.old hs28 ge1
                          replace hb16 := hb16.grown hs28 (ne_gt lt4)
                          replace hS_3 := hS_3.old hs28 ge1
                          replace ho2 := own_other ho2 hb1 rfl hs28
                          refine L_run (R_assign rfl) rfl ?_
                          refine L_run (R_assign rfl) rfl ?_
                          refine L_nil (N_then (C_ret ?_))
                          refine retC2 (vs := [.int .i64 (((bs.getD 6 0).toNat : Nat) : Int), .int .u32 ((getN ((bs.drop 7).take 4) : Nat) : Int), .slice A_4 (((bs.drop 11).take ((11 + getN ((bs.drop 4).take 2)) - 11)).length) c_1]) Tryd.results27 rfl agg43 (At.pre (hb18.at_ 0) rfl) rfl rfl rfl ?_
                          obtain rfl : i = 11 := by omega
                          have hs_ := (b13_eq (bs := bs) (by omega) (by omega) rfl).1 h10
                          have he_ : getN ((bs.drop 7).take 4) = ep := by omega
                          have hf := fd_ok (bs := bs) (ep := ep) (by omega) (by first | assumption | exact Decidable.not_not.1 (by assumption)) (by omega) (by omega) hs_
                          exact ⟨hB, .inl ⟨by rw [hf], _, _, by rw [hf, he_], by rw [hf]; exact (own_lo ho2 (Nat.le_refl _))⟩⟩

theorem dec13_y {w : World} {t1 lo hi : Nat} {A : Option Addr} {c ep : Nat} {bs : List UInt8} (hS : Sli t1 lo hi w A (fl encB bs)) (hb : bs.length ≤ 1000000) (hc : bs.length ≤ c) (hep : ep < 4294967296) (hq : (fdec bs ep).2.2 = 0) : Runs Tryd.prog 27 #[.slice A bs.length c, .int .u32 (ep : Int)] w (fun v w' => w.grownBy w' none ∧ ∃ A' c', v = .tuple #[.agg #[.int .i64 (((fdec bs ep).1.1 : Nat) : Int), .int .u32 (ep : Int), .slice A' (fdec bs ep).1.2.length c'], .int .i64 (((fdec bs ep).2.1 : Nat) : Int), .int .i64 0] ∧ World.ownsRow w' w.heap.size 5 1 (.slice A' (fdec bs ep).1.2.length c') (fdec bs ep).1.2.length (fl encB (fdec bs ep).1.2)) := (dec13_ok hS hb hc hep).mono fun v w' h => by
  obtain ⟨h1, h2 | h2⟩ := h
  · exact ⟨h1, h2.2⟩
  · exact absurd hq h2.1
theorem dec13_n {w : World} {t1 lo hi : Nat} {A : Option Addr} {c ep : Nat} {bs : List UInt8} (hS : Sli t1 lo hi w A (fl encB bs)) (hb : bs.length ≤ 1000000) (hc : bs.length ≤ c) (hep : ep < 4294967296) (hq : ¬ (fdec bs ep).2.2 = 0) : Runs Tryd.prog 27 #[.slice A bs.length c, .int .u32 (ep : Int)] w (fun v w' => w.grownBy w' none ∧ v = .tuple #[.agg #[.int .i64 0, .int .u32 0, .slice none 0 0], .int .i64 0, .int .i64 (fdec bs ep).2.2]) := (dec13_ok hS hb hc hep).mono fun v w' h => by
  obtain ⟨h1, h2 | h2⟩ := h
  · exact absurd h2.1 hq
  · exact ⟨h1, h2.2⟩
end Go.Proofs.YtnggbodilhpohaaDoor
