/-
  Contracts of the package image: the places.
-/
import Derived.Test.YtbpjdcpfphnccaaDoorTo
namespace Go.Proofs.YtbpjdcpfphnccaaDoor
open Go.RowKit Gw Pl
set_option linter.unusedVariables false
set_option linter.unusedSimpArgs false
theorem cb25 : callB Tryd.prog 25 = true := by kernel_rfl
theorem cb34 : callB Tryd.prog 34 = true := by kernel_rfl
theorem fld71_0 : fldB Tryd.prog 71 0 0 = true := by kernel_rfl
theorem scl27 : sclB Tryd.prog 27 = true := by kernel_rfl
theorem scl4 : sclB Tryd.prog 4 = true := by kernel_rfl
theorem sz27 : szB Tryd.prog 27 1 = true := by kernel_rfl
theorem sz4 : szB Tryd.prog 4 1 = true := by kernel_rfl
theorem zer27 : (Tryd.prog.info? 27).bind (·.zero) = some (.slice none 0 0) := by kernel_rfl
theorem zer4 : (Tryd.prog.info? 4).bind (·.zero) = some (.bool false) := by kernel_rfl
theorem places_ok {w : World} {t1 lo hi : Nat} {A : Option Addr} {c : Nat} {ls : List Bys} (hT : Tbw w) (hS : Sli t1 lo hi w A (fl encY ls)) (hD : DeepY 5 w ls) (hl : ls.length ≤ 1000000) (hds : ∀ y ∈ ls, y.xs.length ≤ 1000000 ∧ y.xs.length ≤ y.c) :
    Runs Tryd.prog 14 #[.slice A ls.length c] w (fun v w' => w.grownBy w' none ∧ ∃ A' c', v = .tuple #[.slice A' (lP (layT 0 (xsOf ls))).length c', .bool ((layT 0 (xsOf ls))).isSome] ∧ World.ownsRow w' w.heap.size 3 1 (.slice A' (lP (layT 0 (xsOf ls))).length c') (lP (layT 0 (xsOf ls))).length (fl encZ (lP (layT 0 (xsOf ls))))) := by
  have hB := gb_refl w none
  replace hS := hS.top
  refine enterM Tryd.func14 Tryd.ntmps14 rfl rfl ?_
  refine C_seq (C_reg rfl ?_)
  refine L_alloc (cs := [.slice none 0 0]) zer27 rfl rfl ?_
  intro g1 w1 eg1 hb1 hs1 hz1
  have ge1 : w.heap.size ≤ g1 := eg_ge hB eg1
  replace hB := gb_tr hB hs1
  replace hS := hS.gb hs1
  replace hD := hD.gb hs1
  refine L_alloc (cs := [.bool false]) zer4 rfl rfl ?_
  intro g2 w2 eg2 hb2 hs2 hz2
  have ge2 : w.heap.size ≤ g2 := eg_ge hB eg2
  have lt1 : g1 < g2 := lt_of_eg hb1.lt eg2
  replace hB := gb_tr hB hs2
  replace hS := hS.gb hs2
  replace hD := hD.gb hs2
  replace hb1 := hb1.gb hs2
  refine L_nil (N_then (C_seq (C_reg rfl ?_)))
  refine L_alloc (cs := [.slice none 0 0]) zer27 rfl rfl ?_
  intro g3 w3 eg3 hb3 hs3 hz3
  have ge3 : w.heap.size ≤ g3 := eg_ge hB eg3
  have lt2 : g1 < g3 := lt_of_eg hb1.lt eg3
  have lt3 : g2 < g3 := lt_of_eg hb2.lt eg3
  replace hB := gb_tr hB hs3
  replace hS := hS.gb hs3
  replace hD := hD.gb hs3
  replace hb1 := hb1.gb hs3
  replace hb2 := hb2.gb hs3
  refine L_nil (N_then (C_seq (C_seq (C_reg rfl ?_))))
  refine L_run (R_move rfl) rfl ?_
  have ge4 : w.heap.size ≤ w3.heap.size := hB.size
  refine L_call rfl cb25 (ieach_ok (A := A) (n := ls.length) (c := c) (e := 0)) rfl ?_
  rintro _ w4 ⟨hs4, gl, ge, gl0, ge0, rfl, hbl, hbe⟩
  have lt4 : g1 < gl := Nat.lt_of_lt_of_le hb1.lt gl0
  have lt5 : g2 < gl := Nat.lt_of_lt_of_le hb2.lt gl0
  have lt6 : g3 < gl := Nat.lt_of_lt_of_le hb3.lt gl0
  have lt7 : g1 < ge := Nat.lt_of_lt_of_le hb1.lt ge0
  have lt8 : g2 < ge := Nat.lt_of_lt_of_le hb2.lt ge0
  have lt9 : g3 < ge := Nat.lt_of_lt_of_le hb3.lt ge0
  replace hB := gb_tr hB hs4
  replace hS := hS.gb hs4
  replace hD := hD.gb hs4
  replace hb1 := hb1.gb hs4
  replace hb2 := hb2.gb hs4
  replace hb3 := hb3.gb hs4
  refine L_nil (N_then (C_block ?_))
  refine W_frg (l' := [(0, .slice A ls.length c), (2, .pointer (some ⟨g1, 0, none⟩)), (3, .pointer (some ⟨g2, 0, none⟩)), (4, .pointer (some ⟨g3, 0, none⟩)), (7, .func (.func 34) #[] #[.pointer (some ⟨gl, 0, none⟩), .pointer (some ⟨ge, 0, none⟩)])]) ⟨rfl, rfl, rfl, rfl, rfl, trivial⟩ (fun σ9 => ?_)
  refine C_range2 (fs := []) (cs := [.pointer (some ⟨gl, 0, none⟩), .pointer (some ⟨ge, 0, none⟩)]) rfl cb34 (fun fn9 D L w8 rec hrec eD eL hD8 hL hs8 => ?_)
  have gD : w.heap.size ≤ D := eg_ge hB eD
  have gL : w.heap.size ≤ L := by have := hB.size; omega
  have hsz8 := hs8.size
  replace hB := gb_tr hB hs8
  replace hS := hS.gb hs8
  replace hD := hD.gb hs8
  replace hb1 := hb1.gb hs8
  replace hb2 := hb2.gb hs8
  replace hb3 := hb3.gb hs8
  replace hbl := hbl.gb hs8
  replace hbe := hbe.gb hs8
  have hB8_ := hB.size
  refine (ieach1 (L := L) (rec := rec) (vb := false) (J := fun w_ P_ b_ en_ gb_ cb_ => ∃ A_ c_, Blk w_ g3 27 [.slice A_ P_.length c_] ∧ World.ownsRow w_ w.heap.size 3 1 (.slice A_ P_.length c_) P_.length (fl encZ P_) ∧ Blk w_ g1 27 [.slice none 0 0] ∧ Blk w_ g2 4 [.bool false] ∧ LpF w_ D (.deferred (some []))) (Stop := fun w_ => LpF w_ L (recSt rec .done (some .ret)) ∧ Blk w_ g1 27 [.slice none 0 0] ∧ Blk w_ g2 4 [.bool false] ∧ LpF w_ D (.deferred (some []))) (e := 0) hB hT (Nat.le_trans ge4 gl0) (Nat.le_trans ge4 ge0) ⟨hbl, hbe, hS.wide (Nat.zero_le _) (Nat.le_refl _), hD⟩ hL hl hds rfl (fun _ _ => ⟨none, 0, hb3, own_nil _ _ _ _, hb1, hb2, hD8⟩) ?_ ?_ ?_ ?_).mono ?_
  · rintro w_ w2_ P_ b_ en_ gb_ cb_ ⟨A_, c_, h1, h2, h3, h4, h5⟩ hs_
    exact ⟨A_, c_, h1.gb hs_, own_gb h2 hs_, h3.gb hs_, h4.gb hs_, h5.gb hs_⟩
  · rintro w_ w2_ g_ cs_ P_ b_ en_ gb_ cb_ ⟨A_, c_, h1, h2, h3, h4, h5⟩ hb_ hg_ hs_
    exact ⟨A_, c_, h1.grown hs_ (ne_ty h1 hb_ rfl), own_other h2 hb_ rfl hs_, h3.grown hs_ (ne_ty h3 hb_ rfl), h4.grown hs_ (ne_ty h4 hb_ rfl), h5.blk hb_ hs_⟩
  · intro w7 P7 b7 b8 en7 en8 gb7 gb8 cb7 cb8 gx hB hL hJ hE hgx hbx hob hb8 hP8
    obtain ⟨hbl, hbe, hS, hD⟩ := hE
    obtain ⟨A7, c7, hc4, hoP, hc2, hc3, hD9⟩ := hJ
    have gx0 : w.heap.size ≤ gx := by have := hB8_; omega
    subst hrec
    refine yield_round1 hL rfl ?_
    refine C_reg rfl ?_
    refine L_alloc (cs := [.int .i64 0, .int .i64 0, .slice none 0 0]) zer71 rfl rfl ?_
    intro g4 w5 eg4 hb4 hs5 hz4
    have ge5 : w.heap.size ≤ g4 := eg_ge hB eg4
    have lt10 : gl < g4 := lt_of_eg hbl.lt eg4
    have lt11 : ge < g4 := lt_of_eg hbe.lt eg4
    have lt12 : gx < g4 := lt_of_eg hbx.lt eg4
    have lt13 : g3 < g4 := lt_of_eg hc4.lt eg4
    have lt14 : g1 < g4 := lt_of_eg hc2.lt eg4
    have lt15 : g2 < g4 := lt_of_eg hc3.lt eg4
    replace hB := gb_tr hB hs5
    replace hbl := hbl.gb hs5
    replace hbe := hbe.gb hs5
    replace hS := hS.gb hs5
    replace hD := hD.gb hs5
    replace hbx := hbx.gb hs5
    replace hob := own_gb hob hs5
    replace hc4 := hc4.gb hs5
    replace hoP := own_gb hoP hs5
    replace hc2 := hc2.gb hs5
    replace hc3 := hc3.gb hs5
    replace hD9 := hD9.gb hs5
    replace hL := hL.gb hs5
    refine L_stA (vs := [.int .i64 ((beginN en7 : Nat) : Int), .int .i64 (en8 : Int), .slice (some ⟨gb8, 0, none⟩) b8.length cb8]) rfl rfl rfl sz71 rfl hb4 rfl ?_
    intro w6 hb5 hs6 hz5
    replace hB := gb_trg hB hs6 ge5
    replace hbl := hbl.grown hs6 (ne_lt lt10)
    replace hbe := hbe.grown hs6 (ne_lt lt11)
    replace hS := hS.old hs6 ge5
    replace hD := hD.other hb4 rfl rfl hs6
    replace hbx := hbx.grown hs6 (ne_lt lt12)
    replace hob := own_other hob hb4 rfl hs6
    replace hc4 := hc4.grown hs6 (ne_lt lt13)
    replace hoP := own_other hoP hb4 rfl hs6
    replace hc2 := hc2.grown hs6 (ne_lt lt14)
    replace hc3 := hc3.grown hs6 (ne_lt lt15)
    replace hD9 := hD9.blk hb4 hs6
    replace hL := hL.blk hb4 hs6
    refine L_nil (N_then ?_)
    refine ⟨hL, fun w6 hs6 hL6 => ?_⟩
    replace hB := gb_trg hB hs6 gL
    replace hbl := hbl.lp hL hs6
    replace hbe := hbe.lp hL hs6
    replace hS := hS.lp hL hs6
    replace hD := hD.lp hL hs6
    replace hbx := hbx.lp hL hs6
    replace hob := own_lp hob hL hs6
    replace hc4 := hc4.lp hL hs6
    replace hoP := own_lp hoP hL hs6
    replace hc2 := hc2.lp hL hs6
    replace hc3 := hc3.lp hL hs6
    replace hD9 := hD9.grown hs6 (by intro e_; injection e_; omega)
    replace hb5 := hb5.lp hL hs6
    replace hL := hL6
    refine C_block (C_seq (C_seq (C_reg rfl ?_)))
    refine L_run (R_field (r := 2) rfl fld71_2 rfl) rfl ?_
    refine L_run (R_load1 rfl scl46 (hb5.cell (i := 2) rfl)) rfl ?_
    refine L_run (R_eqlsSN rfl rfl Tryd.underlying46) rfl ?_
    refine L_nil (N_then (C_condF rfl rfl (C_skip (N_then (C_reg rfl ?_)))))
    refine L_run (R_load1 rfl scl27 (hc4.cell (i := 0) rfl)) rfl ?_
    refine L_run (R_field (r := 0) rfl fld71_0 rfl) rfl ?_
    refine L_run (R_load1 rfl scl3 (hb5.cell (i := 0) rfl)) rfl ?_
    refine L_buildSlice (pv := [(0, .int .i64 ((beginN en7 : Nat) : Int))]) (cs := [.int .i64 ((beginN en7 : Nat) : Int)]) slc27 zer3 rfl rfl (by kernel_rfl) rfl ?_
    intro g5 w7 eg5 hb6 hs7 hz6
    have ge6 : w.heap.size ≤ g5 := eg_ge hB eg5
    have lt16 : gl < g5 := lt_of_eg hbl.lt eg5
    have lt17 : ge < g5 := lt_of_eg hbe.lt eg5
    have lt18 : gx < g5 := lt_of_eg hbx.lt eg5
    have lt19 : g3 < g5 := lt_of_eg hc4.lt eg5
    have lt20 : g1 < g5 := lt_of_eg hc2.lt eg5
    have lt21 : g2 < g5 := lt_of_eg hc3.lt eg5
    have lt22 : g4 < g5 := lt_of_eg hb5.lt eg5
    have hap1 : ∀ k_, (Value.slice A7 P7.length c7).ownBlock = some k_ → k_ ≠ g5 := fun k_ hk => by have h_ := (World.ownsRow.lt hoP k_ hk).2; omega
    replace hB := gb_tr hB hs7
    replace hbl := hbl.gb hs7
    replace hbe := hbe.gb hs7
    replace hS := hS.gb hs7
    replace hD := hD.gb hs7
    replace hbx := hbx.gb hs7
    replace hob := own_gb hob hs7
    replace hc4 := hc4.gb hs7
    replace hoP := own_gb hoP hs7
    replace hc2 := hc2.gb hs7
    replace hc3 := hc3.gb hs7
    replace hD9 := hD9.gb hs7
    replace hL := hL.gb hs7
    replace hb5 := hb5.gb hs7
    refine T_append (xs := P7) (ys := [((beginN en7 : Nat) : Int)]) EncZ slc27 rfl rfl hoP (Blk.sli (m := 0) hb6) (by simp only [List.length_append, List.length_cons, List.length_nil]; omega) (by have := hB.size; omega) rfl ?_
    intro A_1 c_1 w8 ho1 hs8 hat1
    replace hB := gb_tro hB hoP hs8 (Nat.le_refl _)
    replace hbl := blk_own hbl hoP rfl hs8
    replace hbe := blk_own hbe hoP rfl hs8
    replace hS := hS.grown hs8 (fun k hk => .inr (Nat.le_trans (Nat.le_refl _) (World.ownsRow.lt hoP k hk).1))
    replace hD := hD.otherO hoP rfl rfl hs8
    replace hbx := blk_own hbx hoP rfl hs8
    replace hob := hob.kept hs8 (own_type_ne' hob hoP rfl)
    replace hc4 := blk_own hc4 hoP rfl hs8
    replace hc2 := blk_own hc2 hoP rfl hs8
    replace hc3 := blk_own hc3 hoP rfl hs8
    replace hD9 := hD9.own hoP hs8
    replace hL := hL.own hoP hs8
    replace hb5 := blk_own hb5 hoP rfl hs8
    refine L_st1 rfl rfl rfl sz27 hc4 rfl ?_
    intro w9 hb7 hs9 hz7
    replace hB := gb_trg hB hs9 ge3
    replace hbl := hbl.grown hs9 (ne_gt lt6)
    replace hbe := hbe.grown hs9 (ne_gt lt9)
    replace hS := hS.old hs9 ge3
    replace hD := hD.other hc4 rfl rfl hs9
    replace hbx := hbx.grown hs9 (ne_ty hbx hc4 rfl)
    replace hob := own_other hob hc4 rfl hs9
    replace hc2 := hc2.grown hs9 (ne_lt lt2)
    replace hc3 := hc3.grown hs9 (ne_lt lt3)
    replace hD9 := hD9.blk hc4 hs9
    replace hL := hL.blk hc4 hs9
    replace hb5 := hb5.grown hs9 (ne_gt lt13)
    replace ho1 := own_other ho1 hc4 rfl hs9
    refine L_nil (N_in ?_)
    refine rd_n hL (fun w5 hs5 hL5 => ?_)
    replace hB := gb_trg hB hs5 gL
    replace hbl := hbl.lp hL hs5
    replace hbe := hbe.lp hL hs5
    replace hS := hS.lp hL hs5
    replace hD := hD.lp hL hs5
    replace hbx := hbx.lp hL hs5
    replace hob := own_lp hob hL hs5
    replace hb7 := hb7.lp hL hs5
    replace hc2 := hc2.lp hL hs5
    replace hc3 := hc3.lp hL hs5
    replace hD9 := hD9.grown hs5 (by intro e_; injection e_; omega)
    replace hb5 := hb5.lp hL hs5
    replace ho1 := own_lp ho1 hL hs5
    exact ⟨rfl, hB, ⟨hbl, hbe, hS, hD⟩, hL5, ⟨_, _, hb7, (own_lo ho1 (Nat.le_refl _)), hc2, hc3, hD9⟩, hbx, hob⟩
  · intro w7 P7 b7 en7 gb7 cb7 hB hL hJ
    obtain ⟨A7, c7, hc4, hoP, hc2, hc3, hD9⟩ := hJ
    subst hrec
    refine yield_round1 hL rfl ?_
    refine C_reg rfl ?_
    refine L_alloc (cs := [.int .i64 0, .int .i64 0, .slice none 0 0]) zer71 rfl rfl ?_
    intro g6 w10 eg6 hb8 hs10 hz8
    have ge7 : w.heap.size ≤ g6 := eg_ge hB eg6
    have lt23 : g3 < g6 := lt_of_eg hc4.lt eg6
    have lt24 : g1 < g6 := lt_of_eg hc2.lt eg6
    have lt25 : g2 < g6 := lt_of_eg hc3.lt eg6
    replace hB := gb_tr hB hs10
    replace hc4 := hc4.gb hs10
    replace hoP := own_gb hoP hs10
    replace hc2 := hc2.gb hs10
    replace hc3 := hc3.gb hs10
    replace hD9 := hD9.gb hs10
    replace hL := hL.gb hs10
    refine L_stA (vs := [.int .i64 ((beginN en7 : Nat) : Int), .int .i64 0, .slice none 0 0]) rfl rfl rfl sz71 rfl hb8 rfl ?_
    intro w11 hb9 hs11 hz9
    replace hB := gb_trg hB hs11 ge7
    replace hc4 := hc4.grown hs11 (ne_lt lt23)
    replace hoP := own_other hoP hb8 rfl hs11
    replace hc2 := hc2.grown hs11 (ne_lt lt24)
    replace hc3 := hc3.grown hs11 (ne_lt lt25)
    replace hD9 := hD9.blk hb8 hs11
    replace hL := hL.blk hb8 hs11
    refine L_nil (N_then ?_)
    refine ⟨hL, fun w6 hs6 hL6 => ?_⟩
    replace hB := gb_trg hB hs6 gL
    replace hc4 := hc4.lp hL hs6
    replace hoP := own_lp hoP hL hs6
    replace hc2 := hc2.lp hL hs6
    replace hc3 := hc3.lp hL hs6
    replace hD9 := hD9.grown hs6 (by intro e_; injection e_; omega)
    replace hb9 := hb9.lp hL hs6
    replace hL := hL6
    refine C_block (C_seq (C_seq (C_reg rfl ?_)))
    refine L_run (R_field (r := 2) rfl fld71_2 rfl) rfl ?_
    refine L_run (R_load1 rfl scl46 (hb9.cell (i := 2) rfl)) rfl ?_
    refine L_run (R_eqlsNN rfl rfl Tryd.underlying46) rfl ?_
    refine L_nil (N_then (C_condT rfl rfl (C_seq (C_reg rfl ?_))))
    refine L_st1 rfl rfl rfl sz27 hc2 rfl ?_
    intro w12 hb10 hs12 hz10
    replace hB := gb_trg hB hs12 ge1
    replace hc4 := hc4.grown hs12 (ne_gt lt2)
    replace hoP := own_other hoP hc2 rfl hs12
    replace hc3 := hc3.grown hs12 (ne_gt lt1)
    replace hD9 := hD9.blk hc2 hs12
    replace hL := hL.blk hc2 hs12
    replace hb9 := hb9.grown hs12 (ne_gt lt24)
    refine L_st1 rfl rfl rfl sz4 hc3 rfl ?_
    intro w13 hb11 hs13 hz11
    replace hB := gb_trg hB hs13 ge2
    replace hc4 := hc4.grown hs13 (ne_gt lt3)
    replace hoP := own_other hoP hc3 rfl hs13
    replace hb10 := hb10.grown hs13 (ne_lt lt1)
    replace hD9 := hD9.blk hc3 hs13
    replace hL := hL.blk hc3 hs13
    replace hb9 := hb9.grown hs13 (ne_gt lt25)
    refine L_nil (N_then (C_ret (R_then (R_in ?_))))
    refine rd_r hL (fun w5 hs5 hL5 => ?_)
    replace hB := gb_trg hB hs5 gL
    replace hc4 := hc4.lp hL hs5
    replace hoP := own_lp hoP hL hs5
    replace hb10 := hb10.lp hL hs5
    replace hb11 := hb11.lp hL hs5
    replace hD9 := hD9.grown hs5 (by intro e_; injection e_; omega)
    replace hb9 := hb9.lp hL hs5
    exact ⟨rfl, hB, hL5, hb10, hb11, hD9⟩
  · rintro v9 w9 ⟨hB, ⟨b9, P9, en9, gb9, cb9, hX9, hL, ⟨A9, c9, hc4, hoP, hc2, hc3, hD9⟩, -⟩ | ⟨hX9, hL, hc2, hc3, hD9⟩⟩
    · subst hrec
      refine ⟨.ready, none, hL, (by intro e_; cases e_), fun w4 hs4 => ?_⟩
      replace hB := gb_trg hB hs4 gL
      replace hc4 := hc4.lp hL hs4
      replace hoP := own_lp hoP hL hs4
      replace hc2 := hc2.lp hL hs4
      replace hc3 := hc3.lp hL hs4
      replace hD9 := hD9.grown hs4 (by intro e_; injection e_; omega)
      have hD := hD9
      refine N_in (N_then (C_seq (C_reg rfl ?_)))
      refine L_run (R_load1 rfl scl27 (hc4.cell (i := 0) rfl)) rfl ?_
      refine L_st1 rfl rfl rfl sz27 hc2 rfl ?_
      intro w14 hb12 hs14 hz12
      replace hB := gb_trg hB hs14 ge1
      replace hc4 := hc4.grown hs14 (ne_gt lt2)
      replace hoP := own_other hoP hc2 rfl hs14
      replace hc3 := hc3.grown hs14 (ne_gt lt1)
      replace hD := hD.blk hc2 hs14
      refine L_st1 rfl rfl rfl sz4 hc3 rfl ?_
      intro w15 hb13 hs15 hz13
      replace hB := gb_trg hB hs15 ge2
      replace hc4 := hc4.grown hs15 (ne_gt lt3)
      replace hoP := own_other hoP hc3 rfl hs15
      replace hb12 := hb12.grown hs15 (ne_lt lt1)
      replace hD := hD.blk hc3 hs15
      refine L_nil (N_then (C_ret ?_))
      refine leaveM2 (.inr rfl) hD (fun w99 hs99 => ?_)
      replace hB := gb_trg hB hs99 gD
      replace hc4 := hc4.lp hD hs99
      replace hoP := own_lp hoP hD hs99
      replace hb12 := hb12.lp hD hs99
      replace hb13 := hb13.lp hD hs99
      refine rv2 (.inr rfl) Tryd.results14 (rvC (v := .slice A9 P9.length c9) rfl scl27 (hb12.cell (i := 0) rfl)) (rvC (v := .bool true) rfl scl4 (hb13.cell (i := 0) rfl)) ?_
      have hXX : (layT 0 (xsOf ls)) = layN 0 (xsOf ls) (List.replicate 832 0) [] 0 := rfl
      rw [hXX, hX9]; exact ⟨hB, _, _, rfl, (own_lo hoP (Nat.le_refl _))⟩
    · subst hrec
      refine ⟨.done, some .ret, hL, (by intro e_; cases e_), fun w4 hs4 => ?_⟩
      replace hB := gb_trg hB hs4 gL
      replace hc2 := hc2.lp hL hs4
      replace hc3 := hc3.lp hL hs4
      replace hD9 := hD9.grown hs4 (by intro e_; injection e_; omega)
      have hD := hD9
      refine C_ret (R_in (R_then ?_))
      refine leaveM2 (.inr rfl) hD (fun w99 hs99 => ?_)
      replace hB := gb_trg hB hs99 gD
      replace hc2 := hc2.lp hD hs99
      replace hc3 := hc3.lp hD hs99
      refine rv2 (.inr rfl) Tryd.results14 (rvC (v := .slice none 0 0) rfl scl27 (hc2.cell (i := 0) rfl)) (rvC (v := .bool false) rfl scl4 (hc3.cell (i := 0) rfl)) ?_
      have hXX : (layT 0 (xsOf ls)) = layN 0 (xsOf ls) (List.replicate 832 0) [] 0 := rfl
      rw [hXX, hX9]; exact ⟨hB, none, 0, rfl, own_nil _ _ _ _⟩

end Go.Proofs.YtbpjdcpfphnccaaDoor
