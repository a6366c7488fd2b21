/-
  Contracts of the package image: the body and its sectors.
-/
import Derived.Test.YtbpjdcpfphnccaaDoorTp
namespace Go.Proofs.YtbpjdcpfphnccaaDoor
open Go.RowKit Gw Pl
set_option linter.unusedVariables false
set_option linter.unusedSimpArgs false
theorem cb15 : callB Tryd.prog 15 = true := by kernel_rfl
theorem cb26 : callB Tryd.prog 26 = true := by kernel_rfl
theorem body_ok {w : World} {t1 lo hi : Nat} {A : Option Addr} {c e : Nat} {ls : List Bys} (hT : Tbw w) (hS : Sli t1 lo hi w A (fl encY ls)) (hD : DeepY 5 w ls) (hl : ls.length ≤ 1000000) (hds : ∀ y ∈ ls, y.xs.length ≤ 1000000 ∧ y.xs.length ≤ y.c) :
    Runs Tryd.prog 15 #[.int .u64 (e : Int), .slice A ls.length c] w (fun v w' => w.grownBy w' none ∧ ∃ A' c', v = .tuple #[.slice A' (lB (layT e (xsOf ls))).length c', .int .i64 ((lE (layT e (xsOf ls)) : Nat) : Int), .bool ((layT e (xsOf ls))).isSome] ∧ World.ownsRow w' w.heap.size 5 1 (.slice A' (lB (layT e (xsOf ls))).length c') (lB (layT e (xsOf ls))).length (fl encB (lB (layT e (xsOf ls))))) := by
  have hB := gb_refl w none
  replace hS := hS.top
  refine enterM Tryd.func15 Tryd.ntmps15 rfl rfl ?_
  refine C_seq (C_reg rfl ?_)
  refine L_run (R_assign rfl) rfl ?_
  refine L_run (R_assign rfl) rfl ?_
  refine L_run (R_assign rfl) rfl ?_
  refine L_nil (N_then (C_seq (C_reg rfl ?_)))
  refine L_make (enc := encB) (m := 832) (x0 := (0 : UInt8)) slc46 zer5 rfl rfl rfl EncB (by omega) (by omega) rfl ?_
  intro g1 w1 eg1 hb1 hs1 hz1
  have ge1 : w.heap.size ≤ g1 := eg_ge hB eg1
  replace hB := gb_tr hB hs1
  replace hS := hS.gb hs1
  replace hD := hD.gb hs1
  refine L_run (R_build (pv := [(2, .slice (some ⟨g1, 0, none⟩) 832 832)]) (cs := [.int .i64 0, .int .i64 0, .slice (some ⟨g1, 0, none⟩) 832 832]) rfl (by kernel_rfl)) rfl ?_
  refine L_alloc (cs := [.int .i64 0, .int .i64 0, .slice none 0 0]) zer71 rfl rfl ?_
  intro g2 w2 eg2 hb2 hs2 hz2
  have ge2 : w.heap.size ≤ g2 := eg_ge hB eg2
  have lt1 : g1 < g2 := lt_of_eg hb1.lt eg2
  replace hB := gb_tr hB hs2
  replace hS := hS.gb hs2
  replace hD := hD.gb hs2
  replace hb1 := hb1.gb hs2
  refine L_stA (vs := [.int .i64 0, .int .i64 0, .slice (some ⟨g1, 0, none⟩) 832 832]) rfl rfl rfl sz71 rfl hb2 rfl ?_
  intro w3 hb3 hs3 hz3
  replace hB := gb_trg hB hs3 ge2
  replace hS := hS.old hs3 ge2
  replace hD := hD.other hb2 rfl rfl hs3
  replace hb1 := hb1.grown hs3 (ne_lt lt1)
  refine L_nil (N_then (C_seq (C_seq (C_reg rfl ?_))))
  refine L_run (R_move rfl) rfl ?_
  refine L_run (R_move rfl) rfl ?_
  have ge3 : w.heap.size ≤ w3.heap.size := hB.size
  refine L_call rfl cb25 (ieach_ok (A := A) (n := ls.length) (c := c) (e := e)) rfl ?_
  rintro _ w4 ⟨hs4, gl, ge, gl0, ge0, rfl, hbl, hbe⟩
  have lt2 : g1 < gl := Nat.lt_of_lt_of_le hb1.lt gl0
  have lt3 : g2 < gl := Nat.lt_of_lt_of_le hb3.lt gl0
  have lt4 : g1 < ge := Nat.lt_of_lt_of_le hb1.lt ge0
  have lt5 : g2 < ge := Nat.lt_of_lt_of_le hb3.lt ge0
  have lb1 : g1 < w3.heap.size := hb1.lt
  replace hB := gb_tr hB hs4
  replace hS := hS.gb hs4
  replace hD := hD.gb hs4
  replace hb1 := hb1.gb hs4
  replace hb3 := hb3.gb hs4
  refine L_nil (N_then (C_block ?_))
  refine W_frg (l' := [(0, .int .u64 (e : Int)), (1, .slice A ls.length c), (4, .slice none 0 0), (5, .int .i64 0), (6, .bool false), (7, .pointer (some ⟨g2, 0, none⟩)), (13, .func (.func 34) #[] #[.pointer (some ⟨gl, 0, none⟩), .pointer (some ⟨ge, 0, none⟩)])]) ⟨rfl, rfl, rfl, rfl, rfl, rfl, rfl, trivial⟩ (fun σ9 => ?_)
  refine C_range2 (fs := []) (cs := [.pointer (some ⟨gl, 0, none⟩), .pointer (some ⟨ge, 0, none⟩)]) rfl cb34 (fun fn9 D L w8 rec hrec eD eL hD8 hL hs8 => ?_)
  have gD : w.heap.size ≤ D := eg_ge hB eD
  have gL : w.heap.size ≤ L := by have := hB.size; omega
  replace hB := gb_tr hB hs8
  replace hS := hS.gb hs8
  replace hD := hD.gb hs8
  replace hb1 := hb1.gb hs8
  replace hb3 := hb3.gb hs8
  replace hbl := hbl.gb hs8
  replace hbe := hbe.gb hs8
  have hlt7 := hb3.lt
  have hB8_ := hB.size
  have hom_ := Blk.own (sz := 1) (m := 832) hb1 (by decide) (by rw [fl_len EncB, List.length_replicate]) ge1
  refine (ieach1 (L := L) (rec := rec) (vb := true) (J := fun w_ P_ b_ en_ gb_ cb_ => ∃ (z_ : Int) (gl_ cl_ : Nat), Blk w_ g2 71 [.int .i64 z_, .int .i64 (en_ : Int), .slice (some ⟨gl_, 0, none⟩) b_.length cl_] ∧ LpF w_ D (.deferred (some [])) ∧ ((P_ = [] ∧ World.ownsRow w_ w.heap.size 5 1 (.slice (some ⟨gl_, 0, none⟩) b_.length cl_) b_.length (fl encB b_)) ∨ (gl_ = gb_ ∧ cl_ = cb_))) (Stop := fun w_ => LpF w_ L (recSt rec .ready none) ∧ LpF w_ D (.deferred (some [])) ∧ ∃ z_ : Int, Blk w_ g2 71 [.int .i64 z_, .int .i64 0, .slice none 0 0]) (e := e) hB hT (Nat.le_trans ge3 gl0) (Nat.le_trans ge3 ge0) ⟨hbl, hbe, hS.wide (Nat.zero_le _) (Nat.le_refl _), hD⟩ hL hl hds rfl (fun _ _ => ⟨0, g1, 832, (by rw [List.length_replicate]; exact hb3), hD8, .inl ⟨rfl, by rw [List.length_replicate]; exact hom_⟩⟩) ?_ ?_ ?_ ?_).mono ?_
  · rintro w_ w2_ P_ b_ en_ gb_ cb_ ⟨z_, gl_, cl_, h1, h2, h3⟩ hs_
    exact ⟨z_, gl_, cl_, h1.gb hs_, h2.gb hs_, h3.imp (fun q => ⟨q.1, own_gb q.2 hs_⟩) id⟩
  · rintro w_ w2_ g_ cs_ P_ b_ en_ gb_ cb_ ⟨z_, gl_, cl_, h1, h2, h3⟩ hb_ hg_ hs_
    exact ⟨z_, gl_, cl_, h1.grown hs_ (ne_lt (by omega)), h2.blk hb_ hs_, h3.imp (fun q => ⟨q.1, own_other q.2 hb_ rfl hs_⟩) id⟩
  · intro w7 P7 b7 b8 en7 en8 gb7 gb8 cb7 cb8 gx hB hL hJ hE hgx hbx hob hb8 hP8
    obtain ⟨hbl, hbe, hS, hD⟩ := hE
    obtain ⟨z7, gl7, cl7, hc7, hD9, -⟩ := hJ
    have gx0 : w.heap.size ≤ gx := by omega
    have hltx : g2 < gx := by omega
    subst hrec
    refine yield_round1 hL rfl ?_
    refine C_reg rfl ?_
    refine L_alloc (cs := [.int .i64 0, .int .i64 0, .slice none 0 0]) zer71 rfl rfl ?_
    intro g3 w5 eg3 hb4 hs5 hz4
    have ge4 : w.heap.size ≤ g3 := eg_ge hB eg3
    have lt6 : gl < g3 := lt_of_eg hbl.lt eg3
    have lt7 : ge < g3 := lt_of_eg hbe.lt eg3
    have lt8 : gx < g3 := lt_of_eg hbx.lt eg3
    have lt9 : g2 < g3 := lt_of_eg hc7.lt eg3
    replace hB := gb_tr hB hs5
    replace hbl := hbl.gb hs5
    replace hbe := hbe.gb hs5
    replace hS := hS.gb hs5
    replace hD := hD.gb hs5
    replace hbx := hbx.gb hs5
    replace hob := own_gb hob hs5
    replace hc7 := hc7.gb hs5
    replace hD9 := hD9.gb hs5
    replace hL := hL.gb hs5
    refine L_stA (vs := [.int .i64 ((beginN en7 : Nat) : Int), .int .i64 (en8 : Int), .slice (some ⟨gb8, 0, none⟩) b8.length cb8]) rfl rfl rfl sz71 rfl hb4 rfl ?_
    intro w6 hb5 hs6 hz5
    replace hB := gb_trg hB hs6 ge4
    replace hbl := hbl.grown hs6 (ne_lt lt6)
    replace hbe := hbe.grown hs6 (ne_lt lt7)
    replace hS := hS.old hs6 ge4
    replace hD := hD.other hb4 rfl rfl hs6
    replace hbx := hbx.grown hs6 (ne_lt lt8)
    replace hob := own_other hob hb4 rfl hs6
    replace hc7 := hc7.grown hs6 (ne_lt lt9)
    replace hD9 := hD9.blk hb4 hs6
    replace hL := hL.blk hb4 hs6
    refine L_nil (N_then ?_)
    refine ⟨hL, fun w6 hs6 hL6 => ?_⟩
    replace hB := gb_trg hB hs6 gL
    replace hbl := hbl.lp hL hs6
    replace hbe := hbe.lp hL hs6
    replace hS := hS.lp hL hs6
    replace hD := hD.lp hL hs6
    replace hbx := hbx.lp hL hs6
    replace hob := own_lp hob hL hs6
    replace hc7 := hc7.lp hL hs6
    replace hD9 := hD9.grown hs6 (by intro e_; injection e_; omega)
    replace hb5 := hb5.lp hL hs6
    replace hL := hL6
    refine C_block (C_reg rfl ?_)
    refine L_run (R_loadA (vs := [.int .i64 ((beginN en7 : Nat) : Int), .int .i64 (en8 : Int), .slice (some ⟨gb8, 0, none⟩) b8.length cb8]) rfl agg71 (At.pre (hb5.at_ 0) rfl) rfl) rfl ?_
    refine L_stA (vs := [.int .i64 ((beginN en7 : Nat) : Int), .int .i64 (en8 : Int), .slice (some ⟨gb8, 0, none⟩) b8.length cb8]) rfl rfl rfl sz71 rfl hc7 rfl ?_
    intro w7 hb6 hs7 hz6
    replace hB := gb_trg hB hs7 ge2
    replace hbl := hbl.grown hs7 (ne_ty hbl hc7 rfl)
    replace hbe := hbe.grown hs7 (ne_ty hbe hc7 rfl)
    replace hS := hS.old hs7 ge2
    replace hD := hD.other hc7 rfl rfl hs7
    replace hbx := hbx.grown hs7 (ne_gt hltx)
    replace hob := own_other hob hc7 rfl hs7
    replace hD9 := hD9.blk hc7 hs7
    replace hL := hL.blk hc7 hs7
    replace hb5 := hb5.grown hs7 (ne_gt lt9)
    refine L_nil (N_in ?_)
    refine rd_n hL (fun w5 hs5 hL5 => ?_)
    replace hB := gb_trg hB hs5 gL
    replace hbl := hbl.lp hL hs5
    replace hbe := hbe.lp hL hs5
    replace hS := hS.lp hL hs5
    replace hD := hD.lp hL hs5
    replace hbx := hbx.lp hL hs5
    replace hob := own_lp hob hL hs5
    replace hb6 := hb6.lp hL hs5
    replace hD9 := hD9.grown hs5 (by intro e_; injection e_; omega)
    replace hb5 := hb5.lp hL hs5
    exact ⟨rfl, hB, ⟨hbl, hbe, hS, hD⟩, hL5, ⟨_, _, _, hb6, hD9, .inr ⟨rfl, rfl⟩⟩, hbx, hob⟩
  · intro w7 P7 b7 en7 gb7 cb7 hB hL hJ
    obtain ⟨z7, gl7, cl7, hc7, hD9, -⟩ := hJ
    subst hrec
    refine yield_round1 hL rfl ?_
    refine C_reg rfl ?_
    refine L_alloc (cs := [.int .i64 0, .int .i64 0, .slice none 0 0]) zer71 rfl rfl ?_
    intro g4 w8 eg4 hb7 hs8 hz7
    have ge5 : w.heap.size ≤ g4 := eg_ge hB eg4
    have lt10 : g2 < g4 := lt_of_eg hc7.lt eg4
    replace hB := gb_tr hB hs8
    replace hc7 := hc7.gb hs8
    replace hD9 := hD9.gb hs8
    replace hL := hL.gb hs8
    refine L_stA (vs := [.int .i64 ((beginN en7 : Nat) : Int), .int .i64 0, .slice none 0 0]) rfl rfl rfl sz71 rfl hb7 rfl ?_
    intro w9 hb8 hs9 hz8
    replace hB := gb_trg hB hs9 ge5
    replace hc7 := hc7.grown hs9 (ne_lt lt10)
    replace hD9 := hD9.blk hb7 hs9
    replace hL := hL.blk hb7 hs9
    refine L_nil (N_then ?_)
    refine ⟨hL, fun w6 hs6 hL6 => ?_⟩
    replace hB := gb_trg hB hs6 gL
    replace hc7 := hc7.lp hL hs6
    replace hD9 := hD9.grown hs6 (by intro e_; injection e_; omega)
    replace hb8 := hb8.lp hL hs6
    replace hL := hL6
    refine C_block (C_reg rfl ?_)
    refine L_run (R_loadA (vs := [.int .i64 ((beginN en7 : Nat) : Int), .int .i64 0, .slice none 0 0]) rfl agg71 (At.pre (hb8.at_ 0) rfl) rfl) rfl ?_
    refine L_stA (vs := [.int .i64 ((beginN en7 : Nat) : Int), .int .i64 0, .slice none 0 0]) rfl rfl rfl sz71 rfl hc7 rfl ?_
    intro w10 hb9 hs10 hz9
    replace hB := gb_trg hB hs10 ge2
    replace hD9 := hD9.blk hc7 hs10
    replace hL := hL.blk hc7 hs10
    replace hb8 := hb8.grown hs10 (ne_gt lt10)
    refine L_nil (N_in ?_)
    refine rd_n hL (fun w5 hs5 hL5 => ?_)
    replace hB := gb_trg hB hs5 gL
    replace hb9 := hb9.lp hL hs5
    replace hD9 := hD9.grown hs5 (by intro e_; injection e_; omega)
    replace hb8 := hb8.lp hL hs5
    exact ⟨rfl, hB, hL5, hD9, _, hb9⟩
  · rintro v9 w9 ⟨hB, ⟨b9, P9, en9, gb9, cb9, hX9, hL, ⟨z9, gl9, cl9, hc7, hD9, hor9⟩, hob⟩ | ⟨hX9, hL, hD9, z9, hc7⟩⟩
    · replace hob : World.ownsRow w9 w.heap.size 5 1 (.slice (some ⟨gl9, 0, none⟩) b9.length cl9) b9.length (fl encB b9) := by
        rcases hor9 with ⟨-, h_⟩ | ⟨rfl, rfl⟩
        · exact h_
        · exact hob
      subst hrec
      refine ⟨.ready, none, hL, (by intro e_; cases e_), fun w4 hs4 => ?_⟩
      replace hB := gb_trg hB hs4 gL
      replace hc7 := hc7.lp hL hs4
      replace hD9 := hD9.grown hs4 (by intro e_; injection e_; omega)
      replace hob := own_lp hob hL hs4
      have hD := hD9
      refine N_in (N_then (C_seq ?_))
      refine C_draw2 rfl mix ?_
      intro w11 hs11 hz10
      replace hB := gb_tr hB hs11
      replace hc7 := hc7.gb hs11
      replace hD := hD.gb hs11
      replace hob := own_gb hob hs11
      refine ⟨fun W_ => Blk W_ g2 71 [.int .i64 z9, .int .i64 (en9 : Int), .slice (some ⟨gl9, 0, none⟩) b9.length cl9] ∧ True, [0, 1, 2, 3, 4, 5, 6, 7, 8, 9], ?_⟩
      refine T_takeA (i := 0) rfl rfl (by kernel_rfl) (by kernel_rfl) (by kernel_rfl) (Y_of (fun _ ⟨hc7, _⟩ => R_field (r := 2) rfl fld71_2 rfl)) ⟨hc7, trivial⟩ rfl ?_
      refine T_takeA (i := 1) rfl rfl (by kernel_rfl) (by kernel_rfl) (by kernel_rfl) (Y_of (fun _ ⟨hc7, _⟩ => R_load1 rfl scl46 (hc7.cell (i := 2) rfl))) ⟨hc7, trivial⟩ rfl ?_
      refine T_takeA (i := 2) rfl rfl (by kernel_rfl) (by kernel_rfl) (by kernel_rfl) (Y_of (fun _ ⟨hc7, _⟩ => R_field (r := 1) rfl fld71_1 rfl)) ⟨hc7, trivial⟩ rfl ?_
      refine T_takeA (i := 3) rfl rfl (by kernel_rfl) (by kernel_rfl) (by kernel_rfl) (Y_of (fun _ ⟨hc7, _⟩ => R_load1 rfl scl3 (hc7.cell (i := 1) rfl))) ⟨hc7, trivial⟩ rfl ?_
      refine T_takeA (i := 4) rfl rfl (by kernel_rfl) (by kernel_rfl) (by kernel_rfl) (Y_of (fun _ ⟨hc7, _⟩ => R_field (r := 2) rfl fld71_2 rfl)) ⟨hc7, trivial⟩ rfl ?_
      refine T_takeA (i := 5) rfl rfl (by kernel_rfl) (by kernel_rfl) (by kernel_rfl) (Y_of (fun _ ⟨hc7, _⟩ => R_load1 rfl scl46 (hc7.cell (i := 2) rfl))) ⟨hc7, trivial⟩ rfl ?_
      refine T_takeA (i := 6) rfl rfl (by kernel_rfl) (by kernel_rfl) (by kernel_rfl) (Y_of (fun _ ⟨hc7, _⟩ => R_neqsSN rfl rfl Tryd.underlying46)) ⟨hc7, trivial⟩ rfl ?_
      refine T_takeA (i := 7) rfl rfl (by kernel_rfl) (by kernel_rfl) (by kernel_rfl) (Y_of (fun _ ⟨hc7, _⟩ => R_assign rfl)) ⟨hc7, trivial⟩ rfl ?_
      refine T_takeA (i := 8) rfl rfl (by kernel_rfl) (by kernel_rfl) (by kernel_rfl) (Y_of (fun _ ⟨hc7, _⟩ => R_assign rfl)) ⟨hc7, trivial⟩ rfl ?_
      refine T_takeA (i := 9) rfl rfl (by kernel_rfl) (by kernel_rfl) (by kernel_rfl) (Y_of (fun _ ⟨hc7, _⟩ => R_assign rfl)) ⟨hc7, trivial⟩ rfl ?_
      refine T_done (by kernel_rfl) (CalmE.normal ?_)
      refine N_then (C_ret ?_)
      refine leaveM2 (.inr rfl) hD (fun w99 hs99 => ?_)
      replace hB := gb_trg hB hs99 gD
      replace hc7 := hc7.lp hD hs99
      replace hob := own_lp hob hD hs99
      refine rv3 (.inr rfl) Tryd.results15 (rvT rfl) (rvT rfl) (rvT rfl) ?_
      have hXX : (layT e (xsOf ls)) = layN e (xsOf ls) (List.replicate 832 0) [] 0 := rfl
      rw [hXX, hX9]; exact ⟨hB, _, _, rfl, (own_lo hob (Nat.le_refl _))⟩
    · subst hrec
      refine ⟨.ready, none, hL, (by intro e_; cases e_), fun w4 hs4 => ?_⟩
      replace hB := gb_trg hB hs4 gL
      replace hc7 := hc7.lp hL hs4
      replace hD9 := hD9.grown hs4 (by intro e_; injection e_; omega)
      have hD := hD9
      refine N_in (N_then (C_seq ?_))
      refine C_draw2 rfl mix ?_
      intro w12 hs12 hz11
      replace hB := gb_tr hB hs12
      replace hc7 := hc7.gb hs12
      replace hD := hD.gb hs12
      refine ⟨fun W_ => Blk W_ g2 71 [.int .i64 z9, .int .i64 0, .slice none 0 0] ∧ True, [0, 1, 2, 3, 4, 5, 6, 7, 8, 9], ?_⟩
      refine T_takeA (i := 0) rfl rfl (by kernel_rfl) (by kernel_rfl) (by kernel_rfl) (Y_of (fun _ ⟨hc7, _⟩ => R_field (r := 2) rfl fld71_2 rfl)) ⟨hc7, trivial⟩ rfl ?_
      refine T_takeA (i := 1) rfl rfl (by kernel_rfl) (by kernel_rfl) (by kernel_rfl) (Y_of (fun _ ⟨hc7, _⟩ => R_load1 rfl scl46 (hc7.cell (i := 2) rfl))) ⟨hc7, trivial⟩ rfl ?_
      refine T_takeA (i := 2) rfl rfl (by kernel_rfl) (by kernel_rfl) (by kernel_rfl) (Y_of (fun _ ⟨hc7, _⟩ => R_field (r := 1) rfl fld71_1 rfl)) ⟨hc7, trivial⟩ rfl ?_
      refine T_takeA (i := 3) rfl rfl (by kernel_rfl) (by kernel_rfl) (by kernel_rfl) (Y_of (fun _ ⟨hc7, _⟩ => R_load1 rfl scl3 (hc7.cell (i := 1) rfl))) ⟨hc7, trivial⟩ rfl ?_
      refine T_takeA (i := 4) rfl rfl (by kernel_rfl) (by kernel_rfl) (by kernel_rfl) (Y_of (fun _ ⟨hc7, _⟩ => R_field (r := 2) rfl fld71_2 rfl)) ⟨hc7, trivial⟩ rfl ?_
      refine T_takeA (i := 5) rfl rfl (by kernel_rfl) (by kernel_rfl) (by kernel_rfl) (Y_of (fun _ ⟨hc7, _⟩ => R_load1 rfl scl46 (hc7.cell (i := 2) rfl))) ⟨hc7, trivial⟩ rfl ?_
      refine T_takeA (i := 6) rfl rfl (by kernel_rfl) (by kernel_rfl) (by kernel_rfl) (Y_of (fun _ ⟨hc7, _⟩ => R_neqsNN rfl rfl Tryd.underlying46)) ⟨hc7, trivial⟩ rfl ?_
      refine T_takeA (i := 7) rfl rfl (by kernel_rfl) (by kernel_rfl) (by kernel_rfl) (Y_of (fun _ ⟨hc7, _⟩ => R_assign rfl)) ⟨hc7, trivial⟩ rfl ?_
      refine T_takeA (i := 8) rfl rfl (by kernel_rfl) (by kernel_rfl) (by kernel_rfl) (Y_of (fun _ ⟨hc7, _⟩ => R_assign rfl)) ⟨hc7, trivial⟩ rfl ?_
      refine T_takeA (i := 9) rfl rfl (by kernel_rfl) (by kernel_rfl) (by kernel_rfl) (Y_of (fun _ ⟨hc7, _⟩ => R_assign rfl)) ⟨hc7, trivial⟩ rfl ?_
      refine T_done (by kernel_rfl) (CalmE.normal ?_)
      refine N_then (C_ret ?_)
      refine leaveM2 (.inr rfl) hD (fun w99 hs99 => ?_)
      replace hB := gb_trg hB hs99 gD
      replace hc7 := hc7.lp hD hs99
      refine rv3 (.inr rfl) Tryd.results15 (rvT rfl) (rvT rfl) (rvT rfl) ?_
      have hXX : (layT e (xsOf ls)) = layN e (xsOf ls) (List.replicate 832 0) [] 0 := rfl
      rw [hXX, hX9]; exact ⟨hB, none, 0, rfl, own_nil _ _ _ _⟩

theorem isectors_ok {w : World} {t1 lo hi : Nat} {A : Option Addr} {c e : Nat} {ls : List Bys} (hT : Tbw w) (hS : Sli t1 lo hi w A (fl encY ls)) (hD : DeepY 5 w ls) (hl : ls.length ≤ 1000000) (hds : ∀ y ∈ ls, y.xs.length ≤ 1000000 ∧ y.xs.length ≤ y.c) (he : e < 18446744073709551616) :
    Runs Tryd.prog 16 #[.int .u64 (e : Int), .slice A ls.length c] w (fun v w' => w.grownBy w' none ∧ ∃ (ss : List Sx) (A' : Option Addr) (c' : Nat), v = .tuple #[.slice A' ss.length c', .bool (layT e (xsOf ls)).isSome] ∧ World.ownsRow w' w.heap.size 62 64 (.slice A' ss.length c') ss.length (fl encX ss) ∧ bsOf ss = secsN e (xsOf ls)) := by
  have hB := gb_refl w none
  replace hS := hS.top
  refine enter Tryd.func16 Tryd.ntmps16 rfl rfl ?_
  refine C_seq (C_reg rfl ?_)
  refine L_run (R_assign rfl) rfl ?_
  refine L_run (R_assign rfl) rfl ?_
  refine L_nil (N_then (C_seq (C_reg rfl ?_)))
  refine L_run (R_move rfl) rfl ?_
  refine L_run (R_move rfl) rfl ?_
  have ge1 : w.heap.size ≤ w.heap.size := hB.size
  refine L_call rfl cb15 (body_ok (e := e) (ls := ls) (hT.gb hB) hS hD hl hds) rfl ?_
  rintro _ w1 ⟨hs1, A_1, c_1, rfl, ho1⟩
  replace hB := gb_tr hB hs1
  replace hS := hS.gb hs1
  replace hD := hD.gb hs1
  have hlo1 : w.heap.size ≤ w1.heap.size := hs1.size
  refine L_run (R_move rfl) rfl ?_
  refine L_run (R_extract rfl rfl) rfl ?_
  refine L_run (R_extract rfl rfl) rfl ?_
  refine L_run (R_extract rfl rfl) rfl ?_
  refine L_run (R_assign rfl) rfl ?_
  refine L_run (R_assign rfl) rfl ?_
  refine L_run (R_assign rfl) rfl ?_
  refine L_nil (N_then (C_seq (C_seq (C_reg rfl ?_))))
  refine L_run (R_move rfl) rfl ?_
  refine L_run (R_not rfl) rfl ?_
  refine L_nil (N_then ?_)
  refine C_cond rfl (fun h1 => ?_) (fun h1 => ?_)
  · refine C_seq (C_reg rfl ?_)
    refine L_run (R_assign rfl) rfl ?_
    refine L_run (R_assign rfl) rfl ?_
    refine L_nil (N_then (C_ret (R_then ?_)))
    refine ret2 Tryd.results16 rfl rfl ?_
    have hn_ : (layT e (xsOf ls)).isSome = false := by simpa using h1
    exact ⟨hB, [], none, 0, by rw [hn_]; first | done | rfl, own_nil _ _ _ _, by rw [layT_none hn_]; first | done | rfl⟩
  · refine C_skip (N_then (C_seq (C_reg rfl ?_)))
    refine L_run (R_move rfl) rfl ?_
    refine L_run (R_move rfl) rfl ?_
    refine L_run (R_move rfl) rfl ?_
    have hsm : (layT e (xsOf ls)).isSome = true := by simpa using h1
    have ge2 : w.heap.size ≤ w1.heap.size := hB.size
    refine L_call rfl cb26 (pwhole_ok (e := e) (body := lB (layT e (xsOf ls))) (en := (lE (layT e (xsOf ls)))) (own_of ho1).2.2 (layT_len hsm).1 (own_cap ho1) he) rfl ?_
    rintro _ w2 ⟨hs2, ss1, A_2, c_2, rfl, ho2, hw1⟩
    replace hB := gb_tr hB hs2
    replace hS := hS.gb hs2
    replace hD := hD.gb hs2
    replace ho1 := own_gb ho1 hs2
    replace hlo1 := Nat.le_trans hlo1 hs2.size
    have hlo2 : w1.heap.size ≤ w2.heap.size := hs2.size
    refine L_run (R_assign rfl) rfl ?_
    refine L_run (R_assign rfl) rfl ?_
    refine L_nil (N_then (C_ret ?_))
    refine ret2 Tryd.results16 rfl rfl ?_
    exact ⟨hB, ss1, _, _, by rw [hsm], (own_lo ho2 ge2), by rw [hw1, (layT_len hsm).2]⟩

end Go.Proofs.YtbpjdcpfphnccaaDoor
