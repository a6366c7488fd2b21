import Derived.LaidMore
import Derived.OpenShut
import Derived.Test.YtkjgjejkfjhcjaaDoorKg
/-
  What the law's proof stands on, part 8.
-/
namespace Go.Proofs.YtkjgjejkfjhcjaaDoor
open Go.RowKit Gw Pl
set_option linter.unusedVariables false
set_option linter.unusedSimpArgs false
theorem agg99 : aggB Tryd.prog 99 4 = true := by kernel_rfl
theorem cb70 : callB Tryd.prog 70 = true := by kernel_rfl
theorem cb71 : callB Tryd.prog 71 = true := by kernel_rfl
theorem cb72 : callB Tryd.prog 72 = true := by kernel_rfl
theorem cb73 : callB Tryd.prog 73 = true := by kernel_rfl
theorem fld99_3 : fldB Tryd.prog 99 3 3 = true := by kernel_rfl
theorem sz99 : szB Tryd.prog 99 4 = true := by kernel_rfl
theorem zer99 : (Tryd.prog.info? 99).bind (·.zero) = some (.agg #[.slice none 0 0, .slice none 0 0, .int .i64 0, .int .i64 0]) := by kernel_rfl
theorem room_take {ss : List Sx} {e i : Nat} (hi : i < 16) : roomN (bsOf (ss.take (min ss.length 16))) e i = roomN (bsOf ss) e i := by
  unfold roomN bsOf
  rw [List.getElem?_map, List.getElem?_map]
  by_cases h : i < ss.length
  · rw [List.getElem?_take_of_lt (by omega)]
  · rw [List.getElem?_eq_none (by rw [List.length_take]; omega), List.getElem?_eq_none (by omega)]
theorem flatB_take {ss : List Sx} {e : Nat} : flatB (bsOf (ss.take (min ss.length 16))) e 16 = flatB (bsOf ss) e 16 := by
  unfold flatB
  rw [List.flatMap_def, List.flatMap_def]
  exact congrArg List.flatten (List.map_congr_left fun i hi => by rw [room_take (by simpa using hi)])
theorem flatO_take {ss : List Sx} {e : Nat} : flatO (bsOf (ss.take (min ss.length 16))) e 16 = flatO (bsOf ss) e 16 := by
  unfold flatO
  exact List.map_congr_left fun i hi => by rw [room_take (by simpa using hi)]
theorem scn_take {ss : List Sx} {e : Nat} : scn (ss.take (min ss.length 16)) e = scn ss e := by
  unfold scn
  rw [flatB_take, flatO_take]
theorem rest_take {ss : List Sx} {n : Nat} : restN (bsOf (ss.take (min ss.length 16))) n ↔ restN (bsOf ss) n := by
  have key : ∀ i, i < ss.length → i < 16 → (bsOf (ss.take (min ss.length 16))).getD i [] = (bsOf ss).getD i [] := by
    intro i h1 h2
    unfold bsOf
    rw [List.getD_eq_getElem?_getD, List.getD_eq_getElem?_getD, List.getElem?_map, List.getElem?_map, List.getElem?_take_of_lt (by omega)]
  have hl : (bsOf (ss.take (min ss.length 16))).length = min ss.length 16 := by rw [bs_len', List.length_take]; omega
  constructor
  · intro h i h1 h2 k hk hc
    rw [bs_len'] at h1
    rw [← key i h1 h2]
    exact h i (by rw [hl]; omega) h2 k hk hc
  · intro h i h1 h2 k hk hc
    rw [hl] at h1
    rw [key i (by omega) h2]
    exact h i (by rw [bs_len']; omega) h2 k hk hc
theorem Gw.Sli.via {t lo : Nat} {w w1 w2 : World} {A : Option Addr} {vs : List Value} (h : Sli t lo w.heap.size w1 A vs) (h1 : w.grownBy w1 none) (h2 : w.grownBy w2 none) : Sli t lo w.heap.size w2 A vs := by
  rcases h with h | ⟨g, off, c, fr, hA, g1, g2, ⟨t', h3, ht⟩, h4⟩
  · exact .inl h
  · exact .inr ⟨g, off, c, fr, hA, g1, g2, ⟨t', ((h2.block g g2 (by simp)).trans (h1.block g g2 (by simp)).symm).trans h3, ht⟩, h4⟩
theorem scan_ok {w : World} {t1 lo hi : Nat} {A : Option Addr} {c e : Nat} {ss : List Sx} (hS : Sli t1 lo hi w A (fl encX ss)) (he : e < 18446744073709551616) (hc : ss.length ≤ c) (hT : Tbw w) :
    Runs Tryd.prog 51 #[.int .u64 (e : Int), .slice A ss.length c] w (fun v w' => w.grownBy w' none ∧ ∃ (R : List Bys) (Pl : List Int) (Ar : Option Addr) (cr : Nat) (Ap : Option Addr) (cp : Nat) (en : Nat), v = .agg #[.slice Ar R.length cr, .slice Ap Pl.length cp, .int .i64 (en : Int), .int .i64 (if restN (bsOf ss) en then 1 else 2)] ∧ World.ownsRow w' w.heap.size 34 1 (.slice Ar R.length cr) R.length (fl encY R) ∧ DeepY 5 w' R ∧ World.ownsRow w' w.heap.size 3 1 (.slice Ap Pl.length cp) Pl.length (fl encZ Pl) ∧ ScR (scn ss e) R Pl en ∧ en ≤ 832 ∧ R.length ≤ 832) := by
 have hB := gb_refl w none
 replace hS := hS.top
 refine enter Tryd.func51 Tryd.ntmps51 rfl rfl ?_
 refine C_seq (C_reg rfl ?_)
 refine L_alloc (cs := [.slice none 0 0, .slice none 0 0, .int .i64 0, .int .i64 0]) zer99 rfl rfl ?_
 intro g1 w1 eg1 hb1 hs1 hz1
 have ge1 : w.heap.size ≤ g1 := eg_ge hB eg1
 replace hB := gb_tr hB hs1; replace hS := hS.gb hs1
 refine L_nil (N_then (C_seq (C_reg rfl (Lmv rfl rfl (Lmv rfl rfl (L_run (R_lenSl rfl slc26) rfl ?_))))))
 refine L_run (R_eqv (R_min2 rfl rfl) (v' := .int .i64 ((min ss.length 16 : Nat) : Int)) (congrArg _ (by omega))) rfl ?_
 refine T_slH (xs := ss) (j := (min ss.length 16)) EncX rfl rfl (by first | rfl | omega) slc26 (by omega) hc hS rfl ?_
 intro A_1 hS_1
 refine Las rfl rfl (L_nil (N_then (C_seq (C_reg rfl (Lmv rfl rfl (Lmv rfl rfl ?_))))))
 have ge2 : w.heap.size ≤ w1.heap.size := hB.size
 refine L_call rfl cb70 (flat_ok (e := e) (ss := ss.take (min ss.length 16)) hS_1 he) rfl ?_
 rintro _ w2 ⟨hs2, g2, g3, hg1, hg2, rfl, hb2, hb3⟩
 replace hB := gb_tr hB hs2; replace hS := hS.gb hs2; replace hb1 := hb1.gb hs2; replace hS_1 := hS_1.gb hs2
 refine Lmv rfl rfl (L_run (R_extract rfl rfl) rfl (L_run (R_extract rfl rfl) rfl (Las rfl rfl (Las rfl rfl (L_nil (N_then (C_seq (C_reg rfl (Lmv rfl rfl ?_)))))))))
 refine L_run (R_eqv (R_conv rfl any30 int75) (v' := .int .u32 ((e % 4294967296 : Nat) : Int)) (congrArg _ (by rw [IntKind.wrap_u32]; omega))) rfl ?_
 refine Lmv rfl rfl (Lmv rfl rfl ?_)
 have ge3 : w.heap.size ≤ w2.heap.size := hB.size
 refine L_call rfl cb71 (new_ok) rfl ?_
 rintro _ w3 ⟨hs3, g4, hg3, rfl, hb4⟩
 have lb1 : g2 < w2.heap.size := hb2.lt
 have lb2 : g3 < w2.heap.size := hb3.lt
 replace hB := gb_tr hB hs3; replace hS := hS.gb hs3; replace hb1 := hb1.gb hs3; replace hS_1 := hS_1.gb hs3; replace hb2 := hb2.gb hs3; replace hb3 := hb3.gb hs3
 refine L_run (R_build (pv := [(0, .int .u32 ((e % 4294967296 : Nat) : Int)), (1, .slice (some ⟨g2, 0, none⟩) ((flatB (bsOf (ss.take (min ss.length 16))) e 16).length) 832), (2, .slice (some ⟨g3, 0, none⟩) ((flatO (bsOf (ss.take (min ss.length 16))) e 16).length) 16), (3, .pointer (some ⟨g4, 0, none⟩))]) (cs := [.int .u32 ((e % 4294967296 : Nat) : Int), .slice (some ⟨g2, 0, none⟩) ((flatB (bsOf (ss.take (min ss.length 16))) e 16).length) 832, .slice (some ⟨g3, 0, none⟩) ((flatO (bsOf (ss.take (min ss.length 16))) e 16).length) 16, .pointer (some ⟨g4, 0, none⟩), .int .i64 0, .int .i64 0, .slice none 0 0, .slice none 0 0, .int .i64 0, .int .i64 0]) rfl (by kernel_rfl)) rfl ?_
 refine L_box (cs := [.int .u32 ((e % 4294967296 : Nat) : Int), .slice (some ⟨g2, 0, none⟩) ((flatB (bsOf (ss.take (min ss.length 16))) e 16).length) 832, .slice (some ⟨g3, 0, none⟩) ((flatO (bsOf (ss.take (min ss.length 16))) e 16).length) 16, .pointer (some ⟨g4, 0, none⟩), .int .i64 0, .int .i64 0, .slice none 0 0, .slice none 0 0, .int .i64 0, .int .i64 0]) rfl rfl rfl ?_
 intro g5 w4 eg2 hb5 hs4 hz2
 have ge4 : w.heap.size ≤ g5 := eg_ge hB eg2
 replace hB := gb_tr hB hs4; replace hS := hS.gb hs4; replace hb1 := hb1.gb hs4; replace hS_1 := hS_1.gb hs4; replace hb2 := hb2.gb hs4; replace hb3 := hb3.gb hs4; replace hb4 := hb4.gb hs4
 refine Las rfl rfl (L_nil (N_then (C_seq (C_seq (C_reg rfl (Lmv rfl rfl (L_run (R_makeFunc rfl rfl) rfl (Las rfl rfl (L_nil (N_then (C_block ?_)))))))))))
 refine C_loop (fun m_ a_ w_ => ∃ (σ_ : Nat → Value) (p : Nat) (f : Nat) (o : Bool) (bs : List UInt8) (Aj : Option Addr) (cj : Nat) (R : List Bys) (Ar : Option Addr) (cr : Nat) (Pl : List Int) (Ap : Option Addr) (cp : Nat) (en : Nat) (fu : Nat) (acc : List (List UInt8 × Nat × Nat)), a_ = Ac 50 σ_ [] [(1, .slice A_1 ((ss.take (min ss.length 16)).length) c), (4, .pointer (some ⟨g1, 0, none⟩)), (7, .pointer (some ⟨g5, 0, none⟩)), (8, .func (.func 72) #[.pointer (some ⟨g5, 0, none⟩)] #[])] ∧ w.grownBy w_ none ∧ Sli t1 lo w.heap.size w_ A (fl encX ss) ∧ Sli t1 lo w.heap.size w_ A_1 (fl encX (ss.take (min ss.length 16))) ∧ Blk w_ g5 119 [.int .u32 ((e % 4294967296 : Nat) : Int), .slice (some ⟨g2, 0, none⟩) ((flatB (bsOf (ss.take (min ss.length 16))) e 16).length) 832, .slice (some ⟨g3, 0, none⟩) ((flatO (bsOf (ss.take (min ss.length 16))) e 16).length) 16, .pointer (some ⟨g4, 0, none⟩), .int .i64 (p : Int), .int .i64 (f : Int), .slice Ar R.length cr, .slice Ap Pl.length cp, .int .i64 (en : Int), .int .i64 0] ∧ Blk w_ g4 130 [.bool o, .slice Aj bs.length cj] ∧ Blk w_ g2 5 (fl encB (flatB (bsOf (ss.take (min ss.length 16))) e 16)) ∧ Blk w_ g3 4 (fl encO (flatO (bsOf (ss.take (min ss.length 16))) e 16)) ∧ World.ownsRow w_ w.heap.size 5 1 (.slice Aj bs.length cj) bs.length (fl encB bs) ∧ World.ownsRow w_ w.heap.size 34 1 (.slice Ar R.length cr) R.length (fl encY R) ∧ World.ownsRow w_ w.heap.size 3 1 (.slice Ap Pl.length cp) Pl.length (fl encZ Pl) ∧ DeepY 5 w_ R ∧ Blk w_ g1 99 [.slice none 0 0, .slice none 0 0, .int .i64 0, .int .i64 0] ∧ (p ≤ 832) ∧ (bs.length ≤ 512) ∧ (R.length ≤ p ∧ Pl.length ≤ p ∧ en ≤ 832) ∧ (832 < p + fu) ∧ (ScR acc R Pl en) ∧ (acc ++ scanL e (flatB (bsOf (ss.take (min ss.length 16))) e 16) (flatO (bsOf (ss.take (min ss.length 16))) e 16) fu p f o bs = scn (ss.take (min ss.length 16)) e) ∧ 832 - p = m_) (832 - 0) ?_ ?_
 ·exact ⟨_, 0, 0, false, [], none, 0, [], none, 0, [], none, 0, 0, 833, [], Ac_frg ⟨rfl, rfl, rfl, rfl, trivial⟩, hB, hS, hS_1, hb5, hb4, hb2, hb3, (own_nil _ _ _ _), (own_nil _ _ _ _), (own_nil _ _ _ _), DeepY.nil, hb1, (by omega), (by decide), (by decide), (by omega), ScR.nil, rfl, rfl⟩
 ·clear hB
  clear hS hb1 hS_1 hb2 hb3 hb4 hb5
  rintro m_ a_ w5 ⟨σ_, p, f, o, bs, Aj, cj, R, Ar, cr, Pl, Ap, cp, en, fu, acc, rfl, hB, hS, hS_1, hbs, hbj, hbB, hbO, ho, hoR, hoP, hDY, hbr4, hp, hbs_, hRl, hfu, hSR, hSX, rfl⟩
  refine C_seq (C_seq (C_reg rfl ?_))
  refine Lmv rfl rfl ?_
  have hB0_ := hB
  refine L_callV (first := [.pointer (some ⟨g5, 0, none⟩)]) (cap := []) rfl rfl cb72 (step_ok (gs := g5) (gj := g4) (gB := g2) (gO := g3) (e := e) (X := scn (ss.take (min ss.length 16)) e) hB hT flatB_n flatO_n ge4 (Nat.le_trans ge3 hg3) (Nat.le_trans ge2 hg1) (Nat.le_trans ge2 hg2) ge1 hbs hbj hbB hbO ho hoR hoP hDY hbr4 hp hbs_ hRl hfu hSR hSX) rfl ?_
  rintro _ w9 ⟨hB, ⟨p9, f9, rfl, hX9, hbs, hoR, hoP, hDY, hbr4⟩ | ⟨p9, f9, o9, bs9, Aj9, cj9, R9, Ar9, cr9, Pl9, Ap9, cp9, en9, fu9, acc9, rfl, hlt9, hbs, hbj, hbB, hbO, ho, hoR, hoP, hDY, hbr4, hp9, hbs9, hRl9, hfu9, hSR9, hSX9⟩⟩
  ·replace hS_1 := hS_1.via hB0_ hB
   refine L_nil (N_then (C_condF rfl rfl (C_exit (X_then (X_then (X_hit (N_then (C_seq (C_reg rfl (Lmv rfl rfl (L_run (R_nilck rfl) rfl (L_run (R_field (r := 6) rfl fld119_6 rfl) rfl (L_run (R_field (r := 9) rfl fld99_3 rfl) rfl ?_)))))))))))))
   refine L_st1 rfl rfl rfl sz3 hbs rfl ?_
   intro w6 hb6 hs5 hz3
   replace hB := gb_trg hB hs5 ge4; replace hS_1 := hS_1.old hs5 ge4; replace hoR := own_other hoR hbs rfl hs5; replace hoP := own_other hoP hbs rfl hs5; replace hDY := hDY.other hbs rfl rfl hs5; replace hbr4 := hbr4.grown hs5 (ne_ty hbr4 hbs rfl)
   refine L_nil (N_then (C_seq (C_seq (C_reg rfl (Lmv rfl rfl (Lmv rfl rfl (L_run (R_nilck rfl) rfl (L_run (R_field (r := 6) rfl fld119_6 rfl) rfl (L_run (R_field (r := 8) rfl fld99_2 rfl) rfl (L_run (R_load1 rfl scl3 (hb6.cell (i := 8) rfl)) rfl ?_))))))))))
   refine L_call rfl cb73 (rest_ok (ss := ss.take (min ss.length 16)) (n := en) hS_1 (by omega) (by rw [List.length_take]; omega)) rfl ?_
   rintro _ w7 ⟨hs6, rfl⟩
   replace hB := gb_tr hB hs6; replace hb6 := hb6.gb hs6; replace hoR := own_gb hoR hs6; replace hoP := own_gb hoP hs6; replace hDY := hDY.gb hs6; replace hbr4 := hbr4.gb hs6
   refine L_nil (N_then (C_if rfl (fun h1 => ?_) (fun h1 => ?_)))
   ·refine C_reg rfl ?_
    refine Lmv rfl rfl (L_run (R_nilck rfl) rfl (L_run (R_field (r := 6) rfl fld119_6 rfl) rfl (L_run (R_field (r := 9) rfl fld99_3 rfl) rfl ?_)))
    refine L_st1 rfl rfl rfl sz3 hb6 rfl ?_
    intro w8 hb7 hs7 hz4
    replace hB := gb_trg hB hs7 ge4; replace hoR := own_other hoR hb6 rfl hs7; replace hoP := own_other hoP hb6 rfl hs7; replace hDY := hDY.other hb6 rfl rfl hs7; replace hbr4 := hbr4.grown hs7 (ne_ty hbr4 hb6 rfl)
    refine L_nil (N_then (C_seq (C_reg rfl (Lmv rfl rfl (L_run (R_nilck rfl) rfl (L_run (R_field (r := 6) rfl fld119_6 rfl) rfl (L_run (R_loadA (vs := [.slice Ar R.length cr, .slice Ap Pl.length cp, .int .i64 (en : Int), .int .i64 1]) rfl agg99 (At.pre (hb7.at_ 6) rfl) rfl) rfl ?_)))))))
    refine L_stA (vs := [.slice Ar R.length cr, .slice Ap Pl.length cp, .int .i64 (en : Int), .int .i64 1]) rfl rfl rfl sz99 rfl hbr4 rfl ?_
    intro w9 hb8 hs8 hz5
    replace hB := gb_trg hB hs8 ge1; replace hoR := own_other hoR hbr4 rfl hs8; replace hoP := own_other hoP hbr4 rfl hs8; replace hDY := hDY.other hbr4 rfl rfl hs8
    refine L_nil (N_then (C_ret ?_))
    refine retC (vs := [.slice Ar R.length cr, .slice Ap Pl.length cp, .int .i64 (en : Int), .int .i64 1]) Tryd.results51 rfl agg99 (At.pre (hb8.at_ 0) rfl) rfl  ?_
    have hrt_ := rest_take (ss := ss) (n := en)
    have hrs_ : restN (bsOf ss) en := hrt_.1 h1
    have hsc_ : scn ss e = acc := scn_take.symm.trans hX9
    exact ⟨hB, R, Pl, _, _, _, _, en, by rw [if_pos hrs_], (own_lo hoR (Nat.le_refl _)), hDY, (own_lo hoP (Nat.le_refl _)), by rw [hsc_]; exact hSR, by omega, by omega⟩
   ·refine C_skip (N_then (C_seq (C_reg rfl ?_)))
    refine Lmv rfl rfl (L_run (R_nilck rfl) rfl (L_run (R_field (r := 6) rfl fld119_6 rfl) rfl (L_run (R_loadA (vs := [.slice Ar R.length cr, .slice Ap Pl.length cp, .int .i64 (en : Int), .int .i64 2]) rfl agg99 (At.pre (hb6.at_ 6) rfl) rfl) rfl ?_)))
    refine L_stA (vs := [.slice Ar R.length cr, .slice Ap Pl.length cp, .int .i64 (en : Int), .int .i64 2]) rfl rfl rfl sz99 rfl hbr4 rfl ?_
    intro w10 hb9 hs9 hz6
    replace hB := gb_trg hB hs9 ge1; replace hoR := own_other hoR hbr4 rfl hs9; replace hoP := own_other hoP hbr4 rfl hs9; replace hDY := hDY.other hbr4 rfl rfl hs9
    refine L_nil (N_then (C_ret ?_))
    refine retC (vs := [.slice Ar R.length cr, .slice Ap Pl.length cp, .int .i64 (en : Int), .int .i64 2]) Tryd.results51 rfl agg99 (At.pre (hb9.at_ 0) rfl) rfl  ?_
    have hrt_ := rest_take (ss := ss) (n := en)
    have hrs_ : ¬ restN (bsOf ss) en := fun h_ => h1 (hrt_.2 h_)
    have hsc_ : scn ss e = acc := scn_take.symm.trans hX9
    exact ⟨hB, R, Pl, _, _, _, _, en, by rw [if_neg hrs_], (own_lo hoR (Nat.le_refl _)), hDY, (own_lo hoP (Nat.le_refl _)), by rw [hsc_]; exact hSR, by omega, by omega⟩
  ·replace hS := hS.via hB0_ hB; replace hS_1 := hS_1.via hB0_ hB
   refine L_nil (N_then (C_condT rfl rfl (C_skip (N_then (C_block (C_skip (N_in (N_then ?_))))))))
   exact ⟨832 - p9, by omega, _, p9, f9, o9, bs9, Aj9, cj9, R9, Ar9, cr9, Pl9, Ap9, cp9, en9, fu9, acc9, Ac_frg ⟨rfl, rfl, rfl, rfl, trivial⟩, hB, hS, hS_1, hbs, hbj, hbB, hbO, ho, hoR, hoP, hDY, hbr4, hp9, hbs9, hRl9, hfu9, hSR9, hSX9, rfl⟩
end Go.Proofs.YtkjgjejkfjhcjaaDoor
namespace Go.Proofs.YtkjgjejkfjhcjaaDoor
open Go.RowKit Gw Pl
set_option linter.unusedVariables false
set_option linter.unusedSimpArgs false
/-! ### a segment's lines -/
def brkT (pl n : Nat) : List UInt8 := Go.Lib.join [([98, 114, 111, 107, 101, 110, 32, 97, 116] : List UInt8), digI (pl : Int), ([115, 105, 122, 101] : List UInt8), digI (n : Int)] [32]
def endT (en : Nat) (k : List UInt8) : List UInt8 := Go.Lib.join [([101, 110, 100] : List UInt8), digI (en : Int), k] [32]
def recL (x : List UInt8 × Nat × Nat) : List UInt8 := if rerr x.1 = 0 then recT (rKd x.1) (rCh x.1) (rLs x.1) (rPv x.1) (x.2.1 : Int) (rDt x.1).length else brkT x.2.1 x.1.length
def kindT (ss : List Sx) (en : Nat) : List UInt8 := if restN (bsOf ss) en then ([99, 108, 101, 97, 110] : List UInt8) else ([116, 111, 114, 110] : List UInt8)
/-- The lines of a segment with this header. -/
def bodyT (X : List UInt8) (ss : List Sx) (acc : List (List UInt8 × Nat × Nat)) : List (List UInt8) := hdrT (hEp X) (hSeq X) (hFst X) (hHs X) 4 :: acc.map recL
def segT (ss : List Sx) : List (List UInt8) :=
  if ss.length ≠ 17 then [([110, 111, 32, 115, 101, 103, 109, 101, 110, 116] : List UInt8)]
  else if hdecN (ss.getD 0 Sx.z).b ≠ 0 then [([110, 111, 32, 104, 101, 97, 100, 101, 114] : List UInt8)]
  else bodyT (ss.getD 0 Sx.z).b (ss.drop 1) (scn (ss.drop 1) (hEp (ss.getD 0 Sx.z).b)) ++ [endT (endN (scn (ss.drop 1) (hEp (ss.getD 0 Sx.z).b))) (kindT (ss.drop 1) (endN (scn (ss.drop 1) (hEp (ss.getD 0 Sx.z).b))))]
/-- A file's text. -/
def fileL (f : FilD) : List UInt8 := fileT f.name f.ss.length (if (nparse f.name).1 = 1 then segT f.ss else [])
theorem jn_nl {a : List UInt8} : ∀ {l : List (List UInt8)}, Go.Lib.join (a :: l) [10] ++ [10] = (a ++ [10]) ++ l.flatMap (fun x => x ++ [10])
  | [] => by rw [jn1]; simp
  | b :: l => by rw [jn2, List.append_assoc, List.append_assoc, jn_nl (a := b) (l := l)]; simp
theorem fileT_eq {name : List UInt8} {n : Nat} {l : List (List UInt8)} : fileT name n l = (Go.Lib.join [([102, 105, 108, 101] : List UInt8), name, digI (n : Int)] [32] ++ [10]) ++ l.flatMap (fun x => x ++ [10]) := jn_nl
theorem fm_len {k : Nat} : ∀ {l : List (List UInt8)}, (∀ x ∈ l, x.length ≤ k) → (l.flatMap (fun x => x ++ [10])).length ≤ (k + 1) * l.length
  | [], _ => by simp
  | a :: l, h => by
    have h1 := fm_len (l := l) (fun x hx => h x (List.mem_cons_of_mem _ hx))
    have h2 := h a (List.mem_cons_self ..)
    rw [List.flatMap_cons, List.length_append, List.length_append, List.length_singleton, List.length_cons, Nat.mul_succ]
    omega
theorem jn_len {k : Nat} {l : List (List UInt8)} (h : ∀ x ∈ l, x.length ≤ k) : (Go.Lib.join l [10]).length ≤ (k + 1) * l.length := by
  cases l with
  | nil => simp [Go.Lib.join, List.intercalate]
  | cons a l =>
    have h1 := congrArg List.length (jn_nl (a := a) (l := l))
    have h2 := fm_len (l := l) (fun x hx => h x (List.mem_cons_of_mem _ hx))
    have h3 := h a (List.mem_cons_self ..)
    simp only [List.length_append, List.length_singleton, List.length_cons, Nat.mul_succ] at h1 h2 ⊢
    omega
theorem scanL_mem {e : Nat} {body : List UInt8} {ok : List Bool} (hb : body.length = 832) : ∀ (fu p f : Nat) (o : Bool) (bs : List UInt8), p ≤ 832 → f ≤ 832 → ∀ x ∈ scanL e body ok fu p f o bs, x.1.length ≤ 512 ∧ x.2.1 ≤ 832 ∧ x.2.2 ≤ 832
  | 0, _, _, _, _, _, _, x, hx => by cases hx
  | fu + 1, p, f, o, bs, hp, hf, x, hx => by
    have hbp := beginN_le hp
    have hif : (if o = true then f else beginN p) ≤ 832 := by split <;> omega
    rw [scanL] at hx
    split at hx
    · cases hx
    · rename_i h0
      have hac := accN_ok (ok := ok) (e := e) hb hbp.2 h0
      split at hx
      · cases hx
      · split at hx
        · rcases List.mem_cons.1 hx with rfl | hx
          · exact ⟨feedN_len.2, hif, hac.2.1⟩
          · exact scanL_mem hb fu _ _ _ _ hac.2.1 hif x hx
        · exact scanL_mem hb fu _ _ _ _ hac.2.1 hif x hx
theorem scanL_len {e : Nat} {body : List UInt8} {ok : List Bool} : ∀ (fu p f : Nat) (o : Bool) (bs : List UInt8), (scanL e body ok fu p f o bs).length ≤ fu
  | 0, _, _, _, _ => Nat.le_refl _
  | fu + 1, p, f, o, bs => by
    rw [scanL]
    split
    · simp
    · split
      · simp
      · split
        · have := scanL_len (e := e) (body := body) (ok := ok) fu (beginN p + (accN e body ok (beginN p)).2) (if o then f else beginN p) (feedN o bs (accN e body ok (beginN p)).1.1 (accN e body ok (beginN p)).1.2).1.1 (feedN o bs (accN e body ok (beginN p)).1.1 (accN e body ok (beginN p)).1.2).1.2
          rw [List.length_cons]; omega
        · have := scanL_len (e := e) (body := body) (ok := ok) fu (beginN p + (accN e body ok (beginN p)).2) (if o then f else beginN p) (feedN o bs (accN e body ok (beginN p)).1.1 (accN e body ok (beginN p)).1.2).1.1 (feedN o bs (accN e body ok (beginN p)).1.1 (accN e body ok (beginN p)).1.2).1.2
          omega
theorem scn_mem {ss : List Sx} {e : Nat} : ∀ x ∈ scn ss e, x.1.length ≤ 512 ∧ x.2.1 ≤ 832 ∧ x.2.2 ≤ 832 := scanL_mem flatB_n 833 0 0 false [] (by omega) (by omega)
theorem scn_len {ss : List Sx} {e : Nat} : (scn ss e).length ≤ 833 := scanL_len _ _ _ _ _
theorem endN_le {l : List (List UInt8 × Nat × Nat)} (h : ∀ x ∈ l, x.1.length ≤ 512 ∧ x.2.1 ≤ 832 ∧ x.2.2 ≤ 832) : endN l ≤ 832 := by
  unfold endN
  split
  · rename_i x hx
    exact (h x (List.mem_of_getLast? hx)).2.2
  · exact Nat.zero_le _
theorem dgn {n : Nat} (h : n ≤ 1000000) : (digI (n : Int)).length ≤ 20 := digI_len (by omega)
theorem brkT_len {a b : Nat} (h1 : a ≤ 1000000) (h2 : b ≤ 1000000) : (brkT a b).length ≤ 60 := by
  have a1 := dgn h1
  have a2 := dgn h2
  unfold brkT
  simp only [jn2, jn1, List.length_append, List.length_cons, List.length_nil]
  omega
theorem kindT_len {ss : List Sx} {n : Nat} : (kindT ss n).length ≤ 5 := by unfold kindT; split <;> simp
theorem endT_len {a : Nat} {k : List UInt8} (h1 : a ≤ 1000000) (hk : k.length ≤ 5) : (endT a k).length ≤ 40 := by
  have a1 := dgn h1
  unfold endT
  simp only [jn2, jn1, List.length_append, List.length_cons, List.length_nil]
  omega
theorem rok_w {xs : List UInt8} (h : rerr xs = 0) : OkW (rKd xs) ∧ OkW (rCh xs) ∧ OkW (rLs xs) ∧ OkW (rPv xs) ∧ (rDt xs).length ≤ 140737488355328 := by
  obtain ⟨⟨h1, h2, h3, h4, h5, h6, h7, h8⟩, h9⟩ := rOk_of h
  refine ⟨⟨by omega, by omega⟩, ⟨by omega, by omega⟩, ⟨by omega, by omega⟩, ⟨by omega, by omega⟩, ?_⟩
  unfold rDt
  rw [List.length_drop]
  omega
theorem okw_nat {n : Nat} (h : n ≤ 1000000) : OkW (n : Int) := ⟨by omega, by omega⟩
theorem recL_len {x : List UInt8 × Nat × Nat} (h : x.1.length ≤ 512 ∧ x.2.1 ≤ 832 ∧ x.2.2 ≤ 832) : (recL x).length ≤ 200 := by
  unfold recL
  split
  · rename_i h1
    obtain ⟨a, b, c, d, e⟩ := rok_w h1
    exact recT_len a b c d (okw_nat (by omega)) e
  · exact Nat.le_trans (brkT_len (by omega) (by omega)) (by omega)
theorem hdr_w {X : List UInt8} : hEp X < 18446744073709551616 ∧ OkW (hSeq X) ∧ OkW (hFst X) ∧ ∀ q, q < 4 → OkW (hHs X q) := by
  have h1 : ∀ a, OkW ((getN ((X.drop a).take 4) : Nat) : Int) := fun a => by have := hg4 (X := X) (a := a); exact ⟨by omega, by omega⟩
  exact ⟨hg8, h1 13, h1 17, fun q _ => h1 _⟩
theorem bodyT_mem {X : List UInt8} {ss : List Sx} {acc : List (List UInt8 × Nat × Nat)} (h : ∀ x ∈ acc, x.1.length ≤ 512 ∧ x.2.1 ≤ 832 ∧ x.2.2 ≤ 832) : ∀ y ∈ bodyT X ss acc, y.length ≤ 200 := by
  intro y hy
  rcases List.mem_cons.1 hy with rfl | hy
  · have := hdrT_len (ep := hEp X) (seq := hSeq X) (first := hFst X) (hs := hHs X) hdr_w.1 hdr_w.2.1 hdr_w.2.2.1 hdr_w.2.2.2 4 (Nat.le_refl _)
    omega
  · obtain ⟨x, hx, rfl⟩ := List.mem_map.1 hy
    exact recL_len (h x hx)
theorem bodyT_len {X : List UInt8} {ss : List Sx} {acc : List (List UInt8 × Nat × Nat)} : (bodyT X ss acc).length = acc.length + 1 := by simp [bodyT]
theorem segT_ok {ss : List Sx} : (∀ y ∈ segT ss, y.length ≤ 200) ∧ (segT ss).length ≤ 835 := by
  unfold segT
  split
  · exact ⟨by simp, by simp⟩
  · split
    · exact ⟨by simp, by simp⟩
    · refine ⟨fun y hy => ?_, by rw [List.length_append, bodyT_len]; have := scn_len (ss := ss.drop 1) (e := hEp (ss.getD 0 Sx.z).b); rw [List.length_singleton]; omega⟩
      rcases List.mem_append.1 hy with hy | hy
      · exact bodyT_mem scn_mem y hy
      · rw [List.mem_singleton] at hy
        subst hy
        exact Nat.le_trans (endT_len (Nat.le_trans (endN_le scn_mem) (by omega)) kindT_len) (by omega)
theorem fileL_len {f : FilD} (hn : f.name.length ≤ 100000) (hl : f.ss.length ≤ 1000000) : (fileL f).length ≤ 400000 := by
  have h1 := fline_len (name := f.name) hl
  unfold fileL
  rw [fileT_eq]
  have h2 : ((if (nparse f.name).1 = 1 then segT f.ss else []).flatMap (fun x => x ++ [10])).length ≤ 201 * 835 := by
    split
    · exact Nat.le_trans (fm_len segT_ok.1) (Nat.mul_le_mul_left _ segT_ok.2)
    · simp
  simp only [List.length_append, List.length_singleton]
  omega
theorem scr_get {ss : List Sx} {e en i : Nat} {R : List Bys} {Pl : List Int} (h : ScR (scn ss e) R Pl en) (hi : i < R.length) : ∃ h1 : i < (scn ss e).length, ∃ h2 : i < Pl.length, R[i].xs = (scn ss e)[i].1 ∧ Pl[i] = ((scn ss e)[i].2.1 : Int) := by
  have hl := h.len
  refine ⟨by omega, by omega, ?_, ?_⟩
  · have h3 := congrArg (fun l => l[i]?) h.recs
    unfold xsOf at h3
    simp only [List.getElem?_map, List.getElem?_eq_getElem hi, List.getElem?_eq_getElem (show i < (scn ss e).length by omega), Option.map_some, Option.some.injEq] at h3
    exact h3
  · have h3 := congrArg (fun l => l[i]?) h.pl
    simp only [List.getElem?_map, List.getElem?_eq_getElem (show i < Pl.length by omega), List.getElem?_eq_getElem (show i < (scn ss e).length by omega), Option.map_some, Option.some.injEq] at h3
    exact h3
end Go.Proofs.YtkjgjejkfjhcjaaDoor
namespace Go.Proofs.YtkjgjejkfjhcjaaDoor
open Go.RowKit Gw Pl
set_option linter.unusedVariables false
set_option linter.unusedSimpArgs false
theorem cb50 : callB Tryd.prog 50 = true := by kernel_rfl
theorem cb51 : callB Tryd.prog 51 = true := by kernel_rfl
theorem cb52 : callB Tryd.prog 52 = true := by kernel_rfl
theorem at_re {α : Type} {enc : α → List Value} {sz te lo hi g off r i : Nat} {w : World} {A : Option Addr} {xs : List α} (he : Enc enc sz) (h : Sli te lo hi w A (fl enc xs)) (hi' : i < xs.length) (h0 : Nat.blt 0 sz = true) (eA : A = some ⟨g, off, none⟩) (er : off + i * sz = r) : At w g r (enc xs[i]) := by
  obtain ⟨g2, off2, r2, e2, er2, h⟩ := Sli.place' he h hi' h0
  rw [eA] at e2
  injection e2 with e2
  injection e2 with e3 e4
  subst e3
  have e5 : off = off2 := e4
  subst e5
  rw [← er, er2]
  exact h
theorem bodyT_succ {X : List UInt8} {ss : List Sx} {acc : List (List UInt8 × Nat × Nat)} {x : List UInt8 × Nat × Nat} : bodyT X ss (acc ++ [x]) = bodyT X ss acc ++ [recL x] := by simp [bodyT]
theorem snoc_eq {α : Type} {l : List α} {x y : α} (h : x = y) : l ++ [x] = l ++ [y] := h ▸ rfl
theorem ss0 {ss : List Sx} (h : 0 < ss.length) : ss[0] = ss.getD 0 Sx.z := by rw [List.getD_eq_getElem?_getD, List.getElem?_eq_getElem h]; rfl
set_option maxHeartbeats 4000000 in
theorem segment_ok {w : World} {t1 lo hi : Nat} {A : Option Addr} {c : Nat} {ss : List Sx} (hS : Sli t1 lo hi w A (fl encX ss)) (hc : ss.length ≤ c) (hT : Tbw w) :
    Runs Tryd.prog 24 #[.slice A ss.length c] w (fun v w' => w.grownBy w' none ∧ ∃ A' c', v = .slice A' (segT ss).length c' ∧ World.ownsRow w' w.heap.size 9 1 (.slice A' (segT ss).length c') (segT ss).length (fl encW (segT ss))) := by
 have hB := gb_refl w none
 replace hS := hS.top
 refine enter Tryd.func24 Tryd.ntmps24 rfl rfl ?_
 refine C_seq (C_reg rfl ?_)
 refine Las rfl rfl (L_nil (N_then (C_seq (C_seq (C_reg rfl (Lmv rfl rfl (L_run (R_lenSl rfl slc26) rfl (L_run (R_neq rfl rfl) rfl (L_nil (N_then (C_if rfl (fun h1 => ?_) (fun h1 => ?_))))))))))))
 ·refine C_seq (C_reg rfl ?_)
  refine L_buildSlice (pv := [(0, .string (⟨#[110, 111, 32, 115, 101, 103, 109, 101, 110, 116]⟩))]) (cs := [.string (⟨#[110, 111, 32, 115, 101, 103, 109, 101, 110, 116]⟩)]) slc59 zer9 rfl rfl (by kernel_rfl) rfl ?_
  intro g1 w1 eg1 hb1 hs1 hz1
  have ge1 : w.heap.size ≤ g1 := eg_ge hB eg1
  replace hB := gb_tr hB hs1
  refine Las rfl rfl (L_nil (N_then (C_ret (R_then ?_))))
  refine ret1 Tryd.results24 rfl ?_
  have hf_ : segT ss = [([110, 111, 32, 115, 101, 103, 109, 101, 110, 116] : List UInt8)] := by unfold segT; rw [if_pos (by omega)]
  have hsl_ : (segT ss).length = 1 := by rw [hf_]; rfl
  refine ⟨hB, _, 1, by rw [hsl_], ?_⟩
  rw [hf_]; exact own_lo (Blk.own (sz := 1) (m := 1) hb1 (by decide) rfl (Nat.le_refl _)) ge1
 ·refine C_skip (N_then (C_seq (C_reg rfl ?_)))
  refine Lmv rfl rfl ?_
  have hl1 : 0 < ss.length := by first | omega | (simp; omega)
  refine T_index (xs := ss) (i := 0) EncX rfl rfl (by first | rfl | omega) slc26 hl1 hS rfl ?_
  intro g2 o1 ha1
  replace ha1 : At w g2 o1 (fl encB ss[0].b) := ha1
  refine L_run (R_loadA (vs := fl encB (ss[0].b)) rfl agg50 ha1 (flB_lenE ss[0].h)) rfl ?_
  by_cases h2 : hdecN (ss[0].b) = 0
  ·refine L_call rfl cb50 (hdec_ok_y (X := ss[0].b) ss[0].h (hT.gb hB) h2) rfl ?_
   rintro _ w2 ⟨hs2, rfl⟩
   replace hB := gb_tr hB hs2; replace hS := hS.gb hs2
   refine Lmv rfl rfl (L_run (R_extract rfl rfl) rfl (L_run (R_extract rfl rfl) rfl (L_alloc (cs := [.int .u64 0, .int .i64 0, .int .i64 0, .int .i64 0, .int .i64 0, .int .i64 0, .int .i64 0]) zer33 rfl rfl ?_)))
   intro g3 w3 eg2 hb2 hs3 hz2
   have ge2 : w.heap.size ≤ g3 := eg_ge hB eg2
   replace hB := gb_tr hB hs3; replace hS := hS.gb hs3
   refine L_stA (vs := [.int .u64 ((hEp (ss[0].b) : Nat) : Int), .int .i64 (hSeq (ss[0].b)), .int .i64 (hFst (ss[0].b)), .int .i64 (hHs (ss[0].b) 0), .int .i64 (hHs (ss[0].b) 1), .int .i64 (hHs (ss[0].b) 2), .int .i64 (hHs (ss[0].b) 3)]) rfl rfl rfl sz33 rfl hb2 rfl ?_
   intro w4 hb3 hs4 hz3
   replace hB := gb_trg hB hs4 ge2; replace hS := hS.old hs4 ge2
   refine Las rfl rfl (L_nil (N_then (C_seq (C_seq (C_reg rfl (Lmv rfl rfl (L_run (R_eqv (R_neq rfl rfl) (v' := .bool false) rfl) rfl (L_nil (N_then (C_condF rfl rfl (C_skip (N_then (C_seq (C_reg rfl (L_run (R_loadA (vs := [.int .u64 ((hEp (ss[0].b) : Nat) : Int), .int .i64 (hSeq (ss[0].b)), .int .i64 (hFst (ss[0].b)), .int .i64 (hHs (ss[0].b) 0), .int .i64 (hHs (ss[0].b) 1), .int .i64 (hHs (ss[0].b) 2), .int .i64 (hHs (ss[0].b) 3)]) rfl agg33 (At.pre (hb3.at_ 0) rfl) rfl) rfl ?_)))))))))))))))
   refine L_call rfl cb10 (header_ok (ep := (hEp (ss[0].b))) (seq := (hSeq (ss[0].b))) (first := (hFst (ss[0].b))) (hs := hHs (ss[0].b)) hdr_w.1 hdr_w.2.1 hdr_w.2.2.1 hdr_w.2.2.2) rfl ?_
   rintro _ w5 ⟨hs5, rfl⟩
   replace hB := gb_tr hB hs5; replace hS := hS.gb hs5; replace hb3 := hb3.gb hs5
   refine L_buildSlice (pv := [(0, .string (⟨(hdrT (hEp (ss[0].b)) (hSeq (ss[0].b)) (hFst (ss[0].b)) (hHs (ss[0].b)) 4).toArray⟩))]) (cs := [.string (⟨(hdrT (hEp (ss[0].b)) (hSeq (ss[0].b)) (hFst (ss[0].b)) (hHs (ss[0].b)) 4).toArray⟩)]) slc59 zer9 rfl rfl (by kernel_rfl) rfl ?_
   intro g4 w6 eg3 hb4 hs6 hz4
   have ge3 : w.heap.size ≤ g4 := eg_ge hB eg3
   replace hB := gb_tr hB hs6; replace hS := hS.gb hs6; replace hb3 := hb3.gb hs6
   refine Las rfl rfl (L_nil (N_then (C_seq ?_)))
   refine C_join (fun a_ w_ => (∃ (σ_ : Nat → Value) (g5 : Nat) (A_2 : Option Addr) (R1 : List Bys) (c_1 : Nat) (A_3 : Option Addr) (Pl1 : List Int) (c_2 : Nat) (ne1 : Nat), a_ = Ac 86 σ_ [] [(0, .slice A ss.length c), (2, .slice none 0 0), (3, .pointer (some ⟨g3, 0, none⟩)), (4, .int .i64 0), (5, .slice (some ⟨g4, 0, none⟩) 1 1), (6, .pointer (some ⟨g5, 0, none⟩)), (14, .bool (decide ((ss.length : Int) ≠ 17))), (24, .bool false)] ∧ w.grownBy w_ none ∧ Sli t1 lo w.heap.size w_ A (fl encX ss) ∧ Blk w_ g3 33 [.int .u64 ((hEp (ss[0].b) : Nat) : Int), .int .i64 (hSeq (ss[0].b)), .int .i64 (hFst (ss[0].b)), .int .i64 (hHs (ss[0].b) 0), .int .i64 (hHs (ss[0].b) 1), .int .i64 (hHs (ss[0].b) 2), .int .i64 (hHs (ss[0].b) 3)] ∧ Blk w_ g4 9 [.string (⟨(hdrT (hEp (ss[0].b)) (hSeq (ss[0].b)) (hFst (ss[0].b)) (hHs (ss[0].b)) 4).toArray⟩)] ∧ World.ownsRow w_ w.heap.size 34 1 (.slice A_2 R1.length c_1) R1.length (fl encY R1) ∧ DeepY 5 w_ R1 ∧ World.ownsRow w_ w.heap.size 3 1 (.slice A_3 Pl1.length c_2) Pl1.length (fl encZ Pl1) ∧ (ScR (scn (ss.drop 1) (hEp (ss[0].b))) R1 Pl1 ne1 ∧ ne1 ≤ 832 ∧ R1.length ≤ 832) ∧ Blk w_ g5 99 [.slice A_2 R1.length c_1, .slice A_3 Pl1.length c_2, .int .i64 (ne1 : Int), .int .i64 (if restN (bsOf (ss.drop 1)) ne1 then 1 else 2)] ∧ w.heap.size ≤ g5 ∧ g3 < g5 ∧ g4 < g5)) ?_ ?_
   ·refine C_draw2 rfl mix ?_
    intro w7 hs7 hz5
    replace hB := gb_tr hB hs7; replace hS := hS.gb hs7; replace hb3 := hb3.gb hs7; replace hb4 := hb4.gb hs7
    refine ⟨fun W_ => Blk W_ g3 33 [.int .u64 ((hEp (ss[0].b) : Nat) : Int), .int .i64 (hSeq (ss[0].b)), .int .i64 (hFst (ss[0].b)), .int .i64 (hHs (ss[0].b) 0), .int .i64 (hHs (ss[0].b) 1), .int .i64 (hHs (ss[0].b) 2), .int .i64 (hHs (ss[0].b) 3)] ∧ True, [0, 1, 2], ?_⟩
    refine T_tk (i := 0) rfl (Y_of (fun _ _ => R_field (r := 0) rfl fld33_0 rfl)) ⟨hb3, trivial⟩ rfl ?_
    refine T_tk (i := 1) rfl (Y_of (fun _ ⟨hb3, _⟩ => R_load1 rfl scl30 (hb3.cell (i := 0) rfl))) ⟨hb3, trivial⟩ rfl ?_
    refine T_tk (i := 2) rfl (Y_of (fun _ _ => R_move rfl)) ⟨hb3, trivial⟩ rfl ?_
    refine T_all (rs := [3, 5]) (by kernel_rfl) rfl (all2 (O_one rfl ?_) (O_one rfl ?_))
    ·refine T_slL (xs := ss) (i := 1) EncX rfl rfl (by first | rfl | omega) slc26 (by omega) hc hS rfl ?_
     intro A_1 hS_1
     refine L_nil (N_then ⟨fun hN_ => ⟨hb3, trivial⟩, ?_⟩)
     refine T_all (rs := [4, 5]) (by kernel_rfl) rfl (all2 (O_one rfl ?_) (O_one rfl ?_))
     ·have ge4 : w.heap.size ≤ w7.heap.size := hB.size
      refine L_call rfl cb51 (scan_ok (e := (hEp (ss[0].b))) (ss := ss.drop 1) hS_1 hdr_w.1 (by rw [List.length_drop]; omega) (hT.gb hB)) rfl ?_
      rintro _ w8 ⟨hs8, R1, Pl1, A_2, c_1, A_3, c_2, ne1, rfl, ho1, hDY1, ho2, hG1⟩
      replace hB := gb_tr hB hs8; replace hS := hS.gb hs8; replace hb3 := hb3.gb hs8; replace hb4 := hb4.gb hs8
      have hlo1 : w7.heap.size ≤ w8.heap.size := hs8.size
      refine L_nil (N_then ⟨fun hN_ => ⟨hb3, trivial⟩, ?_⟩)
      refine T_all (rs := [5]) (by kernel_rfl) rfl (all1 (O_one rfl ?_))
      refine L_alloc (cs := [.slice none 0 0, .slice none 0 0, .int .i64 0, .int .i64 0]) zer99 rfl rfl ?_
      intro g5 w9 eg4 hb5 hs9 hz6
      have ge5 : w.heap.size ≤ g5 := eg_ge hB eg4
      have lt2 : g3 < g5 := lt_of_eg hb3.lt eg4
      have lt3 : g4 < g5 := lt_of_eg hb4.lt eg4
      replace hB := gb_tr hB hs9; replace hS := hS.gb hs9; replace hb3 := hb3.gb hs9; replace hb4 := hb4.gb hs9; replace ho1 := own_gb ho1 hs9; replace hDY1 := hDY1.gb hs9; replace ho2 := own_gb ho2 hs9
      refine L_nil (N_then ⟨fun hN_ => ⟨hb3, trivial⟩, ?_⟩)
      refine T_all (rs := [6]) (by kernel_rfl) rfl (all1 (O_one rfl ?_))
      refine L_stA (vs := [.slice A_2 R1.length c_1, .slice A_3 Pl1.length c_2, .int .i64 (ne1 : Int), .int .i64 (if restN (bsOf (ss.drop 1)) ne1 then 1 else 2)]) rfl rfl rfl sz99 rfl hb5 rfl ?_
      intro w10 hb6 hs10 hz7
      replace hB := gb_trg hB hs10 ge5; replace hS := hS.old hs10 ge5; replace hb3 := hb3.grown hs10 (ne_lt lt2); replace hb4 := hb4.grown hs10 (ne_lt lt3); replace ho1 := own_other ho1 hb5 rfl hs10; replace hDY1 := hDY1.other hb5 rfl rfl hs10; replace ho2 := own_other ho2 hb5 rfl hs10
      refine L_nil (N_then ⟨fun hN_ => ⟨hb3, trivial⟩, ?_⟩)
      refine T_done (by kernel_rfl) (CalmE.normal ?_)
      exact ⟨rfl, ⟨_, g5, A_2, R1, c_1, A_3, Pl1, c_2, ne1, Ac_frg ⟨rfl, rfl, rfl, rfl, rfl, rfl, rfl, rfl, trivial⟩, hB, hS, hb3, hb4, (own_lo ho1 ge4), hDY1, (own_lo ho2 ge4), hG1, hb6, ge5, lt2, lt3⟩⟩
     ·refine L_alloc (cs := [.slice none 0 0, .slice none 0 0, .int .i64 0, .int .i64 0]) zer99 rfl rfl ?_
      intro g6 w11 eg5 hb7 hs11 hz8
      have ge6 : w.heap.size ≤ g6 := eg_ge hB eg5
      have lt4 : g3 < g6 := lt_of_eg hb3.lt eg5
      have lt5 : g4 < g6 := lt_of_eg hb4.lt eg5
      replace hB := gb_tr hB hs11; replace hS := hS.gb hs11; replace hb3 := hb3.gb hs11; replace hb4 := hb4.gb hs11; replace hS_1 := hS_1.gb hs11
      refine L_nil (N_then ⟨fun hN_ => ⟨hb3, trivial⟩, ?_⟩)
      refine T_all (rs := [4]) (by kernel_rfl) rfl (all1 (O_one rfl ?_))
      have ge7 : w.heap.size ≤ w11.heap.size := hB.size
      refine L_call rfl cb51 (scan_ok (e := (hEp (ss[0].b))) (ss := ss.drop 1) hS_1 hdr_w.1 (by rw [List.length_drop]; omega) (hT.gb hB)) rfl ?_
      rintro _ w12 ⟨hs12, R2, Pl2, A_4, c_3, A_5, c_4, ne2, rfl, ho3, hDY2, ho4, hG2⟩
      replace hB := gb_tr hB hs12; replace hS := hS.gb hs12; replace hb3 := hb3.gb hs12; replace hb4 := hb4.gb hs12; replace hb7 := hb7.gb hs12
      have hlo2 : w11.heap.size ≤ w12.heap.size := hs12.size
      refine L_nil (N_then ⟨fun hN_ => ⟨hb3, trivial⟩, ?_⟩)
      refine T_all (rs := [6]) (by kernel_rfl) rfl (all1 (O_one rfl ?_))
      refine L_stA (vs := [.slice A_4 R2.length c_3, .slice A_5 Pl2.length c_4, .int .i64 (ne2 : Int), .int .i64 (if restN (bsOf (ss.drop 1)) ne2 then 1 else 2)]) rfl rfl rfl sz99 rfl hb7 rfl ?_
      intro w13 hb8 hs13 hz9
      replace hB := gb_trg hB hs13 ge6; replace hS := hS.old hs13 ge6; replace hb3 := hb3.grown hs13 (ne_lt lt4); replace hb4 := hb4.grown hs13 (ne_lt lt5); replace ho3 := own_other ho3 hb7 rfl hs13; replace hDY2 := hDY2.other hb7 rfl rfl hs13; replace ho4 := own_other ho4 hb7 rfl hs13
      refine L_nil (N_then ⟨fun hN_ => ⟨hb3, trivial⟩, ?_⟩)
      refine T_done (by kernel_rfl) (CalmE.normal ?_)
      exact ⟨rfl, ⟨_, g6, A_4, R2, c_3, A_5, Pl2, c_4, ne2, Ac_frg ⟨rfl, rfl, rfl, rfl, rfl, rfl, rfl, rfl, trivial⟩, hB, hS, hb3, hb4, (own_lo ho3 ge7), hDY2, (own_lo ho4 ge7), hG2, hb8, ge6, lt4, lt5⟩⟩
    ·refine L_alloc (cs := [.slice none 0 0, .slice none 0 0, .int .i64 0, .int .i64 0]) zer99 rfl rfl ?_
     intro g7 w14 eg6 hb9 hs14 hz10
     have ge8 : w.heap.size ≤ g7 := eg_ge hB eg6
     have lt6 : g3 < g7 := lt_of_eg hb3.lt eg6
     have lt7 : g4 < g7 := lt_of_eg hb4.lt eg6
     replace hB := gb_tr hB hs14; replace hS := hS.gb hs14; replace hb3 := hb3.gb hs14; replace hb4 := hb4.gb hs14
     refine L_nil (N_then ⟨fun hN_ => ⟨hb3, trivial⟩, ?_⟩)
     refine T_all (rs := [3]) (by kernel_rfl) rfl (all1 (O_one rfl ?_))
     refine T_slL (xs := ss) (i := 1) EncX rfl rfl (by first | rfl | omega) slc26 (by omega) hc hS rfl ?_
     intro A_6 hS_2
     refine L_nil (N_then ⟨fun hN_ => ⟨hb3, trivial⟩, ?_⟩)
     refine T_all (rs := [4]) (by kernel_rfl) rfl (all1 (O_one rfl ?_))
     have ge9 : w.heap.size ≤ w14.heap.size := hB.size
     refine L_call rfl cb51 (scan_ok (e := (hEp (ss[0].b))) (ss := ss.drop 1) hS_2 hdr_w.1 (by rw [List.length_drop]; omega) (hT.gb hB)) rfl ?_
     rintro _ w15 ⟨hs15, R3, Pl3, A_7, c_5, A_8, c_6, ne3, rfl, ho5, hDY3, ho6, hG3⟩
     replace hB := gb_tr hB hs15; replace hS := hS.gb hs15; replace hb3 := hb3.gb hs15; replace hb4 := hb4.gb hs15; replace hb9 := hb9.gb hs15
     have hlo3 : w14.heap.size ≤ w15.heap.size := hs15.size
     refine L_nil (N_then ⟨fun hN_ => ⟨hb3, trivial⟩, ?_⟩)
     refine T_all (rs := [6]) (by kernel_rfl) rfl (all1 (O_one rfl ?_))
     refine L_stA (vs := [.slice A_7 R3.length c_5, .slice A_8 Pl3.length c_6, .int .i64 (ne3 : Int), .int .i64 (if restN (bsOf (ss.drop 1)) ne3 then 1 else 2)]) rfl rfl rfl sz99 rfl hb9 rfl ?_
     intro w16 hb10 hs16 hz11
     replace hB := gb_trg hB hs16 ge8; replace hS := hS.old hs16 ge8; replace hb3 := hb3.grown hs16 (ne_lt lt6); replace hb4 := hb4.grown hs16 (ne_lt lt7); replace ho5 := own_other ho5 hb9 rfl hs16; replace hDY3 := hDY3.other hb9 rfl rfl hs16; replace ho6 := own_other ho6 hb9 rfl hs16
     refine L_nil (N_then ⟨fun hN_ => ⟨hb3, trivial⟩, ?_⟩)
     refine T_done (by kernel_rfl) (CalmE.normal ?_)
     exact ⟨rfl, ⟨_, g7, A_7, R3, c_5, A_8, Pl3, c_6, ne3, Ac_frg ⟨rfl, rfl, rfl, rfl, rfl, rfl, rfl, rfl, trivial⟩, hB, hS, hb3, hb4, (own_lo ho5 ge9), hDY3, (own_lo ho6 ge9), hG3, hb10, ge8, lt6, lt7⟩⟩
   ·clear hB
    clear hS hb3 hb4
    rintro a_ w17 ⟨σ_, g5, A_2, R1, c_1, A_3, Pl1, c_2, ne1, rfl, hB, hS, hb3, hb4, hj1, hk1, hj2, hk2, hj3, ge10, lt8, lt9⟩
    refine N_then (C_seq (C_seq (C_reg rfl ?_)))
    refine L_run (R_field (r := 0) rfl fld99_0 rfl) rfl (L_run (R_load1 rfl scl51 (hj3.cell (i := 0) rfl)) rfl (L_run (R_lenSl rfl slc51) rfl (Lmv rfl rfl (L_nil (N_then (C_block ?_))))))
    have hw0_ : [hdrT (hEp ss[0].b) (hSeq ss[0].b) (hFst ss[0].b) (hHs ss[0].b) 4] = (bodyT ss[0].b (ss.drop 1) ((scn (ss.drop 1) (hEp ss[0].b)).take 0)) := by rw [List.take_zero]; rfl
    have ho0_ : World.ownsRow w17 w.heap.size 9 1 (.slice (some ⟨g4, 0, none⟩) (bodyT ss[0].b (ss.drop 1) ((scn (ss.drop 1) (hEp ss[0].b)).take 0)).length 1) (bodyT ss[0].b (ss.drop 1) ((scn (ss.drop 1) (hEp ss[0].b)).take 0)).length (fl encW (bodyT ss[0].b (ss.drop 1) ((scn (ss.drop 1) (hEp ss[0].b)).take 0))) := hw0_ ▸ own_lo (Blk.own (sz := 1) (m := 1) hb4 (by decide) rfl (Nat.le_refl _)) ge3
    refine C_loop (fun m_ a_ w_ => ∃ (σ_ : Nat → Value) (i : Nat) (Aj : Option Addr) (cj : Nat), a_ = Ac 86 σ_ [] [(5, .slice Aj ((bodyT ss[0].b (ss.drop 1) ((scn (ss.drop 1) (hEp ss[0].b)).take i)).length) cj), (6, .pointer (some ⟨g5, 0, none⟩)), (35, .slice A_2 R1.length c_1), (36, .int .i64 (R1.length : Int)), (37, .int .i64 (i : Int))] ∧ w.grownBy w_ none ∧ Sli t1 lo w.heap.size w_ A (fl encX ss) ∧ Blk w_ g3 33 [.int .u64 ((hEp (ss[0].b) : Nat) : Int), .int .i64 (hSeq (ss[0].b)), .int .i64 (hFst (ss[0].b)), .int .i64 (hHs (ss[0].b) 0), .int .i64 (hHs (ss[0].b) 1), .int .i64 (hHs (ss[0].b) 2), .int .i64 (hHs (ss[0].b) 3)] ∧ World.ownsRow w_ w.heap.size 34 1 (.slice A_2 R1.length c_1) R1.length (fl encY R1) ∧ DeepY 5 w_ R1 ∧ World.ownsRow w_ w.heap.size 3 1 (.slice A_3 Pl1.length c_2) Pl1.length (fl encZ Pl1) ∧ (ScR (scn (ss.drop 1) (hEp (ss[0].b))) R1 Pl1 ne1 ∧ ne1 ≤ 832 ∧ R1.length ≤ 832) ∧ Blk w_ g5 99 [.slice A_2 R1.length c_1, .slice A_3 Pl1.length c_2, .int .i64 (ne1 : Int), .int .i64 (if restN (bsOf (ss.drop 1)) ne1 then 1 else 2)] ∧ World.ownsRow w_ w.heap.size 9 1 (.slice Aj (bodyT ss[0].b (ss.drop 1) ((scn (ss.drop 1) (hEp ss[0].b)).take i)).length cj) (bodyT ss[0].b (ss.drop 1) ((scn (ss.drop 1) (hEp ss[0].b)).take i)).length (fl encW (bodyT ss[0].b (ss.drop 1) ((scn (ss.drop 1) (hEp ss[0].b)).take i))) ∧ (i ≤ R1.length) ∧ R1.length - i = m_) (R1.length - 0) ?_ ?_
    ·exact ⟨_, 0, (some ⟨g4, 0, none⟩), 1, Ac_frg ⟨(agr rfl (by rw [bodyT_len, List.take_zero]; rfl)), rfl, rfl, rfl, (agx rfl), trivial⟩, hB, hS, hb3, hj1, hk1, hj2, hk2, hj3, ho0_, (by omega), rfl⟩
    ·clear hB
     clear hS hb3 hb4 hj1 hk1 hj2 hk2 hj3
     rintro m_ a_ w18 ⟨σ_, i, Aj, cj, rfl, hB, hS, hb3, hj1, hk1, hj2, hk2, hj3, hoW, hi_, rfl⟩
     refine C_seq (C_reg rfl ?_)
     refine L_run (R_lss rfl rfl) rfl ?_
     refine L_nil (N_then (C_seq (C_if rfl (fun h3 => ?_) (fun h3 => ?_))))
     ·refine C_skip (N_then (C_seq (C_block (C_seq (C_reg rfl ?_)))))
      refine Lmv rfl rfl ?_
      have hlk : i < R1.length := by first | omega | (simp; omega)
      refine T_index (xs := R1) (i := i) EncY rfl rfl (by first | rfl | omega) slc51 hlk (own_of hj1).2.2 rfl ?_
      intro g8 o2 ha2
      refine L_run (R_load1 rfl scl34 (ha2 0 _ rfl)) rfl (Las rfl rfl (Las rfl rfl (L_nil (N_then (C_seq (C_reg rfl (Lmv rfl rfl ?_)))))))
      by_cases h4 : rerr ((R1[i]).xs) = 0
      ·refine L_call rfl cb52 (rdec_ok_y (xs := (R1[i]).xs) (hk1.get (i := i) (by first | assumption | omega | (simp; omega))) (by obtain ⟨hg1_, hg2_, hg3_, hg4_⟩ := scr_get hk2.1 hlk; have hm_ := scn_mem _ (List.getElem_mem hg1_); rw [hg3_]; omega) ((hk2.1).cap _ (List.getElem_mem hlk)) h4) rfl ?_
       rintro _ w19 ⟨hs17, A_9, c_7, rfl, ho7⟩
       replace hB := gb_tr hB hs17; replace hS := hS.gb hs17; replace hb3 := hb3.gb hs17; replace hj1 := own_gb hj1 hs17; replace hk1 := hk1.gb hs17; replace hj2 := own_gb hj2 hs17; replace hj3 := hj3.gb hs17; replace hoW := own_gb hoW hs17
       have hlo4 : w18.heap.size ≤ w19.heap.size := hs17.size
       refine Lmv rfl rfl (L_run (R_extract rfl rfl) rfl (L_run (R_extract rfl rfl) rfl (L_alloc (cs := [.int .i64 0, .int .i64 0, .int .i64 0, .int .i64 0, .slice none 0 0]) zer36 rfl rfl ?_)))
       intro g9 w20 eg7 hb11 hs18 hz12
       have ge12 : w.heap.size ≤ g9 := eg_ge hB eg7
       have lt10 : g3 < g9 := lt_of_eg hb3.lt eg7
       have lt11 : g5 < g9 := lt_of_eg hj3.lt eg7
       replace hB := gb_tr hB hs18; replace hS := hS.gb hs18; replace hb3 := hb3.gb hs18; replace hj1 := own_gb hj1 hs18; replace hk1 := hk1.gb hs18; replace hj2 := own_gb hj2 hs18; replace hj3 := hj3.gb hs18; replace hoW := own_gb hoW hs18
       refine L_stA (vs := [.int .i64 (rKd ((R1[i]).xs)), .int .i64 (rCh ((R1[i]).xs)), .int .i64 (rLs ((R1[i]).xs)), .int .i64 (rPv ((R1[i]).xs)), .slice A_9 ((rDt ((R1[i]).xs)).length) c_7]) rfl rfl rfl sz36 rfl hb11 rfl ?_
       intro w21 hb12 hs19 hz13
       replace hB := gb_trg hB hs19 ge12; replace hS := hS.old hs19 ge12; replace hb3 := hb3.grown hs19 (ne_lt lt10); replace hj1 := own_other hj1 hb11 rfl hs19; replace hk1 := hk1.other hb11 rfl rfl hs19; replace hj2 := own_other hj2 hb11 rfl hs19; replace hj3 := hj3.grown hs19 (ne_lt lt11); replace hoW := own_other hoW hb11 rfl hs19
       refine Las rfl rfl (L_nil (N_then (C_seq (C_seq (C_reg rfl (Lmv rfl rfl (L_run (R_eqv (R_neq rfl rfl) (v' := .bool false) rfl) rfl (L_nil (N_then (C_condF rfl rfl (C_skip (N_then ?_))))))))))))
       refine C_draw2 rfl mix ?_
       intro w22 hs20 hz14
       replace hB := gb_tr hB hs20; replace hS := hS.gb hs20; replace hb3 := hb3.gb hs20; replace hj1 := own_gb hj1 hs20; replace hk1 := hk1.gb hs20; replace hj2 := own_gb hj2 hs20; replace hj3 := hj3.gb hs20; replace hoW := own_gb hoW hs20; replace hb12 := hb12.gb hs20
       have hl3 : i < Pl1.length := by first | omega | (have h_ := (ScR.len (And.left (by assumption))); omega) | (simp; omega)
       obtain ⟨g10, o3, r1, eA1, er1, ha3⟩ := Sli.place' (xs := Pl1) (i := i) EncZ (own_of hj2).2.2 hl3 rfl
       refine ⟨fun W_ => Blk W_ g5 99 [.slice A_2 R1.length c_1, .slice A_3 Pl1.length c_2, .int .i64 (ne1 : Int), .int .i64 (if restN (bsOf (ss.drop 1)) ne1 then 1 else 2)] ∧ Blk W_ g9 36 [.int .i64 (rKd ((R1[i]).xs)), .int .i64 (rCh ((R1[i]).xs)), .int .i64 (rLs ((R1[i]).xs)), .int .i64 (rPv ((R1[i]).xs)), .slice A_9 ((rDt ((R1[i]).xs)).length) c_7] ∧ At W_ g10 r1 [.int .i64 (Pl1[i])] ∧ True, [0, 1, 2, 3, 4, 5, 6, 10], ?_⟩
       refine T_tk (i := 0) rfl (Y_of (fun _ _ => R_move rfl)) ⟨hj3, hb12, ha3, trivial⟩ rfl ?_
       refine T_tk (i := 1) rfl (Y_of (fun _ ⟨hj3, hb12, ha3, _⟩ => R_loadA (vs := [.int .i64 (rKd ((R1[i]).xs)), .int .i64 (rCh ((R1[i]).xs)), .int .i64 (rLs ((R1[i]).xs)), .int .i64 (rPv ((R1[i]).xs)), .slice A_9 ((rDt ((R1[i]).xs)).length) c_7]) rfl agg36 (At.pre (hb12.at_ 0) rfl) rfl)) ⟨hj3, hb12, ha3, trivial⟩ rfl ?_
       refine T_tk (i := 2) rfl (Y_of (fun _ _ => R_field (r := 1) rfl fld99_1 rfl)) ⟨hj3, hb12, ha3, trivial⟩ rfl ?_
       refine T_tk (i := 3) rfl (Y_of (fun _ ⟨hj3, hb12, ha3, _⟩ => R_load1 rfl scl52 (hj3.cell (i := 1) rfl))) ⟨hj3, hb12, ha3, trivial⟩ rfl ?_
       refine T_tk (i := 4) rfl (Y_of (fun _ _ => R_move rfl)) ⟨hj3, hb12, ha3, trivial⟩ rfl ?_
       refine T_tk (i := 5) rfl (Y_of (fun _ _ => R_indexE rfl rfl (by first | rfl | omega) slc52 hl3 eA1 er1)) ⟨hj3, hb12, ha3, trivial⟩ rfl ?_
       refine T_tk (i := 6) rfl (Y_of (fun _ ⟨hj3, hb12, ha3, _⟩ => R_load1 rfl scl3 (ha3 0 _ rfl))) ⟨hj3, hb12, ha3, trivial⟩ rfl ?_
       refine T_all (rs := [7]) (by kernel_rfl) rfl (all1 (O_one rfl ?_))
       refine L_call rfl cb12 (record_ok (n := (rDt ((R1[i]).xs)).length) (kind := (rKd ((R1[i]).xs))) (chain := (rCh ((R1[i]).xs))) (lsn := (rLs ((R1[i]).xs))) (prev := (rPv ((R1[i]).xs))) (at_ := Pl1[i]) (rok_w (by assumption)).1 (rok_w (by assumption)).2.1 (rok_w (by assumption)).2.2.1 (rok_w (by assumption)).2.2.2.1 (by first | omega | (obtain ⟨hg1_, hg2_, hg3_, hg4_⟩ := scr_get (And.left (by assumption)) hlk; have hm_ := scn_mem _ (List.getElem_mem hg1_); first | (rw [hg4_]; omega) | (rw [hg3_]; omega) | (rw [hg4_]; exact okw_nat (by omega)))) (rok_w (by assumption)).2.2.2.2) rfl ?_
       rintro _ w23 ⟨hs21, rfl⟩
       replace hB := gb_tr hB hs21; replace hS := hS.gb hs21; replace hb3 := hb3.gb hs21; replace hj1 := own_gb hj1 hs21; replace hk1 := hk1.gb hs21; replace hj2 := own_gb hj2 hs21; replace hj3 := hj3.gb hs21; replace hoW := own_gb hoW hs21; replace hb12 := hb12.gb hs21; replace ha3 := At.gb ha3 hs21 (by simp)
       refine L_nil (N_then ⟨fun hN_ => ⟨hj3, hb12, ha3, trivial⟩, ?_⟩)
       refine T_all (rs := [8]) (by kernel_rfl) rfl (all1 (O_one rfl ?_))
       refine L_buildSlice (pv := [(0, .string (⟨(recT (rKd ((R1[i]).xs)) (rCh ((R1[i]).xs)) (rLs ((R1[i]).xs)) (rPv ((R1[i]).xs)) (Pl1[i]) ((rDt ((R1[i]).xs)).length)).toArray⟩))]) (cs := [.string (⟨(recT (rKd ((R1[i]).xs)) (rCh ((R1[i]).xs)) (rLs ((R1[i]).xs)) (rPv ((R1[i]).xs)) (Pl1[i]) ((rDt ((R1[i]).xs)).length)).toArray⟩)]) slc59 zer9 rfl rfl (by kernel_rfl) rfl ?_
       intro g11 w24 eg8 hb13 hs22 hz15
       have hap1 : ∀ k_, (Value.slice Aj (bodyT ss[0].b (ss.drop 1) ((scn (ss.drop 1) (hEp ss[0].b)).take i)).length cj).ownBlock = some k_ → k_ ≠ g11 := fun k_ hk => by have h_ := (World.ownsRow.lt hoW k_ hk).2; omega
       replace hB := gb_tr hB hs22; replace hS := hS.gb hs22; replace hb3 := hb3.gb hs22; replace hj1 := own_gb hj1 hs22; replace hk1 := hk1.gb hs22; replace hj2 := own_gb hj2 hs22; replace hj3 := hj3.gb hs22; replace hoW := own_gb hoW hs22; replace hb12 := hb12.gb hs22; replace ha3 := At.gb ha3 hs22 (by simp)
       refine L_nil (N_then ⟨fun hN_ => ⟨hj3, hb12, ha3, trivial⟩, ?_⟩)
       refine T_all (rs := [9]) (by kernel_rfl) rfl (all1 (O_one rfl ?_))
       refine T_append (xs := (bodyT ss[0].b (ss.drop 1) ((scn (ss.drop 1) (hEp ss[0].b)).take i))) (ys := [(recT (rKd ((R1[i]).xs)) (rCh ((R1[i]).xs)) (rLs ((R1[i]).xs)) (rPv ((R1[i]).xs)) (Pl1[i]) ((rDt ((R1[i]).xs)).length))]) EncW slc59 rfl rfl hoW (Blk.sli (m := 0) hb13) (by rw [bodyT_len, List.length_take]; have h_ := scn_len (ss := ss.drop 1) (e := hEp ss[0].b); simp; omega) (by have := hB.size; omega) rfl ?_
       intro A_10 c_8 w25 ho8 hs23 hat1
       replace hB := gb_tro hB hoW hs23 (Nat.le_refl _); replace hS := hS.grown hs23 (fun k hk => .inr (Nat.le_trans (Nat.le_refl _) (World.ownsRow.lt hoW k hk).1)); replace hb3 := blk_own hb3 hoW rfl hs23; replace hj1 := hj1.kept hs23 (own_type_ne' hj1 hoW rfl); replace hk1 := hk1.otherO hoW rfl rfl hs23
       replace hj2 := hj2.kept hs23 (own_type_ne' hj2 hoW rfl); replace hj3 := blk_own hj3 hoW rfl hs23; replace hb12 := blk_own hb12 hoW rfl hs23; replace ha3 := at_re EncZ (own_of hj2).2.2 hl3 rfl eA1 er1
       refine L_nil (N_then ⟨fun hN_ => ⟨hj3, hb12, ha3, trivial⟩, ?_⟩)
       refine T_tk (i := 10) rfl (Y_of (fun _ _ => R_assign rfl)) ⟨hj3, hb12, ha3, trivial⟩ rfl ?_
       refine T_done (by kernel_rfl) (CalmE.normal ?_)
       refine N_in (N_then (C_reg rfl ?_))
       refine L_run (R_add64 rfl rfl (by omega)) rfl ?_
       refine Lmv rfl rfl (L_nil (N_then ?_))
       obtain ⟨hg1_, hg2_, hg3_, hg4_⟩ := scr_get hk2.1 hlk
       have hnx_ : (bodyT ss[0].b (ss.drop 1) ((scn (ss.drop 1) (hEp ss[0].b)).take i)) ++ [(recT (rKd ((R1[i]).xs)) (rCh ((R1[i]).xs)) (rLs ((R1[i]).xs)) (rPv ((R1[i]).xs)) (Pl1[i]) ((rDt ((R1[i]).xs)).length))] = (bodyT ss[0].b (ss.drop 1) ((scn (ss.drop 1) (hEp ss[0].b)).take (i + 1))) := by rw [List.take_succ_eq_append_getElem hg1_, bodyT_succ]; refine snoc_eq ?_; unfold recL; rw [← hg3_, if_pos h4]; unfold recT; rw [hg4_]
       rw [hnx_] at ho8
       exact ⟨R1.length - (i + 1), by omega, _, (i + 1), A_10, c_8, Ac_frg ⟨(agr rfl (by rw [hnx_])), rfl, rfl, rfl, (agx rfl), trivial⟩, hB, hS, hb3, hj1, hk1, hj2, hk2, hj3, (own_lo ho8 (Nat.le_refl _)), (by omega), rfl⟩
      ·refine L_call rfl cb52 (rdec_ok_n (xs := (R1[i]).xs) (hk1.get (i := i) (by first | assumption | omega | (simp; omega))) (by obtain ⟨hg1_, hg2_, hg3_, hg4_⟩ := scr_get hk2.1 hlk; have hm_ := scn_mem _ (List.getElem_mem hg1_); rw [hg3_]; omega) ((hk2.1).cap _ (List.getElem_mem hlk)) h4) rfl ?_
       rintro _ w26 ⟨hs24, rfl⟩
       replace hB := gb_tr hB hs24; replace hS := hS.gb hs24; replace hb3 := hb3.gb hs24; replace hj1 := own_gb hj1 hs24; replace hk1 := hk1.gb hs24; replace hj2 := own_gb hj2 hs24; replace hj3 := hj3.gb hs24; replace hoW := own_gb hoW hs24
       refine Lmv rfl rfl (L_run (R_extract rfl rfl) rfl (L_run (R_extract rfl rfl) rfl (L_alloc (cs := [.int .i64 0, .int .i64 0, .int .i64 0, .int .i64 0, .slice none 0 0]) zer36 rfl rfl ?_)))
       intro g12 w27 eg9 hb14 hs25 hz16
       have ge14 : w.heap.size ≤ g12 := eg_ge hB eg9
       have lt15 : g3 < g12 := lt_of_eg hb3.lt eg9
       have lt16 : g5 < g12 := lt_of_eg hj3.lt eg9
       replace hB := gb_tr hB hs25; replace hS := hS.gb hs25; replace hb3 := hb3.gb hs25; replace hj1 := own_gb hj1 hs25; replace hk1 := hk1.gb hs25; replace hj2 := own_gb hj2 hs25; replace hj3 := hj3.gb hs25; replace hoW := own_gb hoW hs25
       refine L_stA (vs := [.int .i64 0, .int .i64 0, .int .i64 0, .int .i64 0, .slice none 0 0]) rfl rfl rfl sz36 rfl hb14 rfl ?_
       intro w28 hb15 hs26 hz17
       replace hB := gb_trg hB hs26 ge14; replace hS := hS.old hs26 ge14; replace hb3 := hb3.grown hs26 (ne_lt lt15); replace hj1 := own_other hj1 hb14 rfl hs26; replace hk1 := hk1.other hb14 rfl rfl hs26; replace hj2 := own_other hj2 hb14 rfl hs26; replace hj3 := hj3.grown hs26 (ne_lt lt16); replace hoW := own_other hoW hb14 rfl hs26
       refine Las rfl rfl (L_nil (N_then (C_seq (C_seq (C_reg rfl (Lmv rfl rfl (L_run (R_neq rfl rfl) rfl (L_nil (N_then (C_condT rfl (decide_eq_true h4) (C_seq (C_reg rfl (Lmv rfl rfl (L_run (R_field (r := 1) rfl fld99_1 rfl) rfl (L_run (R_load1 rfl scl52 (hj3.cell (i := 1) rfl)) rfl (Lmv rfl rfl ?_))))))))))))))))
       have hl4 : i < Pl1.length := (by have h_ := (ScR.len (And.left (by assumption))); omega)
       refine T_index (xs := Pl1) (i := i) EncZ rfl rfl (by first | rfl | omega) slc52 hl4 (own_of hj2).2.2 rfl ?_
       intro g13 o4 ha4
       refine L_run (R_load1 rfl scl3 (ha4 0 _ rfl)) rfl ?_
       refine L_call rfl cb22 (name_Digits (n := Pl1[i]) (by first | omega | (obtain ⟨hg1_, hg2_, hg3_, hg4_⟩ := scr_get (And.left (by assumption)) hlk; have hm_ := scn_mem _ (List.getElem_mem hg1_); first | (rw [hg4_]; omega) | (rw [hg3_]; omega) | (rw [hg4_]; exact okw_nat (by omega))))) rfl ?_
       rintro _ w29 ⟨hs27, rfl⟩
       replace hB := gb_tr hB hs27; replace hS := hS.gb hs27; replace hb3 := hb3.gb hs27; replace hj1 := own_gb hj1 hs27; replace hk1 := hk1.gb hs27; replace hj2 := own_gb hj2 hs27; replace hj3 := hj3.gb hs27; replace hoW := own_gb hoW hs27
       refine Lmv rfl rfl (L_run (R_lenSl rfl slc34) rfl ?_)
       refine L_call rfl cb22 (name_Digits (n := ((R1[i]).xs.length : Int)) (by first | omega | (obtain ⟨hg1_, hg2_, hg3_, hg4_⟩ := scr_get (And.left (by assumption)) hlk; have hm_ := scn_mem _ (List.getElem_mem hg1_); first | (rw [hg4_]; omega) | (rw [hg3_]; omega) | (rw [hg4_]; exact okw_nat (by omega))))) rfl ?_
       rintro _ w30 ⟨hs28, rfl⟩
       replace hB := gb_tr hB hs28; replace hS := hS.gb hs28; replace hb3 := hb3.gb hs28; replace hj1 := own_gb hj1 hs28; replace hk1 := hk1.gb hs28; replace hj2 := own_gb hj2 hs28; replace hj3 := hj3.gb hs28; replace hoW := own_gb hoW hs28
       refine L_buildSlice (pv := [(0, .string (⟨#[98, 114, 111, 107, 101, 110, 32, 97, 116]⟩)), (1, .string (⟨(digI (Pl1[i])).toArray⟩)), (2, .string (⟨#[115, 105, 122, 101]⟩)), (3, .string (⟨(digI ((R1[i]).xs.length : Int)).toArray⟩))]) (cs := [.string (⟨#[98, 114, 111, 107, 101, 110, 32, 97, 116]⟩), .string (⟨(digI (Pl1[i])).toArray⟩), .string (⟨#[115, 105, 122, 101]⟩), .string (⟨(digI ((R1[i]).xs.length : Int)).toArray⟩)]) slc59 zer9 rfl rfl (by kernel_rfl) rfl ?_
       intro g14 w31 eg10 hb16 hs29 hz18
       have hap2 : ∀ k_, (Value.slice Aj (bodyT ss[0].b (ss.drop 1) ((scn (ss.drop 1) (hEp ss[0].b)).take i)).length cj).ownBlock = some k_ → k_ ≠ g14 := fun k_ hk => by have h_ := (World.ownsRow.lt hoW k_ hk).2; omega
       replace hB := gb_tr hB hs29; replace hS := hS.gb hs29; replace hb3 := hb3.gb hs29; replace hj1 := own_gb hj1 hs29; replace hk1 := hk1.gb hs29; replace hj2 := own_gb hj2 hs29; replace hj3 := hj3.gb hs29; replace hoW := own_gb hoW hs29
       have hjl_ := (show (Go.Lib.join ([([98, 114, 111, 107, 101, 110, 32, 97, 116] : List UInt8), (digI (Pl1[i])), ([115, 105, 122, 101] : List UInt8), (digI ((R1[i]).xs.length : Int))]) [32]).length ≤ 140737488355328 from by obtain ⟨hg1_, hg2_, hg3_, hg4_⟩ := scr_get hk2.1 hlk; have hm_ := scn_mem _ (List.getElem_mem hg1_); rw [hg4_, hg3_]; exact Nat.le_trans (brkT_len (by omega) (by omega)) (by omega))
       refine L_call rfl cb21 (line_ok (xs := [([98, 114, 111, 107, 101, 110, 32, 97, 116] : List UInt8), (digI (Pl1[i])), ([115, 105, 122, 101] : List UInt8), (digI ((R1[i]).xs.length : Int))]) (Blk.sli (m := 0) hb16) (by simp) (by simp) hjl_) rfl ?_
       rintro _ w32 ⟨hs30, rfl⟩
       replace hB := gb_tr hB hs30; replace hS := hS.gb hs30; replace hb3 := hb3.gb hs30; replace hj1 := own_gb hj1 hs30; replace hk1 := hk1.gb hs30; replace hj2 := own_gb hj2 hs30; replace hj3 := hj3.gb hs30; replace hoW := own_gb hoW hs30; replace hb16 := hb16.gb hs30
       refine L_buildSlice (pv := [(0, .string (⟨(Go.Lib.join ([([98, 114, 111, 107, 101, 110, 32, 97, 116] : List UInt8), (digI (Pl1[i])), ([115, 105, 122, 101] : List UInt8), (digI ((R1[i]).xs.length : Int))]) [32]).toArray⟩))]) (cs := [.string (⟨(Go.Lib.join ([([98, 114, 111, 107, 101, 110, 32, 97, 116] : List UInt8), (digI (Pl1[i])), ([115, 105, 122, 101] : List UInt8), (digI ((R1[i]).xs.length : Int))]) [32]).toArray⟩)]) slc59 zer9 rfl rfl (by kernel_rfl) rfl ?_
       intro g15 w33 eg11 hb17 hs31 hz19
       have hap3 : ∀ k_, (Value.slice Aj (bodyT ss[0].b (ss.drop 1) ((scn (ss.drop 1) (hEp ss[0].b)).take i)).length cj).ownBlock = some k_ → k_ ≠ g15 := fun k_ hk => by have h_ := (World.ownsRow.lt hoW k_ hk).2; omega
       replace hB := gb_tr hB hs31; replace hS := hS.gb hs31; replace hb3 := hb3.gb hs31; replace hj1 := own_gb hj1 hs31; replace hk1 := hk1.gb hs31; replace hj2 := own_gb hj2 hs31; replace hj3 := hj3.gb hs31; replace hoW := own_gb hoW hs31; replace hb16 := hb16.gb hs31
       refine T_append (xs := (bodyT ss[0].b (ss.drop 1) ((scn (ss.drop 1) (hEp ss[0].b)).take i))) (ys := [(Go.Lib.join ([([98, 114, 111, 107, 101, 110, 32, 97, 116] : List UInt8), (digI (Pl1[i])), ([115, 105, 122, 101] : List UInt8), (digI ((R1[i]).xs.length : Int))]) [32])]) EncW slc59 rfl rfl hoW (Blk.sli (m := 0) hb17) (by rw [bodyT_len, List.length_take]; have h_ := scn_len (ss := ss.drop 1) (e := hEp ss[0].b); simp; omega) (by have := hB.size; omega) rfl ?_
       intro A_11 c_9 w34 ho9 hs32 hat2
       have lt24 := hb16.lt
       replace hB := gb_tro hB hoW hs32 (Nat.le_refl _); replace hS := hS.grown hs32 (fun k hk => .inr (Nat.le_trans (Nat.le_refl _) (World.ownsRow.lt hoW k hk).1)); replace hb3 := blk_own hb3 hoW rfl hs32; replace hj1 := hj1.kept hs32 (own_type_ne' hj1 hoW rfl); replace hk1 := hk1.otherO hoW rfl rfl hs32
       replace hj2 := hj2.kept hs32 (own_type_ne' hj2 hoW rfl); replace hj3 := blk_own hj3 hoW rfl hs32
       have hap4 : ∀ k_, (Value.slice A_11 ((bodyT ss[0].b (ss.drop 1) ((scn (ss.drop 1) (hEp ss[0].b)).take i)) ++ ([(Go.Lib.join ([([98, 114, 111, 107, 101, 110, 32, 97, 116] : List UInt8), (digI (Pl1[i])), ([115, 105, 122, 101] : List UInt8), (digI ((R1[i]).xs.length : Int))]) [32])])).length c_9).ownBlock = some k_ → k_ ≠ g14 := fun k_ hk => by rcases hat2 with h_ | h_ <;> rw [h_] at hk <;> first | exact hap2 k_ hk | (injection hk with hk; omega)
       refine Las rfl rfl (L_nil (N_then (C_exit (X_then (X_hit (N_then (C_reg rfl ?_)))))))
       refine L_run (R_add64 rfl rfl (by omega)) rfl ?_
       refine Lmv rfl rfl (L_nil (N_then ?_))
       obtain ⟨hg1_, hg2_, hg3_, hg4_⟩ := scr_get hk2.1 hlk
       have hnx_ : (bodyT ss[0].b (ss.drop 1) ((scn (ss.drop 1) (hEp ss[0].b)).take i)) ++ [(Go.Lib.join ([([98, 114, 111, 107, 101, 110, 32, 97, 116] : List UInt8), (digI (Pl1[i])), ([115, 105, 122, 101] : List UInt8), (digI ((R1[i]).xs.length : Int))]) [32])] = (bodyT ss[0].b (ss.drop 1) ((scn (ss.drop 1) (hEp ss[0].b)).take (i + 1))) := by rw [List.take_succ_eq_append_getElem hg1_, bodyT_succ]; refine snoc_eq ?_; unfold recL; rw [← hg3_, if_neg h4]; unfold brkT; rw [hg4_]
       rw [hnx_] at ho9
       exact ⟨R1.length - (i + 1), by omega, _, (i + 1), A_11, c_9, Ac_frg ⟨(agr rfl (by rw [hnx_])), rfl, rfl, rfl, (agx rfl), trivial⟩, hB, hS, hb3, hj1, hk1, hj2, hk2, hj3, (own_lo ho9 (Nat.le_refl _)), (by omega), rfl⟩
     ·refine C_exit (X_then (X_then (X_hit (N_then (C_seq (C_reg rfl ?_))))))
      refine Las rfl rfl (L_nil (N_then (C_seq (C_seq (C_reg rfl (L_run (R_field (r := 3) rfl fld99_3 rfl) rfl (L_run (R_load1 rfl scl3 (hj3.cell (i := 3) rfl)) rfl (L_run (R_eql rfl rfl) rfl (L_nil (N_then (C_if rfl (fun h5 => ?_) (fun h5 => ?_))))))))))))
      ·refine C_reg rfl ?_
       refine Las rfl rfl (L_nil (N_then (C_seq (C_reg rfl (Lmv rfl rfl (L_run (R_field (r := 2) rfl fld99_2 rfl) rfl (L_run (R_load1 rfl scl3 (hj3.cell (i := 2) rfl)) rfl ?_)))))))
       refine L_call rfl cb22 (name_Digits (n := (ne1 : Int)) (by first | omega | (obtain ⟨hg1_, hg2_, hg3_, hg4_⟩ := scr_get (And.left (by assumption)) hlk; have hm_ := scn_mem _ (List.getElem_mem hg1_); first | (rw [hg4_]; omega) | (rw [hg3_]; omega) | (rw [hg4_]; exact okw_nat (by omega))))) rfl ?_
       rintro _ w35 ⟨hs33, rfl⟩
       replace hB := gb_tr hB hs33; replace hoW := own_gb hoW hs33
       refine Lmv rfl rfl ?_
       refine L_buildSlice (pv := [(0, .string (⟨#[101, 110, 100]⟩)), (1, .string (⟨(digI (ne1 : Int)).toArray⟩)), (2, .string (⟨#[99, 108, 101, 97, 110]⟩))]) (cs := [.string (⟨#[101, 110, 100]⟩), .string (⟨(digI (ne1 : Int)).toArray⟩), .string (⟨#[99, 108, 101, 97, 110]⟩)]) slc59 zer9 rfl rfl (by kernel_rfl) rfl ?_
       intro g16 w36 eg12 hb18 hs34 hz20
       have hap5 : ∀ k_, (Value.slice Aj (bodyT ss[0].b (ss.drop 1) ((scn (ss.drop 1) (hEp ss[0].b)).take i)).length cj).ownBlock = some k_ → k_ ≠ g16 := fun k_ hk => by have h_ := (World.ownsRow.lt hoW k_ hk).2; omega
       replace hB := gb_tr hB hs34; replace hoW := own_gb hoW hs34
       have hjl_ := (show (Go.Lib.join ([([101, 110, 100] : List UInt8), (digI (ne1 : Int)), ([99, 108, 101, 97, 110] : List UInt8)]) [32]).length ≤ 140737488355328 from Nat.le_trans (endT_len (by omega) (by decide)) (by omega))
       refine L_call rfl cb21 (line_ok (xs := [([101, 110, 100] : List UInt8), (digI (ne1 : Int)), ([99, 108, 101, 97, 110] : List UInt8)]) (Blk.sli (m := 0) hb18) (by simp) (by simp) hjl_) rfl ?_
       rintro _ w37 ⟨hs35, rfl⟩
       replace hB := gb_tr hB hs35; replace hoW := own_gb hoW hs35; replace hb18 := hb18.gb hs35
       refine L_buildSlice (pv := [(0, .string (⟨(Go.Lib.join ([([101, 110, 100] : List UInt8), (digI (ne1 : Int)), ([99, 108, 101, 97, 110] : List UInt8)]) [32]).toArray⟩))]) (cs := [.string (⟨(Go.Lib.join ([([101, 110, 100] : List UInt8), (digI (ne1 : Int)), ([99, 108, 101, 97, 110] : List UInt8)]) [32]).toArray⟩)]) slc59 zer9 rfl rfl (by kernel_rfl) rfl ?_
       intro g17 w38 eg13 hb19 hs36 hz21
       have hap6 : ∀ k_, (Value.slice Aj (bodyT ss[0].b (ss.drop 1) ((scn (ss.drop 1) (hEp ss[0].b)).take i)).length cj).ownBlock = some k_ → k_ ≠ g17 := fun k_ hk => by have h_ := (World.ownsRow.lt hoW k_ hk).2; omega
       replace hB := gb_tr hB hs36; replace hoW := own_gb hoW hs36; replace hb18 := hb18.gb hs36
       refine T_append (xs := (bodyT ss[0].b (ss.drop 1) ((scn (ss.drop 1) (hEp ss[0].b)).take i))) (ys := [(Go.Lib.join ([([101, 110, 100] : List UInt8), (digI (ne1 : Int)), ([99, 108, 101, 97, 110] : List UInt8)]) [32])]) EncW slc59 rfl rfl hoW (Blk.sli (m := 0) hb19) (by rw [bodyT_len, List.length_take]; have h_ := scn_len (ss := ss.drop 1) (e := hEp ss[0].b); simp; omega) (by have := hB.size; omega) rfl ?_
       intro A_12 c_10 w39 ho10 hs37 hat3
       have lt30 := hb18.lt
       replace hB := gb_tro hB hoW hs37 (Nat.le_refl _)
       have hap7 : ∀ k_, (Value.slice A_12 ((bodyT ss[0].b (ss.drop 1) ((scn (ss.drop 1) (hEp ss[0].b)).take i)) ++ ([(Go.Lib.join ([([101, 110, 100] : List UInt8), (digI (ne1 : Int)), ([99, 108, 101, 97, 110] : List UInt8)]) [32])])).length c_10).ownBlock = some k_ → k_ ≠ g16 := fun k_ hk => by rcases hat3 with h_ | h_ <;> rw [h_] at hk <;> first | exact hap5 k_ hk | (injection hk with hk; omega)
       refine Las rfl rfl (L_nil (N_then (C_ret ?_)))
       refine ret1 Tryd.results24 rfl ?_
       have hal_ : (scn (ss.drop 1) (hEp ss[0].b)).take i = (scn (ss.drop 1) (hEp ss[0].b)) := List.take_of_length_le (by have h_ := (hk2.1).len; omega)
       have hen_ : ne1 = endN (scn (ss.drop 1) (hEp ss[0].b)) := (hk2.1).en
       have hkd_ : kindT (ss.drop 1) ne1 = ([99, 108, 101, 97, 110] : List UInt8) := by unfold kindT; rw [if_pos (by by_cases h_ : restN (bsOf (ss.drop 1)) ne1; exact h_; exact absurd h5 (by rw [if_neg h_]; decide))]
       have hf_ : (bodyT ss[0].b (ss.drop 1) ((scn (ss.drop 1) (hEp ss[0].b)).take i)) ++ ([(Go.Lib.join ([([101, 110, 100] : List UInt8), (digI (ne1 : Int)), ([99, 108, 101, 97, 110] : List UInt8)]) [32])]) = segT ss := by unfold segT; rw [if_neg (by omega), ← ss0 (by omega), if_neg (fun h_ => h_ h2), ← hen_, hkd_, hal_]; rfl
       rw [hf_] at ho10; rw [hf_]; exact ⟨hB, _, _, rfl, (own_lo ho10 (Nat.le_refl _))⟩
      ·refine C_skip (N_then (C_seq (C_reg rfl ?_)))
       refine Lmv rfl rfl (L_run (R_field (r := 2) rfl fld99_2 rfl) rfl (L_run (R_load1 rfl scl3 (hj3.cell (i := 2) rfl)) rfl ?_))
       refine L_call rfl cb22 (name_Digits (n := (ne1 : Int)) (by first | omega | (obtain ⟨hg1_, hg2_, hg3_, hg4_⟩ := scr_get (And.left (by assumption)) hlk; have hm_ := scn_mem _ (List.getElem_mem hg1_); first | (rw [hg4_]; omega) | (rw [hg3_]; omega) | (rw [hg4_]; exact okw_nat (by omega))))) rfl ?_
       rintro _ w40 ⟨hs38, rfl⟩
       replace hB := gb_tr hB hs38; replace hoW := own_gb hoW hs38
       refine Lmv rfl rfl ?_
       refine L_buildSlice (pv := [(0, .string (⟨#[101, 110, 100]⟩)), (1, .string (⟨(digI (ne1 : Int)).toArray⟩)), (2, .string (⟨#[116, 111, 114, 110]⟩))]) (cs := [.string (⟨#[101, 110, 100]⟩), .string (⟨(digI (ne1 : Int)).toArray⟩), .string (⟨#[116, 111, 114, 110]⟩)]) slc59 zer9 rfl rfl (by kernel_rfl) rfl ?_
       intro g18 w41 eg14 hb20 hs39 hz22
       have hap8 : ∀ k_, (Value.slice Aj (bodyT ss[0].b (ss.drop 1) ((scn (ss.drop 1) (hEp ss[0].b)).take i)).length cj).ownBlock = some k_ → k_ ≠ g18 := fun k_ hk => by have h_ := (World.ownsRow.lt hoW k_ hk).2; omega
       replace hB := gb_tr hB hs39; replace hoW := own_gb hoW hs39
       have hjl_ := (show (Go.Lib.join ([([101, 110, 100] : List UInt8), (digI (ne1 : Int)), ([116, 111, 114, 110] : List UInt8)]) [32]).length ≤ 140737488355328 from Nat.le_trans (endT_len (by omega) (by decide)) (by omega))
       refine L_call rfl cb21 (line_ok (xs := [([101, 110, 100] : List UInt8), (digI (ne1 : Int)), ([116, 111, 114, 110] : List UInt8)]) (Blk.sli (m := 0) hb20) (by simp) (by simp) hjl_) rfl ?_
       rintro _ w42 ⟨hs40, rfl⟩
       replace hB := gb_tr hB hs40; replace hoW := own_gb hoW hs40; replace hb20 := hb20.gb hs40
       refine L_buildSlice (pv := [(0, .string (⟨(Go.Lib.join ([([101, 110, 100] : List UInt8), (digI (ne1 : Int)), ([116, 111, 114, 110] : List UInt8)]) [32]).toArray⟩))]) (cs := [.string (⟨(Go.Lib.join ([([101, 110, 100] : List UInt8), (digI (ne1 : Int)), ([116, 111, 114, 110] : List UInt8)]) [32]).toArray⟩)]) slc59 zer9 rfl rfl (by kernel_rfl) rfl ?_
       intro g19 w43 eg15 hb21 hs41 hz23
       have hap9 : ∀ k_, (Value.slice Aj (bodyT ss[0].b (ss.drop 1) ((scn (ss.drop 1) (hEp ss[0].b)).take i)).length cj).ownBlock = some k_ → k_ ≠ g19 := fun k_ hk => by have h_ := (World.ownsRow.lt hoW k_ hk).2; omega
       replace hB := gb_tr hB hs41; replace hoW := own_gb hoW hs41; replace hb20 := hb20.gb hs41
       refine T_append (xs := (bodyT ss[0].b (ss.drop 1) ((scn (ss.drop 1) (hEp ss[0].b)).take i))) (ys := [(Go.Lib.join ([([101, 110, 100] : List UInt8), (digI (ne1 : Int)), ([116, 111, 114, 110] : List UInt8)]) [32])]) EncW slc59 rfl rfl hoW (Blk.sli (m := 0) hb21) (by rw [bodyT_len, List.length_take]; have h_ := scn_len (ss := ss.drop 1) (e := hEp ss[0].b); simp; omega) (by have := hB.size; omega) rfl ?_
       intro A_13 c_11 w44 ho11 hs42 hat4
       have lt36 := hb20.lt
       replace hB := gb_tro hB hoW hs42 (Nat.le_refl _)
       have hap10 : ∀ k_, (Value.slice A_13 ((bodyT ss[0].b (ss.drop 1) ((scn (ss.drop 1) (hEp ss[0].b)).take i)) ++ ([(Go.Lib.join ([([101, 110, 100] : List UInt8), (digI (ne1 : Int)), ([116, 111, 114, 110] : List UInt8)]) [32])])).length c_11).ownBlock = some k_ → k_ ≠ g18 := fun k_ hk => by rcases hat4 with h_ | h_ <;> rw [h_] at hk <;> first | exact hap8 k_ hk | (injection hk with hk; omega)
       refine Las rfl rfl (L_nil (N_then (C_ret ?_)))
       refine ret1 Tryd.results24 rfl ?_
       have hal_ : (scn (ss.drop 1) (hEp ss[0].b)).take i = (scn (ss.drop 1) (hEp ss[0].b)) := List.take_of_length_le (by have h_ := (hk2.1).len; omega)
       have hen_ : ne1 = endN (scn (ss.drop 1) (hEp ss[0].b)) := (hk2.1).en
       have hkd_ : kindT (ss.drop 1) ne1 = ([116, 111, 114, 110] : List UInt8) := by unfold kindT; rw [if_neg (fun h_ => h5 (by rw [if_pos h_]))]
       have hf_ : (bodyT ss[0].b (ss.drop 1) ((scn (ss.drop 1) (hEp ss[0].b)).take i)) ++ ([(Go.Lib.join ([([101, 110, 100] : List UInt8), (digI (ne1 : Int)), ([116, 111, 114, 110] : List UInt8)]) [32])]) = segT ss := by unfold segT; rw [if_neg (by omega), ← ss0 (by omega), if_neg (fun h_ => h_ h2), ← hen_, hkd_, hal_]; rfl
       rw [hf_] at ho11; rw [hf_]; exact ⟨hB, _, _, rfl, (own_lo ho11 (Nat.le_refl _))⟩
  ·refine L_call rfl cb50 (hdec_ok_n (X := ss[0].b) ss[0].h (hT.gb hB) h2) rfl ?_
   rintro _ w45 ⟨hs43, rfl⟩
   replace hB := gb_tr hB hs43
   refine Lmv rfl rfl (L_run (R_extract rfl rfl) rfl (L_run (R_extract rfl rfl) rfl (L_alloc (cs := [.int .u64 0, .int .i64 0, .int .i64 0, .int .i64 0, .int .i64 0, .int .i64 0, .int .i64 0]) zer33 rfl rfl ?_)))
   intro g20 w46 eg16 hb22 hs44 hz24
   have ge21 : w.heap.size ≤ g20 := eg_ge hB eg16
   replace hB := gb_tr hB hs44
   refine L_stA (vs := [.int .u64 0, .int .i64 0, .int .i64 0, .int .i64 0, .int .i64 0, .int .i64 0, .int .i64 0]) rfl rfl rfl sz33 rfl hb22 rfl ?_
   intro w47 hb23 hs45 hz25
   replace hB := gb_trg hB hs45 ge21
   refine Las rfl rfl (L_nil (N_then (C_seq (C_seq (C_reg rfl (Lmv rfl rfl (L_run (R_neq rfl rfl) rfl (L_nil (N_then (C_condT rfl (decide_eq_true h2) (C_seq (C_reg rfl ?_))))))))))))
   refine L_buildSlice (pv := [(0, .string (⟨#[110, 111, 32, 104, 101, 97, 100, 101, 114]⟩))]) (cs := [.string (⟨#[110, 111, 32, 104, 101, 97, 100, 101, 114]⟩)]) slc59 zer9 rfl rfl (by kernel_rfl) rfl ?_
   intro g21 w48 eg17 hb24 hs46 hz26
   have ge22 : w.heap.size ≤ g21 := eg_ge hB eg17
   replace hB := gb_tr hB hs46
   refine Las rfl rfl (L_nil (N_then (C_ret (R_then ?_))))
   refine ret1 Tryd.results24 rfl ?_
   have hf_ : segT ss = [([110, 111, 32, 104, 101, 97, 100, 101, 114] : List UInt8)] := by unfold segT; rw [if_neg (by omega), ← ss0 (by omega), if_pos h2]
   have hsl_ : (segT ss).length = 1 := by rw [hf_]; rfl
   refine ⟨hB, _, 1, by rw [hsl_], ?_⟩
   rw [hf_]; exact own_lo (Blk.own (sz := 1) (m := 1) hb24 (by decide) rfl (Nat.le_refl _)) ge22
end Go.Proofs.YtkjgjejkfjhcjaaDoor
namespace Go.Proofs.YtkjgjejkfjhcjaaDoor
open Go.RowKit Gw Pl
set_option linter.unusedVariables false
set_option linter.unusedSimpArgs false
theorem cb32 : callB Tryd.prog 32 = true := by kernel_rfl
theorem cb33 : callB Tryd.prog 33 = true := by kernel_rfl
theorem cb34 : callB Tryd.prog 34 = true := by kernel_rfl
theorem ref05_Wal {w : World} {n : Int} (hn : -9223372036854775808 ≤ n ∧ n ≤ 9223372036854775807) :
    Runs Tryd.prog 34 #[.int .i64 n] w (fun v w' => w.grownBy w' none ∧ v = .string ⟨(wname n).toArray⟩) := by
 have hB := gb_refl w none
 refine enter Tryd.func34 Tryd.ntmps34 rfl rfl ?_
 refine C_seq (C_reg rfl ?_)
 refine Las rfl rfl (L_nil (N_then (C_seq (C_seq (C_reg rfl (Lmv rfl rfl (L_run (R_gtr rfl rfl) rfl (Lmv rfl rfl ?_))))))))
 refine L_splitD (p := 0 < n) (fun h1 => ?_) (fun h1 => ?_)
 ·refine L_yes rfl rfl rfl (decide_eq_true h1) (Lmv rfl rfl (L_yes rfl rfl rfl (decide_eq_true h1) (L_run (R_leq rfl rfl) rfl (L_run (R_pickT rfl (decide_eq_true h1) rfl) rfl (L_nil (N_then (C_if rfl (fun h2 => ?_) (fun h2 => ?_))))))))
  ·refine C_seq (C_reg rfl ?_)
   refine Lmv rfl rfl ?_
   refine L_call rfl cb16 (ref05_Digits (n := n) (by omega) _) rfl ?_
   rintro _ w1 ⟨hs1, rfl⟩
   replace hB := gb_tr hB hs1
   refine L_run (R_eqv (R_addS rfl rfl (by rw [ba_size, ba_size]; have h_ := digI_len hn; simp; omega)) (v' := .string ⟨(([119, 97, 108, 45] : List UInt8) ++ (digI n)).toArray⟩) (congrArg _ (ba_app _ _).symm)) rfl ?_
   refine Las rfl rfl (L_nil (N_then (C_ret (R_then ?_))))
   refine ret1 Tryd.results34 rfl ?_
   first
     | (exfalso; omega)
     | (have e_ : (([119, 97, 108, 45] : List UInt8) ++ (digI n)) = wname n := by
          unfold wname
          first | (rw [if_pos (by omega)]; rfl) | rw [if_neg (by omega)]
        rw [← e_]; exact ⟨hB, rfl⟩)
  ·refine C_skip (N_then (C_seq (C_reg rfl ?_)))
   refine Las rfl rfl (L_nil (N_then (C_ret ?_)))
   refine ret1 Tryd.results34 rfl ?_
   first
     | (exfalso; omega)
     | (have e_ : ([] : List UInt8) = wname n := by
          unfold wname
          first | (rw [if_pos (by omega)]; rfl) | rw [if_neg (by omega)]
        rw [← e_]; exact ⟨hB, rfl⟩)
 ·refine L_no rfl rfl rfl (decide_eq_false h1) rfl (L_no rfl rfl rfl (decide_eq_false h1) rfl (L_run (R_pickF rfl (decide_eq_false h1) rfl) rfl (L_nil (N_then (C_condF rfl rfl (C_skip (N_then (C_seq (C_reg rfl (Las rfl rfl (L_nil (N_then (C_ret ?_)))))))))))))
  refine ret1 Tryd.results34 rfl ?_
  first
    | (exfalso; omega)
    | (have e_ : ([] : List UInt8) = wname n := by
         unfold wname
         first | (rw [if_pos (by omega)]; rfl) | rw [if_neg (by omega)]
       rw [← e_]; exact ⟨hB, rfl⟩)
theorem ref05_Pool {w : World} {n : Int} (hn : -9223372036854775808 ≤ n ∧ n ≤ 9223372036854775807) :
    Runs Tryd.prog 32 #[.int .i64 n] w (fun v w' => w.grownBy w' none ∧ v = .string ⟨(pname n).toArray⟩) := by
 have hB := gb_refl w none
 refine enter Tryd.func32 Tryd.ntmps32 rfl rfl ?_
 refine C_seq (C_reg rfl ?_)
 refine Las rfl rfl (L_nil (N_then (C_seq (C_seq (C_reg rfl (Lmv rfl rfl (L_run (R_geq rfl rfl) rfl (Lmv rfl rfl ?_))))))))
 refine L_splitD (p := 0 ≤ n) (fun h1 => ?_) (fun h1 => ?_)
 ·refine L_yes rfl rfl rfl (decide_eq_true h1) (Lmv rfl rfl (L_yes rfl rfl rfl (decide_eq_true h1) (L_run (R_leq rfl rfl) rfl (L_run (R_pickT rfl (decide_eq_true h1) rfl) rfl (L_nil (N_then (C_if rfl (fun h2 => ?_) (fun h2 => ?_))))))))
  ·refine C_seq (C_reg rfl ?_)
   refine Lmv rfl rfl ?_
   refine L_call rfl cb16 (ref05_Digits (n := n) (by omega) _) rfl ?_
   rintro _ w1 ⟨hs1, rfl⟩
   replace hB := gb_tr hB hs1
   refine L_run (R_eqv (R_addS rfl rfl (by rw [ba_size, ba_size]; have h_ := digI_len hn; simp; omega)) (v' := .string ⟨(([102, 114, 101, 101, 45] : List UInt8) ++ (digI n)).toArray⟩) (congrArg _ (ba_app _ _).symm)) rfl ?_
   refine Las rfl rfl (L_nil (N_then (C_ret (R_then ?_))))
   refine ret1 Tryd.results32 rfl ?_
   first
     | (exfalso; omega)
     | (have e_ : (([102, 114, 101, 101, 45] : List UInt8) ++ (digI n)) = pname n := by
          unfold pname
          first | (rw [if_pos (by omega)]; rfl) | rw [if_neg (by omega)]
        rw [← e_]; exact ⟨hB, rfl⟩)
  ·refine C_skip (N_then (C_seq (C_reg rfl ?_)))
   refine Las rfl rfl (L_nil (N_then (C_ret ?_)))
   refine ret1 Tryd.results32 rfl ?_
   first
     | (exfalso; omega)
     | (have e_ : ([] : List UInt8) = pname n := by
          unfold pname
          first | (rw [if_pos (by omega)]; rfl) | rw [if_neg (by omega)]
        rw [← e_]; exact ⟨hB, rfl⟩)
 ·refine L_no rfl rfl rfl (decide_eq_false h1) rfl (L_no rfl rfl rfl (decide_eq_false h1) rfl (L_run (R_pickF rfl (decide_eq_false h1) rfl) rfl (L_nil (N_then (C_condF rfl rfl (C_skip (N_then (C_seq (C_reg rfl (Las rfl rfl (L_nil (N_then (C_ret ?_)))))))))))))
  refine ret1 Tryd.results32 rfl ?_
  first
    | (exfalso; omega)
    | (have e_ : ([] : List UInt8) = pname n := by
         unfold pname
         first | (rw [if_pos (by omega)]; rfl) | rw [if_neg (by omega)]
       rw [← e_]; exact ⟨hB, rfl⟩)
theorem ref05_in {w : World} {cs : List UInt8} {c : UInt8} (hl : cs.length ≤ 9000000000000000000) :
    Runs Tryd.prog 33 #[.string (⟨cs.toArray⟩), .int .u8 (c.toNat : Int)] w (fun v w' => w.grownBy w' none ∧ v = .bool (decide (c ∈ cs))) := by
 have hB := gb_refl w none
 refine enter Tryd.func33 Tryd.ntmps33 rfl rfl ?_
 refine C_seq (C_reg rfl ?_)
 refine Las rfl rfl (L_nil (N_then (C_seq (C_seq (C_reg rfl (Las rfl rfl (L_nil (N_then (C_block ?_)))))))))
 refine C_loop (fun m_ a_ w_ => ∃ (σ_ : Nat → Value) (k : Nat), a_ = Ac 17 σ_ [] [(0, .string (⟨cs.toArray⟩)), (1, .int .u8 (c.toNat : Int)), (4, .bool false), (5, .int .i64 (k : Int))] ∧ w.grownBy w_ none ∧ (k ≤ cs.length) ∧ (¬ c ∈ cs.take k) ∧ cs.length - k = m_) (cs.length - 0) ?_ ?_
 ·exact ⟨_, 0, Ac_frg ⟨rfl, rfl, rfl, (agx rfl), trivial⟩, hB, (by omega), (by simp), rfl⟩
 ·clear hB
  rintro m_ a_ w1 ⟨σ_, k, rfl, hB, hk, hall, rfl⟩
  refine C_seq (C_seq (C_reg rfl ?_))
  refine Lmv rfl rfl (Lmv rfl rfl ?_)
  refine L_run (R_eqv (R_lenS rfl str9) (v' := .int .i64 (cs.length : Int)) (by rw [ba_size])) rfl ?_
  refine L_run (R_lss rfl rfl) rfl ?_
  refine L_nil (N_then (C_if rfl (fun h1 => ?_) (fun h1 => ?_)))
  ·refine C_skip (N_then (C_seq (C_block (C_seq (C_reg rfl ?_)))))
   refine Lmv rfl rfl (Lmv rfl rfl ?_)
   have hk1 : k < cs.length := by first | omega | (simp; omega)
   refine L_run (R_indexS (cs := cs) (a := (k : Int)) (i := k) rfl rfl (by first | rfl | omega) str9 hk1) rfl ?_
   refine Lmv rfl rfl (L_run (R_eql rfl rfl) rfl (L_nil (N_then (C_if rfl (fun h2 => ?_) (fun h2 => ?_)))))
   ·refine C_seq (C_reg rfl ?_)
    refine Las rfl rfl (L_nil (N_then (C_ret (R_in (R_then (R_then (R_in (R_then ?_))))))))
    refine ret1 Tryd.results33 rfl ?_
    exact ⟨hB, bT (in_here hk1 (by assumption))⟩
   ·refine C_skip (N_in (N_then (C_reg rfl ?_)))
    refine Lmv rfl rfl ?_
    refine L_run (R_add64 rfl rfl (by omega)) rfl ?_
    refine Las rfl rfl (L_nil (N_then ?_))
    exact ⟨cs.length - (k + 1), by omega, _, (k + 1), Ac_frg ⟨rfl, rfl, rfl, (agx rfl), trivial⟩, hB, (by omega), (notin_succ hall hk1 (by assumption)), rfl⟩
  ·refine C_exit (X_then (X_then (X_hit (N_then (C_seq (C_reg rfl ?_))))))
   refine Las rfl rfl (L_nil (N_then (C_ret ?_)))
   refine ret1 Tryd.results33 rfl ?_
   rw [List.take_of_length_le (by omega)] at hall; exact ⟨hB, bF hall⟩
theorem ref05_Parse {w : World} {cs : List UInt8} (hl : cs.length ≤ 9000000000000000000) :
    Runs Tryd.prog 17 #[.string (⟨cs.toArray⟩)] w (fun v w' => w.grownBy w' none ∧ v = .tuple #[.int .i64 (nparse cs).1, .int .i64 (nparse cs).2]) := by
 have hB := gb_refl w none
 refine enter Tryd.func17 Tryd.ntmps17 rfl rfl ?_
 refine C_seq (C_reg rfl ?_)
 refine Las rfl rfl (Las rfl rfl (L_nil (N_then (C_seq (C_seq (C_reg rfl (Las rfl rfl (L_nil (N_then (C_block ?_))))))))))
 refine C_loop (fun m_ a_ w_ => ∃ (σ_ : Nat → Value) (k : Nat), a_ = Ac 53 σ_ [] [(0, .string (⟨cs.toArray⟩)), (2, .int .i64 0), (3, .int .i64 0), (4, .int .i64 (k : Int))] ∧ w.grownBy w_ none ∧ (k ≤ 3) ∧ (∀ j : Nat, j < k → ¬ pname (j : Int) = cs) ∧ 3 - k = m_) (3 - 0) ?_ ?_
 ·exact ⟨_, 0, Ac_frg ⟨rfl, rfl, rfl, (agx rfl), trivial⟩, hB, (by omega), (by intro j hj; omega), rfl⟩
 ·clear hB
  rintro m_ a_ w1 ⟨σ_, k, rfl, hB, hk3, hp, rfl⟩
  refine C_seq (C_seq (C_reg rfl ?_))
  refine Lmv rfl rfl (L_run (R_leq rfl rfl) rfl (L_nil (N_then (C_if rfl (fun h1 => ?_) (fun h1 => ?_)))))
  ·refine C_skip (N_then (C_seq (C_block (C_seq (C_reg rfl ?_)))))
   refine Lmv rfl rfl ?_
   refine L_call rfl cb32 (ref05_Pool (n := (k : Int)) (by first | omega | (have h_ := dval_lt 10 _ hall (by rw [List.length_take]; omega); omega))) rfl ?_
   rintro _ w2 ⟨hs1, rfl⟩
   replace hB := gb_tr hB hs1
   refine Lmv rfl rfl (L_run (R_eqv (R_eqlS rfl rfl) (v' := .bool (decide ((pname (k : Int)) = cs))) (bD ba_inj)) rfl (L_nil (N_then (C_if rfl (fun h2 => ?_) (fun h2 => ?_)))))
   ·refine C_seq (C_reg rfl ?_)
    refine Lmv rfl rfl (Las rfl rfl (Las rfl rfl (L_nil (N_then (C_ret (R_in (R_then (R_then (R_in (R_then ?_))))))))))
    refine ret2 Tryd.results17 rfl rfl ?_
    have e_ : nparse cs = (2, (k : Int)) := by have h_ := nparse_p (n := (k : Int)) ⟨by omega, by omega⟩; rw [show pname (k : Int) = cs by assumption] at h_; exact h_
    rw [e_]; exact ⟨hB, rfl⟩
   ·refine C_skip (N_in (N_then (C_reg rfl ?_)))
    refine Lmv rfl rfl ?_
    refine L_run (R_add64 rfl rfl (by first | omega | (have h2_ := cs[j + 4].toNat_lt; have h_ := dval_lt 10 _ hall (by rw [List.length_take]; omega); omega))) rfl ?_
    refine Las rfl rfl (L_nil (N_then ?_))
    exact ⟨3 - (k + 1), by omega, _, (k + 1), Ac_frg ⟨rfl, rfl, rfl, (agx rfl), trivial⟩, hB, (by omega), (by intro j hj; rcases Nat.lt_succ_iff_lt_or_eq.1 hj with h_ | rfl; exact hp j h_; assumption), rfl⟩
  ·refine C_exit (X_then (X_then (X_hit (N_then (C_seq (C_seq (C_reg rfl ?_)))))))
   refine Lmv rfl rfl ?_
   refine L_run (R_eqv (R_lenS rfl str9) (v' := .int .i64 (cs.length : Int)) (by rw [ba_size])) rfl ?_
   refine L_run (R_lss rfl rfl) rfl ?_
   refine Lmv rfl rfl ?_
   refine L_splitD (p := (cs.length : Int) < 5) (fun h3 => ?_) (fun h3 => ?_)
   ·refine L_no rfl rfl rfl (decide_eq_true h3) rfl (L_no rfl rfl rfl (decide_eq_true h3) rfl (L_no rfl rfl rfl (decide_eq_true h3) rfl (L_run (R_pickT rfl (decide_eq_true h3) rfl) rfl (Lmv rfl rfl (L_no rfl rfl rfl rfl rfl (L_no rfl rfl rfl rfl rfl (L_no rfl rfl rfl rfl rfl (L_run (R_pickT rfl rfl rfl) rfl (L_nil (N_then (C_condT rfl rfl (C_seq (C_reg rfl (Las rfl rfl (Las rfl rfl ?_)))))))))))))))
    refine L_nil (N_then (C_ret (R_then ?_)))
    refine ret2 Tryd.results17 rfl rfl ?_
    first
      | (exfalso; omega)
      | (have e_ : nparse cs = (0, 0) := by
           refine nparse_0 (fun n hn hw => ?_) (fun n hn hq => hp n.toNat (by omega) (by rw [show ((n.toNat : Nat) : Int) = n by omega]; exact hq))
           obtain ⟨q1, q2, q3, q4, q5⟩ := w_eq hn hw
           first | omega | exact absurd q1 (by assumption) | exact absurd (q2 _ (mem_drop4 hk1)) (fun hd => absurd ((isd_iff _).2 hd) (by assumption)) | exact w_ne (j := j) hn hw (by assumption) (by assumption))
    rw [e_]; exact ⟨hB, rfl⟩
   ·refine L_yes rfl rfl rfl (decide_eq_false h3) (Lmv rfl rfl (L_yes rfl rfl rfl (decide_eq_false h3) ?_))
    refine L_run (R_eqv (R_lenS rfl str9) (v' := .int .i64 (cs.length : Int)) (by rw [ba_size])) rfl ?_
    refine L_yes rfl rfl rfl (decide_eq_false h3) (L_run (R_gtr rfl rfl) rfl (L_run (R_pickF rfl (decide_eq_false h3) rfl) rfl (Lmv rfl rfl ?_)))
    refine L_splitD (p := 14 < (cs.length : Int)) (fun h4 => ?_) (fun h4 => ?_)
    ·refine L_no rfl rfl rfl (decide_eq_true h4) rfl (L_no rfl rfl rfl (decide_eq_true h4) rfl (L_no rfl rfl rfl (decide_eq_true h4) rfl (L_run (R_pickT rfl (decide_eq_true h4) rfl) rfl (L_nil (N_then (C_condT rfl rfl (C_seq (C_reg rfl (Las rfl rfl (Las rfl rfl (L_nil (N_then (C_ret (R_then ?_))))))))))))))
     refine ret2 Tryd.results17 rfl rfl ?_
     first
       | (exfalso; omega)
       | (have e_ : nparse cs = (0, 0) := by
            refine nparse_0 (fun n hn hw => ?_) (fun n hn hq => hp n.toNat (by omega) (by rw [show ((n.toNat : Nat) : Int) = n by omega]; exact hq))
            obtain ⟨q1, q2, q3, q4, q5⟩ := w_eq hn hw
            first | omega | exact absurd q1 (by assumption) | exact absurd (q2 _ (mem_drop4 hk1)) (fun hd => absurd ((isd_iff _).2 hd) (by assumption)) | exact w_ne (j := j) hn hw (by assumption) (by assumption))
     rw [e_]; exact ⟨hB, rfl⟩
    ·refine L_yes rfl rfl rfl (decide_eq_false h4) (Lmv rfl rfl (L_yes rfl rfl rfl (decide_eq_false h4) ?_))
     refine L_run (R_slSH (cs := cs) (i := 4) rfl rfl (by first | rfl | omega) str9 (by first | omega | (simp; done) | (simp; omega))) rfl ?_
     refine L_yes rfl rfl rfl (decide_eq_false h4) (L_run (R_eqv (R_neqS rfl rfl) (v' := .bool (decide (¬ ((cs.take 4) = [119, 97, 108, 45])))) (bD (not_congr ba_inj))) rfl (L_run (R_pickF rfl (decide_eq_false h4) rfl) rfl (L_nil (N_then (C_ifN rfl (fun h5 => ?_) (fun h5 => ?_))))))
     ·refine C_seq (C_reg rfl ?_)
      refine Las rfl rfl (Las rfl rfl (L_nil (N_then (C_ret (R_then ?_)))))
      refine ret2 Tryd.results17 rfl rfl ?_
      first
        | (exfalso; omega)
        | (have e_ : nparse cs = (0, 0) := by
             refine nparse_0 (fun n hn hw => ?_) (fun n hn hq => hp n.toNat (by omega) (by rw [show ((n.toNat : Nat) : Int) = n by omega]; exact hq))
             obtain ⟨q1, q2, q3, q4, q5⟩ := w_eq hn hw
             first | omega | exact absurd q1 (by assumption) | exact absurd (q2 _ (mem_drop4 hk1)) (fun hd => absurd ((isd_iff _).2 hd) (by assumption)) | exact w_ne (j := j) hn hw (by assumption) (by assumption))
      rw [e_]; exact ⟨hB, rfl⟩
     ·refine C_skip (N_then (C_seq (C_reg rfl ?_)))
      refine Las rfl rfl (L_nil (N_then (C_seq (C_seq (C_reg rfl (Las rfl rfl (L_nil (N_then (C_block ?_)))))))))
      refine C_loop (fun m_ a_ w_ => ∃ (σ_ : Nat → Value) (j : Nat), a_ = Ac 53 σ_ [] [(0, .string (⟨cs.toArray⟩)), (2, .int .i64 0), (3, .int .i64 0), (5, .int .i64 (dval ((cs.drop 4).take j) : Int)), (6, .int .i64 ((j + 4 : Nat) : Int))] ∧ w.grownBy w_ none ∧ (j + 4 ≤ cs.length) ∧ (∀ c ∈ (cs.drop 4).take j, isd c) ∧ cs.length - j = m_) (cs.length - 0) ?_ ?_
      ·exact ⟨_, 0, Ac_frg ⟨rfl, rfl, rfl, (agx rfl), (agx rfl), trivial⟩, hB, (by omega), (by intro c hc; simp at hc), rfl⟩
      ·clear hB
       rintro m_ a_ w3 ⟨σ_, j, rfl, hB, hj, hall, rfl⟩
       refine C_seq (C_seq (C_reg rfl ?_))
       refine Lmv rfl rfl (Lmv rfl rfl ?_)
       refine L_run (R_eqv (R_lenS rfl str9) (v' := .int .i64 (cs.length : Int)) (by rw [ba_size])) rfl ?_
       refine L_run (R_lss rfl rfl) rfl ?_
       refine L_nil (N_then (C_if rfl (fun h6 => ?_) (fun h6 => ?_)))
       ·refine C_skip (N_then (C_seq (C_block (C_seq (C_seq (C_reg rfl ?_))))))
        refine Lmv rfl rfl (Lmv rfl rfl ?_)
        have hk1 : (j + 4) < cs.length := by first | omega | (simp; omega)
        refine L_run (R_indexS (cs := cs) (a := ((j + 4 : Nat) : Int)) (i := (j + 4)) rfl rfl (by first | rfl | omega) str9 hk1) rfl ?_
        refine L_call rfl cb33 (ref05_in (cs := ([48, 49, 50, 51, 52, 53, 54, 55, 56, 57] : List UInt8)) (c := cs[(j + 4)]) (by first | omega | (simp; done) | (simp; omega))) rfl ?_
        rintro _ w4 ⟨hs2, rfl⟩
        replace hB := gb_tr hB hs2
        refine L_run (R_notD rfl) rfl ?_
        refine L_nil (N_then (C_ifN rfl (fun h7 => ?_) (fun h7 => ?_)))
        ·refine C_seq (C_reg rfl ?_)
         refine Las rfl rfl (Las rfl rfl (L_nil (N_then (C_ret (R_then (R_in (R_then (R_then (R_in (R_then ?_))))))))))
         refine ret2 Tryd.results17 rfl rfl ?_
         first
           | (exfalso; omega)
           | (have e_ : nparse cs = (0, 0) := by
                refine nparse_0 (fun n hn hw => ?_) (fun n hn hq => hp n.toNat (by omega) (by rw [show ((n.toNat : Nat) : Int) = n by omega]; exact hq))
                obtain ⟨q1, q2, q3, q4, q5⟩ := w_eq hn hw
                first | omega | exact absurd q1 (by assumption) | exact absurd (q2 _ (mem_drop4 hk1)) (fun hd => absurd ((isd_iff _).2 hd) (by assumption)) | exact w_ne (j := j) hn hw (by assumption) (by assumption))
         rw [e_]; exact ⟨hB, rfl⟩
        ·refine C_skip (N_then (C_reg rfl ?_))
         refine Lmv rfl rfl ?_
         refine L_run (R_mul64 rfl rfl (by first | omega | (have h2_ := cs[j + 4].toNat_lt; have h_ := dval_lt 10 _ hall (by rw [List.length_take]; omega); omega))) rfl ?_
         refine Lmv rfl rfl (Lmv rfl rfl ?_)
         have hl2 : (j + 4) < cs.length := by first | omega | (simp; omega)
         refine L_run (R_indexS (cs := cs) (a := ((j + 4 : Nat) : Int)) (i := (j + 4)) rfl rfl (by first | rfl | omega) str9 hl2) rfl ?_
         refine L_run (R_eqv (R_conv rfl any5 int3) (v' := .int .i64 (cs[j + 4].toNat : Int)) (congrArg _ (i64_fit (by have := cs[j + 4].toNat_lt; omega)))) rfl ?_
         refine L_run (R_add64 rfl rfl (by first | omega | (have h2_ := cs[j + 4].toNat_lt; have h_ := dval_lt 10 _ hall (by rw [List.length_take]; omega); omega))) rfl ?_
         refine L_run (R_eqv (R_sub64 rfl rfl (by first | omega | (have h2_ := cs[j + 4].toNat_lt; have h_ := dval_lt 10 _ hall (by rw [List.length_take]; omega); omega))) (v' := .int .i64 (dval ((cs.drop 4).take (j + 1)) : Int)) (congrArg _ (dval_step4 hk1 ((isd_iff _).1 (by assumption))))) rfl ?_
         refine Las rfl rfl ?_
         refine L_nil (N_in (N_then (C_reg rfl ?_)))
         refine Lmv rfl rfl ?_
         refine L_run (R_add64 rfl rfl (by first | omega | (have h2_ := cs[j + 4].toNat_lt; have h_ := dval_lt 10 _ hall (by rw [List.length_take]; omega); omega))) rfl ?_
         refine Las rfl rfl (L_nil (N_then ?_))
         exact ⟨cs.length - (j + 1), by omega, _, (j + 1), Ac_frg ⟨rfl, rfl, rfl, rfl, (agx rfl), trivial⟩, hB, (by omega), (isd_take4 hall hk1 ((isd_iff _).1 (by assumption))), rfl⟩
       ·refine C_exit (X_then (X_then (X_hit (N_then (C_seq (C_seq (C_reg rfl ?_)))))))
        refine Lmv rfl rfl ?_
        refine L_call rfl cb34 (ref05_Wal (n := (dval ((cs.drop 4).take j) : Int)) (by first | omega | (have h_ := dval_lt 10 _ hall (by rw [List.length_take]; omega); omega))) rfl ?_
        rintro _ w5 ⟨hs3, rfl⟩
        replace hB := gb_tr hB hs3
        refine Lmv rfl rfl (L_run (R_eqv (R_neqS rfl rfl) (v' := .bool (decide (¬ ((wname (dval ((cs.drop 4).take j) : Int)) = cs)))) (bD (not_congr ba_inj))) rfl (L_nil (N_then (C_ifN rfl (fun h8 => ?_) (fun h8 => ?_)))))
        ·refine C_seq (C_reg rfl ?_)
         refine Las rfl rfl (Las rfl rfl (L_nil (N_then (C_ret (R_then ?_)))))
         refine ret2 Tryd.results17 rfl rfl ?_
         first
           | (exfalso; omega)
           | (have e_ : nparse cs = (0, 0) := by
                refine nparse_0 (fun n hn hw => ?_) (fun n hn hq => hp n.toNat (by omega) (by rw [show ((n.toNat : Nat) : Int) = n by omega]; exact hq))
                obtain ⟨q1, q2, q3, q4, q5⟩ := w_eq hn hw
                first | omega | exact absurd q1 (by assumption) | exact absurd (q2 _ (mem_drop4 hk1)) (fun hd => absurd ((isd_iff _).2 hd) (by assumption)) | exact w_ne (j := j) hn hw (by assumption) (by assumption))
         rw [e_]; exact ⟨hB, rfl⟩
        ·refine C_skip (N_then (C_seq (C_reg rfl ?_)))
         refine Lmv rfl rfl (Las rfl rfl (Las rfl rfl (L_nil (N_then (C_ret ?_)))))
         refine ret2 Tryd.results17 rfl rfl ?_
         have e_ : nparse cs = (1, (dval ((cs.drop 4).take j) : Int)) := npar_w1 (by assumption) (by omega)
         rw [e_]; exact ⟨hB, rfl⟩
end Go.Proofs.YtkjgjejkfjhcjaaDoor
namespace Go.Proofs.YtkjgjejkfjhcjaaDoor
open Go.RowKit Gw Pl
set_option linter.unusedVariables false
set_option linter.unusedSimpArgs false
theorem cb17 : callB Tryd.prog 17 = true := by kernel_rfl
theorem cb18 : callB Tryd.prog 18 = true := by kernel_rfl
theorem cb19 : callB Tryd.prog 19 = true := by kernel_rfl
theorem cb20 : callB Tryd.prog 20 = true := by kernel_rfl
theorem hdec18_y {w : World} {X : List UInt8} (hX : X.length = 64) (hq : hdecN X = 0) : Runs Tryd.prog 18 #[.agg (fl encB X).toArray] w (fun v w' => w.grownBy w' none ∧ v = .tuple #[.agg #[.int .u64 ((hEp X : Nat) : Int), .int .i64 (hSeq X), .int .i64 (hFst X), .int .i64 (hHs X 0), .int .i64 (hHs X 1), .int .i64 (hHs X 2), .int .i64 (hHs X 3)], .int .i64 0]) := (hdec18 hX).mono fun v w' h => ⟨h.1, h.2.elim (fun h2 => h2.2) (fun h2 => absurd hq h2.1)⟩
theorem hdec18_n {w : World} {X : List UInt8} (hX : X.length = 64) (hq : ¬ hdecN X = 0) : Runs Tryd.prog 18 #[.agg (fl encB X).toArray] w (fun v w' => w.grownBy w' none ∧ v = .tuple #[.agg #[.int .u64 0, .int .i64 0, .int .i64 0, .int .i64 0, .int .i64 0, .int .i64 0, .int .i64 0], .int .i64 (hdecN X)]) := (hdec18 hX).mono fun v w' h => ⟨h.1, h.2.elim (fun h2 => absurd h2.1 hq) (fun h2 => h2.2)⟩
/-- A file's first line and more lines. -/
def ftx (cs : List UInt8) (n : Nat) (ls : List (List UInt8)) : List UInt8 := (Go.Lib.join [([102, 105, 108, 101] : List UInt8), cs, digI (n : Int)] [32] ++ [10]) ++ ls.flatMap (fun x => x ++ [10])
theorem ftx_0 {cs : List UInt8} {n : Nat} : (((([102, 105, 108, 101, 32] ++ cs) ++ [32]) ++ digI (n : Int)) ++ [10]) = ftx cs n [] := by simp [ftx, jn2, jn1]
theorem ftx_s {cs x : List UInt8} {n : Nat} {ls : List (List UInt8)} : (ftx cs n ls ++ x) ++ [10] = ftx cs n (ls ++ [x]) := by simp [ftx]
theorem ftx_c {cs x y : List UInt8} {n : Nat} {ls : List (List UInt8)} (h : x ++ [10] = y) : ftx cs n ls ++ y = ftx cs n (ls ++ [x]) := by rw [← ftx_s, List.append_assoc, h]
theorem ftx_b {cs : List UInt8} {n : Nat} {a b : Int} {ls : List (List UInt8)} : ((((((ftx cs n ls ++ ([98, 114, 111, 107, 101, 110, 32, 97, 116, 32] : List UInt8)) ++ digI a) ++ ([32, 115, 105, 122, 101, 32] : List UInt8)) ++ digI b)) ++ [10]) = ftx cs n (ls ++ [Go.Lib.join [([98, 114, 111, 107, 101, 110, 32, 97, 116] : List UInt8), digI a, ([115, 105, 122, 101] : List UInt8), digI b] [32]]) := by simp [ftx, jn2, jn1]
theorem ftx_e {cs k l : List UInt8} {n a : Nat} {ls : List (List UInt8)} (h : l = [32] ++ k ++ [10]) : ((ftx cs n ls ++ ([101, 110, 100, 32] : List UInt8)) ++ digI (a : Int)) ++ l = ftx cs n (ls ++ [endT a k]) := by subst h; simp [ftx, endT, jn2, jn1]
/-- A file's text. -/
def fileS (cs : List UInt8) (ss : List Sx) : List UInt8 := fileT cs ss.length (if (nparse cs).1 = 1 then segT ss else [])
theorem fileS_eq {cs : List UInt8} {ss : List Sx} : fileS cs ss = ftx cs ss.length (if (nparse cs).1 = 1 then segT ss else []) := fileT_eq
theorem ftx_len {cs : List UInt8} {n k : Nat} {ls : List (List UInt8)} (hc : cs.length ≤ 100000) (hn : n ≤ 1000000) (hk : ls.length ≤ k) (h : ∀ y ∈ ls, y.length ≤ 200) : (ftx cs n ls).length ≤ 100027 + 201 * k := by
  have h1 := fline_len (name := cs) hn
  have h2 := fm_len h
  have h3 : 201 * ls.length ≤ 201 * k := Nat.mul_le_mul_left _ hk
  unfold ftx
  simp only [List.length_append, List.length_singleton]
  simp only [Nat.reduceAdd] at h2
  omega
theorem ftx_l0 {cs : List UInt8} {n : Nat} (hc : cs.length ≤ 100000) (hn : n ≤ 1000000) : (ftx cs n []).length ≤ 1000000 := Nat.le_trans (ftx_len (k := 0) hc hn (Nat.le_refl _) (by simp)) (by decide)
theorem ftx_lb {cs X : List UInt8} {n e i : Nat} {ss : List Sx} (hc : cs.length ≤ 100000) (hn : n ≤ 1000000) : (ftx cs n (bodyT X ss ((scn ss e).take i))).length ≤ 1000000 :=
  Nat.le_trans (ftx_len (k := 834) hc hn (by rw [bodyT_len, List.length_take]; have := scn_len (ss := ss) (e := e); omega) (bodyT_mem fun x hx => scn_mem x (List.mem_of_mem_take hx))) (by decide)
set_option maxHeartbeats 4000000 in
theorem file48 {w : World} {t1 lo hi : Nat} {A : Option Addr} {c : Nat} {cs : List UInt8} {ss : List Sx} (hS : Sli t1 lo hi w A (fl encX ss)) (hc : ss.length ≤ c) (hcs : cs.length ≤ 100000) (hn : ss.length ≤ 1000000) :
    Runs Tryd.prog 7 #[.agg #[.string (⟨cs.toArray⟩), .slice A ss.length c]] w (fun v w' => w.grownBy w' none ∧ v = .string ⟨(fileS cs ss).toArray⟩) := by
 have hB := gb_refl w none
 replace hS := hS.top
 refine enter Tryd.func7 Tryd.ntmps7 rfl rfl ?_
 refine C_seq (C_reg rfl ?_)
 refine L_box (cs := [.string (⟨cs.toArray⟩), .slice A ss.length c]) rfl rfl rfl ?_
 intro g1 w1 eg1 hb1 hs1 hz1
 replace hB := gb_tr hB hs1; replace hS := hS.gb hs1
 refine Las rfl rfl (L_nil (N_then (C_seq ?_)))
 refine C_draw2 rfl mix ?_
 intro w2 hs2 hz2
 replace hB := gb_tr hB hs2; replace hS := hS.gb hs2; replace hb1 := hb1.gb hs2
 refine ⟨fun W_ => Blk W_ g1 28 [.string (⟨cs.toArray⟩), .slice A ss.length c] ∧ True, [0, 1, 2, 3, 4, 5, 6, 8, 9, 10], ?_⟩
 refine T_tk (i := 0) rfl (Y_of (fun _ _ => R_field (r := 0) rfl fld28_0 rfl)) ⟨hb1, trivial⟩ rfl ?_
 refine T_tk (i := 1) rfl (Y_of (fun _ ⟨hb1, _⟩ => R_load1 rfl scl9 (hb1.cell (i := 0) rfl))) ⟨hb1, trivial⟩ rfl ?_
 refine T_tk (i := 2) rfl (Y_of (fun _ _ => R_eqv (R_addS rfl rfl (by rw [ba_size, ba_size]; (try simp only [List.length_append, List.length_cons, List.length_nil]); omega)) (v' := .string ⟨(([102, 105, 108, 101, 32] : List UInt8) ++ cs).toArray⟩) (congrArg _ (ba_app _ _).symm))) ⟨hb1, trivial⟩ rfl ?_
 refine T_tk (i := 3) rfl (Y_of (fun _ _ => R_eqv (R_addS rfl rfl (by rw [ba_size, ba_size]; (try simp only [List.length_append, List.length_cons, List.length_nil]); omega)) (v' := .string ⟨((([102, 105, 108, 101, 32] : List UInt8) ++ cs) ++ [32]).toArray⟩) (congrArg _ (ba_app _ _).symm))) ⟨hb1, trivial⟩ rfl ?_
 refine T_tk (i := 4) rfl (Y_of (fun _ _ => R_field (r := 1) rfl fld28_1 rfl)) ⟨hb1, trivial⟩ rfl ?_
 refine T_tk (i := 5) rfl (Y_of (fun _ ⟨hb1, _⟩ => R_load1 rfl scl26 (hb1.cell (i := 1) rfl))) ⟨hb1, trivial⟩ rfl ?_
 refine T_tk (i := 6) rfl (Y_of (fun _ _ => R_lenSl rfl slc26)) ⟨hb1, trivial⟩ rfl ?_
 refine T_all (rs := [7]) (by kernel_rfl) rfl (all1 (O_one rfl ?_))
 refine L_call rfl cb16 (ref05_Digits (n := (ss.length : Int)) (by first | omega | (obtain ⟨hg1_, hg2_, hg3_, hg4_⟩ := scr_get (And.left (by assumption)) hlk; have hm_ := scn_mem _ (List.getElem_mem hg1_); first | (rw [hg4_]; omega) | (rw [hg3_]; omega) | (rw [hg4_]; exact okw_nat (by omega)))) _) rfl ?_
 rintro _ w3 ⟨hs3, rfl⟩
 replace hB := gb_tr hB hs3; replace hS := hS.gb hs3; replace hb1 := hb1.gb hs3
 refine L_nil (N_then ⟨fun hN_ => ⟨hb1, trivial⟩, ?_⟩)
 refine T_tk (i := 8) rfl (Y_of (fun _ _ => R_eqv (R_addS rfl rfl (by rw [ba_size, ba_size]; have l0_ := digI_len (n := (ss.length : Int)) (by first | omega | (obtain ⟨hg1_, hg2_, hg3_, hg4_⟩ := scr_get (And.left (by assumption)) hlk; have hm_ := scn_mem _ (List.getElem_mem hg1_); first | (rw [hg4_]; omega) | (rw [hg3_]; omega) | (rw [hg4_]; exact okw_nat (by omega)))); (try simp only [List.length_append, List.length_cons, List.length_nil]); omega)) (v' := .string ⟨(((([102, 105, 108, 101, 32] : List UInt8) ++ cs) ++ [32]) ++ (digI (ss.length : Int))).toArray⟩) (congrArg _ (ba_app _ _).symm))) ⟨hb1, trivial⟩ rfl ?_
 refine T_tk (i := 9) rfl (Y_of (fun _ _ => R_eqv (R_eqv (R_addS rfl rfl (by rw [ba_size, ba_size]; have l0_ := digI_len (n := (ss.length : Int)) (by first | omega | (obtain ⟨hg1_, hg2_, hg3_, hg4_⟩ := scr_get (And.left (by assumption)) hlk; have hm_ := scn_mem _ (List.getElem_mem hg1_); first | (rw [hg4_]; omega) | (rw [hg3_]; omega) | (rw [hg4_]; exact okw_nat (by omega)))); (try simp only [List.length_append, List.length_cons, List.length_nil]); omega)) (v' := .string ⟨((((([102, 105, 108, 101, 32] : List UInt8) ++ cs) ++ [32]) ++ (digI (ss.length : Int))) ++ [10]).toArray⟩) (congrArg _ (ba_app _ _).symm)) (v' := .string (⟨(ftx cs ss.length []).toArray⟩)) (congrArg (fun l => Value.string ⟨List.toArray l⟩) (ftx_0)))) ⟨hb1, trivial⟩ rfl ?_
 refine T_tk (i := 10) rfl (Y_of (fun _ _ => R_assign rfl)) ⟨hb1, trivial⟩ rfl ?_
 refine T_done (by kernel_rfl) (CalmE.normal ?_)
 refine N_then (C_seq (C_reg rfl ?_))
 refine L_run (R_field (r := 0) rfl fld28_0 rfl) rfl (L_run (R_load1 rfl scl9 (hb1.cell (i := 0) rfl)) rfl ?_)
 refine L_call rfl cb17 (ref05_Parse (cs := cs) (by omega)) rfl ?_
 rintro _ w4 ⟨hs4, rfl⟩
 replace hB := gb_tr hB hs4; replace hS := hS.gb hs4; replace hb1 := hb1.gb hs4
 refine Lmv rfl rfl (L_run (R_extract rfl rfl) rfl (L_run (R_extract rfl rfl) rfl (Las rfl rfl (Las rfl rfl (L_nil (N_then (C_seq (C_seq (C_reg rfl (Lmv rfl rfl (L_run (R_neq rfl rfl) rfl (L_nil (N_then (C_if rfl (fun h1 => ?_) (fun h1 => ?_)))))))))))))))
 ·refine C_seq (C_reg rfl ?_)
  refine Lmv rfl rfl (Las rfl rfl (L_nil (N_then (C_ret (R_then ?_)))))
  refine ret1 Tryd.results7 rfl ?_
  rw [show (ftx cs ss.length []) = fileS cs ss by rw [fileS_eq, if_neg h1]]; exact ⟨hB, rfl⟩
 ·refine C_skip (N_then (C_seq (C_seq (C_reg rfl ?_))))
  refine L_run (R_field (r := 1) rfl fld28_1 rfl) rfl (L_run (R_load1 rfl scl26 (hb1.cell (i := 1) rfl)) rfl (L_run (R_lenSl rfl slc26) rfl (L_run (R_neq rfl rfl) rfl (L_nil (N_then (C_if rfl (fun h2 => ?_) (fun h2 => ?_)))))))
  ·refine C_seq (C_reg rfl ?_)
   refine Lmv rfl rfl ?_
   refine L_run (R_eqv (R_addS rfl rfl (by rw [ba_size, ba_size]; have l0_ := ftx_l0 (cs := cs) (n := ss.length) hcs hn; (try simp only [List.length_append, List.length_cons, List.length_nil]); omega)) (v' := .string ⟨((ftx cs ss.length []) ++ [110, 111, 32, 115, 101, 103, 109, 101, 110, 116, 10]).toArray⟩) (congrArg _ (ba_app _ _).symm)) rfl ?_
   refine Las rfl rfl (L_nil (N_then (C_ret (R_then ?_))))
   refine ret1 Tryd.results7 rfl ?_
   have hf_ : segT ss = [([110, 111, 32, 115, 101, 103, 109, 101, 110, 116] : List UInt8)] := by unfold segT; rw [if_pos (by omega)]
   rw [show ((ftx cs ss.length []) ++ [110, 111, 32, 115, 101, 103, 109, 101, 110, 116, 10]) = fileS cs ss by rw [fileS_eq, if_pos (Decidable.not_not.1 h1)]; rw [hf_]; exact ftx_c rfl]; exact ⟨hB, rfl⟩
  ·refine C_skip (N_then (C_seq (C_reg rfl ?_)))
   refine L_run (R_field (r := 1) rfl fld28_1 rfl) rfl (L_run (R_load1 rfl scl26 (hb1.cell (i := 1) rfl)) rfl ?_)
   have hl1 : 0 < ss.length := by first | omega | (simp; omega)
   refine T_index (xs := ss) (i := 0) EncX rfl rfl (by first | rfl | omega) slc26 hl1 hS rfl ?_
   intro g2 o1 ha1
   replace ha1 : At w4 g2 o1 (fl encB ss[0].b) := ha1
   refine L_run (R_loadA (vs := fl encB (ss[0].b)) rfl agg50 ha1 (flB_lenE ss[0].h)) rfl ?_
   by_cases h3 : hdecN (ss[0].b) = 0
   ·refine L_call rfl cb18 (hdec18_y (X := ss[0].b) ss[0].h  h3) rfl ?_
    rintro _ w5 ⟨hs5, rfl⟩
    replace hB := gb_tr hB hs5; replace hS := hS.gb hs5; replace hb1 := hb1.gb hs5
    refine Lmv rfl rfl (L_run (R_extract rfl rfl) rfl (L_run (R_extract rfl rfl) rfl (L_alloc (cs := [.int .u64 0, .int .i64 0, .int .i64 0, .int .i64 0, .int .i64 0, .int .i64 0, .int .i64 0]) zer33 rfl rfl ?_)))
    intro g3 w6 eg2 hb2 hs6 hz3
    have ge2 : w.heap.size ≤ g3 := eg_ge hB eg2
    have lt1 : g1 < g3 := lt_of_eg hb1.lt eg2
    replace hB := gb_tr hB hs6; replace hS := hS.gb hs6; replace hb1 := hb1.gb hs6
    refine L_stA (vs := [.int .u64 ((hEp (ss[0].b) : Nat) : Int), .int .i64 (hSeq (ss[0].b)), .int .i64 (hFst (ss[0].b)), .int .i64 (hHs (ss[0].b) 0), .int .i64 (hHs (ss[0].b) 1), .int .i64 (hHs (ss[0].b) 2), .int .i64 (hHs (ss[0].b) 3)]) rfl rfl rfl sz33 rfl hb2 rfl ?_
    intro w7 hb3 hs7 hz4
    replace hB := gb_trg hB hs7 ge2; replace hS := hS.old hs7 ge2; replace hb1 := hb1.grown hs7 (ne_lt lt1)
    refine Las rfl rfl (L_nil (N_then (C_seq (C_seq (C_reg rfl (Lmv rfl rfl (L_run (R_eqv (R_neq rfl rfl) (v' := .bool false) rfl) rfl (L_nil (N_then (C_condF rfl rfl (C_skip (N_then (C_seq (C_reg rfl (Lmv rfl rfl (L_run (R_loadA (vs := [.int .u64 ((hEp (ss[0].b) : Nat) : Int), .int .i64 (hSeq (ss[0].b)), .int .i64 (hFst (ss[0].b)), .int .i64 (hHs (ss[0].b) 0), .int .i64 (hHs (ss[0].b) 1), .int .i64 (hHs (ss[0].b) 2), .int .i64 (hHs (ss[0].b) 3)]) rfl agg33 (At.pre (hb3.at_ 0) rfl) rfl) rfl ?_))))))))))))))))
    refine L_call rfl cb11 (header48 (ep := (hEp (ss[0].b))) (seq := (hSeq (ss[0].b))) (first := (hFst (ss[0].b))) (hs := hHs (ss[0].b)) hdr_w.1 hdr_w.2.1 hdr_w.2.2.1 hdr_w.2.2.2) rfl ?_
    rintro _ w8 ⟨hs8, rfl⟩
    replace hB := gb_tr hB hs8; replace hS := hS.gb hs8; replace hb1 := hb1.gb hs8; replace hb3 := hb3.gb hs8
    refine L_run (R_eqv (R_addS rfl rfl (by rw [ba_size, ba_size]; have l0_ := ftx_l0 (cs := cs) (n := ss.length) hcs hn; have l1_ := hdrT_len (ep := (hEp (ss[0].b))) (seq := (hSeq (ss[0].b))) (first := (hFst (ss[0].b))) (hs := (hHs (ss[0].b))) hdr_w.1 hdr_w.2.1 hdr_w.2.2.1 hdr_w.2.2.2 4 (Nat.le_refl _); (try simp only [List.length_append, List.length_cons, List.length_nil]); omega)) (v' := .string ⟨((ftx cs ss.length []) ++ (hdrT (hEp (ss[0].b)) (hSeq (ss[0].b)) (hFst (ss[0].b)) (hHs (ss[0].b)) 4)).toArray⟩) (congrArg _ (ba_app _ _).symm)) rfl ?_
    refine L_run (R_eqv (R_eqv (R_addS rfl rfl (by rw [ba_size, ba_size]; have l0_ := ftx_l0 (cs := cs) (n := ss.length) hcs hn; have l1_ := hdrT_len (ep := (hEp (ss[0].b))) (seq := (hSeq (ss[0].b))) (first := (hFst (ss[0].b))) (hs := (hHs (ss[0].b))) hdr_w.1 hdr_w.2.1 hdr_w.2.2.1 hdr_w.2.2.2 4 (Nat.le_refl _); (try simp only [List.length_append, List.length_cons, List.length_nil]); omega)) (v' := .string ⟨(((ftx cs ss.length []) ++ (hdrT (hEp (ss[0].b)) (hSeq (ss[0].b)) (hFst (ss[0].b)) (hHs (ss[0].b)) 4)) ++ [10]).toArray⟩) (congrArg _ (ba_app _ _).symm)) (v' := .string (⟨(ftx cs ss.length [(hdrT (hEp ss[0].b) (hSeq ss[0].b) (hFst ss[0].b) (hHs ss[0].b) 4)]).toArray⟩)) (congrArg (fun l => Value.string ⟨List.toArray l⟩) (ftx_s))) rfl ?_
    refine Las rfl rfl (L_nil (N_then (C_seq ?_)))
    refine C_join (fun a_ w_ => (∃ (σ_ : Nat → Value) (g4 : Nat) (A_2 : Option Addr) (R1 : List Bys) (c_1 : Nat) (A_3 : Option Addr) (Pl1 : List Int) (c_2 : Nat) (ne1 : Nat), a_ = Ac 124 σ_ [] [(0, .agg #[.string (⟨cs.toArray⟩), .slice A ss.length c]), (1, .pointer (some ⟨g1, 0, none⟩)), (2, .string (⟨#[]⟩)), (3, .string (⟨(ftx cs ss.length [(hdrT (hEp ss[0].b) (hSeq ss[0].b) (hFst ss[0].b) (hHs ss[0].b) 4)]).toArray⟩)), (4, .int .i64 ((nparse cs).1)), (6, .pointer (some ⟨g3, 0, none⟩)), (7, .int .i64 0), (8, .pointer (some ⟨g4, 0, none⟩)), (29, .bool (decide ((nparse cs).1 ≠ 1))), (34, .bool (decide ((ss.length : Int) ≠ 17))), (46, .bool false)] ∧ w.grownBy w_ none ∧ Sli t1 lo w.heap.size w_ A (fl encX ss) ∧ Blk w_ g1 28 [.string (⟨cs.toArray⟩), .slice A ss.length c] ∧ Blk w_ g3 33 [.int .u64 ((hEp (ss[0].b) : Nat) : Int), .int .i64 (hSeq (ss[0].b)), .int .i64 (hFst (ss[0].b)), .int .i64 (hHs (ss[0].b) 0), .int .i64 (hHs (ss[0].b) 1), .int .i64 (hHs (ss[0].b) 2), .int .i64 (hHs (ss[0].b) 3)] ∧ World.ownsRow w_ w.heap.size 34 1 (.slice A_2 R1.length c_1) R1.length (fl encY R1) ∧ DeepY 5 w_ R1 ∧ World.ownsRow w_ w.heap.size 3 1 (.slice A_3 Pl1.length c_2) Pl1.length (fl encZ Pl1) ∧ (ScR (scn (ss.drop 1) (hEp (ss[0].b))) R1 Pl1 ne1 ∧ ne1 ≤ 832 ∧ R1.length ≤ 832) ∧ Blk w_ g4 54 [.slice A_2 R1.length c_1, .slice A_3 Pl1.length c_2, .int .i64 (ne1 : Int), .int .i64 (if restN (bsOf (ss.drop 1)) ne1 then 1 else 2)] ∧ w.heap.size ≤ g4 ∧ g1 < g4 ∧ g3 < g4)) ?_ ?_
    ·refine C_draw2 rfl mix ?_
     intro w9 hs9 hz5
     replace hB := gb_tr hB hs9; replace hS := hS.gb hs9; replace hb1 := hb1.gb hs9; replace hb3 := hb3.gb hs9
     refine ⟨fun W_ => Blk W_ g1 28 [.string (⟨cs.toArray⟩), .slice A ss.length c] ∧ Blk W_ g3 33 [.int .u64 ((hEp (ss[0].b) : Nat) : Int), .int .i64 (hSeq (ss[0].b)), .int .i64 (hFst (ss[0].b)), .int .i64 (hHs (ss[0].b) 0), .int .i64 (hHs (ss[0].b) 1), .int .i64 (hHs (ss[0].b) 2), .int .i64 (hHs (ss[0].b) 3)] ∧ True, [0, 1, 2, 3], ?_⟩
     refine T_tk (i := 0) rfl (Y_of (fun _ _ => R_field (r := 0) rfl fld33_0 rfl)) ⟨hb1, hb3, trivial⟩ rfl ?_
     refine T_tk (i := 1) rfl (Y_of (fun _ ⟨hb1, hb3, _⟩ => R_load1 rfl scl30 (hb3.cell (i := 0) rfl))) ⟨hb1, hb3, trivial⟩ rfl ?_
     refine T_tk (i := 2) rfl (Y_of (fun _ _ => R_field (r := 1) rfl fld28_1 rfl)) ⟨hb1, hb3, trivial⟩ rfl ?_
     refine T_tk (i := 3) rfl (Y_of (fun _ ⟨hb1, hb3, _⟩ => R_load1 rfl scl26 (hb1.cell (i := 1) rfl))) ⟨hb1, hb3, trivial⟩ rfl ?_
     refine T_all (rs := [4, 6]) (by kernel_rfl) rfl (all2 (O_one rfl ?_) (O_one rfl ?_))
     ·refine T_slL (xs := ss) (i := 1) EncX rfl rfl (by first | rfl | omega) slc26 (by omega) hc hS rfl ?_
      intro A_1 hS_1
      refine L_nil (N_then ⟨fun hN_ => ⟨hb1, hb3, trivial⟩, ?_⟩)
      refine T_all (rs := [5, 6]) (by kernel_rfl) rfl (all2 (O_one rfl ?_) (O_one rfl ?_))
      ·have ge3 : w.heap.size ≤ w9.heap.size := hB.size
       refine L_call rfl cb19 (scan19 (e := (hEp (ss[0].b))) (ss := ss.drop 1) hS_1 hdr_w.1) rfl ?_
       rintro _ w10 ⟨hs10, R1, Pl1, A_2, c_1, A_3, c_2, ne1, rfl, ho1, hDY1, ho2, hG1⟩
       replace hB := gb_tr hB hs10; replace hS := hS.gb hs10; replace hb1 := hb1.gb hs10; replace hb3 := hb3.gb hs10
       have hlo1 : w9.heap.size ≤ w10.heap.size := hs10.size
       refine L_nil (N_then ⟨fun hN_ => ⟨hb1, hb3, trivial⟩, ?_⟩)
       refine T_all (rs := [6]) (by kernel_rfl) rfl (all1 (O_one rfl ?_))
       refine L_alloc (cs := [.slice none 0 0, .slice none 0 0, .int .i64 0, .int .i64 0]) zer54 rfl rfl ?_
       intro g4 w11 eg3 hb4 hs11 hz6
       have ge4 : w.heap.size ≤ g4 := eg_ge hB eg3
       have lt2 : g1 < g4 := lt_of_eg hb1.lt eg3
       have lt3 : g3 < g4 := lt_of_eg hb3.lt eg3
       replace hB := gb_tr hB hs11; replace hS := hS.gb hs11; replace hb1 := hb1.gb hs11; replace hb3 := hb3.gb hs11; replace ho1 := own_gb ho1 hs11; replace hDY1 := hDY1.gb hs11; replace ho2 := own_gb ho2 hs11
       refine L_nil (N_then ⟨fun hN_ => ⟨hb1, hb3, trivial⟩, ?_⟩)
       refine T_all (rs := [7]) (by kernel_rfl) rfl (all1 (O_one rfl ?_))
       refine L_stA (vs := [.slice A_2 R1.length c_1, .slice A_3 Pl1.length c_2, .int .i64 (ne1 : Int), .int .i64 (if restN (bsOf (ss.drop 1)) ne1 then 1 else 2)]) rfl rfl rfl sz54 rfl hb4 rfl ?_
       intro w12 hb5 hs12 hz7
       replace hB := gb_trg hB hs12 ge4; replace hS := hS.old hs12 ge4; replace hb1 := hb1.grown hs12 (ne_lt lt2); replace hb3 := hb3.grown hs12 (ne_lt lt3); replace ho1 := own_other ho1 hb4 rfl hs12; replace hDY1 := hDY1.other hb4 rfl rfl hs12; replace ho2 := own_other ho2 hb4 rfl hs12
       refine L_nil (N_then ⟨fun hN_ => ⟨hb1, hb3, trivial⟩, ?_⟩)
       refine T_done (by kernel_rfl) (CalmE.normal ?_)
       exact ⟨rfl, ⟨_, g4, A_2, R1, c_1, A_3, Pl1, c_2, ne1, Ac_frg ⟨rfl, rfl, rfl, rfl, rfl, rfl, rfl, rfl, rfl, rfl, rfl, trivial⟩, hB, hS, hb1, hb3, (own_lo ho1 ge3), hDY1, (own_lo ho2 ge3), hG1, hb5, ge4, lt2, lt3⟩⟩
      ·refine L_alloc (cs := [.slice none 0 0, .slice none 0 0, .int .i64 0, .int .i64 0]) zer54 rfl rfl ?_
       intro g5 w13 eg4 hb6 hs13 hz8
       have ge5 : w.heap.size ≤ g5 := eg_ge hB eg4
       have lt4 : g1 < g5 := lt_of_eg hb1.lt eg4
       have lt5 : g3 < g5 := lt_of_eg hb3.lt eg4
       replace hB := gb_tr hB hs13; replace hS := hS.gb hs13; replace hb1 := hb1.gb hs13; replace hb3 := hb3.gb hs13; replace hS_1 := hS_1.gb hs13
       refine L_nil (N_then ⟨fun hN_ => ⟨hb1, hb3, trivial⟩, ?_⟩)
       refine T_all (rs := [5]) (by kernel_rfl) rfl (all1 (O_one rfl ?_))
       have ge6 : w.heap.size ≤ w13.heap.size := hB.size
       refine L_call rfl cb19 (scan19 (e := (hEp (ss[0].b))) (ss := ss.drop 1) hS_1 hdr_w.1) rfl ?_
       rintro _ w14 ⟨hs14, R2, Pl2, A_4, c_3, A_5, c_4, ne2, rfl, ho3, hDY2, ho4, hG2⟩
       replace hB := gb_tr hB hs14; replace hS := hS.gb hs14; replace hb1 := hb1.gb hs14; replace hb3 := hb3.gb hs14; replace hb6 := hb6.gb hs14
       have hlo2 : w13.heap.size ≤ w14.heap.size := hs14.size
       refine L_nil (N_then ⟨fun hN_ => ⟨hb1, hb3, trivial⟩, ?_⟩)
       refine T_all (rs := [7]) (by kernel_rfl) rfl (all1 (O_one rfl ?_))
       refine L_stA (vs := [.slice A_4 R2.length c_3, .slice A_5 Pl2.length c_4, .int .i64 (ne2 : Int), .int .i64 (if restN (bsOf (ss.drop 1)) ne2 then 1 else 2)]) rfl rfl rfl sz54 rfl hb6 rfl ?_
       intro w15 hb7 hs15 hz9
       replace hB := gb_trg hB hs15 ge5; replace hS := hS.old hs15 ge5; replace hb1 := hb1.grown hs15 (ne_lt lt4); replace hb3 := hb3.grown hs15 (ne_lt lt5); replace ho3 := own_other ho3 hb6 rfl hs15; replace hDY2 := hDY2.other hb6 rfl rfl hs15; replace ho4 := own_other ho4 hb6 rfl hs15
       refine L_nil (N_then ⟨fun hN_ => ⟨hb1, hb3, trivial⟩, ?_⟩)
       refine T_done (by kernel_rfl) (CalmE.normal ?_)
       exact ⟨rfl, ⟨_, g5, A_4, R2, c_3, A_5, Pl2, c_4, ne2, Ac_frg ⟨rfl, rfl, rfl, rfl, rfl, rfl, rfl, rfl, rfl, rfl, rfl, trivial⟩, hB, hS, hb1, hb3, (own_lo ho3 ge6), hDY2, (own_lo ho4 ge6), hG2, hb7, ge5, lt4, lt5⟩⟩
     ·refine L_alloc (cs := [.slice none 0 0, .slice none 0 0, .int .i64 0, .int .i64 0]) zer54 rfl rfl ?_
      intro g6 w16 eg5 hb8 hs16 hz10
      have ge7 : w.heap.size ≤ g6 := eg_ge hB eg5
      have lt6 : g1 < g6 := lt_of_eg hb1.lt eg5
      have lt7 : g3 < g6 := lt_of_eg hb3.lt eg5
      replace hB := gb_tr hB hs16; replace hS := hS.gb hs16; replace hb1 := hb1.gb hs16; replace hb3 := hb3.gb hs16
      refine L_nil (N_then ⟨fun hN_ => ⟨hb1, hb3, trivial⟩, ?_⟩)
      refine T_all (rs := [4]) (by kernel_rfl) rfl (all1 (O_one rfl ?_))
      refine T_slL (xs := ss) (i := 1) EncX rfl rfl (by first | rfl | omega) slc26 (by omega) hc hS rfl ?_
      intro A_6 hS_2
      refine L_nil (N_then ⟨fun hN_ => ⟨hb1, hb3, trivial⟩, ?_⟩)
      refine T_all (rs := [5]) (by kernel_rfl) rfl (all1 (O_one rfl ?_))
      have ge8 : w.heap.size ≤ w16.heap.size := hB.size
      refine L_call rfl cb19 (scan19 (e := (hEp (ss[0].b))) (ss := ss.drop 1) hS_2 hdr_w.1) rfl ?_
      rintro _ w17 ⟨hs17, R3, Pl3, A_7, c_5, A_8, c_6, ne3, rfl, ho5, hDY3, ho6, hG3⟩
      replace hB := gb_tr hB hs17; replace hS := hS.gb hs17; replace hb1 := hb1.gb hs17; replace hb3 := hb3.gb hs17; replace hb8 := hb8.gb hs17
      have hlo3 : w16.heap.size ≤ w17.heap.size := hs17.size
      refine L_nil (N_then ⟨fun hN_ => ⟨hb1, hb3, trivial⟩, ?_⟩)
      refine T_all (rs := [7]) (by kernel_rfl) rfl (all1 (O_one rfl ?_))
      refine L_stA (vs := [.slice A_7 R3.length c_5, .slice A_8 Pl3.length c_6, .int .i64 (ne3 : Int), .int .i64 (if restN (bsOf (ss.drop 1)) ne3 then 1 else 2)]) rfl rfl rfl sz54 rfl hb8 rfl ?_
      intro w18 hb9 hs18 hz11
      replace hB := gb_trg hB hs18 ge7; replace hS := hS.old hs18 ge7; replace hb1 := hb1.grown hs18 (ne_lt lt6); replace hb3 := hb3.grown hs18 (ne_lt lt7); replace ho5 := own_other ho5 hb8 rfl hs18; replace hDY3 := hDY3.other hb8 rfl rfl hs18; replace ho6 := own_other ho6 hb8 rfl hs18
      refine L_nil (N_then ⟨fun hN_ => ⟨hb1, hb3, trivial⟩, ?_⟩)
      refine T_done (by kernel_rfl) (CalmE.normal ?_)
      exact ⟨rfl, ⟨_, g6, A_7, R3, c_5, A_8, Pl3, c_6, ne3, Ac_frg ⟨rfl, rfl, rfl, rfl, rfl, rfl, rfl, rfl, rfl, rfl, rfl, trivial⟩, hB, hS, hb1, hb3, (own_lo ho5 ge8), hDY3, (own_lo ho6 ge8), hG3, hb9, ge7, lt6, lt7⟩⟩
    ·clear hB
     clear hS hb1 hb3
     rintro a_ w19 ⟨σ_, g4, A_2, R1, c_1, A_3, Pl1, c_2, ne1, rfl, hB, hS, hb1, hb3, hj1, hk1, hj2, hk2, hj3, ge9, lt8, lt9⟩
     refine N_then (C_seq (C_seq (C_reg rfl ?_)))
     refine Las rfl rfl (L_nil (N_then (C_block ?_)))
     refine C_loop (fun m_ a_ w_ => ∃ (σ_ : Nat → Value) (i : Nat), a_ = Ac 124 σ_ [] [(3, .string (⟨(ftx cs ss.length (bodyT ss[0].b (ss.drop 1) ((scn (ss.drop 1) (hEp ss[0].b)).take i))).toArray⟩)), (8, .pointer (some ⟨g4, 0, none⟩)), (9, .int .i64 (i : Int))] ∧ w.grownBy w_ none ∧ Sli t1 lo w.heap.size w_ A (fl encX ss) ∧ Blk w_ g1 28 [.string (⟨cs.toArray⟩), .slice A ss.length c] ∧ Blk w_ g3 33 [.int .u64 ((hEp (ss[0].b) : Nat) : Int), .int .i64 (hSeq (ss[0].b)), .int .i64 (hFst (ss[0].b)), .int .i64 (hHs (ss[0].b) 0), .int .i64 (hHs (ss[0].b) 1), .int .i64 (hHs (ss[0].b) 2), .int .i64 (hHs (ss[0].b) 3)] ∧ World.ownsRow w_ w.heap.size 34 1 (.slice A_2 R1.length c_1) R1.length (fl encY R1) ∧ DeepY 5 w_ R1 ∧ World.ownsRow w_ w.heap.size 3 1 (.slice A_3 Pl1.length c_2) Pl1.length (fl encZ Pl1) ∧ (ScR (scn (ss.drop 1) (hEp (ss[0].b))) R1 Pl1 ne1 ∧ ne1 ≤ 832 ∧ R1.length ≤ 832) ∧ Blk w_ g4 54 [.slice A_2 R1.length c_1, .slice A_3 Pl1.length c_2, .int .i64 (ne1 : Int), .int .i64 (if restN (bsOf (ss.drop 1)) ne1 then 1 else 2)] ∧ (i ≤ R1.length) ∧ R1.length - i = m_) (R1.length - 0) ?_ ?_
     ·exact ⟨_, 0, Ac_frg ⟨(agr rfl rfl), rfl, (agx rfl), trivial⟩, hB, hS, hb1, hb3, hj1, hk1, hj2, hk2, hj3, (by omega), rfl⟩
     ·clear hB
      clear hS hb1 hb3 hj1 hk1 hj2 hk2 hj3
      rintro m_ a_ w20 ⟨σ_, i, rfl, hB, hS, hb1, hb3, hj1, hk1, hj2, hk2, hj3, hi_, rfl⟩
      refine C_seq (C_seq (C_reg rfl ?_))
      refine Lmv rfl rfl (L_run (R_field (r := 0) rfl fld54_0 rfl) rfl (L_run (R_load1 rfl scl51 (hj3.cell (i := 0) rfl)) rfl (L_run (R_lenSl rfl slc51) rfl (L_run (R_lss rfl rfl) rfl (L_nil (N_then (C_if rfl (fun h4 => ?_) (fun h4 => ?_))))))))
      ·refine C_skip (N_then (C_seq (C_block (C_seq (C_reg rfl ?_)))))
       refine L_run (R_field (r := 0) rfl fld54_0 rfl) rfl (L_run (R_load1 rfl scl51 (hj3.cell (i := 0) rfl)) rfl (Lmv rfl rfl ?_))
       have hlk : i < R1.length := (by omega)
       refine T_index (xs := R1) (i := i) EncY rfl rfl (by first | rfl | omega) slc51 hlk (own_of hj1).2.2 rfl ?_
       intro g7 o2 ha2
       refine L_run (R_load1 rfl scl34 (ha2 0 _ rfl)) rfl ?_
       by_cases h5 : rerr ((R1[i]).xs) = 0
       ·refine L_call rfl cb20 (rdec11_y (xs := (R1[i]).xs) (hk1.get (i := i) (by first | assumption | omega | (simp; omega))) (by obtain ⟨hg1_, hg2_, hg3_, hg4_⟩ := scr_get hk2.1 hlk; have hm_ := scn_mem _ (List.getElem_mem hg1_); rw [hg3_]; omega) ((hk2.1).cap _ (List.getElem_mem hlk)) h5) rfl ?_
        rintro _ w21 ⟨hs19, A_9, c_7, rfl, ho7⟩
        replace hB := gb_tr hB hs19; replace hS := hS.gb hs19; replace hb1 := hb1.gb hs19; replace hb3 := hb3.gb hs19; replace hj1 := own_gb hj1 hs19; replace hk1 := hk1.gb hs19; replace hj2 := own_gb hj2 hs19; replace hj3 := hj3.gb hs19
        have hlo4 : w20.heap.size ≤ w21.heap.size := hs19.size
        refine Lmv rfl rfl (L_run (R_extract rfl rfl) rfl (L_run (R_extract rfl rfl) rfl (L_alloc (cs := [.int .i64 0, .int .i64 0, .int .i64 0, .int .i64 0, .slice none 0 0]) zer36 rfl rfl ?_)))
        intro g8 w22 eg6 hb10 hs20 hz12
        have ge11 : w.heap.size ≤ g8 := eg_ge hB eg6
        have lt10 : g1 < g8 := lt_of_eg hb1.lt eg6
        have lt11 : g3 < g8 := lt_of_eg hb3.lt eg6
        have lt12 : g4 < g8 := lt_of_eg hj3.lt eg6
        replace hB := gb_tr hB hs20; replace hS := hS.gb hs20; replace hb1 := hb1.gb hs20; replace hb3 := hb3.gb hs20; replace hj1 := own_gb hj1 hs20; replace hk1 := hk1.gb hs20; replace hj2 := own_gb hj2 hs20; replace hj3 := hj3.gb hs20
        refine L_stA (vs := [.int .i64 (rKd ((R1[i]).xs)), .int .i64 (rCh ((R1[i]).xs)), .int .i64 (rLs ((R1[i]).xs)), .int .i64 (rPv ((R1[i]).xs)), .slice A_9 ((rDt ((R1[i]).xs)).length) c_7]) rfl rfl rfl sz36 rfl hb10 rfl ?_
        intro w23 hb11 hs21 hz13
        replace hB := gb_trg hB hs21 ge11; replace hS := hS.old hs21 ge11; replace hb1 := hb1.grown hs21 (ne_lt lt10); replace hb3 := hb3.grown hs21 (ne_lt lt11); replace hj1 := own_other hj1 hb10 rfl hs21; replace hk1 := hk1.other hb10 rfl rfl hs21; replace hj2 := own_other hj2 hb10 rfl hs21; replace hj3 := hj3.grown hs21 (ne_lt lt12)
        refine Las rfl rfl (L_nil (N_then (C_seq (C_reg rfl (Lmv rfl rfl (L_run (R_eqv (R_eql rfl rfl) (v' := .bool true) rfl) rfl (L_nil (N_then (C_condT rfl rfl ?_)))))))))
        refine C_draw2 rfl mix ?_
        intro w24 hs22 hz14
        replace hB := gb_tr hB hs22; replace hS := hS.gb hs22; replace hb1 := hb1.gb hs22; replace hb3 := hb3.gb hs22; replace hj1 := own_gb hj1 hs22; replace hk1 := hk1.gb hs22; replace hj2 := own_gb hj2 hs22; replace hj3 := hj3.gb hs22; replace hb11 := hb11.gb hs22
        have hl3 : i < Pl1.length := by first | omega | (have h_ := (ScR.len (And.left (by assumption))); omega) | (simp; omega)
        obtain ⟨g9, o3, r1, eA1, er1, ha3⟩ := Sli.place' (xs := Pl1) (i := i) EncZ (own_of hj2).2.2 hl3 rfl
        refine ⟨fun W_ => Blk W_ g4 54 [.slice A_2 R1.length c_1, .slice A_3 Pl1.length c_2, .int .i64 (ne1 : Int), .int .i64 (if restN (bsOf (ss.drop 1)) ne1 then 1 else 2)] ∧ Blk W_ g8 36 [.int .i64 (rKd ((R1[i]).xs)), .int .i64 (rCh ((R1[i]).xs)), .int .i64 (rLs ((R1[i]).xs)), .int .i64 (rPv ((R1[i]).xs)), .slice A_9 ((rDt ((R1[i]).xs)).length) c_7] ∧ At W_ g9 r1 [.int .i64 (Pl1[i])] ∧ True, [0, 1, 2, 3, 4, 5, 6, 8, 9, 10], ?_⟩
        refine T_tk (i := 0) rfl (Y_of (fun _ _ => R_move rfl)) ⟨hj3, hb11, ha3, trivial⟩ rfl ?_
        refine T_tk (i := 1) rfl (Y_of (fun _ ⟨hj3, hb11, ha3, _⟩ => R_loadA (vs := [.int .i64 (rKd ((R1[i]).xs)), .int .i64 (rCh ((R1[i]).xs)), .int .i64 (rLs ((R1[i]).xs)), .int .i64 (rPv ((R1[i]).xs)), .slice A_9 ((rDt ((R1[i]).xs)).length) c_7]) rfl agg36 (At.pre (hb11.at_ 0) rfl) rfl)) ⟨hj3, hb11, ha3, trivial⟩ rfl ?_
        refine T_tk (i := 2) rfl (Y_of (fun _ _ => R_field (r := 1) rfl fld54_1 rfl)) ⟨hj3, hb11, ha3, trivial⟩ rfl ?_
        refine T_tk (i := 3) rfl (Y_of (fun _ ⟨hj3, hb11, ha3, _⟩ => R_load1 rfl scl52 (hj3.cell (i := 1) rfl))) ⟨hj3, hb11, ha3, trivial⟩ rfl ?_
        refine T_tk (i := 4) rfl (Y_of (fun _ _ => R_move rfl)) ⟨hj3, hb11, ha3, trivial⟩ rfl ?_
        refine T_tk (i := 5) rfl (Y_of (fun _ _ => R_indexE rfl rfl (by first | rfl | omega) slc52 hl3 eA1 er1)) ⟨hj3, hb11, ha3, trivial⟩ rfl ?_
        refine T_tk (i := 6) rfl (Y_of (fun _ ⟨hj3, hb11, ha3, _⟩ => R_load1 rfl scl3 (ha3 0 _ rfl))) ⟨hj3, hb11, ha3, trivial⟩ rfl ?_
        refine T_all (rs := [7]) (by kernel_rfl) rfl (all1 (O_one rfl ?_))
        refine L_call rfl cb13 (record48 (n := (rDt ((R1[i]).xs)).length) (kind := (rKd ((R1[i]).xs))) (chain := (rCh ((R1[i]).xs))) (lsn := (rLs ((R1[i]).xs))) (prev := (rPv ((R1[i]).xs))) (at_ := Pl1[i]) (rok_w (by assumption)).1 (rok_w (by assumption)).2.1 (rok_w (by assumption)).2.2.1 (rok_w (by assumption)).2.2.2.1 (by first | omega | (obtain ⟨hg1_, hg2_, hg3_, hg4_⟩ := scr_get (And.left (by assumption)) hlk; have hm_ := scn_mem _ (List.getElem_mem hg1_); first | (rw [hg4_]; omega) | (rw [hg3_]; omega) | (rw [hg4_]; exact okw_nat (by omega)))) (rok_w (by assumption)).2.2.2.2) rfl ?_
        rintro _ w25 ⟨hs23, rfl⟩
        replace hB := gb_tr hB hs23; replace hS := hS.gb hs23; replace hb1 := hb1.gb hs23; replace hb3 := hb3.gb hs23; replace hj1 := own_gb hj1 hs23; replace hk1 := hk1.gb hs23; replace hj2 := own_gb hj2 hs23; replace hj3 := hj3.gb hs23; replace hb11 := hb11.gb hs23; replace ha3 := At.gb ha3 hs23 (by simp)
        refine L_nil (N_then ⟨fun hN_ => ⟨hj3, hb11, ha3, trivial⟩, ?_⟩)
        refine T_tk (i := 8) rfl (Y_of (fun _ _ => R_eqv (R_addS rfl rfl (by rw [ba_size, ba_size]; have l0_ := ftx_lb (cs := cs) (X := ss[0].b) (n := ss.length) (e := hEp ss[0].b) (i := i) (ss := (ss.drop 1)) hcs hn; have l1_ := recT_len (kind := (rKd ((R1[i]).xs))) (chain := (rCh ((R1[i]).xs))) (lsn := (rLs ((R1[i]).xs))) (prev := (rPv ((R1[i]).xs))) (at_ := (Pl1[i])) (n := ((rDt ((R1[i]).xs)).length)) (rok_w (by assumption)).1 (rok_w (by assumption)).2.1 (rok_w (by assumption)).2.2.1 (rok_w (by assumption)).2.2.2.1 (by first | omega | (obtain ⟨hg1_, hg2_, hg3_, hg4_⟩ := scr_get (And.left (by assumption)) hlk; have hm_ := scn_mem _ (List.getElem_mem hg1_); first | (rw [hg4_]; omega) | (rw [hg3_]; omega) | (rw [hg4_]; exact okw_nat (by omega)))) (rok_w (by assumption)).2.2.2.2; (try simp only [List.length_append, List.length_cons, List.length_nil]); omega)) (v' := .string ⟨((ftx cs ss.length (bodyT ss[0].b (ss.drop 1) ((scn (ss.drop 1) (hEp ss[0].b)).take i))) ++ (recT (rKd ((R1[i]).xs)) (rCh ((R1[i]).xs)) (rLs ((R1[i]).xs)) (rPv ((R1[i]).xs)) (Pl1[i]) ((rDt ((R1[i]).xs)).length))).toArray⟩) (congrArg _ (ba_app _ _).symm))) ⟨hj3, hb11, ha3, trivial⟩ rfl ?_
        refine T_tk (i := 9) rfl (Y_of (fun _ _ => R_eqv (R_eqv (R_addS rfl rfl (by rw [ba_size, ba_size]; have l0_ := ftx_lb (cs := cs) (X := ss[0].b) (n := ss.length) (e := hEp ss[0].b) (i := i) (ss := (ss.drop 1)) hcs hn; have l1_ := recT_len (kind := (rKd ((R1[i]).xs))) (chain := (rCh ((R1[i]).xs))) (lsn := (rLs ((R1[i]).xs))) (prev := (rPv ((R1[i]).xs))) (at_ := (Pl1[i])) (n := ((rDt ((R1[i]).xs)).length)) (rok_w (by assumption)).1 (rok_w (by assumption)).2.1 (rok_w (by assumption)).2.2.1 (rok_w (by assumption)).2.2.2.1 (by first | omega | (obtain ⟨hg1_, hg2_, hg3_, hg4_⟩ := scr_get (And.left (by assumption)) hlk; have hm_ := scn_mem _ (List.getElem_mem hg1_); first | (rw [hg4_]; omega) | (rw [hg3_]; omega) | (rw [hg4_]; exact okw_nat (by omega)))) (rok_w (by assumption)).2.2.2.2; (try simp only [List.length_append, List.length_cons, List.length_nil]); omega)) (v' := .string ⟨(((ftx cs ss.length (bodyT ss[0].b (ss.drop 1) ((scn (ss.drop 1) (hEp ss[0].b)).take i))) ++ (recT (rKd ((R1[i]).xs)) (rCh ((R1[i]).xs)) (rLs ((R1[i]).xs)) (rPv ((R1[i]).xs)) (Pl1[i]) ((rDt ((R1[i]).xs)).length))) ++ [10]).toArray⟩) (congrArg _ (ba_app _ _).symm)) (v' := .string (⟨(ftx cs ss.length ((bodyT ss[0].b (ss.drop 1) ((scn (ss.drop 1) (hEp ss[0].b)).take i)) ++ [(recT (rKd ((R1[i]).xs)) (rCh ((R1[i]).xs)) (rLs ((R1[i]).xs)) (rPv ((R1[i]).xs)) (Pl1[i]) ((rDt ((R1[i]).xs)).length))])).toArray⟩)) (congrArg (fun l => Value.string ⟨List.toArray l⟩) ftx_s))) ⟨hj3, hb11, ha3, trivial⟩ rfl ?_
        refine T_tk (i := 10) rfl (Y_of (fun _ _ => R_assign rfl)) ⟨hj3, hb11, ha3, trivial⟩ rfl ?_
        refine T_done (by kernel_rfl) (CalmE.normal ?_)
        refine N_in (N_then (C_reg rfl ?_))
        refine Lmv rfl rfl ?_
        refine L_run (R_add64 rfl rfl (by omega)) rfl ?_
        refine Las rfl rfl (L_nil (N_then ?_))
        obtain ⟨hg1_, hg2_, hg3_, hg4_⟩ := scr_get hk2.1 hlk
        have hnx_ : (bodyT ss[0].b (ss.drop 1) ((scn (ss.drop 1) (hEp ss[0].b)).take i)) ++ [(recT (rKd ((R1[i]).xs)) (rCh ((R1[i]).xs)) (rLs ((R1[i]).xs)) (rPv ((R1[i]).xs)) (Pl1[i]) ((rDt ((R1[i]).xs)).length))] = (bodyT ss[0].b (ss.drop 1) ((scn (ss.drop 1) (hEp ss[0].b)).take (i + 1))) := by rw [List.take_succ_eq_append_getElem hg1_, bodyT_succ]; refine snoc_eq ?_; unfold recL; rw [← hg3_, if_pos h5]; unfold recT; rw [hg4_]
        exact ⟨R1.length - (i + 1), by omega, _, (i + 1), Ac_frg ⟨(agr rfl (by rw [hnx_])), rfl, (agx rfl), trivial⟩, hB, hS, hb1, hb3, hj1, hk1, hj2, hk2, hj3, (by omega), rfl⟩
       ·refine L_call rfl cb20 (rdec11_n (xs := (R1[i]).xs) (hk1.get (i := i) (by first | assumption | omega | (simp; omega))) (by obtain ⟨hg1_, hg2_, hg3_, hg4_⟩ := scr_get hk2.1 hlk; have hm_ := scn_mem _ (List.getElem_mem hg1_); rw [hg3_]; omega) ((hk2.1).cap _ (List.getElem_mem hlk)) h5) rfl ?_
        rintro _ w26 ⟨hs24, rfl⟩
        replace hB := gb_tr hB hs24; replace hS := hS.gb hs24; replace hb1 := hb1.gb hs24; replace hb3 := hb3.gb hs24; replace hj1 := own_gb hj1 hs24; replace hk1 := hk1.gb hs24; replace hj2 := own_gb hj2 hs24; replace hj3 := hj3.gb hs24
        refine Lmv rfl rfl (L_run (R_extract rfl rfl) rfl (L_run (R_extract rfl rfl) rfl (L_alloc (cs := [.int .i64 0, .int .i64 0, .int .i64 0, .int .i64 0, .slice none 0 0]) zer36 rfl rfl ?_)))
        intro g10 w27 eg7 hb12 hs25 hz15
        have ge12 : w.heap.size ≤ g10 := eg_ge hB eg7
        have lt13 : g1 < g10 := lt_of_eg hb1.lt eg7
        have lt14 : g3 < g10 := lt_of_eg hb3.lt eg7
        have lt15 : g4 < g10 := lt_of_eg hj3.lt eg7
        replace hB := gb_tr hB hs25; replace hS := hS.gb hs25; replace hb1 := hb1.gb hs25; replace hb3 := hb3.gb hs25; replace hj1 := own_gb hj1 hs25; replace hk1 := hk1.gb hs25; replace hj2 := own_gb hj2 hs25; replace hj3 := hj3.gb hs25
        refine L_stA (vs := [.int .i64 0, .int .i64 0, .int .i64 0, .int .i64 0, .slice none 0 0]) rfl rfl rfl sz36 rfl hb12 rfl ?_
        intro w28 hb13 hs26 hz16
        replace hB := gb_trg hB hs26 ge12; replace hS := hS.old hs26 ge12; replace hb1 := hb1.grown hs26 (ne_lt lt13); replace hb3 := hb3.grown hs26 (ne_lt lt14); replace hj1 := own_other hj1 hb12 rfl hs26; replace hk1 := hk1.other hb12 rfl rfl hs26; replace hj2 := own_other hj2 hb12 rfl hs26; replace hj3 := hj3.grown hs26 (ne_lt lt15)
        refine Las rfl rfl (L_nil (N_then (C_seq (C_reg rfl (Lmv rfl rfl (L_run (R_eql rfl rfl) rfl (L_nil (N_then (C_condF rfl (decide_eq_false h5) ?_)))))))))
        refine C_draw2 rfl mix ?_
        intro w29 hs27 hz17
        replace hB := gb_tr hB hs27; replace hS := hS.gb hs27; replace hb1 := hb1.gb hs27; replace hb3 := hb3.gb hs27; replace hj1 := own_gb hj1 hs27; replace hk1 := hk1.gb hs27; replace hj2 := own_gb hj2 hs27; replace hj3 := hj3.gb hs27
        have hl4 : i < Pl1.length := by first | omega | (have h_ := (ScR.len (And.left (by assumption))); omega) | (simp; omega)
        obtain ⟨g11, o4, r2, eA2, er2, ha4⟩ := Sli.place' (xs := Pl1) (i := i) EncZ (own_of hj2).2.2 hl4 rfl
        have hl5 : i < R1.length := by first | omega | (have h_ := (ScR.len (And.left (by assumption))); omega) | (simp; omega)
        obtain ⟨g12, o5, r3, eA3, er3, ha5⟩ := Sli.place' (xs := R1) (i := i) EncY (own_of hj1).2.2 hl5 rfl
        refine ⟨fun W_ => Blk W_ g4 54 [.slice A_2 R1.length c_1, .slice A_3 Pl1.length c_2, .int .i64 (ne1 : Int), .int .i64 (if restN (bsOf (ss.drop 1)) ne1 then 1 else 2)] ∧ At W_ g11 r2 [.int .i64 (Pl1[i])] ∧ At W_ g12 r3 [.slice ((R1[i]).a) ((R1[i]).xs.length) ((R1[i]).c)] ∧ True, [0, 1, 2, 3, 4, 5, 6, 8, 9, 10, 11, 12, 13, 14, 15, 17, 18, 19], ?_⟩
        refine T_tk (i := 0) rfl (Y_of (fun _ _ => R_move rfl)) ⟨hj3, ha4, ha5, trivial⟩ rfl ?_
        refine T_tk (i := 1) rfl (Y_of (fun _ _ => R_eqv (R_addS rfl rfl (by rw [ba_size, ba_size]; have l0_ := ftx_lb (cs := cs) (X := ss[0].b) (n := ss.length) (e := hEp ss[0].b) (i := i) (ss := (ss.drop 1)) hcs hn; (try simp only [List.length_append, List.length_cons, List.length_nil]); omega)) (v' := .string ⟨((ftx cs ss.length (bodyT ss[0].b (ss.drop 1) ((scn (ss.drop 1) (hEp ss[0].b)).take i))) ++ [98, 114, 111, 107, 101, 110, 32, 97, 116, 32]).toArray⟩) (congrArg _ (ba_app _ _).symm))) ⟨hj3, ha4, ha5, trivial⟩ rfl ?_
        refine T_tk (i := 2) rfl (Y_of (fun _ _ => R_field (r := 1) rfl fld54_1 rfl)) ⟨hj3, ha4, ha5, trivial⟩ rfl ?_
        refine T_tk (i := 3) rfl (Y_of (fun _ ⟨hj3, ha4, ha5, _⟩ => R_load1 rfl scl52 (hj3.cell (i := 1) rfl))) ⟨hj3, ha4, ha5, trivial⟩ rfl ?_
        refine T_tk (i := 4) rfl (Y_of (fun _ _ => R_move rfl)) ⟨hj3, ha4, ha5, trivial⟩ rfl ?_
        refine T_tk (i := 5) rfl (Y_of (fun _ _ => R_indexE rfl rfl (by first | rfl | omega) slc52 hl4 eA2 er2)) ⟨hj3, ha4, ha5, trivial⟩ rfl ?_
        refine T_tk (i := 6) rfl (Y_of (fun _ ⟨hj3, ha4, ha5, _⟩ => R_load1 rfl scl3 (ha4 0 _ rfl))) ⟨hj3, ha4, ha5, trivial⟩ rfl ?_
        refine T_tk (i := 10) rfl (Y_of (fun _ _ => R_field (r := 0) rfl fld54_0 rfl)) ⟨hj3, ha4, ha5, trivial⟩ rfl ?_
        refine T_tk (i := 11) rfl (Y_of (fun _ ⟨hj3, ha4, ha5, _⟩ => R_load1 rfl scl51 (hj3.cell (i := 0) rfl))) ⟨hj3, ha4, ha5, trivial⟩ rfl ?_
        refine T_tk (i := 12) rfl (Y_of (fun _ _ => R_move rfl)) ⟨hj3, ha4, ha5, trivial⟩ rfl ?_
        refine T_tk (i := 13) rfl (Y_of (fun _ _ => R_indexE rfl rfl (by first | rfl | omega) slc51 hl5 eA3 er3)) ⟨hj3, ha4, ha5, trivial⟩ rfl ?_
        refine T_tk (i := 14) rfl (Y_of (fun _ ⟨hj3, ha4, ha5, _⟩ => R_load1 rfl scl34 (ha5 0 _ rfl))) ⟨hj3, ha4, ha5, trivial⟩ rfl ?_
        refine T_tk (i := 15) rfl (Y_of (fun _ _ => R_lenSl rfl slc34)) ⟨hj3, ha4, ha5, trivial⟩ rfl ?_
        refine T_all (rs := [7]) (by kernel_rfl) rfl (all1 (O_one rfl ?_))
        refine L_call rfl cb16 (ref05_Digits (n := Pl1[i]) (by first | omega | (obtain ⟨hg1_, hg2_, hg3_, hg4_⟩ := scr_get (And.left (by assumption)) hlk; have hm_ := scn_mem _ (List.getElem_mem hg1_); first | (rw [hg4_]; omega) | (rw [hg3_]; omega) | (rw [hg4_]; exact okw_nat (by omega)))) _) rfl ?_
        rintro _ w30 ⟨hs28, rfl⟩
        replace hB := gb_tr hB hs28; replace hS := hS.gb hs28; replace hb1 := hb1.gb hs28; replace hb3 := hb3.gb hs28; replace hj1 := own_gb hj1 hs28; replace hk1 := hk1.gb hs28; replace hj2 := own_gb hj2 hs28; replace hj3 := hj3.gb hs28; replace ha4 := At.gb ha4 hs28 (by simp); replace ha5 := At.gb ha5 hs28 (by simp)
        refine L_nil (N_then ⟨fun hN_ => ⟨hj3, ha4, ha5, trivial⟩, ?_⟩)
        refine T_tk (i := 8) rfl (Y_of (fun _ _ => R_eqv (R_addS rfl rfl (by rw [ba_size, ba_size]; have l0_ := ftx_lb (cs := cs) (X := ss[0].b) (n := ss.length) (e := hEp ss[0].b) (i := i) (ss := (ss.drop 1)) hcs hn; have l1_ := digI_len (n := (Pl1[i])) (by first | omega | (obtain ⟨hg1_, hg2_, hg3_, hg4_⟩ := scr_get (And.left (by assumption)) hlk; have hm_ := scn_mem _ (List.getElem_mem hg1_); first | (rw [hg4_]; omega) | (rw [hg3_]; omega) | (rw [hg4_]; exact okw_nat (by omega)))); (try simp only [List.length_append, List.length_cons, List.length_nil]); omega)) (v' := .string ⟨(((ftx cs ss.length (bodyT ss[0].b (ss.drop 1) ((scn (ss.drop 1) (hEp ss[0].b)).take i))) ++ [98, 114, 111, 107, 101, 110, 32, 97, 116, 32]) ++ (digI (Pl1[i]))).toArray⟩) (congrArg _ (ba_app _ _).symm))) ⟨hj3, ha4, ha5, trivial⟩ rfl ?_
        refine T_tk (i := 9) rfl (Y_of (fun _ _ => R_eqv (R_addS rfl rfl (by rw [ba_size, ba_size]; have l0_ := ftx_lb (cs := cs) (X := ss[0].b) (n := ss.length) (e := hEp ss[0].b) (i := i) (ss := (ss.drop 1)) hcs hn; have l1_ := digI_len (n := (Pl1[i])) (by first | omega | (obtain ⟨hg1_, hg2_, hg3_, hg4_⟩ := scr_get (And.left (by assumption)) hlk; have hm_ := scn_mem _ (List.getElem_mem hg1_); first | (rw [hg4_]; omega) | (rw [hg3_]; omega) | (rw [hg4_]; exact okw_nat (by omega)))); (try simp only [List.length_append, List.length_cons, List.length_nil]); omega)) (v' := .string ⟨((((ftx cs ss.length (bodyT ss[0].b (ss.drop 1) ((scn (ss.drop 1) (hEp ss[0].b)).take i))) ++ [98, 114, 111, 107, 101, 110, 32, 97, 116, 32]) ++ (digI (Pl1[i]))) ++ [32, 115, 105, 122, 101, 32]).toArray⟩) (congrArg _ (ba_app _ _).symm))) ⟨hj3, ha4, ha5, trivial⟩ rfl ?_
        refine T_all (rs := [16]) (by kernel_rfl) rfl (all1 (O_one rfl ?_))
        refine L_call rfl cb16 (ref05_Digits (n := ((R1[i]).xs.length : Int)) (by first | omega | (obtain ⟨hg1_, hg2_, hg3_, hg4_⟩ := scr_get (And.left (by assumption)) hlk; have hm_ := scn_mem _ (List.getElem_mem hg1_); first | (rw [hg4_]; omega) | (rw [hg3_]; omega) | (rw [hg4_]; exact okw_nat (by omega)))) _) rfl ?_
        rintro _ w31 ⟨hs29, rfl⟩
        replace hB := gb_tr hB hs29; replace hS := hS.gb hs29; replace hb1 := hb1.gb hs29; replace hb3 := hb3.gb hs29; replace hj1 := own_gb hj1 hs29; replace hk1 := hk1.gb hs29; replace hj2 := own_gb hj2 hs29; replace hj3 := hj3.gb hs29; replace ha4 := At.gb ha4 hs29 (by simp); replace ha5 := At.gb ha5 hs29 (by simp)
        refine L_nil (N_then ⟨fun hN_ => ⟨hj3, ha4, ha5, trivial⟩, ?_⟩)
        refine T_tk (i := 17) rfl (Y_of (fun _ _ => R_eqv (R_addS rfl rfl (by rw [ba_size, ba_size]; have l0_ := ftx_lb (cs := cs) (X := ss[0].b) (n := ss.length) (e := hEp ss[0].b) (i := i) (ss := (ss.drop 1)) hcs hn; have l1_ := digI_len (n := (Pl1[i])) (by first | omega | (obtain ⟨hg1_, hg2_, hg3_, hg4_⟩ := scr_get (And.left (by assumption)) hlk; have hm_ := scn_mem _ (List.getElem_mem hg1_); first | (rw [hg4_]; omega) | (rw [hg3_]; omega) | (rw [hg4_]; exact okw_nat (by omega)))); have l2_ := digI_len (n := ((R1[i]).xs.length : Int)) (by first | omega | (obtain ⟨hg1_, hg2_, hg3_, hg4_⟩ := scr_get (And.left (by assumption)) hlk; have hm_ := scn_mem _ (List.getElem_mem hg1_); first | (rw [hg4_]; omega) | (rw [hg3_]; omega) | (rw [hg4_]; exact okw_nat (by omega)))); (try simp only [List.length_append, List.length_cons, List.length_nil]); omega)) (v' := .string ⟨(((((ftx cs ss.length (bodyT ss[0].b (ss.drop 1) ((scn (ss.drop 1) (hEp ss[0].b)).take i))) ++ [98, 114, 111, 107, 101, 110, 32, 97, 116, 32]) ++ (digI (Pl1[i]))) ++ [32, 115, 105, 122, 101, 32]) ++ (digI ((R1[i]).xs.length : Int))).toArray⟩) (congrArg _ (ba_app _ _).symm))) ⟨hj3, ha4, ha5, trivial⟩ rfl ?_
        refine T_tk (i := 18) rfl (Y_of (fun _ _ => R_eqv (R_eqv (R_addS rfl rfl (by rw [ba_size, ba_size]; have l0_ := ftx_lb (cs := cs) (X := ss[0].b) (n := ss.length) (e := hEp ss[0].b) (i := i) (ss := (ss.drop 1)) hcs hn; have l1_ := digI_len (n := (Pl1[i])) (by first | omega | (obtain ⟨hg1_, hg2_, hg3_, hg4_⟩ := scr_get (And.left (by assumption)) hlk; have hm_ := scn_mem _ (List.getElem_mem hg1_); first | (rw [hg4_]; omega) | (rw [hg3_]; omega) | (rw [hg4_]; exact okw_nat (by omega)))); have l2_ := digI_len (n := ((R1[i]).xs.length : Int)) (by first | omega | (obtain ⟨hg1_, hg2_, hg3_, hg4_⟩ := scr_get (And.left (by assumption)) hlk; have hm_ := scn_mem _ (List.getElem_mem hg1_); first | (rw [hg4_]; omega) | (rw [hg3_]; omega) | (rw [hg4_]; exact okw_nat (by omega)))); (try simp only [List.length_append, List.length_cons, List.length_nil]); omega)) (v' := .string ⟨((((((ftx cs ss.length (bodyT ss[0].b (ss.drop 1) ((scn (ss.drop 1) (hEp ss[0].b)).take i))) ++ [98, 114, 111, 107, 101, 110, 32, 97, 116, 32]) ++ (digI (Pl1[i]))) ++ [32, 115, 105, 122, 101, 32]) ++ (digI ((R1[i]).xs.length : Int))) ++ [10]).toArray⟩) (congrArg _ (ba_app _ _).symm)) (v' := .string (⟨(ftx cs ss.length ((bodyT ss[0].b (ss.drop 1) ((scn (ss.drop 1) (hEp ss[0].b)).take i)) ++ [Go.Lib.join [([98, 114, 111, 107, 101, 110, 32, 97, 116] : List UInt8), digI (Pl1[i]), ([115, 105, 122, 101] : List UInt8), digI (R1[i].xs.length : Int)] [32]])).toArray⟩)) (congrArg (fun l => Value.string ⟨List.toArray l⟩) ftx_b))) ⟨hj3, ha4, ha5, trivial⟩ rfl ?_
        refine T_tk (i := 19) rfl (Y_of (fun _ _ => R_assign rfl)) ⟨hj3, ha4, ha5, trivial⟩ rfl ?_
        refine T_done (by kernel_rfl) (CalmE.normal ?_)
        refine N_in (N_then (C_reg rfl ?_))
        refine Lmv rfl rfl ?_
        refine L_run (R_add64 rfl rfl (by omega)) rfl ?_
        refine Las rfl rfl (L_nil (N_then ?_))
        obtain ⟨hg1_, hg2_, hg3_, hg4_⟩ := scr_get hk2.1 hlk
        have hnx_ : (bodyT ss[0].b (ss.drop 1) ((scn (ss.drop 1) (hEp ss[0].b)).take i)) ++ [Go.Lib.join [([98, 114, 111, 107, 101, 110, 32, 97, 116] : List UInt8), digI (Pl1[i]), ([115, 105, 122, 101] : List UInt8), digI (R1[i].xs.length : Int)] [32]] = (bodyT ss[0].b (ss.drop 1) ((scn (ss.drop 1) (hEp ss[0].b)).take (i + 1))) := by rw [List.take_succ_eq_append_getElem hg1_, bodyT_succ]; refine snoc_eq ?_; unfold recL; rw [← hg3_, if_neg h5]; unfold brkT; rw [hg4_]
        exact ⟨R1.length - (i + 1), by omega, _, (i + 1), Ac_frg ⟨(agr rfl (by rw [hnx_])), rfl, (agx rfl), trivial⟩, hB, hS, hb1, hb3, hj1, hk1, hj2, hk2, hj3, (by omega), rfl⟩
      ·refine C_exit (X_then (X_then (X_hit (N_then (C_seq (C_seq (C_reg rfl ?_)))))))
       refine L_run (R_field (r := 3) rfl fld54_3 rfl) rfl (L_run (R_load1 rfl scl3 (hj3.cell (i := 3) rfl)) rfl (L_run (R_eql rfl rfl) rfl (L_nil (N_then (C_if rfl (fun h6 => ?_) (fun h6 => ?_))))))
       ·refine C_seq (C_reg rfl ?_)
        refine Lmv rfl rfl ?_
        refine L_run (R_eqv (R_addS rfl rfl (by rw [ba_size, ba_size]; have l0_ := ftx_lb (cs := cs) (X := ss[0].b) (n := ss.length) (e := hEp ss[0].b) (i := i) (ss := (ss.drop 1)) hcs hn; (try simp only [List.length_append, List.length_cons, List.length_nil]); omega)) (v' := .string ⟨((ftx cs ss.length (bodyT ss[0].b (ss.drop 1) ((scn (ss.drop 1) (hEp ss[0].b)).take i))) ++ [101, 110, 100, 32]).toArray⟩) (congrArg _ (ba_app _ _).symm)) rfl ?_
        refine L_run (R_field (r := 2) rfl fld54_2 rfl) rfl (L_run (R_load1 rfl scl3 (hj3.cell (i := 2) rfl)) rfl ?_)
        refine L_call rfl cb16 (ref05_Digits (n := (ne1 : Int)) (by first | omega | (obtain ⟨hg1_, hg2_, hg3_, hg4_⟩ := scr_get (And.left (by assumption)) hlk; have hm_ := scn_mem _ (List.getElem_mem hg1_); first | (rw [hg4_]; omega) | (rw [hg3_]; omega) | (rw [hg4_]; exact okw_nat (by omega)))) _) rfl ?_
        rintro _ w32 ⟨hs30, rfl⟩
        replace hB := gb_tr hB hs30
        refine L_run (R_eqv (R_addS rfl rfl (by rw [ba_size, ba_size]; have l0_ := ftx_lb (cs := cs) (X := ss[0].b) (n := ss.length) (e := hEp ss[0].b) (i := i) (ss := (ss.drop 1)) hcs hn; have l1_ := digI_len (n := (ne1 : Int)) (by first | omega | (obtain ⟨hg1_, hg2_, hg3_, hg4_⟩ := scr_get (And.left (by assumption)) hlk; have hm_ := scn_mem _ (List.getElem_mem hg1_); first | (rw [hg4_]; omega) | (rw [hg3_]; omega) | (rw [hg4_]; exact okw_nat (by omega)))); (try simp only [List.length_append, List.length_cons, List.length_nil]); omega)) (v' := .string ⟨(((ftx cs ss.length (bodyT ss[0].b (ss.drop 1) ((scn (ss.drop 1) (hEp ss[0].b)).take i))) ++ [101, 110, 100, 32]) ++ (digI (ne1 : Int))).toArray⟩) (congrArg _ (ba_app _ _).symm)) rfl ?_
        refine L_run (R_eqv (R_addS rfl rfl (by rw [ba_size, ba_size]; have l0_ := ftx_lb (cs := cs) (X := ss[0].b) (n := ss.length) (e := hEp ss[0].b) (i := i) (ss := (ss.drop 1)) hcs hn; have l1_ := digI_len (n := (ne1 : Int)) (by first | omega | (obtain ⟨hg1_, hg2_, hg3_, hg4_⟩ := scr_get (And.left (by assumption)) hlk; have hm_ := scn_mem _ (List.getElem_mem hg1_); first | (rw [hg4_]; omega) | (rw [hg3_]; omega) | (rw [hg4_]; exact okw_nat (by omega)))); (try simp only [List.length_append, List.length_cons, List.length_nil]); omega)) (v' := .string ⟨((((ftx cs ss.length (bodyT ss[0].b (ss.drop 1) ((scn (ss.drop 1) (hEp ss[0].b)).take i))) ++ [101, 110, 100, 32]) ++ (digI (ne1 : Int))) ++ [32, 99, 108, 101, 97, 110, 10]).toArray⟩) (congrArg _ (ba_app _ _).symm)) rfl ?_
        refine Las rfl rfl (L_nil (N_then (C_ret (R_then ?_))))
        refine ret1 Tryd.results7 rfl ?_
        have hal_ : (scn (ss.drop 1) (hEp ss[0].b)).take i = (scn (ss.drop 1) (hEp ss[0].b)) := List.take_of_length_le (by have h_ := (hk2.1).len; omega)
        have hen_ : ne1 = endN (scn (ss.drop 1) (hEp ss[0].b)) := (hk2.1).en
        have hkd_ : kindT (ss.drop 1) ne1 = ([99, 108, 101, 97, 110] : List UInt8) := by unfold kindT; rw [if_pos (by by_cases h_ : restN (bsOf (ss.drop 1)) ne1; exact h_; exact absurd h6 (by rw [if_neg h_]; decide))]
        have hf_ : segT ss = (bodyT ss[0].b (ss.drop 1) ((scn (ss.drop 1) (hEp ss[0].b)).take i)) ++ [endT ne1 ([99, 108, 101, 97, 110] : List UInt8)] := by unfold segT; rw [if_neg (by omega), ← ss0 (by omega), if_neg (fun h_ => h_ h3), ← hen_, hkd_, hal_]
        rw [show ((((ftx cs ss.length (bodyT ss[0].b (ss.drop 1) ((scn (ss.drop 1) (hEp ss[0].b)).take i))) ++ [101, 110, 100, 32]) ++ (digI (ne1 : Int))) ++ [32, 99, 108, 101, 97, 110, 10]) = fileS cs ss by rw [fileS_eq, if_pos (Decidable.not_not.1 h1)]; rw [hf_]; exact ftx_e (k := ([99, 108, 101, 97, 110] : List UInt8)) rfl]; exact ⟨hB, rfl⟩
       ·refine C_skip (N_then (C_seq (C_reg rfl ?_)))
        refine Lmv rfl rfl ?_
        refine L_run (R_eqv (R_addS rfl rfl (by rw [ba_size, ba_size]; have l0_ := ftx_lb (cs := cs) (X := ss[0].b) (n := ss.length) (e := hEp ss[0].b) (i := i) (ss := (ss.drop 1)) hcs hn; (try simp only [List.length_append, List.length_cons, List.length_nil]); omega)) (v' := .string ⟨((ftx cs ss.length (bodyT ss[0].b (ss.drop 1) ((scn (ss.drop 1) (hEp ss[0].b)).take i))) ++ [101, 110, 100, 32]).toArray⟩) (congrArg _ (ba_app _ _).symm)) rfl ?_
        refine L_run (R_field (r := 2) rfl fld54_2 rfl) rfl (L_run (R_load1 rfl scl3 (hj3.cell (i := 2) rfl)) rfl ?_)
        refine L_call rfl cb16 (ref05_Digits (n := (ne1 : Int)) (by first | omega | (obtain ⟨hg1_, hg2_, hg3_, hg4_⟩ := scr_get (And.left (by assumption)) hlk; have hm_ := scn_mem _ (List.getElem_mem hg1_); first | (rw [hg4_]; omega) | (rw [hg3_]; omega) | (rw [hg4_]; exact okw_nat (by omega)))) _) rfl ?_
        rintro _ w33 ⟨hs31, rfl⟩
        replace hB := gb_tr hB hs31
        refine L_run (R_eqv (R_addS rfl rfl (by rw [ba_size, ba_size]; have l0_ := ftx_lb (cs := cs) (X := ss[0].b) (n := ss.length) (e := hEp ss[0].b) (i := i) (ss := (ss.drop 1)) hcs hn; have l1_ := digI_len (n := (ne1 : Int)) (by first | omega | (obtain ⟨hg1_, hg2_, hg3_, hg4_⟩ := scr_get (And.left (by assumption)) hlk; have hm_ := scn_mem _ (List.getElem_mem hg1_); first | (rw [hg4_]; omega) | (rw [hg3_]; omega) | (rw [hg4_]; exact okw_nat (by omega)))); (try simp only [List.length_append, List.length_cons, List.length_nil]); omega)) (v' := .string ⟨(((ftx cs ss.length (bodyT ss[0].b (ss.drop 1) ((scn (ss.drop 1) (hEp ss[0].b)).take i))) ++ [101, 110, 100, 32]) ++ (digI (ne1 : Int))).toArray⟩) (congrArg _ (ba_app _ _).symm)) rfl ?_
        refine L_run (R_eqv (R_addS rfl rfl (by rw [ba_size, ba_size]; have l0_ := ftx_lb (cs := cs) (X := ss[0].b) (n := ss.length) (e := hEp ss[0].b) (i := i) (ss := (ss.drop 1)) hcs hn; have l1_ := digI_len (n := (ne1 : Int)) (by first | omega | (obtain ⟨hg1_, hg2_, hg3_, hg4_⟩ := scr_get (And.left (by assumption)) hlk; have hm_ := scn_mem _ (List.getElem_mem hg1_); first | (rw [hg4_]; omega) | (rw [hg3_]; omega) | (rw [hg4_]; exact okw_nat (by omega)))); (try simp only [List.length_append, List.length_cons, List.length_nil]); omega)) (v' := .string ⟨((((ftx cs ss.length (bodyT ss[0].b (ss.drop 1) ((scn (ss.drop 1) (hEp ss[0].b)).take i))) ++ [101, 110, 100, 32]) ++ (digI (ne1 : Int))) ++ [32, 116, 111, 114, 110, 10]).toArray⟩) (congrArg _ (ba_app _ _).symm)) rfl ?_
        refine Las rfl rfl (L_nil (N_then (C_ret ?_)))
        refine ret1 Tryd.results7 rfl ?_
        have hal_ : (scn (ss.drop 1) (hEp ss[0].b)).take i = (scn (ss.drop 1) (hEp ss[0].b)) := List.take_of_length_le (by have h_ := (hk2.1).len; omega)
        have hen_ : ne1 = endN (scn (ss.drop 1) (hEp ss[0].b)) := (hk2.1).en
        have hkd_ : kindT (ss.drop 1) ne1 = ([116, 111, 114, 110] : List UInt8) := by unfold kindT; rw [if_neg (fun h_ => h6 (by rw [if_pos h_]))]
        have hf_ : segT ss = (bodyT ss[0].b (ss.drop 1) ((scn (ss.drop 1) (hEp ss[0].b)).take i)) ++ [endT ne1 ([116, 111, 114, 110] : List UInt8)] := by unfold segT; rw [if_neg (by omega), ← ss0 (by omega), if_neg (fun h_ => h_ h3), ← hen_, hkd_, hal_]
        rw [show ((((ftx cs ss.length (bodyT ss[0].b (ss.drop 1) ((scn (ss.drop 1) (hEp ss[0].b)).take i))) ++ [101, 110, 100, 32]) ++ (digI (ne1 : Int))) ++ [32, 116, 111, 114, 110, 10]) = fileS cs ss by rw [fileS_eq, if_pos (Decidable.not_not.1 h1)]; rw [hf_]; exact ftx_e (k := ([116, 111, 114, 110] : List UInt8)) rfl]; exact ⟨hB, rfl⟩
   ·refine L_call rfl cb18 (hdec18_n (X := ss[0].b) ss[0].h  h3) rfl ?_
    rintro _ w34 ⟨hs32, rfl⟩
    replace hB := gb_tr hB hs32
    refine Lmv rfl rfl (L_run (R_extract rfl rfl) rfl (L_run (R_extract rfl rfl) rfl (L_alloc (cs := [.int .u64 0, .int .i64 0, .int .i64 0, .int .i64 0, .int .i64 0, .int .i64 0, .int .i64 0]) zer33 rfl rfl ?_)))
    intro g13 w35 eg8 hb14 hs33 hz18
    have ge13 : w.heap.size ≤ g13 := eg_ge hB eg8
    replace hB := gb_tr hB hs33
    refine L_stA (vs := [.int .u64 0, .int .i64 0, .int .i64 0, .int .i64 0, .int .i64 0, .int .i64 0, .int .i64 0]) rfl rfl rfl sz33 rfl hb14 rfl ?_
    intro w36 hb15 hs34 hz19
    replace hB := gb_trg hB hs34 ge13
    refine Las rfl rfl (L_nil (N_then (C_seq (C_seq (C_reg rfl (Lmv rfl rfl (L_run (R_neq rfl rfl) rfl (L_nil (N_then (C_condT rfl (decide_eq_true h3) (C_seq (C_reg rfl (Lmv rfl rfl ?_)))))))))))))
    refine L_run (R_eqv (R_addS rfl rfl (by rw [ba_size, ba_size]; have l0_ := ftx_l0 (cs := cs) (n := ss.length) hcs hn; (try simp only [List.length_append, List.length_cons, List.length_nil]); omega)) (v' := .string ⟨((ftx cs ss.length []) ++ [110, 111, 32, 104, 101, 97, 100, 101, 114, 10]).toArray⟩) (congrArg _ (ba_app _ _).symm)) rfl ?_
    refine Las rfl rfl (L_nil (N_then (C_ret (R_then ?_))))
    refine ret1 Tryd.results7 rfl ?_
    have hf_ : segT ss = [([110, 111, 32, 104, 101, 97, 100, 101, 114] : List UInt8)] := by unfold segT; rw [if_neg (by omega), ← ss0 (by omega), if_pos h3]
    rw [show ((ftx cs ss.length []) ++ [110, 111, 32, 104, 101, 97, 100, 101, 114, 10]) = fileS cs ss by rw [fileS_eq, if_pos (Decidable.not_not.1 h1)]; rw [hf_]; exact ftx_c rfl]; exact ⟨hB, rfl⟩
end Go.Proofs.YtkjgjejkfjhcjaaDoor
namespace Go.Proofs.YtkjgjejkfjhcjaaDoor
open Go.RowKit Gw Pl
set_option linter.unusedVariables false
set_option linter.unusedSimpArgs false
theorem cb24 : callB Tryd.prog 24 = true := by kernel_rfl
theorem jn_sz {cs : List UInt8} {n : Nat} {l : List (List UInt8)} (hcs : cs.length ≤ 100000) (hn : n ≤ 1000000) (h : ∀ y ∈ l, y.length ≤ 200) (h2 : l.length ≤ 835) : (Go.Lib.join (Go.Lib.join [([102, 105, 108, 101] : List UInt8), cs, digI (n : Int)] [32] :: l) [10]).length ≤ 90000000 :=
  Nat.le_trans (jn_len (k := 100026) (fun x hx => (List.mem_cons.1 hx).elim (fun h_ => by subst h_; exact Nat.le_trans (fline_len hn) (by omega)) (fun hx => Nat.le_trans (h x hx) (by omega)))) (by rw [List.length_cons]; omega)
theorem file_ok {w : World} {t1 lo hi : Nat} {A : Option Addr} {c : Nat} {cs : List UInt8} {ss : List Sx} (hS : Sli t1 lo hi w A (fl encX ss)) (hc : ss.length ≤ c) (hcs : cs.length ≤ 100000) (hn : ss.length ≤ 1000000) (hT : Tbw w) :
    Runs Tryd.prog 8 #[.agg #[.string (⟨cs.toArray⟩), .slice A ss.length c]] w (fun v w' => w.grownBy w' none ∧ v = .string ⟨(fileS cs ss).toArray⟩) := by
 have hB := gb_refl w none
 replace hS := hS.top
 refine enter Tryd.func8 Tryd.ntmps8 rfl rfl ?_
 refine C_seq (C_reg rfl ?_)
 refine L_box (cs := [.string (⟨cs.toArray⟩), .slice A ss.length c]) rfl rfl rfl ?_
 intro g1 w1 eg1 hb1 hs1 hz1
 have ge1 : w.heap.size ≤ g1 := eg_ge hB eg1
 replace hB := gb_tr hB hs1; replace hS := hS.gb hs1
 refine Las rfl rfl (L_nil (N_then (C_seq ?_)))
 refine C_draw2 rfl mix ?_
 intro w2 hs2 hz2
 replace hB := gb_tr hB hs2; replace hS := hS.gb hs2; replace hb1 := hb1.gb hs2
 refine ⟨fun W_ => Blk W_ g1 28 [.string (⟨cs.toArray⟩), .slice A ss.length c] ∧ True, [0, 1, 2, 3, 4, 9], ?_⟩
 refine T_tk (i := 0) rfl (Y_of (fun _ _ => R_field (r := 0) rfl fld28_0 rfl)) ⟨hb1, trivial⟩ rfl ?_
 refine T_tk (i := 1) rfl (Y_of (fun _ ⟨hb1, _⟩ => R_load1 rfl scl9 (hb1.cell (i := 0) rfl))) ⟨hb1, trivial⟩ rfl ?_
 refine T_tk (i := 2) rfl (Y_of (fun _ _ => R_field (r := 1) rfl fld28_1 rfl)) ⟨hb1, trivial⟩ rfl ?_
 refine T_tk (i := 3) rfl (Y_of (fun _ ⟨hb1, _⟩ => R_load1 rfl scl26 (hb1.cell (i := 1) rfl))) ⟨hb1, trivial⟩ rfl ?_
 refine T_tk (i := 4) rfl (Y_of (fun _ _ => R_lenSl rfl slc26)) ⟨hb1, trivial⟩ rfl ?_
 refine T_all (rs := [5]) (by kernel_rfl) rfl (all1 (O_one rfl ?_))
 refine L_call rfl cb22 (name_Digits (n := (ss.length : Int)) (by omega)) rfl ?_
 rintro _ w3 ⟨hs3, rfl⟩
 replace hB := gb_tr hB hs3; replace hS := hS.gb hs3; replace hb1 := hb1.gb hs3
 refine L_nil (N_then ⟨fun hN_ => ⟨hb1, trivial⟩, ?_⟩)
 refine T_all (rs := [6]) (by kernel_rfl) rfl (all1 (O_one rfl ?_))
 refine L_buildSlice (pv := [(0, .string (⟨#[102, 105, 108, 101]⟩)), (1, .string (⟨cs.toArray⟩)), (2, .string (⟨(digI (ss.length : Int)).toArray⟩))]) (cs := [.string (⟨#[102, 105, 108, 101]⟩), .string (⟨cs.toArray⟩), .string (⟨(digI (ss.length : Int)).toArray⟩)]) slc59 zer9 rfl rfl (by kernel_rfl) rfl ?_
 intro g2 w4 eg2 hb2 hs4 hz3
 have ge2 : w.heap.size ≤ g2 := eg_ge hB eg2
 have lt1 : g1 < g2 := lt_of_eg hb1.lt eg2
 replace hB := gb_tr hB hs4; replace hS := hS.gb hs4; replace hb1 := hb1.gb hs4
 refine L_nil (N_then ⟨fun hN_ => ⟨hb1, trivial⟩, ?_⟩)
 refine T_all (rs := [7]) (by kernel_rfl) rfl (all1 (O_one rfl ?_))
 have hjl_ := (show (Go.Lib.join ([([102, 105, 108, 101] : List UInt8), cs, (digI (ss.length : Int))]) [32]).length ≤ 140737488355328 by exact Nat.le_trans (fline_len hn) (by omega))
 refine L_call rfl cb21 (line_ok (xs := [([102, 105, 108, 101] : List UInt8), cs, (digI (ss.length : Int))]) (Blk.sli (m := 0) hb2) (by simp) (by have h_ := (segT_ok (ss := ss)).2; simp only [List.length_append, List.length_cons, List.length_nil]; omega) hjl_) rfl ?_
 rintro _ w5 ⟨hs5, rfl⟩
 replace hB := gb_tr hB hs5; replace hS := hS.gb hs5; replace hb1 := hb1.gb hs5; replace hb2 := hb2.gb hs5
 refine L_nil (N_then ⟨fun hN_ => ⟨hb1, trivial⟩, ?_⟩)
 refine T_all (rs := [8]) (by kernel_rfl) rfl (all1 (O_one rfl ?_))
 refine L_buildSlice (pv := [(0, .string (⟨(Go.Lib.join ([([102, 105, 108, 101] : List UInt8), cs, (digI (ss.length : Int))]) [32]).toArray⟩))]) (cs := [.string (⟨(Go.Lib.join ([([102, 105, 108, 101] : List UInt8), cs, (digI (ss.length : Int))]) [32]).toArray⟩)]) slc59 zer9 rfl rfl (by kernel_rfl) rfl ?_
 intro g3 w6 eg3 hb3 hs6 hz4
 have ge3 : w.heap.size ≤ g3 := eg_ge hB eg3
 have lt2 : g1 < g3 := lt_of_eg hb1.lt eg3
 have lt3 : g2 < g3 := lt_of_eg hb2.lt eg3
 replace hB := gb_tr hB hs6; replace hS := hS.gb hs6; replace hb1 := hb1.gb hs6; replace hb2 := hb2.gb hs6
 refine L_nil (N_then ⟨fun hN_ => ⟨hb1, trivial⟩, ?_⟩)
 refine T_tk (i := 9) rfl (Y_of (fun _ _ => R_assign rfl)) ⟨hb1, trivial⟩ rfl ?_
 refine T_done (by kernel_rfl) (CalmE.normal ?_)
 refine N_then (C_seq (C_seq (C_reg rfl ?_)))
 refine L_run (R_field (r := 0) rfl fld28_0 rfl) rfl (L_run (R_load1 rfl scl9 (hb1.cell (i := 0) rfl)) rfl ?_)
 refine L_call rfl cb23 (name_Parse (cs := cs) (by omega)) rfl ?_
 rintro _ w7 ⟨hs7, rfl⟩
 replace hB := gb_tr hB hs7; replace hS := hS.gb hs7; replace hb1 := hb1.gb hs7; replace hb2 := hb2.gb hs7; replace hb3 := hb3.gb hs7
 refine Lmv rfl rfl (L_run (R_extract rfl rfl) rfl (L_run (R_extract rfl rfl) rfl (Las rfl rfl (Las rfl rfl (L_nil (N_then (C_seq (C_reg rfl (Lmv rfl rfl (L_run (R_eql rfl rfl) rfl (L_nil (N_then (C_if rfl (fun h1 => ?_) (fun h1 => ?_))))))))))))))
 ·refine C_reg rfl ?_
  refine Lmv rfl rfl (L_run (R_field (r := 1) rfl fld28_1 rfl) rfl (L_run (R_load1 rfl scl26 (hb1.cell (i := 1) rfl)) rfl ?_))
  have ge4 : w.heap.size ≤ w7.heap.size := hB.size
  refine L_call rfl cb24 (segment_ok (ss := ss) hS hc (hT.gb hB)) rfl ?_
  rintro _ w8 ⟨hs8, A_1, c_1, rfl, ho1⟩
  replace hB := gb_tr hB hs8; replace hb2 := hb2.gb hs8; replace hb3 := hb3.gb hs8
  have hlo1 : w7.heap.size ≤ w8.heap.size := hs8.size
  have hlo2 : g3 ≤ w8.heap.size := Nat.le_of_lt hb3.lt
  have ho2 : World.ownsRow w8 g3 9 1 (.slice (some ⟨g3, 0, none⟩) ([(Go.Lib.join ([([102, 105, 108, 101] : List UInt8), cs, (digI (ss.length : Int))]) [32])] : List (List UInt8)).length 1) ([(Go.Lib.join ([([102, 105, 108, 101] : List UInt8), cs, (digI (ss.length : Int))]) [32])] : List (List UInt8)).length (fl encW [(Go.Lib.join ([([102, 105, 108, 101] : List UInt8), cs, (digI (ss.length : Int))]) [32])]) := Blk.own (sz := 1) (m := 1) hb3 (by decide) rfl (Nat.le_refl _)
  have hap1 : ∀ k_, (Value.slice (some ⟨g3, 0, none⟩) ([(Go.Lib.join ([([102, 105, 108, 101] : List UInt8), cs, (digI (ss.length : Int))]) [32])] : List (List UInt8)).length 1).ownBlock = some k_ → k_ ≠ g2 := fun k_ hk => by (have h_ : some g3 = some k_ := hk); injection h_; omega
  refine T_append (xs := [(Go.Lib.join ([([102, 105, 108, 101] : List UInt8), cs, (digI (ss.length : Int))]) [32])]) (ys := (segT ss)) EncW slc59 rfl rfl ho2 (own_of ho1).2.2 (by have h_ := (segT_ok (ss := ss)).2; simp only [List.length_cons, List.length_nil]; omega) hlo2 rfl ?_
  intro A_2 c_2 w9 ho3 hs9 hat1
  have lt4 := hb2.lt
  replace hB := gb_tro hB ho2 hs9 ge3
  have hap2 : ∀ k_, (Value.slice A_2 (([(Go.Lib.join ([([102, 105, 108, 101] : List UInt8), cs, (digI (ss.length : Int))]) [32])]) ++ (segT ss)).length c_2).ownBlock = some k_ → k_ ≠ g2 := fun k_ hk => by rcases hat1 with h_ | h_ <;> rw [h_] at hk <;> first | exact hap1 k_ hk | (injection hk with hk; omega)
  refine Las rfl rfl (L_nil (N_then (C_seq (C_reg rfl (Lmv rfl rfl ?_)))))
  have hjl_ := (show (Go.Lib.join (([(Go.Lib.join ([([102, 105, 108, 101] : List UInt8), cs, (digI (ss.length : Int))]) [32])]) ++ (segT ss)) ([10] : List UInt8)).length ≤ 140737488355328 by first | exact Nat.le_trans (jn_sz hcs hn (l := []) (by simp) (by simp)) (by decide) | exact Nat.le_trans (jn_sz hcs hn segT_ok.1 segT_ok.2) (by decide))
  refine L_call rfl cb25 (join_ok (xs := ([(Go.Lib.join ([([102, 105, 108, 101] : List UInt8), cs, (digI (ss.length : Int))]) [32])]) ++ (segT ss)) (sep := ([10] : List UInt8)) (own_of ho3).2.2 (own_of ho3).1 (by have h_ := (segT_ok (ss := ss)).2; simp only [List.length_append, List.length_cons, List.length_nil]; omega) hjl_) rfl ?_
  rintro _ w10 ⟨hs10, rfl⟩
  replace hB := gb_tr hB hs10
  refine L_run (R_eqv (R_addS rfl rfl (by rw [ba_size, ba_size]; have h_ := fun (x : List (List UInt8)) (h1 : ∀ y ∈ x, y.length ≤ 200) (h2 : x.length ≤ 835) => jn_sz hcs hn h1 h2; first | (have h2_ := h_ [] (by simp) (by simp); simp only [List.length_cons, List.length_nil]; omega) | (have h2_ := h_ (segT ss) segT_ok.1 segT_ok.2; simp only [List.length_cons, List.length_nil, List.cons_append, List.nil_append]; omega))) (v' := .string ⟨((Go.Lib.join (([(Go.Lib.join ([([102, 105, 108, 101] : List UInt8), cs, (digI (ss.length : Int))]) [32])]) ++ (segT ss)) ([10] : List UInt8)) ++ [10]).toArray⟩) (congrArg _ (ba_app _ _).symm)) rfl ?_
  refine Las rfl rfl (L_nil (N_then (C_ret ?_)))
  refine ret1 Tryd.results8 rfl ?_
  rw [show ((Go.Lib.join (([(Go.Lib.join ([([102, 105, 108, 101] : List UInt8), cs, (digI (ss.length : Int))]) [32])]) ++ (segT ss)) ([10] : List UInt8)) ++ [10]) = fileS cs ss by unfold fileS; rw [if_pos h1]; rfl]; exact ⟨hB, rfl⟩
 ·refine C_skip (N_then (C_seq (C_reg rfl ?_)))
  refine Lmv rfl rfl ?_
  have hjl_ := (show (Go.Lib.join ([(Go.Lib.join ([([102, 105, 108, 101] : List UInt8), cs, (digI (ss.length : Int))]) [32])]) ([10] : List UInt8)).length ≤ 140737488355328 by first | exact Nat.le_trans (jn_sz hcs hn (l := []) (by simp) (by simp)) (by decide) | exact Nat.le_trans (jn_sz hcs hn segT_ok.1 segT_ok.2) (by decide))
  refine L_call rfl cb25 (join_ok (xs := [(Go.Lib.join ([([102, 105, 108, 101] : List UInt8), cs, (digI (ss.length : Int))]) [32])]) (sep := ([10] : List UInt8)) (Blk.sli (m := 0) hb3) (by simp) (by have h_ := (segT_ok (ss := ss)).2; simp only [List.length_append, List.length_cons, List.length_nil]; omega) hjl_) rfl ?_
  rintro _ w11 ⟨hs11, rfl⟩
  replace hB := gb_tr hB hs11
  refine L_run (R_eqv (R_addS rfl rfl (by rw [ba_size, ba_size]; have h_ := fun (x : List (List UInt8)) (h1 : ∀ y ∈ x, y.length ≤ 200) (h2 : x.length ≤ 835) => jn_sz hcs hn h1 h2; first | (have h2_ := h_ [] (by simp) (by simp); simp only [List.length_cons, List.length_nil]; omega) | (have h2_ := h_ (segT ss) segT_ok.1 segT_ok.2; simp only [List.length_cons, List.length_nil, List.cons_append, List.nil_append]; omega))) (v' := .string ⟨((Go.Lib.join ([(Go.Lib.join ([([102, 105, 108, 101] : List UInt8), cs, (digI (ss.length : Int))]) [32])]) ([10] : List UInt8)) ++ [10]).toArray⟩) (congrArg _ (ba_app _ _).symm)) rfl ?_
  refine Las rfl rfl (L_nil (N_then (C_ret ?_)))
  refine ret1 Tryd.results8 rfl ?_
  rw [show ((Go.Lib.join ([(Go.Lib.join ([([102, 105, 108, 101] : List UInt8), cs, (digI (ss.length : Int))]) [32])]) ([10] : List UInt8)) ++ [10]) = fileS cs ss by unfold fileS; rw [if_neg h1]; rfl]; exact ⟨hB, rfl⟩
end Go.Proofs.YtkjgjejkfjhcjaaDoor
namespace Go.Proofs.YtkjgjejkfjhcjaaDoor
open Go.RowKit Gw Pl
set_option linter.unusedVariables false
set_option linter.unusedSimpArgs false
def DeepFl (hi : Nat) (w : World) (l : List FilD) : Prop := ∀ y ∈ l, Sli 0 0 hi w y.a (fl encX y.ss)
theorem DeepFl.gb {hi : Nat} {w w' : World} {l : List FilD} (h : DeepFl hi w l) (hg : w.grownBy w' none) : DeepFl hi w' l := fun y hy => (h y hy).gb hg
theorem DeepFl.old {hi : Nat} {w w' : World} {l : List FilD} {g : Nat} (h : DeepFl hi w l) (hg : w.grownBy w' (some g)) (hr : hi ≤ g) : DeepFl hi w' l := fun y hy => (h y hy).old hg hr
theorem DeepFl.own {hi : Nat} {w w' : World} {l : List FilD} {base t sz m : Nat} {v : Value} {us : List Value} (h : DeepFl hi w l) (ho : w.ownsRow base t sz v m us) (hb : hi ≤ base) (hg : w.grownBy w' v.ownBlock) : DeepFl hi w' l := fun y hy => (h y hy).grown hg (fun k hk => .inr (Nat.le_trans hb (World.ownsRow.lt ho k hk).1))
theorem DeepFl.below {hi B : Nat} {w w' : World} {l : List FilD} (h : DeepFl hi w l) (hh : hi ≤ B) (hb : Below B w w') : DeepFl hi w' l := fun y hy => (h y hy).below hh hb
theorem DeepFl.getS {hi : Nat} {w : World} {l : List FilD} (h : DeepFl hi w l) {i : Nat} (hi' : i < l.length) : Sli 0 0 hi w l[i].a (fl encX l[i].ss) := h _ (List.getElem_mem _)
theorem DeepFl.top {hi : Nat} {w : World} {l : List FilD} (h : DeepFl hi w l) : DeepFl w.heap.size w l := fun y hy => (h y hy).top
def OkFl (f : FilD) : Prop := f.name.length ≤ 100000 ∧ f.ss.length ≤ 1000000 ∧ f.ss.length ≤ f.c
def GoodFl (W : World) (f : FilD) : Prop := Sli 0 0 W.heap.size W f.a (fl encX f.ss) ∧ f.ss.length ≤ f.c
def FewF (l : List FilD) : Prop := (∀ f ∈ l, f.ss.length ≤ 20 ∧ f.name.length ≤ 100) ∧ l.length ≤ 20
instance {l : List FilD} : Decidable (FewF l) := by unfold FewF; infer_instance
theorem fewf_succ {l : List FilD} {i : Nat} (h : ∀ f ∈ l.take i, f.ss.length ≤ 20 ∧ f.name.length ≤ 100) (hi : i < l.length) (h2 : l[i].ss.length ≤ 20 ∧ l[i].name.length ≤ 100) : ∀ f ∈ l.take (i + 1), f.ss.length ≤ 20 ∧ f.name.length ≤ 100 := by
  intro f hf
  rw [List.take_succ_eq_append_getElem hi, List.mem_append, List.mem_singleton] at hf
  rcases hf with hf | rfl
  · exact h f hf
  · exact h2
theorem fewf_ok {W : World} {l : List FilD} (h : FewF l) (hg : ∀ f ∈ l, GoodFl W f) : ∀ f ∈ l, OkFl f := fun f hf => by
  have h1 := h.1 f hf
  exact ⟨by omega, by omega, (hg f hf).2⟩
def filF (f : FilD) : List UInt8 := fileS f.name f.ss
theorem filF_len {fs : List FilD} (h : ∀ f ∈ fs, OkFl f) : ∀ f ∈ fs, (filF f).length ≤ 400000 := fun f hf => fileL_len (h f hf).1 (h f hf).2.1
theorem text_ok {w : World} {t1 lo hi : Nat} {A : Option Addr} {c : Nat} {fs : List FilD} (hS : Sli t1 lo hi w A (fl encF fs)) (hD : DeepFl w.heap.size w fs) (hT : Tbw w) (hfl : fs.length ≤ 1000) (hok : ∀ f ∈ fs, OkFl f) :
    Runs Tryd.prog 9 #[.slice A fs.length c] w (fun v w' => w.grownBy w' none ∧ v = .string ⟨(textT filF fs).toArray⟩) := by
 have hB := gb_refl w none
 have hlens : ∀ f ∈ fs, (filF f).length ≤ 400000 := filF_len hok
 replace hS := hS.top
 refine enter Tryd.func9 Tryd.ntmps9 rfl rfl ?_
 refine C_seq (C_reg rfl ?_)
 refine Las rfl rfl (L_nil (N_then (C_seq (C_reg rfl (L_alloc (cs := [.pointer none, .slice none 0 0]) zer64 rfl rfl ?_)))))
 intro g1 w1 eg1 hb1 hs1 hz1
 have ge1 : w.heap.size ≤ g1 := eg_ge hB eg1
 replace hB := gb_tr hB hs1; replace hS := hS.gb hs1; replace hD := hD.gb hs1
 refine L_nil (N_then (C_seq (C_seq (C_reg rfl (Lmv rfl rfl (L_run (R_lenSl rfl slc22) rfl (Lmv rfl rfl (L_nil (N_then (C_block ?_))))))))))
 have hbd0_ := BldF.fresh w.heap.size hb1 ge1 hB.size
 refine C_loop (fun m_ a_ w_ => ∃ (σ_ : Nat → Value) (i : Nat), a_ = Ac 17 σ_ [] [(3, .pointer (some ⟨g1, 0, none⟩)), (6, .slice A fs.length c), (7, .int .i64 (fs.length : Int)), (8, .int .i64 (i : Int))] ∧ w.grownBy w_ none ∧ Sli t1 lo w.heap.size w_ A (fl encF fs) ∧ DeepFl w.heap.size w_ fs ∧ BldF w_ w.heap.size g1 (textT filF (fs.take i)) ∧ (i ≤ fs.length) ∧ fs.length - i = m_) (fs.length - 0) ?_ ?_
 ·exact ⟨_, 0, Ac_frg ⟨rfl, rfl, rfl, (agx rfl), trivial⟩, hB, hS, hD, hbd0_, (by omega), rfl⟩
 ·clear hB
  clear hS hD hb1
  rintro m_ a_ w2 ⟨σ_, i, rfl, hB, hS, hD, hbd, hi, rfl⟩
  refine C_seq (C_reg rfl ?_)
  refine L_run (R_lss rfl rfl) rfl ?_
  refine L_nil (N_then (C_seq (C_if rfl (fun h1 => ?_) (fun h1 => ?_))))
  ·refine C_skip (N_then (C_seq (C_block (C_seq (C_reg rfl ?_)))))
   have hlk : i < fs.length := by first | omega | (simp; omega)
   refine T_index (xs := fs) (i := i) EncF rfl rfl (by first | rfl | omega) slc22 hlk hS rfl ?_
   intro g2 o1 ha1
   refine L_run (R_loadA (vs := [.string (⟨((fs[i]).name).toArray⟩), .slice ((fs[i]).a) ((fs[i]).ss.length) ((fs[i]).c)]) rfl agg28 (At.pre ha1 rfl) rfl) rfl (L_alloc (cs := [.string (⟨#[]⟩), .slice none 0 0]) zer28 rfl rfl ?_)
   intro g3 w3 eg2 hb2 hs2 hz2
   have ge2 : w.heap.size ≤ g3 := eg_ge hB eg2
   replace hB := gb_tr hB hs2; replace hS := hS.gb hs2; replace hD := hD.gb hs2; replace hbd := hbd.gb hs2
   refine L_stA (vs := [.string (⟨((fs[i]).name).toArray⟩), .slice ((fs[i]).a) ((fs[i]).ss.length) ((fs[i]).c)]) rfl rfl rfl sz28 rfl hb2 rfl ?_
   intro w4 hb3 hs3 hz3
   replace hB := gb_trg hB hs3 ge2; replace hS := hS.old hs3 ge2; replace hD := hD.old hs3 ge2; replace hbd := hbd.other hb2 rfl rfl hs3
   refine L_nil (N_then (C_reg rfl (L_run (R_loadA (vs := [.string (⟨((fs[i]).name).toArray⟩), .slice ((fs[i]).a) ((fs[i]).ss.length) ((fs[i]).c)]) rfl agg28 (At.pre (hb3.at_ 0) rfl) rfl) rfl ?_)))
   refine L_call rfl cb8 (file_ok (cs := ((fs[i]).name)) (ss := (fs[i]).ss) (hD.getS (i := i) (by first | assumption | omega | (simp; omega))) (hok _ (List.getElem_mem hlk)).2.2 (hok _ (List.getElem_mem hlk)).1 (hok _ (List.getElem_mem hlk)).2.1 (hT.gb hB)) rfl ?_
   rintro _ w5 ⟨hs4, rfl⟩
   replace hB := gb_tr hB hs4; replace hS := hS.gb hs4; replace hD := hD.gb hs4; replace hbd := hbd.gb hs4
   have hwl_ := (show (textT filF (fs.take i)).length + (filF fs[i]).length ≤ 140737488355328 from by have h1_ := textT_len hlens i; have h2_ := hlens _ (List.getElem_mem hlk); omega)
   refine L_call rfl cb26 (wstr_ok (b := g1) (l := (textT filF (fs.take i))) (x := (fileS ((fs[i]).name) ((fs[i]).ss))) hbd hwl_) rfl ?_
   rintro _ w6 ⟨hs5, rfl, hbd1⟩
   replace hB := below_gb ((gb_below hB).trans hs5); replace hS := hS.below (Nat.le_refl _) hs5; replace hD := hD.below (Nat.le_refl _) hs5
   refine L_nil (N_in (N_then (C_reg rfl ?_)))
   refine L_run (R_add64 rfl rfl (by omega)) rfl ?_
   refine Lmv rfl rfl (L_nil (N_then ?_))
   have hts_ := textT_succ (F := filF) hlk
   exact ⟨fs.length - (i + 1), by omega, _, (i + 1), Ac_frg ⟨rfl, rfl, rfl, (agx rfl), trivial⟩, hB, hS, hD, (by rw [hts_]; exact hbd1), (by omega), rfl⟩
  ·refine C_exit (X_then (X_then (X_hit (N_then (C_seq (C_reg rfl ?_))))))
   refine L_call rfl cb27 (bstr_ok (b := g1) (l := (textT filF (fs.take i))) hbd) rfl ?_
   rintro _ w7 ⟨hs6, rfl⟩
   replace hB := below_gb ((gb_below hB).trans hs6)
   refine Las rfl rfl (L_nil (N_then (C_ret ?_)))
   refine ret1 Tryd.results9 rfl ?_
   rw [List.take_of_length_le (by omega)]; exact ⟨hB, rfl⟩
theorem few48 {w : World} {t1 lo hi : Nat} {A : Option Addr} {c : Nat} {l : List FilD} (hS : Sli t1 lo hi w A (fl encF l)) (hl : l.length ≤ 140737488351232) :
    Runs Tryd.prog 5 #[.slice A l.length c] w (fun v w' => w.grownBy w' none ∧ v = .bool (decide (FewF l))) := by
 have hB := gb_refl w none
 replace hS := hS.top
 refine enter Tryd.func5 Tryd.ntmps5 rfl rfl ?_
 refine C_seq (C_reg rfl ?_)
 refine Las rfl rfl (L_nil (N_then (C_seq (C_seq (C_reg rfl (Las rfl rfl (L_nil (N_then (C_block ?_)))))))))
 refine C_loop (fun m_ a_ w_ => ∃ (σ_ : Nat → Value) (i : Nat), a_ = Ac 29 σ_ [] [(0, .slice A l.length c), (2, .bool false), (3, .int .i64 (i : Int))] ∧ w.grownBy w_ none ∧ Sli t1 lo w.heap.size w_ A (fl encF l) ∧ (i ≤ l.length) ∧ (∀ f ∈ l.take i, f.ss.length ≤ 20 ∧ f.name.length ≤ 100) ∧ l.length - i = m_) (l.length - 0) ?_ ?_
 ·exact ⟨_, 0, Ac_frg ⟨rfl, rfl, (agx rfl), trivial⟩, hB, hS, (by omega), (by intro g hg; simp at hg), rfl⟩
 ·clear hB
  clear hS
  rintro m_ a_ w1 ⟨σ_, i, rfl, hB, hS, hk, hg_, rfl⟩
  refine C_seq (C_seq (C_reg rfl ?_))
  refine Lmv rfl rfl (Lmv rfl rfl (L_run (R_lenSl rfl slc22) rfl (L_run (R_lss rfl rfl) rfl (L_nil (N_then (C_if rfl (fun h1 => ?_) (fun h1 => ?_)))))))
  ·refine C_skip (N_then (C_seq (C_block (C_seq (C_reg rfl ?_)))))
   refine Lmv rfl rfl (Lmv rfl rfl ?_)
   have hli : i < l.length := by first | omega | (simp; omega)
   refine T_index (xs := l) (i := i) EncF rfl rfl (by first | rfl | omega) slc22 hli hS rfl ?_
   intro g1 o1 ha1
   refine L_run (R_field rfl fld28_1 rfl) rfl (L_run (R_load1 rfl scl26 (ha1 1 _ rfl)) rfl (L_run (R_lenSl rfl slc26) rfl (L_run (R_gtr rfl rfl) rfl (Lmv rfl rfl ?_))))
   refine L_splitD (p := 20 < ((l[i]).ss.length : Int)) (fun h2 => ?_) (fun h2 => ?_)
   ·refine L_no rfl rfl rfl (decide_eq_true h2) rfl (L_no rfl rfl rfl (decide_eq_true h2) rfl (L_no rfl rfl rfl (decide_eq_true h2) rfl (L_no rfl rfl rfl (decide_eq_true h2) rfl (L_no rfl rfl rfl (decide_eq_true h2) rfl (L_no rfl rfl rfl (decide_eq_true h2) rfl (L_no rfl rfl rfl (decide_eq_true h2) rfl (L_run (R_pickT rfl (decide_eq_true h2) rfl) rfl (L_nil (N_then (C_condT rfl rfl (C_seq (C_reg rfl ?_))))))))))))
    refine Las rfl rfl (L_nil (N_then (C_ret (R_in (R_then (R_then (R_in (R_then ?_))))))))
    refine ret1 Tryd.results5 rfl ?_
    exact ⟨hB, bF (fun h => by have q_ := h.1 _ (List.getElem_mem hli); omega)⟩
   ·refine L_yes rfl rfl rfl (decide_eq_false h2) (Lmv rfl rfl (L_yes rfl rfl rfl (decide_eq_false h2) (Lmv rfl rfl (L_yes rfl rfl rfl (decide_eq_false h2) ?_))))
    have hl2 : i < l.length := by first | omega | (simp; omega)
    refine T_index (xs := l) (i := i) EncF rfl rfl (by first | rfl | omega) slc22 hl2 hS rfl ?_
    intro g2 o2 ha2
    refine L_yes rfl rfl rfl (decide_eq_false h2) (L_run (R_field rfl fld28_0 rfl) rfl (L_yes rfl rfl rfl (decide_eq_false h2) (L_run (R_load1 rfl scl9 (ha2 0 _ rfl)) rfl (L_yes rfl rfl rfl (decide_eq_false h2) ?_))))
    refine L_run (R_eqv (R_lenS rfl str9) (v' := .int .i64 (((l[i]).name).length : Int)) (by rw [ba_size])) rfl ?_
    refine L_yes rfl rfl rfl (decide_eq_false h2) (L_run (R_gtr rfl rfl) rfl (L_run (R_pickF rfl (decide_eq_false h2) rfl) rfl (L_nil (N_then (C_if rfl (fun h3 => ?_) (fun h3 => ?_))))))
    ·refine C_seq (C_reg rfl ?_)
     refine Las rfl rfl (L_nil (N_then (C_ret (R_in (R_then (R_then (R_in (R_then ?_))))))))
     refine ret1 Tryd.results5 rfl ?_
     exact ⟨hB, bF (fun h => by have q_ := h.1 _ (List.getElem_mem hli); omega)⟩
    ·refine C_skip (N_in (N_then (C_reg rfl ?_)))
     refine Lmv rfl rfl ?_
     refine L_run (R_add64 rfl rfl (by omega)) rfl ?_
     refine Las rfl rfl (L_nil (N_then ?_))
     exact ⟨l.length - (i + 1), by omega, _, (i + 1), Ac_frg ⟨rfl, rfl, (agx rfl), trivial⟩, hB, hS, (by omega), (fewf_succ hg_ hli ⟨by omega, by omega⟩), rfl⟩
  ·refine C_exit (X_then (X_then (X_hit (N_then (C_seq (C_reg rfl ?_))))))
   refine Lmv rfl rfl (L_run (R_lenSl rfl slc22) rfl (L_run (R_leq rfl rfl) rfl (Las rfl rfl (L_nil (N_then (C_ret ?_))))))
   refine ret1 Tryd.results5 rfl ?_
   rw [List.take_of_length_le (by omega)] at *
   exact ⟨hB, bD ⟨fun h => ⟨hg_, by omega⟩, fun h => by have := h.2; omega⟩⟩
end Go.Proofs.YtkjgjejkfjhcjaaDoor
namespace Go.Proofs.YtkjgjejkfjhcjaaDoor.Ev
open Go.RowKit Gw
set_option linter.unusedVariables false
set_option linter.unusedSimpArgs false
theorem table_at {P : Program} {W : World} {nm : String} {G t te : Nat} {ks : List Int} (hg : P.globalNamed nm = some G) (ht : (P.globals[G]?).map (·.type) = some t) (hu : P.underlying t = some (.array ks.length te)) (he : P.underlying te = some (.int .u32)) (hc : P.cellsOf te = 1) (hct : P.cellsOf t = ks.length)
    (h : laidMetH P [(nm, .agg (ks.map fun k => .lit (.int .u32 k)))] W) : ∃ T fz, W.heap[G]? = some (.cells (ks.map (Value.int .u32)).toArray T fz) := by
  rw [MakeChecks.laidMetH_plain _ _ _ (by simp [DataW.handleName?])] at h
  obtain ⟨ps, ⟨g0, t0, cs0, f0, p0, q0, hg0, ht0, hv0, hd0, _, _⟩, _, _⟩ := h
  obtain rfl := Option.some.inj (hg.symm.trans hg0)
  obtain rfl := Option.some.inj (ht.symm.trans ht0)
  obtain ⟨xs, m, rfl, hx, hlen, hn, hel⟩ := DataW.trod_array hu hd0
  have hx1 : ks.map (fun k => (DataW.lit (.int .u32 k) : DataW Unit)) = xs.map (·.1) := by
    have := (Prod.mk.inj hx).1
    injection this
  have hcs : cs0.toList = ks.map (Value.int .u32) := by
    apply List.ext_getElem?
    intro i
    by_cases hi : i < ks.length
    · have h1 := hel i hi
      rw [hc, Nat.mul_one] at h1
      have hxi : xs[i]? = some xs[i] := List.getElem?_eq_getElem (by omega)
      rw [hxi] at h1
      obtain ⟨k, e1, e2, _⟩ := DataW.trod_int he h1
      have h2 : (xs.map (·.1))[i]? = some (.lit (.int .u32 k)) := by rw [List.getElem?_map, hxi, e2]; rfl
      rw [← hx1, List.getElem?_map] at h2
      have h3 : ks[i]? = some k := by
        cases hk : ks[i]? with
        | none => rw [hk] at h2; cases h2
        | some k' =>
          rw [hk] at h2
          simp at h2
          rw [h2]
      rw [List.getElem?_map, h3]
      have h4 := congrArg (fun l : List Value => l[0]?) e1
      simp only [List.getElem?_take, List.getElem?_drop] at h4
      simpa using h4
    · rw [List.getElem?_eq_none (by rw [hlen, hct]; omega), List.getElem?_eq_none (by simp; omega)]
  unfold World.var? at hv0
  rw [hg] at hv0
  simp only [Option.bind_some] at hv0
  split at hv0
  · rename_i cs T fz hh
    obtain rfl := Option.some.inj hv0
    refine ⟨T, fz, ?_⟩
    rw [hh, ← hcs]
  · cases hv0
end Go.Proofs.YtkjgjejkfjhcjaaDoor.Ev
