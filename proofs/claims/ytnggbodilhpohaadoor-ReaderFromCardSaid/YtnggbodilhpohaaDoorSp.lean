/-
  Contracts of the package reader: what stands at a place.
-/
import Derived.Test.YtnggbodilhpohaaDoorSo
namespace Go.Proofs.YtnggbodilhpohaaDoor
open Go.RowKit Gw Pl
set_option linter.unusedVariables false
set_option linter.unusedSimpArgs false
theorem cb10 : callB Tryd.prog 10 = true := by kernel_rfl
theorem cb11 : callB Tryd.prog 11 = true := by kernel_rfl
theorem cb20 : callB Tryd.prog 20 = true := by kernel_rfl
theorem cb9 : callB Tryd.prog 9 = true := by kernel_rfl
theorem scl36 : sclB Tryd.prog 36 = true := by kernel_rfl
theorem sz36 : szB Tryd.prog 36 1 = true := by kernel_rfl
theorem zer3 : (Tryd.prog.info? 3).bind (·.zero) = some (.int .i64 0) := by kernel_rfl
theorem zer36 : (Tryd.prog.info? 36).bind (·.zero) = some (.pointer none) := by kernel_rfl
theorem from_in {w : World} {t1 lo hi : Nat} {A : Option Addr} {c e : Nat} {a : Nat} {ss : List Sx} (hS : Sli t1 lo hi w A (fl encX ss)) (he : e < 18446744073709551616) (hT : Tbw w) (ha : a ≤ 832) :
    Runs Tryd.prog 5 #[.int .u64 (e : Int), .slice A ss.length c, .int .i64 (a : Int)] w (fun v w' => w.grownBy w' none ∧ ∃ A' c', v = .tuple #[.slice A' (xb (fromR ss e (a : Int))).length c', .int .i64 ((xe (fromR ss e (a : Int)) : Nat) : Int), .bool ((fromR ss e (a : Int))).isSome] ∧ World.ownsRow w' w.heap.size 5 1 (.slice A' (xb (fromR ss e (a : Int))).length c') (xb (fromR ss e (a : Int))).length (fl encB (xb (fromR ss e (a : Int))))) := by
  have hB := gb_refl w none
  replace hS := hS.top
  refine enterM Tryd.func5 Tryd.ntmps5 rfl rfl ?_
  refine C_seq (C_reg rfl ?_)
  refine L_alloc (cs := [.slice none 0 0]) zer25 rfl rfl ?_
  intro g1 w1 eg1 hb1 hs1 hz1
  have ge1 : w.heap.size ≤ g1 := eg_ge hB eg1
  replace hB := gb_tr hB hs1
  replace hS := hS.gb hs1
  refine L_alloc (cs := [.int .i64 0]) zer3 rfl rfl ?_
  intro g2 w2 eg2 hb2 hs2 hz2
  have ge2 : w.heap.size ≤ g2 := eg_ge hB eg2
  have lt1 : g1 < g2 := lt_of_eg hb1.lt eg2
  replace hB := gb_tr hB hs2
  replace hS := hS.gb hs2
  replace hb1 := hb1.gb hs2
  refine L_alloc (cs := [.bool false]) zer4 rfl rfl ?_
  intro g3 w3 eg3 hb3 hs3 hz3
  have ge3 : w.heap.size ≤ g3 := eg_ge hB eg3
  have lt2 : g1 < g3 := lt_of_eg hb1.lt eg3
  have lt3 : g2 < g3 := lt_of_eg hb2.lt eg3
  replace hB := gb_tr hB hs3
  replace hS := hS.gb hs3
  replace hb1 := hb1.gb hs3
  replace hb2 := hb2.gb hs3
  refine L_nil (N_then (C_seq (C_seq (C_reg rfl ?_))))
  refine L_run (R_move rfl) rfl ?_
  refine L_run (R_lss rfl rfl) rfl ?_
  refine L_run (R_move rfl) rfl ?_
  refine L_yes rfl rfl rfl (decide_eq_false (by omega)) ?_
  refine L_run (R_move rfl) rfl ?_
  refine L_yes rfl rfl rfl (decide_eq_false (by omega)) ?_
  refine L_run (R_gtr rfl rfl) rfl ?_
  refine L_run (R_pickF rfl (decide_eq_false (by omega)) rfl) rfl ?_
  refine L_nil (N_then (C_condF rfl (decide_eq_false (by omega)) (C_skip (N_then (C_seq (C_reg rfl ?_))))))
  have ge4 : w.heap.size ≤ w3.heap.size := hB.size
  refine L_call rfl cb9 (new_ok) rfl ?_
  rintro _ w4 ⟨hs4, g4, hg1, rfl, hb4⟩
  have lt4 : g1 < g4 := Nat.lt_of_lt_of_le hb1.lt hg1
  have lt5 : g2 < g4 := Nat.lt_of_lt_of_le hb2.lt hg1
  have lt6 : g3 < g4 := Nat.lt_of_lt_of_le hb3.lt hg1
  replace hB := gb_tr hB hs4
  replace hS := hS.gb hs4
  replace hb1 := hb1.gb hs4
  replace hb2 := hb2.gb hs4
  replace hb3 := hb3.gb hs4
  refine L_alloc (cs := [.pointer none]) zer36 rfl rfl ?_
  intro g5 w5 eg4 hb5 hs5 hz4
  have ge5 : w.heap.size ≤ g5 := eg_ge hB eg4
  have lt7 : g1 < g5 := lt_of_eg hb1.lt eg4
  have lt8 : g2 < g5 := lt_of_eg hb2.lt eg4
  have lt9 : g3 < g5 := lt_of_eg hb3.lt eg4
  have lt10 : g4 < g5 := lt_of_eg hb4.lt eg4
  replace hB := gb_tr hB hs5
  replace hS := hS.gb hs5
  replace hb1 := hb1.gb hs5
  replace hb2 := hb2.gb hs5
  replace hb3 := hb3.gb hs5
  replace hb4 := hb4.gb hs5
  refine L_st1 rfl rfl rfl sz36 hb5 rfl ?_
  intro w6 hb6 hs6 hz5
  replace hB := gb_trg hB hs6 ge5
  replace hS := hS.old hs6 ge5
  replace hb1 := hb1.grown hs6 (ne_lt lt7)
  replace hb2 := hb2.grown hs6 (ne_lt lt8)
  replace hb3 := hb3.grown hs6 (ne_lt lt9)
  replace hb4 := hb4.grown hs6 (ne_lt lt10)
  refine L_nil (N_then (C_seq (C_seq (C_reg rfl ?_))))
  refine L_run (R_move rfl) rfl ?_
  refine L_run (R_move rfl) rfl ?_
  refine L_run (R_move rfl) rfl ?_
  have ge6 : w.heap.size ≤ w6.heap.size := hB.size
  refine L_call rfl cb10 (each_ok (e := e) (a := a) (ss := ss) hS (by first | omega | (simp; done) | (simp; omega))) rfl ?_
  rintro _ w7 ⟨hs7, ga, gk, gb, ge, gB, gO, ga0, gk0, gb0, ge0, gB0, gO0, l1, l2, l3, l4, l5, rfl, hba, hbk, hbb, hbe, hbB, hbO⟩
  have lt11 : g1 < ga := Nat.lt_of_lt_of_le hb1.lt ga0
  have lt12 : g2 < ga := Nat.lt_of_lt_of_le hb2.lt ga0
  have lt13 : g3 < ga := Nat.lt_of_lt_of_le hb3.lt ga0
  have lt14 : g4 < ga := Nat.lt_of_lt_of_le hb4.lt ga0
  have lt15 : g5 < ga := Nat.lt_of_lt_of_le hb6.lt ga0
  have lt16 : g1 < gk := Nat.lt_of_lt_of_le hb1.lt gk0
  have lt17 : g2 < gk := Nat.lt_of_lt_of_le hb2.lt gk0
  have lt18 : g3 < gk := Nat.lt_of_lt_of_le hb3.lt gk0
  have lt19 : g4 < gk := Nat.lt_of_lt_of_le hb4.lt gk0
  have lt20 : g5 < gk := Nat.lt_of_lt_of_le hb6.lt gk0
  have lt21 : g1 < gb := Nat.lt_of_lt_of_le hb1.lt gb0
  have lt22 : g2 < gb := Nat.lt_of_lt_of_le hb2.lt gb0
  have lt23 : g3 < gb := Nat.lt_of_lt_of_le hb3.lt gb0
  have lt24 : g4 < gb := Nat.lt_of_lt_of_le hb4.lt gb0
  have lt25 : g5 < gb := Nat.lt_of_lt_of_le hb6.lt gb0
  have lt26 : g1 < ge := Nat.lt_of_lt_of_le hb1.lt ge0
  have lt27 : g2 < ge := Nat.lt_of_lt_of_le hb2.lt ge0
  have lt28 : g3 < ge := Nat.lt_of_lt_of_le hb3.lt ge0
  have lt29 : g4 < ge := Nat.lt_of_lt_of_le hb4.lt ge0
  have lt30 : g5 < ge := Nat.lt_of_lt_of_le hb6.lt ge0
  have lt31 : g1 < gB := Nat.lt_of_lt_of_le hb1.lt gB0
  have lt32 : g2 < gB := Nat.lt_of_lt_of_le hb2.lt gB0
  have lt33 : g3 < gB := Nat.lt_of_lt_of_le hb3.lt gB0
  have lt34 : g4 < gB := Nat.lt_of_lt_of_le hb4.lt gB0
  have lt35 : g5 < gB := Nat.lt_of_lt_of_le hb6.lt gB0
  have lt36 : g1 < gO := Nat.lt_of_lt_of_le hb1.lt gO0
  have lt37 : g2 < gO := Nat.lt_of_lt_of_le hb2.lt gO0
  have lt38 : g3 < gO := Nat.lt_of_lt_of_le hb3.lt gO0
  have lt39 : g4 < gO := Nat.lt_of_lt_of_le hb4.lt gO0
  have lt40 : g5 < gO := Nat.lt_of_lt_of_le hb6.lt gO0
  replace hB := gb_tr hB hs7
  replace hS := hS.gb hs7
  replace hb1 := hb1.gb hs7
  replace hb2 := hb2.gb hs7
  replace hb3 := hb3.gb hs7
  replace hb4 := hb4.gb hs7
  replace hb6 := hb6.gb hs7
  refine L_nil (N_then (C_block ?_))
  refine W_frg (l' := [(6, .pointer (some ⟨g1, 0, none⟩)), (7, .pointer (some ⟨g2, 0, none⟩)), (8, .pointer (some ⟨g3, 0, none⟩)), (9, .pointer (some ⟨g5, 0, none⟩)), (25, .func (.func 20) #[] #[.pointer (some ⟨ga, 0, none⟩), .pointer (some ⟨gk, 0, none⟩), .pointer (some ⟨gb, 0, none⟩), .pointer (some ⟨ge, 0, none⟩)])]) ⟨rfl, rfl, rfl, rfl, rfl, trivial⟩ (fun σ9 => ?_)
  refine C_range2 (fs := []) (cs := [.pointer (some ⟨ga, 0, none⟩), .pointer (some ⟨gk, 0, none⟩), .pointer (some ⟨gb, 0, none⟩), .pointer (some ⟨ge, 0, none⟩)]) rfl cb20 (fun fn9 D L w8 rec hrec eD eL hD hL hs8 => ?_)
  have gD : w.heap.size ≤ D := eg_ge hB eD
  have gL : w.heap.size ≤ L := by have := hB.size; omega
  replace hB := gb_tr hB hs8
  replace hS := hS.gb hs8
  replace hb1 := hb1.gb hs8
  replace hb2 := hb2.gb hs8
  replace hb3 := hb3.gb hs8
  replace hb4 := hb4.gb hs8
  replace hb6 := hb6.gb hs8
  replace hba := hba.gb hs8
  replace hbk := hbk.gb hs8
  replace hbb := hbb.gb hs8
  replace hbe := hbe.gb hs8
  replace hbB := hbB.gb hs8
  replace hbO := hbO.gb hs8
  have hJ0 : (fun w_ => Blk w_ g1 25 [.slice none 0 0] ∧ Blk w_ g2 3 [.int .i64 0] ∧ Blk w_ g3 4 [.bool false] ∧ Blk w_ g5 36 [.pointer (some ⟨g4, 0, none⟩)] ∧ LpF w_ D (.deferred (some []))) w8 := ⟨hb1, hb2, hb3, hb6, hD⟩
  have hDa : ∀ b_ : Nat, b_ < D → some D ≠ some b_ := fun b_ h_ => by intro e_; injection e_; omega
  have hba8 := hba
  refine (each1 (L := L) (rec := rec) (J := fun w_ => Blk w_ g1 25 [.slice none 0 0] ∧ Blk w_ g2 3 [.int .i64 0] ∧ Blk w_ g3 4 [.bool false] ∧ Blk w_ g5 36 [.pointer (some ⟨g4, 0, none⟩)] ∧ LpF w_ D (.deferred (some []))) (Stop := fun w_ => (fromN e (flatB (bsOf ss) e 16) (flatO (bsOf ss) e 16) 833 a false [] = none ∧ LpF w_ L (recSt rec .done (some (.exit 0))) ∧ LpF w_ D (.deferred (some [])) ∧ Blk w_ g1 25 [.slice none 0 0] ∧ Blk w_ g2 3 [.int .i64 0] ∧ Blk w_ g3 4 [.bool false]) ∨ (∃ d9 n9, fromN e (flatB (bsOf ss) e 16) (flatO (bsOf ss) e 16) 833 a false [] = some (d9, n9) ∧ LpF w_ L (recSt rec .done (some .ret)) ∧ LpF w_ D (.deferred (some [])) ∧ ∃ A9 c9, Blk w_ g1 25 [.slice A9 d9.length c9] ∧ Blk w_ g2 3 [.int .i64 ((n9 : Nat) : Int)] ∧ Blk w_ g3 4 [.bool true] ∧ World.ownsRow w_ w.heap.size 5 1 (.slice A9 d9.length c9) d9.length (fl encB d9))) (X := fromN e (flatB (bsOf ss) e 16) (flatO (bsOf ss) e 16) 833 a false []) (e := e) (a0 := a) (fu0 := 833) (o0 := false) (A0 := none) (c0 := 0) (bs0 := []) hB hT (Nat.le_trans ge4 hg1) (Nat.le_trans ge6 ga0) (Nat.le_trans ge6 gk0) (Nat.le_trans ge6 gb0) (Nat.le_trans ge6 ge0) (Nat.le_trans ge6 gB0) (Nat.le_trans ge6 gO0) l1 l2 l3 l4 l5 lt14 flatB_n flatO_n ⟨hba, hbk, hbb, hbe, hbB, hbO⟩ hL hb4 (own_nil _ _ _ _) hJ0 (by decide) ha rfl (by omega) ?_ ?_ ?_).mono ?_
  · rintro w_ w2_ ⟨hjs_, hjt_, hju_, hjv_, hD⟩ hs_
    exact ⟨hjs_.gb hs_, hjt_.gb hs_, hju_.gb hs_, hjv_.gb hs_, hD.gb hs_⟩
  · rintro w_ w2_ g_ t_ cs_ ⟨hjs_, hjt_, hju_, hjv_, hD⟩ hb_ hg_ hs_
    exact ⟨hjs_.grown hs_ (ne_lt (by omega)), hjt_.grown hs_ (ne_lt (by omega)), hju_.grown hs_ (ne_lt (by omega)), hjv_.grown hs_ (ne_lt (by omega)), hD.blk hb_ hs_⟩
  · intro w7 a7 fu7 k7 n7 o7 bs7 d7 A7 A8 c7 c8 E7 hB hL hJ hE hbj ho hod hac hn7 han hd7 hbs7 hX7 hfu7
    obtain ⟨hba, hbk, hbb, hbe, hbB, hbO⟩ := hE
    obtain ⟨hc6, hc7, hc8, hc9, hD⟩ := hJ
    subst hrec
    refine yield_round2 hL rfl rfl ?_
    refine C_seq (C_reg rfl ?_)
    refine L_alloc (cs := [.int .i64 0, .int .u32 0, .slice none 0 0]) zer43 rfl rfl ?_
    intro g6 w8 eg5 hb7 hs8 hz6
    have ge7 : w.heap.size ≤ g6 := eg_ge hB eg5
    have lt41 : ga < g6 := lt_of_eg hba.lt eg5
    have lt42 : gk < g6 := lt_of_eg hbk.lt eg5
    have lt43 : gb < g6 := lt_of_eg hbb.lt eg5
    have lt44 : ge < g6 := lt_of_eg hbe.lt eg5
    have lt45 : gB < g6 := lt_of_eg hbB.lt eg5
    have lt46 : gO < g6 := lt_of_eg hbO.lt eg5
    have lt47 : g4 < g6 := lt_of_eg hbj.lt eg5
    have lt48 : g1 < g6 := lt_of_eg hc6.lt eg5
    have lt49 : g2 < g6 := lt_of_eg hc7.lt eg5
    have lt50 : g3 < g6 := lt_of_eg hc8.lt eg5
    have lt51 : g5 < g6 := lt_of_eg hc9.lt eg5
    replace hB := gb_tr hB hs8
    replace hba := hba.gb hs8
    replace hbk := hbk.gb hs8
    replace hbb := hbb.gb hs8
    replace hbe := hbe.gb hs8
    replace hbB := hbB.gb hs8
    replace hbO := hbO.gb hs8
    replace hbj := hbj.gb hs8
    replace ho := own_gb ho hs8
    replace hod := own_gb hod hs8
    replace hc6 := hc6.gb hs8
    replace hc7 := hc7.gb hs8
    replace hc8 := hc8.gb hs8
    replace hc9 := hc9.gb hs8
    replace hD := hD.gb hs8
    replace hL := hL.gb hs8
    refine L_stA (vs := [.int .i64 (k7 : Int), .int .u32 E7, .slice A8 d7.length c8]) rfl rfl rfl sz43 rfl hb7 rfl ?_
    intro w9 hb8 hs9 hz7
    replace hB := gb_trg hB hs9 ge7
    replace hba := hba.grown hs9 (ne_lt lt41)
    replace hbk := hbk.grown hs9 (ne_lt lt42)
    replace hbb := hbb.grown hs9 (ne_lt lt43)
    replace hbe := hbe.grown hs9 (ne_lt lt44)
    replace hbB := hbB.grown hs9 (ne_lt lt45)
    replace hbO := hbO.grown hs9 (ne_lt lt46)
    replace hbj := hbj.grown hs9 (ne_lt lt47)
    replace ho := own_other ho hb7 rfl hs9
    replace hod := own_other hod hb7 rfl hs9
    replace hc6 := hc6.grown hs9 (ne_lt lt48)
    replace hc7 := hc7.grown hs9 (ne_lt lt49)
    replace hc8 := hc8.grown hs9 (ne_lt lt50)
    replace hc9 := hc9.grown hs9 (ne_lt lt51)
    replace hD := hD.blk hb7 hs9
    replace hL := hL.blk hb7 hs9
    refine L_nil (N_then (C_reg rfl ?_))
    refine L_run (R_assign rfl) rfl ?_
    refine L_nil (N_then ?_)
    refine ⟨hL, fun w6 hs6 hL6 => ?_⟩
    replace hB := gb_trg hB hs6 gL
    replace hba := hba.lp hL hs6
    replace hbk := hbk.lp hL hs6
    replace hbb := hbb.lp hL hs6
    replace hbe := hbe.lp hL hs6
    replace hbB := hbB.lp hL hs6
    replace hbO := hbO.lp hL hs6
    replace hbj := hbj.lp hL hs6
    replace ho := own_lp ho hL hs6
    replace hod := own_lp hod hL hs6
    replace hc6 := hc6.lp hL hs6
    replace hc7 := hc7.lp hL hs6
    replace hc8 := hc8.lp hL hs6
    replace hc9 := hc9.lp hL hs6
    replace hD := hD.grown hs6 (by intro e_; injection e_; omega)
    replace hb8 := hb8.lp hL hs6
    replace hL := hL6
    refine C_block (C_seq (C_reg rfl ?_))
    refine L_run (R_load1 rfl scl36 (hc9.cell (i := 0) rfl)) rfl ?_
    refine L_run (R_loadA (vs := [.int .i64 (k7 : Int), .int .u32 E7, .slice A8 d7.length c8]) rfl agg43 (At.pre (hb8.at_ 0) rfl) rfl) rfl ?_
    have ge8 : w.heap.size ≤ w6.heap.size := hB.size
    refine L_call rfl cb11 (feed_ok (o := o7) (bs := bs7) (d := d7) (k := k7) hbj (own_of ho).2.2 (own_of hod).2.2 (by omega) (by omega)) rfl ?_
    rintro _ w10 ⟨hs10, A_1, c_1, A_2, c_2, rfl, hb9, ho1, ho2⟩
    replace hB := gb_trg hB hs10 (Nat.le_trans ge4 hg1)
    replace hba := hba.grown hs10 (ne_gt lt14)
    replace hbk := hbk.grown hs10 (ne_gt lt19)
    replace hbb := hbb.grown hs10 (ne_gt lt24)
    replace hbe := hbe.grown hs10 (ne_gt lt29)
    replace hbB := hbB.grown hs10 (ne_gt lt34)
    replace hbO := hbO.grown hs10 (ne_gt lt39)
    replace ho := own_other ho hbj rfl hs10
    replace hod := own_other hod hbj rfl hs10
    replace hc6 := hc6.grown hs10 (ne_lt lt4)
    replace hc7 := hc7.grown hs10 (ne_lt lt5)
    replace hc8 := hc8.grown hs10 (ne_lt lt6)
    replace hc9 := hc9.grown hs10 (ne_gt lt10)
    replace hD := hD.blk hbj hs10
    replace hL := hL.blk hbj hs10
    replace hb8 := hb8.grown hs10 (ne_gt lt47)
    have hlo1 : w6.heap.size ≤ w10.heap.size := hs10.size
    refine L_run (R_move rfl) rfl ?_
    refine L_run (R_extract rfl rfl) rfl ?_
    refine L_run (R_extract rfl rfl) rfl ?_
    refine L_run (R_extract rfl rfl) rfl ?_
    refine L_run (R_assign rfl) rfl ?_
    refine L_run (R_assign rfl) rfl ?_
    refine L_run (R_assign rfl) rfl ?_
    refine L_nil (N_then (C_seq (C_seq (C_reg rfl ?_))))
    refine L_run (R_move rfl) rfl ?_
    refine L_run (R_neq rfl rfl) rfl ?_
    refine L_nil (N_then ?_)
    refine C_if rfl (fun h1 => ?_) (fun h1 => ?_)
    · refine C_exit (X_then (X_miss rfl ?_))
      refine rd_x hL (fun w5 hs5 hL5 => ?_)
      replace hB := gb_trg hB hs5 gL
      replace hba := hba.lp hL hs5
      replace hbk := hbk.lp hL hs5
      replace hbb := hbb.lp hL hs5
      replace hbe := hbe.lp hL hs5
      replace hbB := hbB.lp hL hs5
      replace hbO := hbO.lp hL hs5
      replace ho := own_lp ho hL hs5
      replace hod := own_lp hod hL hs5
      replace hc6 := hc6.lp hL hs5
      replace hc7 := hc7.lp hL hs5
      replace hc8 := hc8.lp hL hs5
      replace hc9 := hc9.lp hL hs5
      replace hD := hD.grown hs5 (by intro e_; injection e_; omega)
      replace hb8 := hb8.lp hL hs5
      replace hb9 := hb9.lp hL hs5
      replace ho1 := own_lp ho1 hL hs5
      replace ho2 := own_lp ho2 hL hs5
      replace hlo1 := Nat.le_trans hlo1 hs5.size
      exact ⟨hB, ⟨hba, hbk, hbb, hbe, hbB, hbO⟩, .inr ⟨rfl, .inl ⟨from_err hac hX7 h1, hL5, hD, hc6, hc7, hc8⟩⟩⟩
    · refine C_skip (N_then (C_seq (C_reg rfl ?_)))
      refine L_run (R_move rfl) rfl ?_
      refine L_nil (N_then ?_)
      refine C_cond rfl (fun h2 => ?_) (fun h2 => ?_)
      · refine C_seq (C_reg rfl ?_)
        refine L_run (R_move rfl) rfl ?_
        refine L_run (R_move rfl) rfl ?_
        refine L_st1 rfl rfl rfl sz25 hc6 rfl ?_
        intro w11 hb10 hs11 hz8
        replace hB := gb_trg hB hs11 ge1
        replace hba := hba.grown hs11 (ne_gt lt11)
        replace hbk := hbk.grown hs11 (ne_gt lt16)
        replace hbb := hbb.grown hs11 (ne_gt lt21)
        replace hbe := hbe.grown hs11 (ne_gt lt26)
        replace hbB := hbB.grown hs11 (ne_gt lt31)
        replace hbO := hbO.grown hs11 (ne_gt lt36)
        replace ho := own_other ho hc6 rfl hs11
        replace hod := own_other hod hc6 rfl hs11
        replace hc7 := hc7.grown hs11 (ne_gt lt1)
        replace hc8 := hc8.grown hs11 (ne_gt lt2)
        replace hc9 := hc9.grown hs11 (ne_gt lt7)
        replace hD := hD.blk hc6 hs11
        replace hL := hL.blk hc6 hs11
        replace hb8 := hb8.grown hs11 (ne_gt lt48)
        replace hb9 := hb9.grown hs11 (ne_gt lt4)
        replace ho1 := own_other ho1 hc6 rfl hs11
        replace ho2 := own_other ho2 hc6 rfl hs11
        replace hlo1 := Nat.le_trans hlo1 hs11.size
        refine L_st1 rfl rfl rfl sz3 hc7 rfl ?_
        intro w12 hb11 hs12 hz9
        replace hB := gb_trg hB hs12 ge2
        replace hba := hba.grown hs12 (ne_gt lt12)
        replace hbk := hbk.grown hs12 (ne_gt lt17)
        replace hbb := hbb.grown hs12 (ne_gt lt22)
        replace hbe := hbe.grown hs12 (ne_gt lt27)
        replace hbB := hbB.grown hs12 (ne_gt lt32)
        replace hbO := hbO.grown hs12 (ne_gt lt37)
        replace ho := own_other ho hc7 rfl hs12
        replace hod := own_other hod hc7 rfl hs12
        replace hb10 := hb10.grown hs12 (ne_lt lt1)
        replace hc8 := hc8.grown hs12 (ne_gt lt3)
        replace hc9 := hc9.grown hs12 (ne_gt lt8)
        replace hD := hD.blk hc7 hs12
        replace hL := hL.blk hc7 hs12
        replace hb8 := hb8.grown hs12 (ne_gt lt49)
        replace hb9 := hb9.grown hs12 (ne_gt lt5)
        replace ho1 := own_other ho1 hc7 rfl hs12
        replace ho2 := own_other ho2 hc7 rfl hs12
        replace hlo1 := Nat.le_trans hlo1 hs12.size
        refine L_st1 rfl rfl rfl sz4 hc8 rfl ?_
        intro w13 hb12 hs13 hz10
        replace hB := gb_trg hB hs13 ge3
        replace hba := hba.grown hs13 (ne_gt lt13)
        replace hbk := hbk.grown hs13 (ne_gt lt18)
        replace hbb := hbb.grown hs13 (ne_gt lt23)
        replace hbe := hbe.grown hs13 (ne_gt lt28)
        replace hbB := hbB.grown hs13 (ne_gt lt33)
        replace hbO := hbO.grown hs13 (ne_gt lt38)
        replace ho := own_other ho hc8 rfl hs13
        replace hod := own_other hod hc8 rfl hs13
        replace hb10 := hb10.grown hs13 (ne_lt lt2)
        replace hb11 := hb11.grown hs13 (ne_lt lt3)
        replace hc9 := hc9.grown hs13 (ne_gt lt9)
        replace hD := hD.blk hc8 hs13
        replace hL := hL.blk hc8 hs13
        replace hb8 := hb8.grown hs13 (ne_gt lt50)
        replace hb9 := hb9.grown hs13 (ne_gt lt6)
        replace ho1 := own_other ho1 hc8 rfl hs13
        replace ho2 := own_other ho2 hc8 rfl hs13
        replace hlo1 := Nat.le_trans hlo1 hs13.size
        refine L_nil (N_then (C_ret (R_in ?_)))
        refine rd_r hL (fun w5 hs5 hL5 => ?_)
        replace hB := gb_trg hB hs5 gL
        replace hba := hba.lp hL hs5
        replace hbk := hbk.lp hL hs5
        replace hbb := hbb.lp hL hs5
        replace hbe := hbe.lp hL hs5
        replace hbB := hbB.lp hL hs5
        replace hbO := hbO.lp hL hs5
        replace ho := own_lp ho hL hs5
        replace hod := own_lp hod hL hs5
        replace hb10 := hb10.lp hL hs5
        replace hb11 := hb11.lp hL hs5
        replace hb12 := hb12.lp hL hs5
        replace hc9 := hc9.lp hL hs5
        replace hD := hD.grown hs5 (by intro e_; injection e_; omega)
        replace hb8 := hb8.lp hL hs5
        replace hb9 := hb9.lp hL hs5
        replace ho1 := own_lp ho1 hL hs5
        replace ho2 := own_lp ho2 hL hs5
        replace hlo1 := Nat.le_trans hlo1 hs5.size
        exact ⟨hB, ⟨hba, hbk, hbb, hbe, hbB, hbO⟩, .inr ⟨rfl, .inr ⟨_, _, from_fin hac hn7 hfu7 hX7 (Decidable.not_not.1 h1) h2, hL5, hD, _, _, hb10, hb11, hb12, (own_lo ho2 ge8)⟩⟩⟩
      · refine C_skip (N_in ?_)
        refine rd_n hL (fun w5 hs5 hL5 => ?_)
        replace hB := gb_trg hB hs5 gL
        replace hba := hba.lp hL hs5
        replace hbk := hbk.lp hL hs5
        replace hbb := hbb.lp hL hs5
        replace hbe := hbe.lp hL hs5
        replace hbB := hbB.lp hL hs5
        replace hbO := hbO.lp hL hs5
        replace ho := own_lp ho hL hs5
        replace hod := own_lp hod hL hs5
        replace hc6 := hc6.lp hL hs5
        replace hc7 := hc7.lp hL hs5
        replace hc8 := hc8.lp hL hs5
        replace hc9 := hc9.lp hL hs5
        replace hD := hD.grown hs5 (by intro e_; injection e_; omega)
        replace hb8 := hb8.lp hL hs5
        replace hb9 := hb9.lp hL hs5
        replace ho1 := own_lp ho1 hL hs5
        replace ho2 := own_lp ho2 hL hs5
        replace hlo1 := Nat.le_trans hlo1 hs5.size
        exact ⟨hB, ⟨hba, hbk, hbb, hbe, hbB, hbO⟩, .inl ⟨rfl, ⟨hc6, hc7, hc8, hc9, hD⟩, _, _, _, _, hL5, hb9, (own_lo ho1 ge8), feedN_len.1, from_go hac hn7 hfu7 hX7 (Decidable.not_not.1 h1) h2⟩⟩
  · rintro v9 w9 ⟨hB, ⟨hX, hL, hJ⟩ | ⟨hX, hL, hD, hc6, hc7, hc8⟩ | ⟨d9, n9, hXs, hL, hD, A9, c9, hc6, hc7, hc8, ho9⟩⟩
    · obtain ⟨hc6, hc7, hc8, hc9, hD⟩ := hJ
      subst hrec
      refine ⟨.ready, none, hL, (by intro e_; cases e_), fun w4 hs4 => ?_⟩
      replace hB := gb_trg hB hs4 gL
      replace hc6 := hc6.lp hL hs4
      replace hc7 := hc7.lp hL hs4
      replace hc8 := hc8.lp hL hs4
      replace hD := hD.grown hs4 (by intro e_; injection e_; omega)
      refine N_in (N_then (C_seq (C_reg rfl ?_)))
      refine L_st1 rfl rfl rfl sz25 hc6 rfl ?_
      intro w14 hb13 hs14 hz11
      replace hB := gb_trg hB hs14 ge1
      replace hc7 := hc7.grown hs14 (ne_gt lt1)
      replace hc8 := hc8.grown hs14 (ne_gt lt2)
      replace hD := hD.blk hc6 hs14
      refine L_st1 rfl rfl rfl sz3 hc7 rfl ?_
      intro w15 hb14 hs15 hz12
      replace hB := gb_trg hB hs15 ge2
      replace hb13 := hb13.grown hs15 (ne_lt lt1)
      replace hc8 := hc8.grown hs15 (ne_gt lt3)
      replace hD := hD.blk hc7 hs15
      refine L_st1 rfl rfl rfl sz4 hc8 rfl ?_
      intro w16 hb15 hs16 hz13
      replace hB := gb_trg hB hs16 ge3
      replace hb13 := hb13.grown hs16 (ne_lt lt2)
      replace hb14 := hb14.grown hs16 (ne_lt lt3)
      replace hD := hD.blk hc8 hs16
      refine L_nil (N_then (C_ret ?_))
      refine leaveM2 (.inr rfl) hD (fun w99 hs99 => ?_)
      replace hB := gb_trg hB hs99 gD
      replace hb13 := hb13.lp hD hs99
      replace hb14 := hb14.lp hD hs99
      replace hb15 := hb15.lp hD hs99
      refine rv3 (.inr rfl) Tryd.results5 (rvC (v := .slice none 0 0) rfl scl25 (hb13.cell (i := 0) rfl)) (rvC (v := .int .i64 0) rfl scl3 (hb14.cell (i := 0) rfl)) (rvC (v := .bool false) rfl scl4 (hb15.cell (i := 0) rfl)) ?_
      have hr_ := fromR_in (ss := ss) (e := e) ha
      rw [hr_, hX]; exact ⟨hB, none, 0, rfl, own_nil _ _ _ _⟩
    · subst hrec
      refine ⟨.done, some (.exit 0), hL, (by intro e_; cases e_), fun w4 hs4 => ?_⟩
      replace hB := gb_trg hB hs4 gL
      replace hc6 := hc6.lp hL hs4
      replace hc7 := hc7.lp hL hs4
      replace hc8 := hc8.lp hL hs4
      replace hD := hD.grown hs4 (by intro e_; injection e_; omega)
      refine C_exit (X_hit (N_then (C_seq (C_reg rfl ?_))))
      refine L_st1 rfl rfl rfl sz25 hc6 rfl ?_
      intro w17 hb16 hs17 hz14
      replace hB := gb_trg hB hs17 ge1
      replace hc7 := hc7.grown hs17 (ne_gt lt1)
      replace hc8 := hc8.grown hs17 (ne_gt lt2)
      replace hD := hD.blk hc6 hs17
      refine L_st1 rfl rfl rfl sz3 hc7 rfl ?_
      intro w18 hb17 hs18 hz15
      replace hB := gb_trg hB hs18 ge2
      replace hb16 := hb16.grown hs18 (ne_lt lt1)
      replace hc8 := hc8.grown hs18 (ne_gt lt3)
      replace hD := hD.blk hc7 hs18
      refine L_st1 rfl rfl rfl sz4 hc8 rfl ?_
      intro w19 hb18 hs19 hz16
      replace hB := gb_trg hB hs19 ge3
      replace hb16 := hb16.grown hs19 (ne_lt lt2)
      replace hb17 := hb17.grown hs19 (ne_lt lt3)
      replace hD := hD.blk hc8 hs19
      refine L_nil (N_then (C_ret ?_))
      refine leaveM2 (.inr rfl) hD (fun w99 hs99 => ?_)
      replace hB := gb_trg hB hs99 gD
      replace hb16 := hb16.lp hD hs99
      replace hb17 := hb17.lp hD hs99
      replace hb18 := hb18.lp hD hs99
      refine rv3 (.inr rfl) Tryd.results5 (rvC (v := .slice none 0 0) rfl scl25 (hb16.cell (i := 0) rfl)) (rvC (v := .int .i64 0) rfl scl3 (hb17.cell (i := 0) rfl)) (rvC (v := .bool false) rfl scl4 (hb18.cell (i := 0) rfl)) ?_
      have hr_ := fromR_in (ss := ss) (e := e) ha
      rw [hr_, hX]; exact ⟨hB, none, 0, rfl, own_nil _ _ _ _⟩
    · subst hrec
      refine ⟨.done, some .ret, hL, (by intro e_; cases e_), fun w4 hs4 => ?_⟩
      replace hB := gb_trg hB hs4 gL
      replace hc6 := hc6.lp hL hs4
      replace hc7 := hc7.lp hL hs4
      replace hc8 := hc8.lp hL hs4
      replace ho9 := own_lp ho9 hL hs4
      replace hD := hD.grown hs4 (by intro e_; injection e_; omega)
      refine C_ret (R_in (R_then ?_))
      refine leaveM2 (.inr rfl) hD (fun w99 hs99 => ?_)
      replace hB := gb_trg hB hs99 gD
      replace hc6 := hc6.lp hD hs99
      replace hc7 := hc7.lp hD hs99
      replace hc8 := hc8.lp hD hs99
      replace ho9 := own_lp ho9 hD hs99
      refine rv3 (.inr rfl) Tryd.results5 (rvC (v := .slice A9 d9.length c9) rfl scl25 (hc6.cell (i := 0) rfl)) (rvC (v := .int .i64 ((n9 : Nat) : Int)) rfl scl3 (hc7.cell (i := 0) rfl)) (rvC (v := .bool true) rfl scl4 (hc8.cell (i := 0) rfl)) ?_
      have hr_ := fromR_in (ss := ss) (e := e) ha
      rw [hr_, hXs]; exact ⟨hB, _, _, rfl, (own_lo ho9 (Nat.le_refl _))⟩

theorem from_neg {w : World} {t1 lo hi : Nat} {A : Option Addr} {c e : Nat} {z : Int} {ss : List Sx} (hS : Sli t1 lo hi w A (fl encX ss)) (he : e < 18446744073709551616) (hz : z < 0) :
    Runs Tryd.prog 5 #[.int .u64 (e : Int), .slice A ss.length c, .int .i64 z] w (fun v w' => w.grownBy w' none ∧ ∃ A' c', v = .tuple #[.slice A' (xb (fromR ss e z)).length c', .int .i64 ((xe (fromR ss e z) : Nat) : Int), .bool ((fromR ss e z)).isSome] ∧ World.ownsRow w' w.heap.size 5 1 (.slice A' (xb (fromR ss e z)).length c') (xb (fromR ss e z)).length (fl encB (xb (fromR ss e z)))) := by
  have hB := gb_refl w none
  replace hS := hS.top
  refine enterM Tryd.func5 Tryd.ntmps5 rfl rfl ?_
  refine C_seq (C_reg rfl ?_)
  refine L_alloc (cs := [.slice none 0 0]) zer25 rfl rfl ?_
  intro g1 w1 eg1 hb1 hs1 hz1
  have ge1 : w.heap.size ≤ g1 := eg_ge hB eg1
  replace hB := gb_tr hB hs1
  replace hS := hS.gb hs1
  refine L_alloc (cs := [.int .i64 0]) zer3 rfl rfl ?_
  intro g2 w2 eg2 hb2 hs2 hz2
  have ge2 : w.heap.size ≤ g2 := eg_ge hB eg2
  have lt1 : g1 < g2 := lt_of_eg hb1.lt eg2
  replace hB := gb_tr hB hs2
  replace hS := hS.gb hs2
  replace hb1 := hb1.gb hs2
  refine L_alloc (cs := [.bool false]) zer4 rfl rfl ?_
  intro g3 w3 eg3 hb3 hs3 hz3
  have ge3 : w.heap.size ≤ g3 := eg_ge hB eg3
  have lt2 : g1 < g3 := lt_of_eg hb1.lt eg3
  have lt3 : g2 < g3 := lt_of_eg hb2.lt eg3
  replace hB := gb_tr hB hs3
  replace hS := hS.gb hs3
  replace hb1 := hb1.gb hs3
  replace hb2 := hb2.gb hs3
  refine L_nil (N_then (C_seq (C_seq (C_reg rfl ?_))))
  refine L_run (R_move rfl) rfl ?_
  refine L_run (R_lss rfl rfl) rfl ?_
  refine L_run (R_move rfl) rfl ?_
  refine L_no rfl rfl rfl (decide_eq_true hz) rfl ?_
  refine L_no rfl rfl rfl (decide_eq_true hz) rfl ?_
  refine L_run (R_pickT rfl (decide_eq_true hz) rfl) rfl ?_
  refine L_nil (N_then (C_condT rfl rfl (C_seq (C_reg rfl ?_))))
  refine L_st1 rfl rfl rfl sz25 hb1 rfl ?_
  intro w4 hb4 hs4 hz4
  replace hB := gb_trg hB hs4 ge1
  replace hS := hS.old hs4 ge1
  replace hb2 := hb2.grown hs4 (ne_gt lt1)
  replace hb3 := hb3.grown hs4 (ne_gt lt2)
  refine L_st1 rfl rfl rfl sz3 hb2 rfl ?_
  intro w5 hb5 hs5 hz5
  replace hB := gb_trg hB hs5 ge2
  replace hS := hS.old hs5 ge2
  replace hb4 := hb4.grown hs5 (ne_lt lt1)
  replace hb3 := hb3.grown hs5 (ne_gt lt3)
  refine L_st1 rfl rfl rfl sz4 hb3 rfl ?_
  intro w6 hb6 hs6 hz6
  replace hB := gb_trg hB hs6 ge3
  replace hS := hS.old hs6 ge3
  replace hb4 := hb4.grown hs6 (ne_lt lt2)
  replace hb5 := hb5.grown hs6 (ne_lt lt3)
  refine L_nil (N_then (C_ret (R_then ?_)))
  refine leaveM0 ?_
  refine rv3 (.inr rfl) Tryd.results5 (rvC (v := .slice none 0 0) rfl scl25 (hb4.cell (i := 0) rfl)) (rvC (v := .int .i64 0) rfl scl3 (hb5.cell (i := 0) rfl)) (rvC (v := .bool false) rfl scl4 (hb6.cell (i := 0) rfl)) ?_
  rw [fromR_out (by omega)]; exact ⟨hB, none, 0, rfl, own_nil _ _ _ _⟩

theorem from_big {w : World} {t1 lo hi : Nat} {A : Option Addr} {c e : Nat} {z : Int} {ss : List Sx} (hS : Sli t1 lo hi w A (fl encX ss)) (he : e < 18446744073709551616) (hz : 832 < z) :
    Runs Tryd.prog 5 #[.int .u64 (e : Int), .slice A ss.length c, .int .i64 z] w (fun v w' => w.grownBy w' none ∧ ∃ A' c', v = .tuple #[.slice A' (xb (fromR ss e z)).length c', .int .i64 ((xe (fromR ss e z) : Nat) : Int), .bool ((fromR ss e z)).isSome] ∧ World.ownsRow w' w.heap.size 5 1 (.slice A' (xb (fromR ss e z)).length c') (xb (fromR ss e z)).length (fl encB (xb (fromR ss e z)))) := by
  have hB := gb_refl w none
  replace hS := hS.top
  refine enterM Tryd.func5 Tryd.ntmps5 rfl rfl ?_
  refine C_seq (C_reg rfl ?_)
  refine L_alloc (cs := [.slice none 0 0]) zer25 rfl rfl ?_
  intro g1 w1 eg1 hb1 hs1 hz1
  have ge1 : w.heap.size ≤ g1 := eg_ge hB eg1
  replace hB := gb_tr hB hs1
  replace hS := hS.gb hs1
  refine L_alloc (cs := [.int .i64 0]) zer3 rfl rfl ?_
  intro g2 w2 eg2 hb2 hs2 hz2
  have ge2 : w.heap.size ≤ g2 := eg_ge hB eg2
  have lt1 : g1 < g2 := lt_of_eg hb1.lt eg2
  replace hB := gb_tr hB hs2
  replace hS := hS.gb hs2
  replace hb1 := hb1.gb hs2
  refine L_alloc (cs := [.bool false]) zer4 rfl rfl ?_
  intro g3 w3 eg3 hb3 hs3 hz3
  have ge3 : w.heap.size ≤ g3 := eg_ge hB eg3
  have lt2 : g1 < g3 := lt_of_eg hb1.lt eg3
  have lt3 : g2 < g3 := lt_of_eg hb2.lt eg3
  replace hB := gb_tr hB hs3
  replace hS := hS.gb hs3
  replace hb1 := hb1.gb hs3
  replace hb2 := hb2.gb hs3
  refine L_nil (N_then (C_seq (C_seq (C_reg rfl ?_))))
  refine L_run (R_move rfl) rfl ?_
  refine L_run (R_lss rfl rfl) rfl ?_
  refine L_run (R_move rfl) rfl ?_
  refine L_yes rfl rfl rfl (decide_eq_false (by omega)) ?_
  refine L_run (R_move rfl) rfl ?_
  refine L_yes rfl rfl rfl (decide_eq_false (by omega)) ?_
  refine L_run (R_gtr rfl rfl) rfl ?_
  refine L_run (R_pickF rfl (decide_eq_false (by omega)) rfl) rfl ?_
  refine L_nil (N_then (C_condT rfl (decide_eq_true hz) (C_seq (C_reg rfl ?_))))
  refine L_st1 rfl rfl rfl sz25 hb1 rfl ?_
  intro w4 hb4 hs4 hz4
  replace hB := gb_trg hB hs4 ge1
  replace hS := hS.old hs4 ge1
  replace hb2 := hb2.grown hs4 (ne_gt lt1)
  replace hb3 := hb3.grown hs4 (ne_gt lt2)
  refine L_st1 rfl rfl rfl sz3 hb2 rfl ?_
  intro w5 hb5 hs5 hz5
  replace hB := gb_trg hB hs5 ge2
  replace hS := hS.old hs5 ge2
  replace hb4 := hb4.grown hs5 (ne_lt lt1)
  replace hb3 := hb3.grown hs5 (ne_gt lt3)
  refine L_st1 rfl rfl rfl sz4 hb3 rfl ?_
  intro w6 hb6 hs6 hz6
  replace hB := gb_trg hB hs6 ge3
  replace hS := hS.old hs6 ge3
  replace hb4 := hb4.grown hs6 (ne_lt lt2)
  replace hb5 := hb5.grown hs6 (ne_lt lt3)
  refine L_nil (N_then (C_ret (R_then ?_)))
  refine leaveM0 ?_
  refine rv3 (.inr rfl) Tryd.results5 (rvC (v := .slice none 0 0) rfl scl25 (hb4.cell (i := 0) rfl)) (rvC (v := .int .i64 0) rfl scl3 (hb5.cell (i := 0) rfl)) (rvC (v := .bool false) rfl scl4 (hb6.cell (i := 0) rfl)) ?_
  rw [fromR_out (by omega)]; exact ⟨hB, none, 0, rfl, own_nil _ _ _ _⟩

theorem from_ok {w : World} {t1 lo hi : Nat} {A : Option Addr} {c e : Nat} {z : Int} {ss : List Sx} (hS : Sli t1 lo hi w A (fl encX ss)) (he : e < 18446744073709551616) (hT : Tbw w) :
    Runs Tryd.prog 5 #[.int .u64 (e : Int), .slice A ss.length c, .int .i64 z] w (fun v w' => w.grownBy w' none ∧ ∃ A' c', v = .tuple #[.slice A' (xb (fromR ss e z)).length c', .int .i64 ((xe (fromR ss e z) : Nat) : Int), .bool ((fromR ss e z)).isSome] ∧ World.ownsRow w' w.heap.size 5 1 (.slice A' (xb (fromR ss e z)).length c') (xb (fromR ss e z)).length (fl encB (xb (fromR ss e z)))) := by
  rcases Int.lt_or_le z 0 with h | h
  · exact from_neg hS he h
  · rcases Int.lt_or_le 832 z with h2 | h2
    · exact from_big hS he h2
    · obtain ⟨a, rfl⟩ : ∃ a : Nat, z = (a : Int) := ⟨z.toNat, by omega⟩
      exact from_in hS he hT (by omega)
end Go.Proofs.YtnggbodilhpohaaDoor
