/-
  Contracts of the reference of bodies.
-/
import Derived.Test.YtnggbodilhpohaaDoorSf
namespace Go.Proofs.YtnggbodilhpohaaDoor
open Go.RowKit Gw Pl
set_option linter.unusedVariables false
set_option linter.unusedSimpArgs false
theorem cb25 : callB Tryd.prog 25 = true := by kernel_rfl
theorem rB_yes {ss : List Sx} {e i : Nat} (hi : i < ss.length) (hq : getN (ss[i].b.take 8) = e ∧ getN ((ss[i].b.drop 8).take 4) = i) : flatB (bsOf ss) e i ++ ss[i].b.drop 12 = flatB (bsOf ss) e (i + 1) := by
  rw [flatB_succ, room_in hi, if_pos hq]; rfl
theorem rB_no {ss : List Sx} {e i : Nat} (hq : roomN (bsOf ss) e i = none) : flatB (bsOf ss) e i ++ List.replicate 52 (0 : UInt8) = flatB (bsOf ss) e (i + 1) := by
  rw [flatB_succ, hq]; rfl
theorem rO_yes {ss : List Sx} {e i : Nat} (hi : i < ss.length) (hq : getN (ss[i].b.take 8) = e ∧ getN ((ss[i].b.drop 8).take 4) = i) : flatO (bsOf ss) e i ++ [true] = flatO (bsOf ss) e (i + 1) := by
  rw [flatO_succ, room_in hi, if_pos hq]; rfl
theorem rO_no {ss : List Sx} {e i : Nat} (hq : roomN (bsOf ss) e i = none) : flatO (bsOf ss) e i ++ [false] = flatO (bsOf ss) e (i + 1) := by
  rw [flatO_succ, hq]; rfl
theorem room_miss {ss : List Sx} {e i : Nat} (hi : i < ss.length) (hq : ¬ (getN (ss[i].b.take 8) = e ∧ getN ((ss[i].b.drop 8).take 4) = i)) : roomN (bsOf ss) e i = none := by rw [room_in hi, if_neg hq]
theorem flat16 {w : World} {t1 lo hi : Nat} {A : Option Addr} {c e : Nat} {ss : List Sx} (hS : Sli t1 lo hi w A (fl encX ss)) (he : e < 18446744073709551616) :
    Runs Tryd.prog 12 #[.int .u64 (e : Int), .slice A ss.length c] w (fun v w' => w.grownBy w' none ∧ ∃ A1 c1 A2 c2, v = .tuple #[.slice A1 (flatB (bsOf ss) e 16).length c1, .slice A2 (flatO (bsOf ss) e 16).length c2] ∧ World.ownsRow w' w.heap.size 5 1 (.slice A1 (flatB (bsOf ss) e 16).length c1) (flatB (bsOf ss) e 16).length (fl encB (flatB (bsOf ss) e 16)) ∧ World.ownsRow w' w.heap.size 4 1 (.slice A2 (flatO (bsOf ss) e 16).length c2) (flatO (bsOf ss) e 16).length (fl encO (flatO (bsOf ss) e 16))) := by
  have hB := gb_refl w none
  replace hS := hS.top
  refine enter Tryd.func12 Tryd.ntmps12 rfl rfl ?_
  refine C_seq (C_reg rfl ?_)
  refine L_run (R_assign rfl) rfl ?_
  refine L_run (R_assign rfl) rfl ?_
  refine L_nil (N_then (C_seq (C_reg rfl ?_)))
  refine L_run (R_assign rfl) rfl ?_
  refine L_nil (N_then (C_seq (C_reg rfl ?_)))
  refine L_run (R_assign rfl) rfl ?_
  refine L_nil (N_then (C_seq (C_seq (C_reg rfl ?_))))
  refine L_run (R_assign rfl) rfl ?_
  refine L_nil (N_then (C_block ?_))
  refine C_loop (fun m_ a_ w_ => ∃ (σ_ : Nat → Value) (A1 : Option Addr) (c1 : Nat) (A2 : Option Addr) (c2 : Nat) (i : Nat), a_ = Ac 43 σ_ [] [(0, .int .u64 (e : Int)), (1, .slice A ss.length c), (6, .slice A1 ((flatB (bsOf ss) e i).length) c1), (7, .slice A2 ((flatO (bsOf ss) e i).length) c2), (8, .int .i64 (i : Int))] ∧ w.grownBy w_ none ∧ Sli t1 lo w.heap.size w_ A (fl encX ss) ∧ World.ownsRow w_ w.heap.size 5 1 (.slice A1 (flatB (bsOf ss) e i).length c1) (flatB (bsOf ss) e i).length (fl encB (flatB (bsOf ss) e i)) ∧ World.ownsRow w_ w.heap.size 4 1 (.slice A2 (flatO (bsOf ss) e i).length c2) (flatO (bsOf ss) e i).length (fl encO (flatO (bsOf ss) e i)) ∧ (i ≤ 16) ∧ 16 - i = m_) (16 - 0) ?_ ?_
  · exact ⟨_, none, 0, none, 0, 0, Ac_frg ⟨rfl, rfl, (agr rfl (by first | rfl | (congr 1; omega) | (congr 1; simp; done) | (congr 1; simp only [IntKind.wrap_u64, IntKind.wrap_i64, IntKind.wrap_u8]; omega) | (congr 1 <;> omega))), (agr rfl (by first | rfl | (congr 1; omega) | (congr 1; simp; done) | (congr 1; simp only [IntKind.wrap_u64, IntKind.wrap_i64, IntKind.wrap_u8]; omega) | (congr 1 <;> omega))), (agr rfl (by first | rfl | (congr 1; omega) | (congr 1; simp; done) | (congr 1; simp only [IntKind.wrap_u64, IntKind.wrap_i64, IntKind.wrap_u8]; omega) | (congr 1 <;> omega))), trivial⟩, hB, hS, (own_nil _ _ _ _), (own_nil _ _ _ _), (by omega), rfl⟩
  · clear hB
    clear hS
    rintro m_ a_ w1 ⟨σ_, A1, c1, A2, c2, i, rfl, hB, hS, hoB, hoO, hi, rfl⟩
    refine C_seq (C_seq (C_reg rfl ?_))
    refine L_run (R_move rfl) rfl ?_
    refine L_run (R_lss rfl rfl) rfl ?_
    refine L_nil (N_then ?_)
    refine C_if rfl (fun h1 => ?_) (fun h1 => ?_)
    · refine C_skip (N_then (C_seq (C_block (C_seq (C_reg rfl ?_)))))
      refine L_make (enc := encB) (m := 52) (x0 := (0 : UInt8)) slc25 zer5 rfl rfl rfl EncB (by omega) (by omega) rfl ?_
      intro g1 w2 eg1 hb1 hs1 hz1
      have ge1 : w.heap.size ≤ g1 := eg_ge hB eg1
      have hap1 : ∀ k_, (Value.slice A1 (flatB (bsOf ss) e i).length c1).ownBlock = some k_ → k_ ≠ g1 := fun k_ hk => by have h_ := (World.ownsRow.lt hoB k_ hk).2; omega
      replace hB := gb_tr hB hs1
      replace hS := hS.gb hs1
      replace hoB := own_gb hoB hs1
      replace hoO := own_gb hoO hs1
      refine L_run (R_assign rfl) rfl ?_
      refine L_nil (N_then (C_seq (C_reg rfl ?_)))
      refine L_run (R_assign rfl) rfl ?_
      refine L_nil (N_then (C_seq (C_seq (C_reg rfl ?_))))
      refine L_run (R_move rfl) rfl ?_
      refine L_run (R_move rfl) rfl ?_
      refine L_run (R_lenSl rfl slc23) rfl ?_
      refine L_run (R_lss rfl rfl) rfl ?_
      refine L_nil (N_then ?_)
      refine C_if rfl (fun h2 => ?_) (fun h2 => ?_)
      · refine C_seq (C_reg rfl ?_)
        refine L_run (R_move rfl) rfl ?_
        refine L_run (R_move rfl) rfl ?_
        have hl1 : i < ss.length := by first | omega | (simp; omega)
        refine T_index (xs := ss) (i := i) EncX rfl rfl (by first | rfl | omega) slc23 hl1 hS rfl ?_
        intro g2 o1 ha1
        replace ha1 : At w2 g2 o1 (fl encB ss[i].b) := ha1
        refine L_run (R_loadA (vs := fl encB (ss[i].b)) rfl agg70 ha1 (flB_lenE ss[i].h)) rfl ?_
        refine L_run (R_move rfl) rfl ?_
        refine L_run (R_move rfl) rfl ?_
        have ge2 : w.heap.size ≤ w2.heap.size := hB.size
        by_cases h3 : getN ((ss[i].b).take 8) = e ∧ getN (((ss[i].b).drop 8).take 4) = i
        · refine L_call rfl cb25 (open6_y (s := ss[i].b) (e := e) (i := i) ss[i].h he (by omega)  h3) rfl ?_
          rintro _ w3 ⟨hs2, A_1, c_1, rfl, ho1⟩
          replace hB := gb_tr hB hs2
          replace hS := hS.gb hs2
          replace hoB := own_gb hoB hs2
          replace hoO := own_gb hoO hs2
          replace hb1 := hb1.gb hs2
          replace ha1 := At.gb ha1 hs2 (by simp)
          have hlo1 : w2.heap.size ≤ w3.heap.size := hs2.size
          refine L_run (R_move rfl) rfl ?_
          refine L_run (R_extract rfl rfl) rfl ?_
          refine L_run (R_extract rfl rfl) rfl ?_
          refine L_run (R_assign rfl) rfl ?_
          refine L_run (R_assign rfl) rfl ?_
          refine L_nil (N_then (C_seq (C_reg rfl ?_)))
          refine L_run (R_move rfl) rfl ?_
          refine L_nil (N_then (C_condT rfl rfl (C_seq (C_reg rfl ?_))))
          refine L_run (R_move rfl) rfl ?_
          refine L_run (R_assign rfl) rfl ?_
          refine L_nil (N_then (C_reg rfl ?_))
          refine L_run (R_assign rfl) rfl ?_
          refine L_nil (N_then (C_seq (C_reg rfl ?_)))
          refine L_run (R_move rfl) rfl ?_
          refine L_run (R_move rfl) rfl ?_
          refine T_append (xs := flatB (bsOf ss) e i) (ys := (ss[i].b).drop 12) EncB slc25 rfl rfl hoB (own_of ho1).2.2 (by first | (rw [List.length_append, flatB_len bsOf_len, List.length_drop, Sx.h]; omega) | (rw [List.length_append, flatB_len bsOf_len, List.length_replicate]; omega) | (rw [flatB_len bsOf_len, List.length_drop, Sx.h]; omega) | (rw [flatB_len bsOf_len, List.length_replicate]; omega) | (rw [flatB_len bsOf_len]; omega)) (by have := hB.size; omega) rfl ?_
          intro A_2 c_2 w4 ho2 hs3 hat1
          have lt1 := hb1.lt
          replace hB := gb_tro hB hoB hs3 (Nat.le_refl _)
          replace hS := hS.grown hs3 (fun k hk => .inr (Nat.le_trans (Nat.le_refl _) (World.ownsRow.lt hoB k hk).1))
          replace hoO := hoO.kept hs3 (own_type_ne' hoO hoB rfl)
          replace hb1 := hb1.grown hs3 (fun e_ => hap1 _ e_.symm rfl)
          replace hlo1 := Nat.le_trans hlo1 hs3.size
          have hap2 : ∀ k_, (Value.slice A_2 ((flatB (bsOf ss) e i) ++ ((ss[i].b).drop 12)).length c_2).ownBlock = some k_ → k_ ≠ g1 := fun k_ hk => by rcases hat1 with h_ | h_ <;> rw [h_] at hk <;> first | exact hap1 k_ hk | (injection hk with hk; omega)
          refine L_run (R_assign rfl) rfl ?_
          refine L_nil (N_then (C_reg rfl ?_))
          refine L_run (R_move rfl) rfl ?_
          refine L_run (R_move rfl) rfl ?_
          refine L_buildSlice (pv := [(0, .bool true)]) (cs := [.bool true]) slc47 zer4 rfl rfl (by kernel_rfl) rfl ?_
          intro g3 w5 eg2 hb2 hs4 hz2
          have ge3 : w.heap.size ≤ g3 := eg_ge hB eg2
          have lt2 : g1 < g3 := lt_of_eg hb1.lt eg2
          have hap3 : ∀ k_, (Value.slice A2 (flatO (bsOf ss) e i).length c2).ownBlock = some k_ → k_ ≠ g3 := fun k_ hk => by have h_ := (World.ownsRow.lt hoO k_ hk).2; omega
          replace hB := gb_tr hB hs4
          replace hS := hS.gb hs4
          replace hoO := own_gb hoO hs4
          replace hb1 := hb1.gb hs4
          replace hlo1 := Nat.le_trans hlo1 hs4.size
          replace ho2 := own_gb ho2 hs4
          refine T_append (xs := flatO (bsOf ss) e i) (ys := [true]) EncO slc47 rfl rfl hoO (Blk.sli (m := 0) hb2) (by first | (rw [List.length_append, flatO_len]; simp; omega) | (rw [flatO_len]; simp; omega) | (rw [flatO_len]; omega)) (by have := hB.size; omega) rfl ?_
          intro A_3 c_3 w6 ho3 hs5 hat2
          replace hB := gb_tro hB hoO hs5 (Nat.le_refl _)
          replace hS := hS.grown hs5 (fun k hk => .inr (Nat.le_trans (Nat.le_refl _) (World.ownsRow.lt hoO k hk).1))
          replace hb1 := blk_own hb1 hoO rfl hs5
          replace hlo1 := Nat.le_trans hlo1 hs5.size
          replace ho2 := ho2.kept hs5 (own_type_ne' ho2 hoO rfl)
          refine L_run (R_assign rfl) rfl ?_
          refine L_nil (N_in (N_then (C_reg rfl ?_)))
          refine L_run (R_move rfl) rfl ?_
          refine L_run (R_add64 rfl rfl (by omega)) rfl ?_
          refine L_run (R_assign rfl) rfl ?_
          refine L_nil (N_then ?_)
          have e1_ := rB_yes (ss := ss) (e := e) (i := i) (by omega) h3
          have e2_ := rO_yes (ss := ss) (e := e) (i := i) (by omega) h3
          exact ⟨16 - (i + 1), by omega, _, A_2, c_2, A_3, c_3, (i + 1), Ac_frg ⟨rfl, rfl, (agr rfl (by rw [← e1_])), (agr rfl (by rw [← e2_])), (agr rfl (by first | rfl | (congr 1; omega) | (congr 1; simp; done) | (congr 1; simp only [IntKind.wrap_u64, IntKind.wrap_i64, IntKind.wrap_u8]; omega) | (congr 1 <;> omega))), trivial⟩, hB, hS, (by rw [← e1_]; exact ho2), (by rw [← e2_]; exact ho3), (by omega), rfl⟩
        · refine L_call rfl cb25 (open6_n (s := ss[i].b) (e := e) (i := i) ss[i].h he (by omega)  h3) rfl ?_
          rintro _ w7 ⟨hs6, rfl⟩
          replace hB := gb_tr hB hs6
          replace hS := hS.gb hs6
          replace hoB := own_gb hoB hs6
          replace hoO := own_gb hoO hs6
          replace hb1 := hb1.gb hs6
          replace ha1 := At.gb ha1 hs6 (by simp)
          refine L_run (R_move rfl) rfl ?_
          refine L_run (R_extract rfl rfl) rfl ?_
          refine L_run (R_extract rfl rfl) rfl ?_
          refine L_run (R_assign rfl) rfl ?_
          refine L_run (R_assign rfl) rfl ?_
          refine L_nil (N_then (C_seq (C_reg rfl ?_)))
          refine L_run (R_move rfl) rfl ?_
          refine L_nil (N_then (C_condF rfl rfl (C_skip (N_then (C_seq (C_reg rfl ?_))))))
          refine L_run (R_move rfl) rfl ?_
          refine L_run (R_move rfl) rfl ?_
          refine T_append (xs := flatB (bsOf ss) e i) (ys := (List.replicate 52 (0 : UInt8))) EncB slc25 rfl rfl hoB (Blk.sli (m := 0) hb1) (by first | (rw [List.length_append, flatB_len bsOf_len, List.length_drop, Sx.h]; omega) | (rw [List.length_append, flatB_len bsOf_len, List.length_replicate]; omega) | (rw [flatB_len bsOf_len, List.length_drop, Sx.h]; omega) | (rw [flatB_len bsOf_len, List.length_replicate]; omega) | (rw [flatB_len bsOf_len]; omega)) (by have := hB.size; omega) rfl ?_
          intro A_4 c_4 w8 ho4 hs7 hat3
          replace hB := gb_tro hB hoB hs7 (Nat.le_refl _)
          replace hS := hS.grown hs7 (fun k hk => .inr (Nat.le_trans (Nat.le_refl _) (World.ownsRow.lt hoB k hk).1))
          replace hoO := hoO.kept hs7 (own_type_ne' hoO hoB rfl)
          refine L_run (R_assign rfl) rfl ?_
          refine L_nil (N_then (C_reg rfl ?_))
          refine L_run (R_move rfl) rfl ?_
          refine L_run (R_move rfl) rfl ?_
          refine L_buildSlice (pv := [(0, .bool false)]) (cs := [.bool false]) slc47 zer4 rfl rfl (by kernel_rfl) rfl ?_
          intro g4 w9 eg3 hb3 hs8 hz3
          have ge4 : w.heap.size ≤ g4 := eg_ge hB eg3
          have hap4 : ∀ k_, (Value.slice A2 (flatO (bsOf ss) e i).length c2).ownBlock = some k_ → k_ ≠ g4 := fun k_ hk => by have h_ := (World.ownsRow.lt hoO k_ hk).2; omega
          replace hB := gb_tr hB hs8
          replace hS := hS.gb hs8
          replace hoO := own_gb hoO hs8
          replace ho4 := own_gb ho4 hs8
          refine T_append (xs := flatO (bsOf ss) e i) (ys := [false]) EncO slc47 rfl rfl hoO (Blk.sli (m := 0) hb3) (by first | (rw [List.length_append, flatO_len]; simp; omega) | (rw [flatO_len]; simp; omega) | (rw [flatO_len]; omega)) (by have := hB.size; omega) rfl ?_
          intro A_5 c_5 w10 ho5 hs9 hat4
          replace hB := gb_tro hB hoO hs9 (Nat.le_refl _)
          replace hS := hS.grown hs9 (fun k hk => .inr (Nat.le_trans (Nat.le_refl _) (World.ownsRow.lt hoO k hk).1))
          replace ho4 := ho4.kept hs9 (own_type_ne' ho4 hoO rfl)
          refine L_run (R_assign rfl) rfl ?_
          refine L_nil (N_in (N_then (C_reg rfl ?_)))
          refine L_run (R_move rfl) rfl ?_
          refine L_run (R_add64 rfl rfl (by omega)) rfl ?_
          refine L_run (R_assign rfl) rfl ?_
          refine L_nil (N_then ?_)
          have e1_ := rB_no (room_miss (by omega) h3)
          have e2_ := rO_no (room_miss (by omega) h3)
          exact ⟨16 - (i + 1), by omega, _, A_4, c_4, A_5, c_5, (i + 1), Ac_frg ⟨rfl, rfl, (agr rfl (by rw [← e1_])), (agr rfl (by rw [← e2_])), (agr rfl (by first | rfl | (congr 1; omega) | (congr 1; simp; done) | (congr 1; simp only [IntKind.wrap_u64, IntKind.wrap_i64, IntKind.wrap_u8]; omega) | (congr 1 <;> omega))), trivial⟩, hB, hS, (by rw [← e1_]; exact ho4), (by rw [← e2_]; exact ho5), (by omega), rfl⟩
      · refine C_skip (N_then (C_seq (C_reg rfl ?_)))
        refine L_run (R_move rfl) rfl ?_
        refine L_run (R_move rfl) rfl ?_
        refine T_append (xs := flatB (bsOf ss) e i) (ys := (List.replicate 52 (0 : UInt8))) EncB slc25 rfl rfl hoB (Blk.sli (m := 0) hb1) (by first | (rw [List.length_append, flatB_len bsOf_len, List.length_drop, Sx.h]; omega) | (rw [List.length_append, flatB_len bsOf_len, List.length_replicate]; omega) | (rw [flatB_len bsOf_len, List.length_drop, Sx.h]; omega) | (rw [flatB_len bsOf_len, List.length_replicate]; omega) | (rw [flatB_len bsOf_len]; omega)) (by have := hB.size; omega) rfl ?_
        intro A_6 c_6 w11 ho6 hs10 hat5
        replace hB := gb_tro hB hoB hs10 (Nat.le_refl _)
        replace hS := hS.grown hs10 (fun k hk => .inr (Nat.le_trans (Nat.le_refl _) (World.ownsRow.lt hoB k hk).1))
        replace hoO := hoO.kept hs10 (own_type_ne' hoO hoB rfl)
        refine L_run (R_assign rfl) rfl ?_
        refine L_nil (N_then (C_reg rfl ?_))
        refine L_run (R_move rfl) rfl ?_
        refine L_run (R_move rfl) rfl ?_
        refine L_buildSlice (pv := [(0, .bool false)]) (cs := [.bool false]) slc47 zer4 rfl rfl (by kernel_rfl) rfl ?_
        intro g5 w12 eg4 hb4 hs11 hz4
        have ge5 : w.heap.size ≤ g5 := eg_ge hB eg4
        have hap5 : ∀ k_, (Value.slice A2 (flatO (bsOf ss) e i).length c2).ownBlock = some k_ → k_ ≠ g5 := fun k_ hk => by have h_ := (World.ownsRow.lt hoO k_ hk).2; omega
        replace hB := gb_tr hB hs11
        replace hS := hS.gb hs11
        replace hoO := own_gb hoO hs11
        replace ho6 := own_gb ho6 hs11
        refine T_append (xs := flatO (bsOf ss) e i) (ys := [false]) EncO slc47 rfl rfl hoO (Blk.sli (m := 0) hb4) (by first | (rw [List.length_append, flatO_len]; simp; omega) | (rw [flatO_len]; simp; omega) | (rw [flatO_len]; omega)) (by have := hB.size; omega) rfl ?_
        intro A_7 c_7 w13 ho7 hs12 hat6
        replace hB := gb_tro hB hoO hs12 (Nat.le_refl _)
        replace hS := hS.grown hs12 (fun k hk => .inr (Nat.le_trans (Nat.le_refl _) (World.ownsRow.lt hoO k hk).1))
        replace ho6 := ho6.kept hs12 (own_type_ne' ho6 hoO rfl)
        refine L_run (R_assign rfl) rfl ?_
        refine L_nil (N_in (N_then (C_reg rfl ?_)))
        refine L_run (R_move rfl) rfl ?_
        refine L_run (R_add64 rfl rfl (by omega)) rfl ?_
        refine L_run (R_assign rfl) rfl ?_
        refine L_nil (N_then ?_)
        have e1_ := rB_no (ss := ss) (e := e) (i := i) (room_out (by omega))
        have e2_ := rO_no (ss := ss) (e := e) (i := i) (room_out (by omega))
        exact ⟨16 - (i + 1), by omega, _, A_6, c_6, A_7, c_7, (i + 1), Ac_frg ⟨rfl, rfl, (agr rfl (by rw [← e1_])), (agr rfl (by rw [← e2_])), (agr rfl (by first | rfl | (congr 1; omega) | (congr 1; simp; done) | (congr 1; simp only [IntKind.wrap_u64, IntKind.wrap_i64, IntKind.wrap_u8]; omega) | (congr 1 <;> omega))), trivial⟩, hB, hS, (by rw [← e1_]; exact ho6), (by rw [← e2_]; exact ho7), (by omega), rfl⟩
    · refine C_exit (X_then (X_then (X_hit (N_then (C_seq (C_reg rfl ?_))))))
      refine L_run (R_move rfl) rfl ?_
      refine L_run (R_move rfl) rfl ?_
      refine L_run (R_assign rfl) rfl ?_
      refine L_run (R_assign rfl) rfl ?_
      refine L_nil (N_then (C_ret ?_))
      refine ret2 Tryd.results12 rfl rfl ?_
      obtain rfl : i = 16 := by omega
      exact ⟨hB, _, _, _, _, rfl, hoB, hoO⟩

end Go.Proofs.YtnggbodilhpohaaDoor
