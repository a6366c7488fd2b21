/-
  Contracts of the reference of readers.
-/
import Derived.Test.YtnggbodilhpohaaDoorSp
namespace Go.Proofs.YtnggbodilhpohaaDoor
open Go.RowKit Gw Pl
set_option linter.unusedVariables false
set_option linter.unusedSimpArgs false
theorem cb12 : callB Tryd.prog 12 = true := by kernel_rfl
theorem cb13 : callB Tryd.prog 13 = true := by kernel_rfl
theorem cb14 : callB Tryd.prog 14 = true := by kernel_rfl
theorem cb15 : callB Tryd.prog 15 = true := by kernel_rfl
theorem from_zero {e a fu : Nat} {body : List UInt8} {ok : List Bool} {o : Bool} {bs : List UInt8} (h : (accN e body ok a).2 = 0) : fromN e body ok fu a o bs = none := by
  cases fu with
  | zero => rfl
  | succ f => rw [fromN, if_pos h]
theorem acc_go {e a : Nat} {ss : List Sx} (ha : a ≤ 832) (h : ¬ (((accN e (flatB (bsOf ss) e 16) (flatO (bsOf ss) e 16) a).2 : Nat) : Int) = 0) :
    11 ≤ (accN e (flatB (bsOf ss) e 16) (flatO (bsOf ss) e 16) a).2 ∧ a + (accN e (flatB (bsOf ss) e 16) (flatO (bsOf ss) e 16) a).2 ≤ 832 ∧ (accN e (flatB (bsOf ss) e 16) (flatO (bsOf ss) e 16) a).1.2.length ≤ 832 := by
  have h0 : (accN e (flatB (bsOf ss) e 16) (flatO (bsOf ss) e 16) a).2 ≠ 0 := by omega
  have h2 := accN_ok (e := e) (ok := flatO (bsOf ss) e 16) flatB_n ha h0
  exact ⟨h2.1, h2.2.1, by omega⟩
theorem re_in {w : World} {t1 lo hi : Nat} {A : Option Addr} {c e : Nat} {a : Nat} {ss : List Sx} (hS : Sli t1 lo hi w A (fl encX ss)) (he : e < 18446744073709551616) (ha : a < 832) :
    Runs Tryd.prog 6 #[.int .u64 (e : Int), .slice A ss.length c, .int .i64 (a : Int)] w (fun v w' => w.grownBy w' none ∧ ∃ A' c', v = .tuple #[.slice A' (xb (fromR ss e (a : Int))).length c', .int .i64 ((xe (fromR ss e (a : Int)) : Nat) : Int), .bool ((fromR ss e (a : Int))).isSome] ∧ World.ownsRow w' w.heap.size 5 1 (.slice A' (xb (fromR ss e (a : Int))).length c') (xb (fromR ss e (a : Int))).length (fl encB (xb (fromR ss e (a : Int))))) := by
  have hB := gb_refl w none
  replace hS := hS.top
  refine enter Tryd.func6 Tryd.ntmps6 rfl rfl ?_
  refine C_seq (C_reg rfl ?_)
  refine L_run (R_assign rfl) rfl ?_
  refine L_run (R_assign rfl) rfl ?_
  refine L_run (R_assign rfl) rfl ?_
  refine L_nil (N_then (C_seq (C_seq (C_reg rfl ?_))))
  refine L_run (R_move rfl) rfl ?_
  refine L_run (R_lss rfl rfl) rfl ?_
  refine L_run (R_move rfl) rfl ?_
  refine L_yes rfl rfl rfl (decide_eq_false (by omega)) ?_
  refine L_run (R_move rfl) rfl ?_
  refine L_yes rfl rfl rfl (decide_eq_false (by omega)) ?_
  refine L_run (R_geq rfl rfl) rfl ?_
  refine L_run (R_pickF rfl (decide_eq_false (by omega)) rfl) rfl ?_
  refine L_nil (N_then (C_condF rfl (decide_eq_false (by omega)) (C_skip (N_then (C_seq (C_reg rfl ?_))))))
  refine L_run (R_move rfl) rfl ?_
  refine L_run (R_move rfl) rfl ?_
  have ge1 : w.heap.size ≤ w.heap.size := hB.size
  refine L_call rfl cb12 (flat16 (e := e) (ss := ss) hS (by first | omega | (simp; done) | (simp; omega))) rfl ?_
  rintro _ w1 ⟨hs1, A_1, c_1, A_2, c_2, rfl, ho1, ho2⟩
  replace hB := gb_tr hB hs1
  replace hS := hS.gb hs1
  have hlo1 : w.heap.size ≤ w1.heap.size := hs1.size
  refine L_run (R_move rfl) rfl ?_
  refine L_run (R_extract rfl rfl) rfl ?_
  refine L_run (R_extract rfl rfl) rfl ?_
  refine L_run (R_assign rfl) rfl ?_
  refine L_run (R_assign rfl) rfl ?_
  refine L_nil (N_then (C_seq (C_reg rfl ?_)))
  refine L_run (R_build (pv := []) (cs := [.bool false, .slice none 0 0]) rfl (by kernel_rfl)) rfl ?_
  refine L_alloc (cs := [.bool false, .slice none 0 0]) zer51 rfl rfl ?_
  intro g1 w2 eg1 hb1 hs2 hz1
  have ge2 : w.heap.size ≤ g1 := eg_ge hB eg1
  replace hB := gb_tr hB hs2
  replace hS := hS.gb hs2
  replace ho1 := own_gb ho1 hs2
  replace ho2 := own_gb ho2 hs2
  replace hlo1 := Nat.le_trans hlo1 hs2.size
  refine L_stA (vs := [.bool false, .slice none 0 0]) rfl rfl rfl sz51 rfl hb1 rfl ?_
  intro w3 hb2 hs3 hz2
  replace hB := gb_trg hB hs3 ge2
  replace hS := hS.old hs3 ge2
  replace ho1 := own_other ho1 hb1 rfl hs3
  replace ho2 := own_other ho2 hb1 rfl hs3
  replace hlo1 := Nat.le_trans hlo1 hs3.size
  refine L_nil (N_then (C_block ?_))
  refine C_loop (fun m_ a_ w_ => ∃ (σ_ : Nat → Value) (q : Nat) (fu : Nat) (o : Bool) (bs : List UInt8) (Aj : Option Addr) (cj : Nat), a_ = Ac 61 σ_ [] [(0, .int .u64 (e : Int)), (1, .slice A ss.length c), (2, .int .i64 (q : Int)), (6, .slice none 0 0), (7, .int .i64 0), (8, .bool false), (9, .slice A_1 ((flatB (bsOf ss) e 16).length) c_1), (10, .slice A_2 ((flatO (bsOf ss) e 16).length) c_2), (11, .pointer (some ⟨g1, 0, none⟩))] ∧ w.grownBy w_ none ∧ Sli t1 lo w.heap.size w_ A (fl encX ss) ∧ World.ownsRow w_ w.heap.size 5 1 (.slice A_1 (flatB (bsOf ss) e 16).length c_1) (flatB (bsOf ss) e 16).length (fl encB (flatB (bsOf ss) e 16)) ∧ World.ownsRow w_ w.heap.size 4 1 (.slice A_2 (flatO (bsOf ss) e 16).length c_2) (flatO (bsOf ss) e 16).length (fl encO (flatO (bsOf ss) e 16)) ∧ w.heap.size ≤ w_.heap.size ∧ Blk w_ g1 51 [.bool o, .slice Aj bs.length cj] ∧ World.ownsRow w_ w.heap.size 5 1 (.slice Aj bs.length cj) bs.length (fl encB bs) ∧ (q ≤ 832) ∧ (bs.length ≤ 512) ∧ (fromN e (flatB (bsOf ss) e 16) (flatO (bsOf ss) e 16) fu q o bs = fromN e (flatB (bsOf ss) e 16) (flatO (bsOf ss) e 16) 833 a false []) ∧ (832 < q + fu) ∧ 832 - q = m_) (832 - a) ?_ ?_
  · exact ⟨_, a, 833, false, [], none, 0, Ac_frg ⟨rfl, rfl, rfl, rfl, rfl, rfl, rfl, rfl, rfl, trivial⟩, hB, hS, ho1, ho2, hlo1, hb2, (own_nil _ _ _ _), (by omega), (by decide), rfl, (by omega), rfl⟩
  · clear hB
    clear hS ho1 ho2 hlo1 hb2
    rintro m_ a_ w4 ⟨σ_, q, fu, o, bs, Aj, cj, rfl, hB, hS, ho1, ho2, hlo1, hbj, ho, hq, hbs, hX, hfu, rfl⟩
    refine C_block (C_seq (C_reg rfl ?_))
    refine L_run (R_move rfl) rfl ?_
    refine L_run (R_move rfl) rfl ?_
    refine L_run (R_move rfl) rfl ?_
    refine L_run (R_move rfl) rfl ?_
    have ge3 : w.heap.size ≤ w4.heap.size := hB.size
    refine L_call rfl cb13 (acc_ok (e := e) (body := flatB (bsOf ss) e 16) (oks := flatO (bsOf ss) e 16) (a := q) (own_of ho1).2.2 (own_of ho2).2.2 flatB_n (own_cap ho1) (by omega)) rfl ?_
    rintro _ w5 ⟨hs4, E1, A_3, c_3, rfl, ho3⟩
    replace hB := gb_tr hB hs4
    replace hS := hS.gb hs4
    replace ho1 := own_gb ho1 hs4
    replace ho2 := own_gb ho2 hs4
    replace hlo1 := Nat.le_trans hlo1 hs4.size
    replace hbj := hbj.gb hs4
    replace ho := own_gb ho hs4
    have hlo2 : w4.heap.size ≤ w5.heap.size := hs4.size
    refine L_run (R_move rfl) rfl ?_
    refine L_run (R_extract rfl rfl) rfl ?_
    refine L_run (R_extract rfl rfl) rfl ?_
    refine L_alloc (cs := [.int .i64 0, .int .u32 0, .slice none 0 0]) zer43 rfl rfl ?_
    intro g2 w6 eg2 hb3 hs5 hz3
    have ge4 : w.heap.size ≤ g2 := eg_ge hB eg2
    have lt1 : g1 < g2 := lt_of_eg hbj.lt eg2
    replace hB := gb_tr hB hs5
    replace hS := hS.gb hs5
    replace ho1 := own_gb ho1 hs5
    replace ho2 := own_gb ho2 hs5
    replace hlo1 := Nat.le_trans hlo1 hs5.size
    replace hbj := hbj.gb hs5
    replace ho := own_gb ho hs5
    replace ho3 := own_gb ho3 hs5
    replace hlo2 := Nat.le_trans hlo2 hs5.size
    refine L_stA (vs := [.int .i64 (((accN e (flatB (bsOf ss) e 16) (flatO (bsOf ss) e 16) q).1.1 : Nat) : Int), .int .u32 E1, .slice A_3 (((accN e (flatB (bsOf ss) e 16) (flatO (bsOf ss) e 16) q).1.2).length) c_3]) rfl rfl rfl sz43 rfl hb3 rfl ?_
    intro w7 hb4 hs6 hz4
    replace hB := gb_trg hB hs6 ge4
    replace hS := hS.old hs6 ge4
    replace ho1 := own_other ho1 hb3 rfl hs6
    replace ho2 := own_other ho2 hb3 rfl hs6
    replace hlo1 := Nat.le_trans hlo1 hs6.size
    replace hbj := hbj.grown hs6 (ne_lt lt1)
    replace ho := own_other ho hb3 rfl hs6
    replace ho3 := own_other ho3 hb3 rfl hs6
    replace hlo2 := Nat.le_trans hlo2 hs6.size
    refine L_run (R_assign rfl) rfl ?_
    refine L_nil (N_then (C_seq (C_seq (C_reg rfl ?_))))
    refine L_run (R_move rfl) rfl ?_
    refine L_run (R_eql rfl rfl) rfl ?_
    refine L_nil (N_then ?_)
    refine C_if rfl (fun h1 => ?_) (fun h1 => ?_)
    · refine C_seq (C_reg rfl ?_)
      refine L_run (R_assign rfl) rfl ?_
      refine L_run (R_assign rfl) rfl ?_
      refine L_run (R_assign rfl) rfl ?_
      refine L_nil (N_then (C_ret (R_then (R_in (R_then (R_in ?_))))))
      refine ret3 Tryd.results6 rfl rfl rfl ?_
      have hr_ := fromR_in (ss := ss) (e := e) (a := a) (by omega)
      rw [hr_, ← hX]
      rw [from_zero (by omega)]; exact ⟨hB, none, 0, rfl, own_nil _ _ _ _⟩
    · refine C_skip (N_then (C_seq (C_reg rfl ?_)))
      refine L_run (R_loadA (vs := [.bool o, .slice Aj bs.length cj]) rfl agg51 (At.pre (hbj.at_ 0) rfl) rfl) rfl ?_
      refine L_run (R_loadA (vs := [.int .i64 (((accN e (flatB (bsOf ss) e 16) (flatO (bsOf ss) e 16) q).1.1 : Nat) : Int), .int .u32 E1, .slice A_3 (((accN e (flatB (bsOf ss) e 16) (flatO (bsOf ss) e 16) q).1.2).length) c_3]) rfl agg43 (At.pre (hb4.at_ 0) rfl) rfl) rfl ?_
      have ge5 : w.heap.size ≤ w7.heap.size := hB.size
      refine L_call rfl cb14 (feed15_ok (o := o) (bs := bs) (d := (accN e (flatB (bsOf ss) e 16) (flatO (bsOf ss) e 16) q).1.2) (k := ((accN e (flatB (bsOf ss) e 16) (flatO (bsOf ss) e 16) q).1.1)) (own_of ho).2.2 (own_of ho3).2.2 (by omega) (by have h_ := acc_go (ss := ss) (e := e) (a := q) (by omega) (by assumption); omega)) rfl ?_
      rintro _ w8 ⟨hs7, A_4, c_4, A_5, c_5, rfl, ho4, ho5⟩
      replace hB := gb_tr hB hs7
      replace hS := hS.gb hs7
      replace ho1 := own_gb ho1 hs7
      replace ho2 := own_gb ho2 hs7
      replace hlo1 := Nat.le_trans hlo1 hs7.size
      replace hbj := hbj.gb hs7
      replace ho := own_gb ho hs7
      replace ho3 := own_gb ho3 hs7
      replace hlo2 := Nat.le_trans hlo2 hs7.size
      replace hb4 := hb4.gb hs7
      have hlo3 : w7.heap.size ≤ w8.heap.size := hs7.size
      refine L_run (R_move rfl) rfl ?_
      refine L_run (R_extract rfl rfl) rfl ?_
      refine L_run (R_extract rfl rfl) rfl ?_
      refine L_run (R_extract rfl rfl) rfl ?_
      refine L_run (R_extract rfl rfl) rfl ?_
      refine L_alloc (cs := [.bool false, .slice none 0 0]) zer51 rfl rfl ?_
      intro g3 w9 eg3 hb5 hs8 hz5
      have ge6 : w.heap.size ≤ g3 := eg_ge hB eg3
      have lt2 : g1 < g3 := lt_of_eg hbj.lt eg3
      have lt3 : g2 < g3 := lt_of_eg hb4.lt eg3
      replace hB := gb_tr hB hs8
      replace hS := hS.gb hs8
      replace ho1 := own_gb ho1 hs8
      replace ho2 := own_gb ho2 hs8
      replace hlo1 := Nat.le_trans hlo1 hs8.size
      replace hbj := hbj.gb hs8
      replace ho := own_gb ho hs8
      replace ho3 := own_gb ho3 hs8
      replace hlo2 := Nat.le_trans hlo2 hs8.size
      replace hb4 := hb4.gb hs8
      replace ho4 := own_gb ho4 hs8
      replace ho5 := own_gb ho5 hs8
      replace hlo3 := Nat.le_trans hlo3 hs8.size
      refine L_stA (vs := [.bool ((feedN o bs ((accN e (flatB (bsOf ss) e 16) (flatO (bsOf ss) e 16) q).1.1) ((accN e (flatB (bsOf ss) e 16) (flatO (bsOf ss) e 16) q).1.2)).1.1), .slice A_4 (((feedN o bs ((accN e (flatB (bsOf ss) e 16) (flatO (bsOf ss) e 16) q).1.1) ((accN e (flatB (bsOf ss) e 16) (flatO (bsOf ss) e 16) q).1.2)).1.2).length) c_4]) rfl rfl rfl sz51 rfl hb5 rfl ?_
      intro w10 hb6 hs9 hz6
      replace hB := gb_trg hB hs9 ge6
      replace hS := hS.old hs9 ge6
      replace ho1 := own_other ho1 hb5 rfl hs9
      replace ho2 := own_other ho2 hb5 rfl hs9
      replace hlo1 := Nat.le_trans hlo1 hs9.size
      replace hbj := hbj.grown hs9 (ne_lt lt2)
      replace ho := own_other ho hb5 rfl hs9
      replace ho3 := own_other ho3 hb5 rfl hs9
      replace hlo2 := Nat.le_trans hlo2 hs9.size
      replace hb4 := hb4.grown hs9 (ne_lt lt3)
      replace ho4 := own_other ho4 hb5 rfl hs9
      replace ho5 := own_other ho5 hb5 rfl hs9
      replace hlo3 := Nat.le_trans hlo3 hs9.size
      refine L_run (R_assign rfl) rfl ?_
      refine L_run (R_assign rfl) rfl ?_
      refine L_run (R_assign rfl) rfl ?_
      refine L_nil (N_then (C_seq (C_seq (C_reg rfl ?_))))
      refine L_run (R_move rfl) rfl ?_
      refine L_run (R_neq rfl rfl) rfl ?_
      refine L_nil (N_then ?_)
      refine C_if rfl (fun h2 => ?_) (fun h2 => ?_)
      · refine C_seq (C_reg rfl ?_)
        refine L_run (R_assign rfl) rfl ?_
        refine L_run (R_assign rfl) rfl ?_
        refine L_run (R_assign rfl) rfl ?_
        refine L_nil (N_then (C_ret (R_then (R_in (R_then (R_in ?_))))))
        refine ret3 Tryd.results6 rfl rfl rfl ?_
        have hr_ := fromR_in (ss := ss) (e := e) (a := a) (by omega)
        rw [hr_, ← hX]
        rw [from_bad (by have h_ := h2; omega)]; exact ⟨hB, none, 0, rfl, own_nil _ _ _ _⟩
      · refine C_skip (N_then (C_seq (C_seq (C_reg rfl ?_))))
        refine L_run (R_move rfl) rfl ?_
        refine L_nil (N_then ?_)
        refine C_cond rfl (fun h3 => ?_) (fun h3 => ?_)
        · refine C_seq (C_reg rfl ?_)
          refine L_run (R_move rfl) rfl ?_
          refine L_run (R_move rfl) rfl ?_
          refine L_run (R_move rfl) rfl ?_
          refine L_run (R_eqv (R_add64 rfl rfl (by have h_ := acc_go (ss := ss) (e := e) (a := q) (by omega) (by assumption); omega)) (v' := .int .i64 ((q + ((accN e (flatB (bsOf ss) e 16) (flatO (bsOf ss) e 16) q).2) : Nat) : Int)) (congrArg _ (by omega))) rfl ?_
          refine L_run (R_assign rfl) rfl ?_
          refine L_run (R_assign rfl) rfl ?_
          refine L_run (R_assign rfl) rfl ?_
          refine L_nil (N_then (C_ret (R_then (R_in (R_then (R_in ?_))))))
          refine ret3 Tryd.results6 rfl rfl rfl ?_
          have hr_ := fromR_in (ss := ss) (e := e) (a := a) (by omega)
          rw [hr_, ← hX]
          have hgo := acc_go (by omega) h1
          rw [from_fin (k := (accN e (flatB (bsOf ss) e 16) (flatO (bsOf ss) e 16) q).1.1) (d := (accN e (flatB (bsOf ss) e 16) (flatO (bsOf ss) e 16) q).1.2) rfl hgo.1 (by omega) rfl (Decidable.not_not.1 h2) h3]
          exact ⟨hB, _, _, rfl, (own_lo ho5 ge5)⟩
        · refine C_skip (N_then (C_seq (C_reg rfl ?_)))
          refine L_run (R_loadA (vs := [.bool ((feedN o bs ((accN e (flatB (bsOf ss) e 16) (flatO (bsOf ss) e 16) q).1.1) ((accN e (flatB (bsOf ss) e 16) (flatO (bsOf ss) e 16) q).1.2)).1.1), .slice A_4 (((feedN o bs ((accN e (flatB (bsOf ss) e 16) (flatO (bsOf ss) e 16) q).1.1) ((accN e (flatB (bsOf ss) e 16) (flatO (bsOf ss) e 16) q).1.2)).1.2).length) c_4]) rfl agg51 (At.pre (hb6.at_ 0) rfl) rfl) rfl ?_
          refine L_stA (vs := [.bool ((feedN o bs ((accN e (flatB (bsOf ss) e 16) (flatO (bsOf ss) e 16) q).1.1) ((accN e (flatB (bsOf ss) e 16) (flatO (bsOf ss) e 16) q).1.2)).1.1), .slice A_4 (((feedN o bs ((accN e (flatB (bsOf ss) e 16) (flatO (bsOf ss) e 16) q).1.1) ((accN e (flatB (bsOf ss) e 16) (flatO (bsOf ss) e 16) q).1.2)).1.2).length) c_4]) rfl rfl rfl sz51 rfl hbj rfl ?_
          intro w11 hb7 hs10 hz7
          replace hB := gb_trg hB hs10 ge2
          replace hS := hS.old hs10 ge2
          replace ho1 := own_other ho1 hbj rfl hs10
          replace ho2 := own_other ho2 hbj rfl hs10
          replace hlo1 := Nat.le_trans hlo1 hs10.size
          replace ho := own_other ho hbj rfl hs10
          replace ho3 := own_other ho3 hbj rfl hs10
          replace hlo2 := Nat.le_trans hlo2 hs10.size
          replace hb4 := hb4.grown hs10 (ne_gt lt1)
          replace ho4 := own_other ho4 hbj rfl hs10
          replace ho5 := own_other ho5 hbj rfl hs10
          replace hlo3 := Nat.le_trans hlo3 hs10.size
          replace hb6 := hb6.grown hs10 (ne_gt lt2)
          refine L_nil (N_then (C_reg rfl ?_))
          refine L_run (R_move rfl) rfl ?_
          refine L_run (R_move rfl) rfl ?_
          refine L_run (R_add64 rfl rfl (by have h_ := acc_go (ss := ss) (e := e) (a := q) (by omega) (by assumption); omega)) rfl ?_
          refine L_call rfl cb15 (begin7 (n := (q + ((accN e (flatB (bsOf ss) e 16) (flatO (bsOf ss) e 16) q).2))) (by have h_ := acc_go (ss := ss) (e := e) (a := q) (by omega) (by assumption); omega)) rfl ?_
          rintro _ w12 ⟨hs11, rfl⟩
          replace hB := gb_tr hB hs11
          replace hS := hS.gb hs11
          replace ho1 := own_gb ho1 hs11
          replace ho2 := own_gb ho2 hs11
          replace hlo1 := Nat.le_trans hlo1 hs11.size
          replace hb7 := hb7.gb hs11
          replace ho := own_gb ho hs11
          replace ho3 := own_gb ho3 hs11
          replace hlo2 := Nat.le_trans hlo2 hs11.size
          replace hb4 := hb4.gb hs11
          replace ho4 := own_gb ho4 hs11
          replace ho5 := own_gb ho5 hs11
          replace hlo3 := Nat.le_trans hlo3 hs11.size
          replace hb6 := hb6.gb hs11
          refine L_run (R_assign rfl) rfl ?_
          refine L_nil (N_in (N_then ?_))
          have hgo := acc_go (by omega) h1
          have hbg := begin_go hgo.1 hgo.2.1
          exact ⟨832 - (beginN (q + (accN e (flatB (bsOf ss) e 16) (flatO (bsOf ss) e 16) q).2)), by omega, _, (beginN (q + (accN e (flatB (bsOf ss) e 16) (flatO (bsOf ss) e 16) q).2)), (fu - 1), ((feedN o bs ((accN e (flatB (bsOf ss) e 16) (flatO (bsOf ss) e 16) q).1.1) ((accN e (flatB (bsOf ss) e 16) (flatO (bsOf ss) e 16) q).1.2)).1.1), (feedN o bs ((accN e (flatB (bsOf ss) e 16) (flatO (bsOf ss) e 16) q).1.1) ((accN e (flatB (bsOf ss) e 16) (flatO (bsOf ss) e 16) q).1.2)).1.2, A_4, c_4, Ac_frg ⟨rfl, rfl, (agr rfl (by first | rfl | (congr 1; omega) | (congr 1; simp; done) | (congr 1; simp only [IntKind.wrap_u64, IntKind.wrap_i64, IntKind.wrap_u8]; omega) | (congr 1 <;> omega))), rfl, rfl, rfl, rfl, rfl, rfl, trivial⟩, hB, hS, ho1, ho2, hlo1, hb7, (own_lo ho4 ge5), hbg.2, feedN_len.1, (from_go (k := (accN e (flatB (bsOf ss) e 16) (flatO (bsOf ss) e 16) q).1.1) (d := (accN e (flatB (bsOf ss) e 16) (flatO (bsOf ss) e 16) q).1.2) rfl hgo.1 (by omega) hX (Decidable.not_not.1 h2) h3), (by omega), rfl⟩

theorem re_neg {w : World} {t1 lo hi : Nat} {A : Option Addr} {c e : Nat} {z : Int} {ss : List Sx} (hS : Sli t1 lo hi w A (fl encX ss)) (he : e < 18446744073709551616) (hz : z < 0) :
    Runs Tryd.prog 6 #[.int .u64 (e : Int), .slice A ss.length c, .int .i64 z] w (fun v w' => w.grownBy w' none ∧ ∃ A' c', v = .tuple #[.slice A' (xb (fromR ss e z)).length c', .int .i64 ((xe (fromR ss e z) : Nat) : Int), .bool ((fromR ss e z)).isSome] ∧ World.ownsRow w' w.heap.size 5 1 (.slice A' (xb (fromR ss e z)).length c') (xb (fromR ss e z)).length (fl encB (xb (fromR ss e z)))) := by
  have hB := gb_refl w none
  replace hS := hS.top
  refine enter Tryd.func6 Tryd.ntmps6 rfl rfl ?_
  refine C_seq (C_reg rfl ?_)
  refine L_run (R_assign rfl) rfl ?_
  refine L_run (R_assign rfl) rfl ?_
  refine L_run (R_assign rfl) rfl ?_
  refine L_nil (N_then (C_seq (C_seq (C_reg rfl ?_))))
  refine L_run (R_move rfl) rfl ?_
  refine L_run (R_lss rfl rfl) rfl ?_
  refine L_run (R_move rfl) rfl ?_
  refine L_no rfl rfl rfl (decide_eq_true hz) rfl ?_
  refine L_no rfl rfl rfl (decide_eq_true hz) rfl ?_
  refine L_run (R_pickT rfl (decide_eq_true hz) rfl) rfl ?_
  refine L_nil (N_then (C_condT rfl rfl (C_seq (C_reg rfl ?_))))
  refine L_run (R_assign rfl) rfl ?_
  refine L_run (R_assign rfl) rfl ?_
  refine L_run (R_assign rfl) rfl ?_
  refine L_nil (N_then (C_ret (R_then ?_)))
  refine ret3 Tryd.results6 rfl rfl rfl ?_
  rw [fromR_far (by omega)]; exact ⟨hB, none, 0, rfl, own_nil _ _ _ _⟩

theorem re_big {w : World} {t1 lo hi : Nat} {A : Option Addr} {c e : Nat} {z : Int} {ss : List Sx} (hS : Sli t1 lo hi w A (fl encX ss)) (he : e < 18446744073709551616) (hz : 832 ≤ z) :
    Runs Tryd.prog 6 #[.int .u64 (e : Int), .slice A ss.length c, .int .i64 z] w (fun v w' => w.grownBy w' none ∧ ∃ A' c', v = .tuple #[.slice A' (xb (fromR ss e z)).length c', .int .i64 ((xe (fromR ss e z) : Nat) : Int), .bool ((fromR ss e z)).isSome] ∧ World.ownsRow w' w.heap.size 5 1 (.slice A' (xb (fromR ss e z)).length c') (xb (fromR ss e z)).length (fl encB (xb (fromR ss e z)))) := by
  have hB := gb_refl w none
  replace hS := hS.top
  refine enter Tryd.func6 Tryd.ntmps6 rfl rfl ?_
  refine C_seq (C_reg rfl ?_)
  refine L_run (R_assign rfl) rfl ?_
  refine L_run (R_assign rfl) rfl ?_
  refine L_run (R_assign rfl) rfl ?_
  refine L_nil (N_then (C_seq (C_seq (C_reg rfl ?_))))
  refine L_run (R_move rfl) rfl ?_
  refine L_run (R_lss rfl rfl) rfl ?_
  refine L_run (R_move rfl) rfl ?_
  refine L_yes rfl rfl rfl (decide_eq_false (by omega)) ?_
  refine L_run (R_move rfl) rfl ?_
  refine L_yes rfl rfl rfl (decide_eq_false (by omega)) ?_
  refine L_run (R_geq rfl rfl) rfl ?_
  refine L_run (R_pickF rfl (decide_eq_false (by omega)) rfl) rfl ?_
  refine L_nil (N_then (C_condT rfl (decide_eq_true hz) (C_seq (C_reg rfl ?_))))
  refine L_run (R_assign rfl) rfl ?_
  refine L_run (R_assign rfl) rfl ?_
  refine L_run (R_assign rfl) rfl ?_
  refine L_nil (N_then (C_ret (R_then ?_)))
  refine ret3 Tryd.results6 rfl rfl rfl ?_
  rw [fromR_far (by omega)]; exact ⟨hB, none, 0, rfl, own_nil _ _ _ _⟩

theorem re_ok {w : World} {t1 lo hi : Nat} {A : Option Addr} {c e : Nat} {z : Int} {ss : List Sx} (hS : Sli t1 lo hi w A (fl encX ss)) (he : e < 18446744073709551616) :
    Runs Tryd.prog 6 #[.int .u64 (e : Int), .slice A ss.length c, .int .i64 z] w (fun v w' => w.grownBy w' none ∧ ∃ A' c', v = .tuple #[.slice A' (xb (fromR ss e z)).length c', .int .i64 ((xe (fromR ss e z) : Nat) : Int), .bool ((fromR ss e z)).isSome] ∧ World.ownsRow w' w.heap.size 5 1 (.slice A' (xb (fromR ss e z)).length c') (xb (fromR ss e z)).length (fl encB (xb (fromR ss e z)))) := by
  rcases Int.lt_or_le z 0 with h | h
  · exact re_neg hS he h
  · rcases Int.lt_or_le z 832 with h2 | h2
    · obtain ⟨a, rfl⟩ : ∃ a : Nat, z = (a : Int) := ⟨z.toNat, by omega⟩
      exact re_in hS he (by omega)
    · exact re_big hS he h2
end Go.Proofs.YtnggbodilhpohaaDoor
