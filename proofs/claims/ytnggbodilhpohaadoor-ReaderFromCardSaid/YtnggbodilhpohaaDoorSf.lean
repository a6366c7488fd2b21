/-
  Contracts of the package plan: a body out of its sectors.
-/
import Derived.Test.YtnggbodilhpohaaDoorSe
namespace Go.Proofs.YtnggbodilhpohaaDoor
open Go.RowKit Gw Pl
set_option linter.unusedVariables false
set_option linter.unusedSimpArgs false
theorem cb34 : callB Tryd.prog 34 = true := by kernel_rfl
theorem slc23 : slcB Tryd.prog 23 70 64 64 = true := by kernel_rfl
theorem sz4 : szB Tryd.prog 4 1 = true := by kernel_rfl
theorem zer4 : (Tryd.prog.info? 4).bind (·.zero) = some (.bool false) := by kernel_rfl
theorem spl_mid {α : Type} {A r z : List α} {o m : Nat} (ho : o = A.length) (hm : r.length ≤ m) : spl (A ++ z) o (r.take m) = (A ++ r) ++ z.drop r.length := by
  subst ho
  unfold spl
  rw [List.take_of_length_le hm, List.take_left, List.drop_append, List.drop_of_length_le (by omega), List.nil_append, show A.length + r.length - A.length = r.length by omega]
theorem set_mid {A : List Bool} {n k : Nat} {b : Bool} (hA : A.length = k) (hk : k < n) : (A ++ List.replicate (n - k) false).set k b = (A ++ [b]) ++ List.replicate (n - (k + 1)) false := by
  subst hA
  rw [List.set_append_right _ _ (Nat.le_refl _), Nat.sub_self, show n - A.length = (n - (A.length + 1)) + 1 by omega, List.replicate_succ, List.set_cons_zero, List.append_assoc]
  rfl
def bsOf (ss : List Sx) : List (List UInt8) := ss.map (·.b)
theorem bsOf_len {ss : List Sx} : ∀ s ∈ bsOf ss, s.length = 64 := by
  intro s hs
  obtain ⟨x, _, rfl⟩ := List.mem_map.1 hs
  exact x.h
theorem room_in {ss : List Sx} {e i : Nat} (hi : i < ss.length) : roomN (bsOf ss) e i = if getN (ss[i].b.take 8) = e ∧ getN ((ss[i].b.drop 8).take 4) = i then some (ss[i].b.drop 12) else none := by
  have h : (bsOf ss)[i]? = some ss[i].b := by simp [bsOf, List.getElem?_eq_getElem hi]
  unfold roomN
  rw [h]
  rfl
theorem room_out {ss : List Sx} {e i : Nat} (hi : ss.length ≤ i) : roomN (bsOf ss) e i = none := by
  have h : (bsOf ss)[i]? = none := by simp [bsOf, hi]
  unfold roomN
  rw [h]
def flB (ss : List Sx) (e i : Nat) : List UInt8 := flatB (bsOf ss) e i ++ List.replicate (832 - 52 * i) 0
def flO (ss : List Sx) (e i : Nat) : List Bool := flatO (bsOf ss) e i ++ List.replicate (16 - i) false
theorem flB_0 {ss : List Sx} {e : Nat} : flB ss e 0 = List.replicate 832 0 := rfl
theorem flO_0 {ss : List Sx} {e : Nat} : flO ss e 0 = List.replicate 16 false := rfl
theorem flB_n {ss : List Sx} {e i : Nat} (h : i ≤ 16) : (flB ss e i).length = 832 := by
  unfold flB
  rw [List.length_append, flatB_len bsOf_len, List.length_replicate]
  omega
theorem flO_n {ss : List Sx} {e i : Nat} (h : i ≤ 16) : (flO ss e i).length = 16 := by
  unfold flO
  rw [List.length_append, flatO_len, List.length_replicate]
  omega
theorem flB_yes {ss : List Sx} {e i m : Nat} (hi : i < ss.length) (h16 : i < 16) (hq : getN (ss[i].b.take 8) = e ∧ getN ((ss[i].b.drop 8).take 4) = i) (hm : m = 52) : spl (flB ss e i) (0 + i * 52) ((ss[i].b.drop 12).take m) = flB ss e (i + 1) := by
  have hl : (ss[i].b.drop 12).length = 52 := by rw [List.length_drop, ss[i].h]
  unfold flB
  rw [spl_mid (by rw [flatB_len bsOf_len]; omega) (by omega), hl, flatB_succ, room_in hi, if_pos hq, List.drop_replicate, show 832 - 52 * i - 52 = 832 - 52 * (i + 1) by omega]
  rfl
theorem flB_no {ss : List Sx} {e i m : Nat} (hi : i < ss.length) (h16 : i < 16) (hq : ¬ (getN (ss[i].b.take 8) = e ∧ getN ((ss[i].b.drop 8).take 4) = i)) : spl (flB ss e i) (0 + i * 52) (([] : List UInt8).take m) = flB ss e (i + 1) := by
  rw [List.take_nil, spl_nil]
  unfold flB
  rw [flatB_succ, room_in hi, if_neg hq, List.append_assoc]
  simp only [Option.getD_none, List.replicate_append_replicate]
  rw [show 52 + (832 - 52 * (i + 1)) = 832 - 52 * i by omega]
theorem flO_yes {ss : List Sx} {e i : Nat} (hi : i < ss.length) (h16 : i < 16) (hq : getN (ss[i].b.take 8) = e ∧ getN ((ss[i].b.drop 8).take 4) = i) : (flO ss e i).set i true = flO ss e (i + 1) := by
  unfold flO
  rw [set_mid (flatO_len _ _ _) h16, flatO_succ, room_in hi, if_pos hq]
  rfl
theorem flO_no {ss : List Sx} {e i : Nat} (hi : i < ss.length) (h16 : i < 16) (hq : ¬ (getN (ss[i].b.take 8) = e ∧ getN ((ss[i].b.drop 8).take 4) = i)) : (flO ss e i).set i false = flO ss e (i + 1) := by
  unfold flO
  rw [set_mid (flatO_len _ _ _) h16, flatO_succ, room_in hi, if_neg hq]
  rfl
theorem flB_rest {ss : List Sx} {e i : Nat} (h : ss.length ≤ i) (h16 : i < 16) : flB ss e i = flB ss e (i + 1) := by
  unfold flB
  rw [flatB_succ, room_out h, List.append_assoc]
  simp only [Option.getD_none, List.replicate_append_replicate]
  rw [show 52 + (832 - 52 * (i + 1)) = 832 - 52 * i by omega]
theorem flO_rest {ss : List Sx} {e i : Nat} (h : ss.length ≤ i) (h16 : i < 16) : flO ss e i = flO ss e (i + 1) := by
  unfold flO
  rw [flatO_succ, room_out h, show 16 - i = (16 - (i + 1)) + 1 by omega, List.replicate_succ, List.append_assoc]
  rfl
theorem fl_end {ss : List Sx} {e i : Nat} (h : i = min ss.length 16) : flB ss e i = flB ss e 16 ∧ flO ss e i = flO ss e 16 := by
  have key : ∀ (d i : Nat), ss.length ≤ i → i + d = 16 → flB ss e i = flB ss e 16 ∧ flO ss e i = flO ss e 16 := by
    intro d
    induction d with
    | zero => intro i h1 h2; obtain rfl : i = 16 := by omega
              exact ⟨rfl, rfl⟩
    | succ d ih =>
      intro i h1 h2
      rw [flB_rest h1 (by omega), flO_rest h1 (by omega)]
      exact ih (i + 1) (by omega) (by omega)
  rcases Nat.lt_or_ge 16 ss.length with h2 | h2
  · obtain rfl : i = 16 := by omega
    exact ⟨rfl, rfl⟩
  · exact key (16 - i) i (by omega) (by omega)
theorem flB_16 {ss : List Sx} {e : Nat} : flB ss e 16 = flatB (bsOf ss) e 16 := by unfold flB; simp
theorem flO_16 {ss : List Sx} {e : Nat} : flO ss e 16 = flatO (bsOf ss) e 16 := by unfold flO; simp
theorem flat_ok {w : World} {t1 lo hi : Nat} {A : Option Addr} {c e : Nat} {ss : List Sx} (hS : Sli t1 lo hi w A (fl encX ss)) (he : e < 18446744073709551616) :
    Runs Tryd.prog 19 #[.int .u64 (e : Int), .slice A ss.length c] w (fun v w' => w.grownBy w' none ∧ ∃ g1 g2, w.heap.size ≤ g1 ∧ w.heap.size ≤ g2 ∧ v = .tuple #[.slice (some ⟨g1, 0, none⟩) (flatB (bsOf ss) e 16).length 832, .slice (some ⟨g2, 0, none⟩) (flatO (bsOf ss) e 16).length 16] ∧ Blk w' g1 5 (fl encB (flatB (bsOf ss) e 16)) ∧ Blk w' g2 4 (fl encO (flatO (bsOf ss) e 16))) := by
  have hB := gb_refl w none
  replace hS := hS.top
  refine enter Tryd.func19 Tryd.ntmps19 rfl rfl ?_
  refine C_seq (C_reg rfl ?_)
  refine L_run (R_assign rfl) rfl ?_
  refine L_run (R_assign rfl) rfl ?_
  refine L_nil (N_then (C_seq ?_))
  refine C_join (fun a_ w_ => (∃ (σ_ : Nat → Value) (g1 : Nat) (g2 : Nat), a_ = Ac 48 σ_ [] [(0, .int .u64 (e : Int)), (1, .slice A ss.length c), (4, .slice none 0 0), (5, .slice none 0 0), (6, .slice (some ⟨g1, 0, none⟩) 832 832), (7, .slice (some ⟨g2, 0, none⟩) 16 16)] ∧ w.grownBy w_ none ∧ Sli t1 lo w.heap.size w_ A (fl encX ss) ∧ Blk w_ g1 5 (fl encB (List.replicate 832 (0 : UInt8))) ∧ Blk w_ g2 4 (fl encO (List.replicate 16 false)) ∧ w.heap.size ≤ g1 ∧ w.heap.size ≤ g2)) ?_ ?_
  · refine C_draw2 rfl mix ?_
    intro w1 hs1 hz1
    replace hB := gb_tr hB hs1
    replace hS := hS.gb hs1
    refine ⟨fun W_ => True, [2, 3], ?_⟩
    refine T_all (rs := [0, 1]) (by kernel_rfl) rfl (all2 (O_one rfl ?_) (O_one rfl ?_))
    · refine L_make (enc := encB) (m := 832) (x0 := (0 : UInt8)) slc25 zer5 rfl rfl rfl EncB (by omega) (by omega) rfl ?_
      intro g1 w2 eg1 hb1 hs2 hz2
      have ge1 : w.heap.size ≤ g1 := eg_ge hB eg1
      replace hB := gb_tr hB hs2
      replace hS := hS.gb hs2
      refine L_nil (N_then ⟨fun hN_ => trivial, ?_⟩)
      refine T_takeA (i := 2) rfl rfl (by kernel_rfl) (by kernel_rfl) (by kernel_rfl) (Y_of (fun _ _ => R_assign rfl)) trivial rfl ?_
      refine T_all (rs := [1]) (by kernel_rfl) rfl (all1 (O_one rfl ?_))
      refine L_make (enc := encO) (m := 16) (x0 := false) slc47 zer4 rfl rfl rfl EncO (by omega) (by omega) rfl ?_
      intro g2 w3 eg2 hb2 hs3 hz3
      have ge2 : w.heap.size ≤ g2 := eg_ge hB eg2
      have lt1 : g1 < g2 := lt_of_eg hb1.lt eg2
      replace hB := gb_tr hB hs3
      replace hS := hS.gb hs3
      replace hb1 := hb1.gb hs3
      refine L_nil (N_then ⟨fun hN_ => trivial, ?_⟩)
      refine T_takeA (i := 3) rfl rfl (by kernel_rfl) (by kernel_rfl) (by kernel_rfl) (Y_of (fun _ _ => R_assign rfl)) trivial rfl ?_
      refine T_done (by kernel_rfl) (CalmE.normal ?_)
      exact ⟨rfl, ⟨_, g1, g2, Ac_frg ⟨rfl, rfl, rfl, rfl, rfl, rfl, trivial⟩, hB, hS, hb1, hb2, ge1, ge2⟩⟩
    · refine L_make (enc := encO) (m := 16) (x0 := false) slc47 zer4 rfl rfl rfl EncO (by omega) (by omega) rfl ?_
      intro g3 w4 eg3 hb3 hs4 hz4
      have ge3 : w.heap.size ≤ g3 := eg_ge hB eg3
      replace hB := gb_tr hB hs4
      replace hS := hS.gb hs4
      refine L_nil (N_then ⟨fun hN_ => trivial, ?_⟩)
      refine T_all (rs := [0]) (by kernel_rfl) rfl (all1 (O_one rfl ?_))
      refine L_make (enc := encB) (m := 832) (x0 := (0 : UInt8)) slc25 zer5 rfl rfl rfl EncB (by omega) (by omega) rfl ?_
      intro g4 w5 eg4 hb4 hs5 hz5
      have ge4 : w.heap.size ≤ g4 := eg_ge hB eg4
      have lt2 : g3 < g4 := lt_of_eg hb3.lt eg4
      replace hB := gb_tr hB hs5
      replace hS := hS.gb hs5
      replace hb3 := hb3.gb hs5
      refine L_nil (N_then ⟨fun hN_ => trivial, ?_⟩)
      refine T_takeA (i := 2) rfl rfl (by kernel_rfl) (by kernel_rfl) (by kernel_rfl) (Y_of (fun _ _ => R_assign rfl)) trivial rfl ?_
      refine T_takeA (i := 3) rfl rfl (by kernel_rfl) (by kernel_rfl) (by kernel_rfl) (Y_of (fun _ _ => R_assign rfl)) trivial rfl ?_
      refine T_done (by kernel_rfl) (CalmE.normal ?_)
      exact ⟨rfl, ⟨_, g4, g3, Ac_frg ⟨rfl, rfl, rfl, rfl, rfl, rfl, trivial⟩, hB, hS, hb4, hb3, ge4, ge3⟩⟩
  · clear hB
    clear hS
    rintro a_ w6 ⟨σ_, g1, g2, rfl, hB, hS, hj1, hj2, ge5, ge6⟩
    refine N_then (C_seq (C_seq (C_reg rfl ?_)))
    refine L_run (R_move rfl) rfl ?_
    refine L_run (R_lenSl rfl slc23) rfl ?_
    refine L_run (R_min2 rfl rfl) rfl ?_
    refine L_run (R_move rfl) rfl ?_
    refine L_nil (N_then (C_block ?_))
    skip
    refine C_loop (fun m_ a_ w_ => ∃ (σ_ : Nat → Value) (i : Nat), a_ = Ac 48 σ_ [] [(0, .int .u64 (e : Int)), (1, .slice A ss.length c), (6, .slice (some ⟨g1, 0, none⟩) 832 832), (7, .slice (some ⟨g2, 0, none⟩) 16 16), (15, .int .i64 (min (ss.length : Int) 16)), (16, .int .i64 (i : Int))] ∧ w.grownBy w_ none ∧ Sli t1 lo w.heap.size w_ A (fl encX ss) ∧ Blk w_ g1 5 (fl encB (flB ss e i)) ∧ Blk w_ g2 4 (fl encO (flO ss e i)) ∧ (i ≤ ss.length ∧ i ≤ 16) ∧ 16 - i = m_) (16 - 0) ?_ ?_
    · exact ⟨_, 0, Ac_frg ⟨rfl, rfl, rfl, rfl, rfl, (agr rfl (by first | rfl | (congr 1; omega) | (congr 1; simp; done) | (congr 1; simp only [IntKind.wrap_u64, IntKind.wrap_i64, IntKind.wrap_u8]; omega) | (congr 1 <;> omega))), trivial⟩, hB, hS, (by rw [flB_0]; exact hj1), (by rw [flO_0]; exact hj2), (by omega), rfl⟩
    · clear hB
      clear hS hj1 hj2
      rintro m_ a_ w7 ⟨σ_, i, rfl, hB, hS, hbB, hbO, hi, rfl⟩
      refine C_seq (C_reg rfl ?_)
      refine L_run (R_lss rfl rfl) rfl ?_
      refine L_nil (N_then (C_seq ?_))
      refine C_if rfl (fun h1 => ?_) (fun h1 => ?_)
      · refine C_skip (N_then (C_seq (C_block (C_seq (C_reg rfl ?_)))))
        refine L_run (R_move rfl) rfl ?_
        refine L_run (R_assign rfl) rfl ?_
        refine L_nil (N_then (C_seq (C_reg rfl ?_)))
        refine L_run (R_move rfl) rfl ?_
        refine L_run (R_move rfl) rfl ?_
        have hl1 : i < ss.length := by first | omega | (simp; omega)
        refine T_index (xs := ss) (i := i) EncX rfl rfl (by first | rfl | omega) slc23 hl1 hS rfl ?_
        intro g5 o1 ha1
        replace ha1 : At w7 g5 o1 (fl encB ss[i].b) := ha1
        refine L_run (R_loadA (vs := fl encB (ss[i].b)) rfl agg70 ha1 (flB_lenE ss[i].h)) rfl ?_
        refine L_run (R_move rfl) rfl ?_
        refine L_run (R_move rfl) rfl ?_
        have ge7 : w.heap.size ≤ w7.heap.size := hB.size
        by_cases h2 : getN ((ss[i].b).take 8) = e ∧ getN (((ss[i].b).drop 8).take 4) = i
        · refine L_call rfl cb34 (open_y (s := ss[i].b) (e := e) (i := i) ss[i].h he (by omega)  h2) rfl ?_
          rintro _ w8 ⟨hs6, g6, hg1, rfl, hb5⟩
          have lt3 : g1 < g6 := Nat.lt_of_lt_of_le hbB.lt hg1
          have lt4 : g2 < g6 := Nat.lt_of_lt_of_le hbO.lt hg1
          replace hB := gb_tr hB hs6
          replace hS := hS.gb hs6
          replace hbB := hbB.gb hs6
          replace hbO := hbO.gb hs6
          replace ha1 := At.gb ha1 hs6 (by simp)
          refine L_run (R_move rfl) rfl ?_
          refine L_run (R_extract rfl rfl) rfl ?_
          refine L_run (R_extract rfl rfl) rfl ?_
          refine L_run (R_assign rfl) rfl ?_
          refine L_run (R_assign rfl) rfl ?_
          refine L_nil (N_then (C_seq (C_reg rfl ?_)))
          refine L_run (R_move rfl) rfl ?_
          refine L_run (R_move rfl) rfl ?_
          refine L_run (R_move rfl) rfl ?_
          refine L_run (R_indexE (i := i) (m := 16) (r := i) rfl rfl (by first | rfl | omega) slc47 (by omega) rfl (by omega)) rfl ?_
          refine L_st1v (v := .bool true) rfl rfl rfl sz4 hbO (by rw [fl_len EncO, Nat.mul_one, (flO_n (by omega))]; omega) ?_
          intro w9 hb6 hs7 hz6
          rw [fl_set1 EncO (b := true) rfl (by rw [(flO_n (by omega))]; omega)] at hb6
          replace hB := gb_trg hB hs7 ge6
          replace hS := hS.old hs7 ge6
          replace hbB := hbB.grown hs7 (ne_ty hbB hbO rfl)
          replace hb5 := hb5.grown hs7 (ne_gt lt4)
          refine L_nil (N_then (C_reg rfl ?_))
          refine L_run (R_move rfl) rfl ?_
          refine L_run (R_move rfl) rfl ?_
          refine L_run (R_eqv (R_mul64 rfl rfl (by omega)) (v' := .int .i64 ((i * 52 : Nat) : Int)) (congrArg _ (by omega))) rfl ?_
          refine L_run (R_move rfl) rfl ?_
          refine L_run (R_add64 rfl rfl (by omega)) rfl ?_
          refine L_run (R_eqv (R_mul64 rfl rfl (by omega)) (v' := .int .i64 (((i + 1) * 52 : Nat) : Int)) (congrArg _ (by omega))) rfl ?_
          refine L_run (R_move rfl) rfl ?_
          refine L_run (R_add64 rfl rfl (by omega)) rfl ?_
          refine L_run (R_eqv (R_mul64 rfl rfl (by omega)) (v' := .int .i64 (((i + 1) * 52 : Nat) : Int)) (congrArg _ (by omega))) rfl ?_
          refine T_slB (o := 0) (m := 832) (i := (i * 52)) (j := ((i + 1) * 52)) (r := ((i + 1) * 52)) EncB slc25 rfl hbB (by rw [(flB_n (by omega))]; omega) (by first | omega | (simp; omega)) (by first | omega | (simp; omega)) (by first | omega | (simp; omega)) (by first | omega | (simp; omega)) rfl ⟨_, rfl⟩ ⟨_, rfl⟩ ⟨rfl, _, rfl⟩ ?_
          intro A_1 hA1 hS_1
          refine L_run (R_move rfl) rfl ?_
          refine T_copy (xs := (flB ss e i)) (ys := (ss[i].b).drop 12) (o := (0 + (i * 52))) (m := (((flB ss e i).drop (0 + (i * 52))).take (((i + 1) * 52) - (i * 52))).length) EncB slc25 rfl rfl hbB (fun _ => hA1 (by omega)) (by rw [List.length_take, List.length_drop, flB_n (by omega)]; omega) (Blk.sli (m := 0) hb5) rfl ?_
          intro w10 hb7 hs8 hz7
          replace hB := gb_trg hB hs8 ge5
          replace hS := hS.old hs8 ge5
          replace hb6 := hb6.grown hs8 (ne_ty hb6 hbB rfl)
          replace hb5 := hb5.grown hs8 (ne_gt lt3)
          refine L_nil (N_in (N_then (C_reg rfl ?_)))
          refine L_run (R_add64 rfl rfl (by omega)) rfl ?_
          refine L_run (R_move rfl) rfl ?_
          refine L_nil (N_then ?_)
          exact ⟨16 - (i + 1), by omega, _, (i + 1), Ac_frg ⟨rfl, rfl, rfl, rfl, rfl, (agr rfl (by first | rfl | (congr 1; omega) | (congr 1; simp; done) | (congr 1; simp only [IntKind.wrap_u64, IntKind.wrap_i64, IntKind.wrap_u8]; omega) | (congr 1 <;> omega))), trivial⟩, hB, hS, (by rw [← flB_yes (by omega) (by omega) h2 (m := (((flB ss e i).drop (0 + (i * 52))).take ((i + 1) * 52 - i * 52)).length) (by rw [List.length_take, List.length_drop, flB_n (by omega)]; omega)]; exact hb7), (by rw [← flO_yes (by omega) (by omega) h2]; exact hb6), (by omega), rfl⟩
        · refine L_call rfl cb34 (open_n (s := ss[i].b) (e := e) (i := i) ss[i].h he (by omega)  h2) rfl ?_
          rintro _ w11 ⟨hs9, rfl⟩
          replace hB := gb_tr hB hs9
          replace hS := hS.gb hs9
          replace hbB := hbB.gb hs9
          replace hbO := hbO.gb hs9
          replace ha1 := At.gb ha1 hs9 (by simp)
          refine L_run (R_move rfl) rfl ?_
          refine L_run (R_extract rfl rfl) rfl ?_
          refine L_run (R_extract rfl rfl) rfl ?_
          refine L_run (R_assign rfl) rfl ?_
          refine L_run (R_assign rfl) rfl ?_
          refine L_nil (N_then (C_seq (C_reg rfl ?_)))
          refine L_run (R_move rfl) rfl ?_
          refine L_run (R_move rfl) rfl ?_
          refine L_run (R_move rfl) rfl ?_
          refine L_run (R_indexE (i := i) (m := 16) (r := i) rfl rfl (by first | rfl | omega) slc47 (by omega) rfl (by omega)) rfl ?_
          refine L_st1v (v := .bool false) rfl rfl rfl sz4 hbO (by rw [fl_len EncO, Nat.mul_one, (flO_n (by omega))]; omega) ?_
          intro w12 hb8 hs10 hz8
          rw [fl_set1 EncO (b := false) rfl (by rw [(flO_n (by omega))]; omega)] at hb8
          replace hB := gb_trg hB hs10 ge6
          replace hS := hS.old hs10 ge6
          replace hbB := hbB.grown hs10 (ne_ty hbB hbO rfl)
          refine L_nil (N_then (C_reg rfl ?_))
          refine L_run (R_move rfl) rfl ?_
          refine L_run (R_move rfl) rfl ?_
          refine L_run (R_eqv (R_mul64 rfl rfl (by omega)) (v' := .int .i64 ((i * 52 : Nat) : Int)) (congrArg _ (by omega))) rfl ?_
          refine L_run (R_move rfl) rfl ?_
          refine L_run (R_add64 rfl rfl (by omega)) rfl ?_
          refine L_run (R_eqv (R_mul64 rfl rfl (by omega)) (v' := .int .i64 (((i + 1) * 52 : Nat) : Int)) (congrArg _ (by omega))) rfl ?_
          refine L_run (R_move rfl) rfl ?_
          refine L_run (R_add64 rfl rfl (by omega)) rfl ?_
          refine L_run (R_eqv (R_mul64 rfl rfl (by omega)) (v' := .int .i64 (((i + 1) * 52 : Nat) : Int)) (congrArg _ (by omega))) rfl ?_
          refine T_slB (o := 0) (m := 832) (i := (i * 52)) (j := ((i + 1) * 52)) (r := ((i + 1) * 52)) EncB slc25 rfl hbB (by rw [(flB_n (by omega))]; omega) (by first | omega | (simp; omega)) (by first | omega | (simp; omega)) (by first | omega | (simp; omega)) (by first | omega | (simp; omega)) rfl ⟨_, rfl⟩ ⟨_, rfl⟩ ⟨rfl, _, rfl⟩ ?_
          intro A_2 hA2 hS_2
          refine L_run (R_move rfl) rfl ?_
          refine T_copy (xs := (flB ss e i)) (ys := []) (o := (0 + (i * 52))) (m := (((flB ss e i).drop (0 + (i * 52))).take (((i + 1) * 52) - (i * 52))).length) EncB slc25 rfl rfl hbB (fun _ => hA2 (by omega)) (by rw [List.length_take, List.length_drop, flB_n (by omega)]; omega) (Sli.nil (t := 0) (lo := 0) (hi := 0)) rfl ?_
          intro w13 hb9 hs11 hz9
          replace hB := gb_trg hB hs11 ge5
          replace hS := hS.old hs11 ge5
          replace hb8 := hb8.grown hs11 (ne_ty hb8 hbB rfl)
          refine L_nil (N_in (N_then (C_reg rfl ?_)))
          refine L_run (R_add64 rfl rfl (by omega)) rfl ?_
          refine L_run (R_move rfl) rfl ?_
          refine L_nil (N_then ?_)
          exact ⟨16 - (i + 1), by omega, _, (i + 1), Ac_frg ⟨rfl, rfl, rfl, rfl, rfl, (agr rfl (by first | rfl | (congr 1; omega) | (congr 1; simp; done) | (congr 1; simp only [IntKind.wrap_u64, IntKind.wrap_i64, IntKind.wrap_u8]; omega) | (congr 1 <;> omega))), trivial⟩, hB, hS, (by rw [← flB_no (by omega) (by omega) h2 (m := (((flB ss e i).drop (0 + (i * 52))).take ((i + 1) * 52 - i * 52)).length)]; exact hb9), (by rw [← flO_no (by omega) (by omega) h2]; exact hb8), (by omega), rfl⟩
      · refine C_exit (X_then (X_then (X_hit (N_then (C_seq (C_reg rfl ?_))))))
        refine L_run (R_move rfl) rfl ?_
        refine L_run (R_move rfl) rfl ?_
        refine L_run (R_assign rfl) rfl ?_
        refine L_run (R_assign rfl) rfl ?_
        refine L_nil (N_then (C_ret ?_))
        refine ret2 Tryd.results19 rfl rfl ?_
        obtain ⟨e1_, e2_⟩ := fl_end (ss := ss) (e := e) (i := i) (by omega)
        rw [e1_, flB_16] at hbB; rw [e2_, flO_16] at hbO
        exact ⟨hB, g1, g2, ge5, ge6, by rw [flatB_len bsOf_len, flatO_len], hbB, hbO⟩

end Go.Proofs.YtnggbodilhpohaaDoor
