/-
  Contracts of the reference of stamped sectors.
-/
import Derived.Test.YtnggbodilhpohaaDoorSc
namespace Go.Proofs.YtnggbodilhpohaaDoor
open Go.RowKit Gw Pl
set_option linter.unusedVariables false
set_option linter.unusedSimpArgs false
theorem agg70 : aggB Tryd.prog 70 64 = true := by kernel_rfl
theorem any3 : anyB Tryd.prog 3 = true := by kernel_rfl
theorem arr70 : arrB Tryd.prog 70 5 64 1 = true := by kernel_rfl
theorem cb42 : callB Tryd.prog 42 = true := by kernel_rfl
theorem cb43 : callB Tryd.prog 43 = true := by kernel_rfl
theorem cb49 : callB Tryd.prog 49 = true := by kernel_rfl
theorem cb51 : callB Tryd.prog 51 = true := by kernel_rfl
theorem eqg70 : Tryd.prog.eqGuardType Tryd.prog.depth 70 = false := by kernel_rfl
theorem sz5 : szB Tryd.prog 5 1 = true := by kernel_rfl
theorem sz70 : szB Tryd.prog 70 64 = true := by kernel_rfl
theorem zer70 : (Tryd.prog.info? 70).bind (·.zero) = some (.agg #[.int .u8 0, .int .u8 0, .int .u8 0, .int .u8 0, .int .u8 0, .int .u8 0, .int .u8 0, .int .u8 0, .int .u8 0, .int .u8 0, .int .u8 0, .int .u8 0, .int .u8 0, .int .u8 0, .int .u8 0, .int .u8 0, .int .u8 0, .int .u8 0, .int .u8 0, .int .u8 0, .int .u8 0, .int .u8 0, .int .u8 0, .int .u8 0, .int .u8 0, .int .u8 0, .int .u8 0, .int .u8 0, .int .u8 0, .int .u8 0, .int .u8 0, .int .u8 0, .int .u8 0, .int .u8 0, .int .u8 0, .int .u8 0, .int .u8 0, .int .u8 0, .int .u8 0, .int .u8 0, .int .u8 0, .int .u8 0, .int .u8 0, .int .u8 0, .int .u8 0, .int .u8 0, .int .u8 0, .int .u8 0, .int .u8 0, .int .u8 0, .int .u8 0, .int .u8 0, .int .u8 0, .int .u8 0, .int .u8 0, .int .u8 0, .int .u8 0, .int .u8 0, .int .u8 0, .int .u8 0, .int .u8 0, .int .u8 0, .int .u8 0, .int .u8 0]) := by kernel_rfl
/-- A stamped sector. -/
def sealN (e i : Nat) (X : List UInt8) : List UInt8 := putN e 8 ++ putN i 4 ++ X
theorem sealN_len {e i : Nat} {X : List UInt8} (h : X.length = 52) : (sealN e i X).length = 64 := by simp [sealN, putN_len, h]
theorem seal_1 {e i a : Nat} {X : List UInt8} (h : a < 8) (hl : a < (putN e 8).length) : (putN e 8)[a] = (sealN e i X).getD a 0 := by
  unfold sealN
  rw [List.getD_eq_getElem?_getD, List.append_assoc, List.getElem?_append_left hl, List.getElem?_eq_getElem hl]; rfl
theorem seal_2 {e i a : Nat} {X : List UInt8} (h1 : 8 ≤ a) (h : a < 12) (hl : a - 8 < (putN i 4).length) : (putN i 4)[a - 8] = (sealN e i X).getD a 0 := by
  unfold sealN
  rw [List.getD_eq_getElem?_getD, List.append_assoc, List.getElem?_append_right (by rw [putN_len]; omega), putN_len, List.getElem?_append_left hl, List.getElem?_eq_getElem hl]; rfl
theorem seal_3 {e i a : Nat} {X : List UInt8} (h1 : 12 ≤ a) (hl : a - 12 < X.length) : X[a - 12] = (sealN e i X).getD a 0 := by
  unfold sealN
  rw [List.getD_eq_getElem?_getD, List.append_assoc, List.getElem?_append_right (by rw [putN_len]; omega), putN_len, List.getElem?_append_right (by rw [putN_len]; omega), putN_len, show a - 8 - 4 = a - 12 by omega, List.getElem?_eq_getElem hl]; rfl
theorem set_take {Y Z : List UInt8} {k : Nat} (hY : Y.length = Z.length) (hk : k < Y.length) (h : Y.take k = Z.take k) : (Y.set k (Z.getD k 0)).take (k + 1) = Z.take (k + 1) := by
  have hk2 : k < Z.length := by omega
  rw [List.take_succ_eq_append_getElem (by rw [List.length_set]; exact hk), List.take_succ_eq_append_getElem hk2, List.take_set_of_le (Nat.le_refl k), h, List.getElem_set_self, List.getD_eq_getElem?_getD, List.getElem?_eq_getElem hk2]
  rfl
theorem room_step {s : List UInt8} {k : Nat} (h1 : 12 ≤ k) (hk : k < s.length) : (s.drop 12).take (k - 12) ++ [s[k]] = (s.drop 12).take (k + 1 - 12) := by
  have hl : k - 12 < (s.drop 12).length := by rw [List.length_drop]; omega
  rw [show k + 1 - 12 = (k - 12) + 1 by omega, List.take_succ_eq_append_getElem hl]
  congr 2
  rw [List.getElem_drop]
  congr 1
  omega
theorem seal_eq {s : List UInt8} {e i : Nat} (hs : s.length = 64) (he : e < 18446744073709551616) (hi : i < 4294967296) : sealN e i (s.drop 12) = s ↔ getN (s.take 8) = e ∧ getN ((s.drop 8).take 4) = i := by
  have h1 := putN_eq (bs := s.take 8) (n := e) (k := 8) (by rw [List.length_take]; omega) he
  have h2 := putN_eq (bs := (s.drop 8).take 4) (n := i) (k := 4) (by rw [List.length_take, List.length_drop]; omega) hi
  have e2 : s = s.take 8 ++ ((s.drop 8).take 4 ++ s.drop 12) := by
    have := List.take_append_drop 8 s
    have h3 := List.take_append_drop 4 (s.drop 8)
    rw [List.drop_drop] at h3
    rw [h3, this]
  unfold sealN
  rw [List.append_assoc]
  constructor
  · intro h
    have h3 := h.trans e2
    have h4 := List.append_inj h3 (by rw [putN_len, List.length_take]; omega)
    have h5 := List.append_inj h4.2 (by rw [putN_len, List.length_take, List.length_drop]; omega)
    exact ⟨h1.1 h4.1, h2.1 h5.1⟩
  · rintro ⟨p, q⟩
    rw [h1.2 p, h2.2 q, ← e2]
theorem byte6 {w : World} {t1 lo hi : Nat} {A : Option Addr} {c e i : Nat} {X : List UInt8} (hS : Sli t1 lo hi w A (fl encB X)) (hX : X.length = 52) (he : e < 18446744073709551616) (hi4 : i < 4294967296) {a : Nat} (ha : a < 64) :
    Runs Tryd.prog 49 #[.int .u64 (e : Int), .int .i64 (i : Int), .slice A X.length c, .int .i64 (a : Int)] w (fun v w' => w.grownBy w' none ∧ v = .int .u8 (((sealN e i X).getD a 0).toNat : Int)) := by
  have hB := gb_refl w none
  replace hS := hS.top
  refine enter Tryd.func49 Tryd.ntmps49 rfl rfl ?_
  refine C_seq (C_reg rfl ?_)
  refine L_run (R_assign rfl) rfl ?_
  refine L_nil (N_then (C_seq (C_seq (C_reg rfl ?_))))
  refine L_run (R_move rfl) rfl ?_
  refine L_run (R_lss rfl rfl) rfl ?_
  refine L_nil (N_then ?_)
  refine C_if rfl (fun h1 => ?_) (fun h1 => ?_)
  · refine C_seq (C_reg rfl ?_)
    refine L_run (R_move rfl) rfl ?_
    have ge1 : w.heap.size ≤ w.heap.size := hB.size
    refine L_call rfl cb51 (ref1_put (n := e) (k := 8) (by omega) (by first | omega | (simp; done) | (simp; omega))) rfl ?_
    rintro _ w1 ⟨hs1, A_1, c_1, rfl, ho1⟩
    replace hB := gb_tr hB hs1
    replace hS := hS.gb hs1
    have hlo1 : w.heap.size ≤ w1.heap.size := hs1.size
    refine L_run (R_move rfl) rfl ?_
    have hl1 : a < (putN e 8).length := (by rw [putN_len]; omega)
    refine T_index (xs := putN e 8) (i := a) EncB rfl rfl (by first | rfl | omega) slc25 hl1 (own_of ho1).2.2 rfl ?_
    intro g1 o1 ha1
    refine L_run (R_load1 rfl scl5 (ha1 0 _ rfl)) rfl ?_
    refine L_run (R_assign rfl) rfl ?_
    refine L_nil (N_then (C_ret (R_then ?_)))
    refine ret1 Tryd.results49 rfl ?_
    first
      | (exfalso; omega)
      | (refine ⟨hB, congrArg (fun q : UInt8 => Value.int .u8 (q.toNat : Int)) ?_⟩
         first | exact seal_1 (by omega) _ | exact seal_2 (by omega) (by omega) _ | exact seal_3 (by omega) _)
  · refine C_skip (N_then (C_seq (C_seq (C_reg rfl ?_))))
    refine L_run (R_move rfl) rfl ?_
    refine L_run (R_lss rfl rfl) rfl ?_
    refine L_nil (N_then ?_)
    refine C_if rfl (fun h2 => ?_) (fun h2 => ?_)
    · refine C_seq (C_reg rfl ?_)
      refine L_run (R_move rfl) rfl ?_
      refine L_run (R_eqv (R_conv rfl any3 int22) (v' := .int .u64 (i : Int)) (congrArg _ (w64n (by omega)))) rfl ?_
      have ge2 : w.heap.size ≤ w.heap.size := hB.size
      refine L_call rfl cb51 (ref1_put (n := i) (k := 4) (by omega) (by first | omega | (simp; done) | (simp; omega))) rfl ?_
      rintro _ w2 ⟨hs2, A_2, c_2, rfl, ho2⟩
      replace hB := gb_tr hB hs2
      replace hS := hS.gb hs2
      have hlo2 : w.heap.size ≤ w2.heap.size := hs2.size
      refine L_run (R_move rfl) rfl ?_
      refine L_run (R_eqv (R_sub64 rfl rfl (by omega)) (v' := .int .i64 ((a - 8 : Nat) : Int)) (congrArg _ (by omega))) rfl ?_
      have hl2 : (a - 8) < (putN i 4).length := (by rw [putN_len]; omega)
      refine T_index (xs := putN i 4) (i := (a - 8)) EncB rfl rfl (by first | rfl | omega) slc25 hl2 (own_of ho2).2.2 rfl ?_
      intro g2 o2 ha2
      refine L_run (R_load1 rfl scl5 (ha2 0 _ rfl)) rfl ?_
      refine L_run (R_assign rfl) rfl ?_
      refine L_nil (N_then (C_ret (R_then ?_)))
      refine ret1 Tryd.results49 rfl ?_
      first
        | (exfalso; omega)
        | (refine ⟨hB, congrArg (fun q : UInt8 => Value.int .u8 (q.toNat : Int)) ?_⟩
           first | exact seal_1 (by omega) _ | exact seal_2 (by omega) (by omega) _ | exact seal_3 (by omega) _)
    · refine C_skip (N_then (C_seq (C_seq (C_reg rfl ?_))))
      refine L_run (R_move rfl) rfl ?_
      refine L_run (R_sub64 rfl rfl (by omega)) rfl ?_
      refine L_run (R_move rfl) rfl ?_
      refine L_run (R_lenSl rfl slc25) rfl ?_
      refine L_run (R_lss rfl rfl) rfl ?_
      refine L_nil (N_then ?_)
      refine C_if rfl (fun h3 => ?_) (fun h3 => ?_)
      · refine C_seq (C_reg rfl ?_)
        refine L_run (R_move rfl) rfl ?_
        refine L_run (R_move rfl) rfl ?_
        refine L_run (R_eqv (R_sub64 rfl rfl (by omega)) (v' := .int .i64 ((a - 12 : Nat) : Int)) (congrArg _ (by omega))) rfl ?_
        have hl3 : (a - 12) < X.length := by first | omega | (simp; omega)
        refine T_index (xs := X) (i := (a - 12)) EncB rfl rfl (by first | rfl | omega) slc25 hl3 hS rfl ?_
        intro g3 o3 ha3
        refine L_run (R_load1 rfl scl5 (ha3 0 _ rfl)) rfl ?_
        refine L_run (R_assign rfl) rfl ?_
        refine L_nil (N_then (C_ret (R_then ?_)))
        refine ret1 Tryd.results49 rfl ?_
        first
          | (exfalso; omega)
          | (refine ⟨hB, congrArg (fun q : UInt8 => Value.int .u8 (q.toNat : Int)) ?_⟩
             first | exact seal_1 (by omega) _ | exact seal_2 (by omega) (by omega) _ | exact seal_3 (by omega) _)
      · refine C_skip (N_then (C_seq (C_reg rfl ?_)))
        refine L_run (R_assign rfl) rfl ?_
        refine L_nil (N_then (C_ret ?_))
        refine ret1 Tryd.results49 rfl ?_
        first
          | (exfalso; omega)
          | (refine ⟨hB, congrArg (fun q : UInt8 => Value.int .u8 (q.toNat : Int)) ?_⟩
             first | exact seal_1 (by omega) _ | exact seal_2 (by omega) (by omega) _ | exact seal_3 (by omega) _)

theorem seal6 {w : World} {t1 lo hi : Nat} {A : Option Addr} {c e i : Nat} {X : List UInt8} (hS : Sli t1 lo hi w A (fl encB X)) (hX : X.length = 52) (he : e < 18446744073709551616) (hi4 : i < 4294967296)  :
    Runs Tryd.prog 42 #[.int .u64 (e : Int), .int .i64 (i : Int), .slice A X.length c] w (fun v w' => w.grownBy w' none ∧ v = .agg (fl encB (sealN e i X)).toArray) := by
  have hB := gb_refl w none
  replace hS := hS.top
  refine enter Tryd.func42 Tryd.ntmps42 rfl rfl ?_
  refine C_seq (C_reg rfl ?_)
  refine L_alloc (cs := [.int .u8 0, .int .u8 0, .int .u8 0, .int .u8 0, .int .u8 0, .int .u8 0, .int .u8 0, .int .u8 0, .int .u8 0, .int .u8 0, .int .u8 0, .int .u8 0, .int .u8 0, .int .u8 0, .int .u8 0, .int .u8 0, .int .u8 0, .int .u8 0, .int .u8 0, .int .u8 0, .int .u8 0, .int .u8 0, .int .u8 0, .int .u8 0, .int .u8 0, .int .u8 0, .int .u8 0, .int .u8 0, .int .u8 0, .int .u8 0, .int .u8 0, .int .u8 0, .int .u8 0, .int .u8 0, .int .u8 0, .int .u8 0, .int .u8 0, .int .u8 0, .int .u8 0, .int .u8 0, .int .u8 0, .int .u8 0, .int .u8 0, .int .u8 0, .int .u8 0, .int .u8 0, .int .u8 0, .int .u8 0, .int .u8 0, .int .u8 0, .int .u8 0, .int .u8 0, .int .u8 0, .int .u8 0, .int .u8 0, .int .u8 0, .int .u8 0, .int .u8 0, .int .u8 0, .int .u8 0, .int .u8 0, .int .u8 0, .int .u8 0, .int .u8 0]) zer70 rfl rfl ?_
  intro g1 w1 eg1 hb1 hs1 hz1
  have ge1 : w.heap.size ≤ g1 := eg_ge hB eg1
  replace hB := gb_tr hB hs1
  replace hS := hS.gb hs1
  replace hb1 : Blk w1 g1 70 (fl encB (List.replicate 64 (0 : UInt8))) := hb1
  refine L_nil (N_then (C_seq (C_reg rfl ?_)))
  refine L_run (R_build (pv := []) (cs := fl encB (List.replicate 64 (0 : UInt8))) rfl (by kernel_rfl)) rfl ?_
  refine L_alloc (cs := [.int .u8 0, .int .u8 0, .int .u8 0, .int .u8 0, .int .u8 0, .int .u8 0, .int .u8 0, .int .u8 0, .int .u8 0, .int .u8 0, .int .u8 0, .int .u8 0, .int .u8 0, .int .u8 0, .int .u8 0, .int .u8 0, .int .u8 0, .int .u8 0, .int .u8 0, .int .u8 0, .int .u8 0, .int .u8 0, .int .u8 0, .int .u8 0, .int .u8 0, .int .u8 0, .int .u8 0, .int .u8 0, .int .u8 0, .int .u8 0, .int .u8 0, .int .u8 0, .int .u8 0, .int .u8 0, .int .u8 0, .int .u8 0, .int .u8 0, .int .u8 0, .int .u8 0, .int .u8 0, .int .u8 0, .int .u8 0, .int .u8 0, .int .u8 0, .int .u8 0, .int .u8 0, .int .u8 0, .int .u8 0, .int .u8 0, .int .u8 0, .int .u8 0, .int .u8 0, .int .u8 0, .int .u8 0, .int .u8 0, .int .u8 0, .int .u8 0, .int .u8 0, .int .u8 0, .int .u8 0, .int .u8 0, .int .u8 0, .int .u8 0, .int .u8 0]) zer70 rfl rfl ?_
  intro g2 w2 eg2 hb2 hs2 hz2
  have ge2 : w.heap.size ≤ g2 := eg_ge hB eg2
  have lt1 : g1 < g2 := lt_of_eg hb1.lt eg2
  replace hB := gb_tr hB hs2
  replace hS := hS.gb hs2
  replace hb1 := hb1.gb hs2
  replace hb2 : Blk w2 g2 70 (fl encB (List.replicate 64 (0 : UInt8))) := hb2
  refine L_stA (vs := fl encB (List.replicate 64 (0 : UInt8))) rfl rfl (flB_one _) sz70 (flB_lenE List.length_replicate) hb2 (flB_lenE List.length_replicate) ?_
  intro w3 hb3 hs3 hz3
  replace hB := gb_trg hB hs3 ge2
  replace hS := hS.old hs3 ge2
  replace hb1 := hb1.grown hs3 (ne_lt lt1)
  refine L_nil (N_then (C_seq (C_seq (C_reg rfl ?_))))
  refine L_run (R_assign rfl) rfl ?_
  refine L_nil (N_then (C_block ?_))
  refine C_loop (fun m_ a_ w_ => ∃ (σ_ : Nat → Value) (k : Nat) (Y : List UInt8), a_ = Ac 22 σ_ [] [(0, .int .u64 (e : Int)), (1, .int .i64 (i : Int)), (2, .slice A X.length c), (6, .pointer (some ⟨g1, 0, none⟩)), (7, .pointer (some ⟨g2, 0, none⟩)), (8, .int .i64 (k : Int))] ∧ w.grownBy w_ none ∧ Sli t1 lo w.heap.size w_ A (fl encB X) ∧ Blk w_ g1 70 (fl encB (List.replicate 64 (0 : UInt8))) ∧ Blk w_ g2 70 (fl encB Y) ∧ (k ≤ 64) ∧ (Y.length = 64) ∧ (Y.take k = (sealN e i X).take k) ∧ 64 - k = m_) (64 - 0) ?_ ?_
  · exact ⟨_, 0, (List.replicate 64 (0 : UInt8)), Ac_frg ⟨rfl, rfl, rfl, rfl, rfl, (agr rfl (by first | rfl | (congr 1; omega) | (congr 1; simp; done) | (congr 1; simp only [IntKind.wrap_u64, IntKind.wrap_i64, IntKind.wrap_u8]; omega) | (congr 1 <;> omega))), trivial⟩, hB, hS, hb1, hb3, (by omega), List.length_replicate, rfl, rfl⟩
  · clear hB
    clear hS hb1 hb3
    rintro m_ a_ w4 ⟨σ_, k, Y, rfl, hB, hS, hb1, hbY, hk, hbl, hbk, rfl⟩
    refine C_seq (C_seq (C_reg rfl ?_))
    refine L_run (R_move rfl) rfl ?_
    refine L_run (R_lss rfl rfl) rfl ?_
    refine L_nil (N_then ?_)
    refine C_if rfl (fun h1 => ?_) (fun h1 => ?_)
    · refine C_skip (N_then (C_seq (C_block (C_reg rfl ?_))))
      refine L_run (R_move rfl) rfl ?_
      refine L_run (R_move rfl) rfl ?_
      refine L_run (R_move rfl) rfl ?_
      refine L_run (R_move rfl) rfl ?_
      refine L_run (R_move rfl) rfl ?_
      refine L_call rfl cb49 (byte6 (e := e) (i := i) (a := k) hS hX he hi4 (by omega)) rfl ?_
      rintro _ w5 ⟨hs4, rfl⟩
      replace hB := gb_tr hB hs4
      replace hS := hS.gb hs4
      replace hb1 := hb1.gb hs4
      replace hbY := hbY.gb hs4
      refine L_run (R_indexArr (i := k) (r := k) rfl rfl (by first | rfl | omega) arr70 (by omega) (by omega)) rfl ?_
      refine L_st1v (v := .int .u8 (((sealN e i X).getD k 0).toNat : Int)) rfl rfl rfl sz5 hbY (by rw [fl_len EncB, Nat.mul_one]; omega) ?_
      intro w6 hb4 hs5 hz4
      rw [fl_setB (by omega)] at hb4
      replace hB := gb_trg hB hs5 ge2
      replace hS := hS.old hs5 ge2
      replace hb1 := hb1.grown hs5 (ne_lt lt1)
      refine L_nil (N_in (N_then (C_reg rfl ?_)))
      refine L_run (R_move rfl) rfl ?_
      refine L_run (R_add64 rfl rfl (by omega)) rfl ?_
      refine L_run (R_assign rfl) rfl ?_
      refine L_nil (N_then ?_)
      exact ⟨64 - (k + 1), by omega, _, (k + 1), (Y.set k ((sealN e i X).getD k 0)), Ac_frg ⟨rfl, rfl, rfl, rfl, rfl, (agr rfl (by first | rfl | (congr 1; omega) | (congr 1; simp; done) | (congr 1; simp only [IntKind.wrap_u64, IntKind.wrap_i64, IntKind.wrap_u8]; omega) | (congr 1 <;> omega))), trivial⟩, hB, hS, hb1, hb4, (by omega), (by rw [List.length_set]; exact hbl), (set_take (by rw [sealN_len hX]; exact hbl) (by omega) hbk), rfl⟩
    · refine C_exit (X_then (X_then (X_hit (N_then (C_seq (C_reg rfl ?_))))))
      refine L_run (R_loadA (vs := fl encB Y) rfl agg70 (hbY.at_ 0) (flB_lenE hbl)) rfl ?_
      refine L_stA (vs := fl encB Y) rfl rfl (flB_one _) sz70 (flB_lenE hbl) hb1 (flB_lenE List.length_replicate) ?_
      intro w7 hb5 hs6 hz5
      replace hB := gb_trg hB hs6 ge1
      replace hS := hS.old hs6 ge1
      replace hbY := hbY.grown hs6 (ne_gt lt1)
      refine L_nil (N_then (C_ret ?_))
      refine retC (vs := fl encB Y) Tryd.results42 rfl agg70 (hb5.at_ 0) (flB_lenE hbl) ?_
      obtain rfl : k = 64 := by omega
      have e_ : Y = sealN e i X := by rw [← List.take_of_length_le (l := Y) (i := 64) (by omega), hbk, List.take_of_length_le (by rw [sealN_len hX]; omega)]
      subst e_; exact ⟨hB, rfl⟩

theorem room6 {w : World} {s : List UInt8} (hs : s.length = 64) :
    Runs Tryd.prog 43 #[.agg (fl encB s).toArray] w (fun v w' => w.grownBy w' none ∧ ∃ A' c', v = .slice A' (s.drop 12).length c' ∧ World.ownsRow w' w.heap.size 5 1 (.slice A' (s.drop 12).length c') (s.drop 12).length (fl encB (s.drop 12))) := by
  have hB := gb_refl w none
  refine enter Tryd.func43 Tryd.ntmps43 rfl rfl ?_
  refine C_seq (C_reg rfl ?_)
  refine L_box (cs := fl encB s) rfl rfl rfl ?_
  intro g1 w1 eg1 hb1 hs1 hz1
  have ge1 : w.heap.size ≤ g1 := eg_ge hB eg1
  replace hB := gb_tr hB hs1
  refine L_run (R_assign rfl) rfl ?_
  refine L_nil (N_then (C_seq (C_reg rfl ?_)))
  refine L_run (R_assign rfl) rfl ?_
  refine L_nil (N_then (C_seq (C_seq (C_reg rfl ?_))))
  refine L_run (R_assign rfl) rfl ?_
  refine L_nil (N_then (C_block ?_))
  refine C_loop (fun m_ a_ w_ => ∃ (σ_ : Nat → Value) (A' : Option Addr) (c' : Nat) (k : Nat), a_ = Ac 16 σ_ [] [(1, .pointer (some ⟨g1, 0, none⟩)), (3, .slice A' (((s.drop 12).take (k - 12)).length) c'), (4, .int .i64 (k : Int))] ∧ w.grownBy w_ none ∧ Blk w_ g1 70 (fl encB s) ∧ World.ownsRow w_ w.heap.size 5 1 (.slice A' ((s.drop 12).take (k - 12)).length c') ((s.drop 12).take (k - 12)).length (fl encB ((s.drop 12).take (k - 12))) ∧ (12 ≤ k ∧ k ≤ 64) ∧ 64 - k = m_) (64 - 12) ?_ ?_
  · exact ⟨_, none, 0, 12, Ac_frg ⟨rfl, (agr rfl (by first | rfl | (congr 1; omega) | (congr 1; simp; done) | (congr 1; simp only [IntKind.wrap_u64, IntKind.wrap_i64, IntKind.wrap_u8]; omega) | (congr 1 <;> omega))), (agr rfl (by first | rfl | (congr 1; omega) | (congr 1; simp; done) | (congr 1; simp only [IntKind.wrap_u64, IntKind.wrap_i64, IntKind.wrap_u8]; omega) | (congr 1 <;> omega))), trivial⟩, hB, hb1, (own_nil _ _ _ _), (by omega), rfl⟩
  · clear hB
    clear hb1
    rintro m_ a_ w2 ⟨σ_, A', c', k, rfl, hB, hb1, ho, hk, rfl⟩
    refine C_seq (C_seq (C_reg rfl ?_))
    refine L_run (R_move rfl) rfl ?_
    refine L_run (R_lss rfl rfl) rfl ?_
    refine L_nil (N_then ?_)
    refine C_if rfl (fun h1 => ?_) (fun h1 => ?_)
    · refine C_skip (N_then (C_seq (C_block (C_reg rfl ?_))))
      refine L_run (R_move rfl) rfl ?_
      refine L_run (R_move rfl) rfl ?_
      refine L_run (R_indexArr (i := k) (r := k) rfl rfl (by first | rfl | omega) arr70 (by omega) (by omega)) rfl ?_
      have hl1 : k < s.length := by rw [hs]; omega
      refine L_run (R_load1 rfl scl5 (hb1.cell (fl_atB hl1))) rfl ?_
      refine L_buildSlice (pv := [(0, .int .u8 (s[k].toNat : Int))]) (cs := [.int .u8 (s[k].toNat : Int)]) slc25 zer5 rfl rfl (by kernel_rfl) rfl ?_
      intro g2 w3 eg2 hb2 hs2 hz2
      have ge2 : w.heap.size ≤ g2 := eg_ge hB eg2
      have lt1 : g1 < g2 := lt_of_eg hb1.lt eg2
      have hap1 : ∀ k_, (Value.slice A' ((s.drop 12).take (k - 12)).length c').ownBlock = some k_ → k_ ≠ g2 := fun k_ hk => by have h_ := (World.ownsRow.lt ho k_ hk).2; omega
      replace hB := gb_tr hB hs2
      replace hb1 := hb1.gb hs2
      replace ho := own_gb ho hs2
      refine T_append (xs := (s.drop 12).take (k - 12)) (ys := [s[k]]) EncB slc25 rfl rfl ho (Blk.sli (m := 0) hb2) (by simp; omega) (by have := hB.size; omega) rfl ?_
      intro A_1 c_1 w4 ho1 hs3 hat1
      replace hB := gb_tro hB ho hs3 (Nat.le_refl _)
      replace hb1 := blk_own hb1 ho rfl hs3
      refine L_run (R_assign rfl) rfl ?_
      refine L_nil (N_in (N_then (C_reg rfl ?_)))
      refine L_run (R_move rfl) rfl ?_
      refine L_run (R_add64 rfl rfl (by omega)) rfl ?_
      refine L_run (R_assign rfl) rfl ?_
      refine L_nil (N_then ?_)
      have et_ := room_step (s := s) (k := k) (by omega) (by omega)
      exact ⟨64 - (k + 1), by omega, _, A_1, c_1, (k + 1), Ac_frg ⟨rfl, (agr rfl (by rw [← et_])), (agr rfl (by first | rfl | (congr 1; omega) | (congr 1; simp; done) | (congr 1; simp only [IntKind.wrap_u64, IntKind.wrap_i64, IntKind.wrap_u8]; omega) | (congr 1 <;> omega))), trivial⟩, hB, hb1, (by rw [← et_]; exact ho1), (by omega), rfl⟩
    · refine C_exit (X_then (X_then (X_hit (N_then (C_seq (C_reg rfl ?_))))))
      refine L_run (R_move rfl) rfl ?_
      refine L_run (R_assign rfl) rfl ?_
      refine L_nil (N_then (C_ret ?_))
      refine ret1 Tryd.results43 rfl ?_
      obtain rfl : k = 64 := by omega
      have e_ : (s.drop 12).take (64 - 12) = s.drop 12 := List.take_of_length_le (by rw [List.length_drop]; omega)
      rw [e_] at ho ⊢
      exact ⟨hB, _, _, rfl, ho⟩

theorem open6_y {w : World} {s : List UInt8} {e i : Nat} (hs : s.length = 64) (he : e < 18446744073709551616) (hi4 : i < 4294967296) (hq : getN (s.take 8) = e ∧ getN ((s.drop 8).take 4) = i) :
    Runs Tryd.prog 25 #[.agg (fl encB s).toArray, .int .u64 (e : Int), .int .i64 (i : Int)] w (fun v w' => w.grownBy w' none ∧ ∃ A' c', v = .tuple #[.slice A' (s.drop 12).length c', .bool true] ∧ World.ownsRow w' w.heap.size 5 1 (.slice A' (s.drop 12).length c') (s.drop 12).length (fl encB (s.drop 12))) := by
  have hB := gb_refl w none
  refine enter Tryd.func25 Tryd.ntmps25 rfl rfl ?_
  refine C_seq (C_reg rfl ?_)
  refine L_box (cs := fl encB s) rfl rfl rfl ?_
  intro g1 w1 eg1 hb1 hs1 hz1
  have ge1 : w.heap.size ≤ g1 := eg_ge hB eg1
  replace hB := gb_tr hB hs1
  refine L_run (R_assign rfl) rfl ?_
  refine L_run (R_assign rfl) rfl ?_
  refine L_nil (N_then (C_seq (C_seq ?_)))
  refine C_draw2 rfl mix ?_
  intro w2 hs2 hz2
  replace hB := gb_tr hB hs2
  replace hb1 := hb1.gb hs2
  refine ⟨fun W_ => Blk W_ g1 70 (fl encB s) ∧ True, [0, 1, 2, 5, 6], ?_⟩
  refine T_takeA (i := 0) rfl rfl (by kernel_rfl) (by kernel_rfl) (by kernel_rfl) (Y_of (fun _ ⟨hb1, _⟩ => R_move rfl)) ⟨hb1, trivial⟩ rfl ?_
  refine T_takeA (i := 1) rfl rfl (by kernel_rfl) (by kernel_rfl) (by kernel_rfl) (Y_of (fun _ ⟨hb1, _⟩ => R_move rfl)) ⟨hb1, trivial⟩ rfl ?_
  refine T_takeA (i := 2) rfl rfl (by kernel_rfl) (by kernel_rfl) (by kernel_rfl) (Y_of (fun _ ⟨hb1, _⟩ => R_loadA (vs := fl encB s) rfl agg70 (hb1.at_ 0) (flB_lenE hs))) ⟨hb1, trivial⟩ rfl ?_
  refine T_takeA (i := 5) rfl rfl (by kernel_rfl) (by kernel_rfl) (by kernel_rfl) (Y_of (fun _ ⟨hb1, _⟩ => R_loadA (vs := fl encB s) rfl agg70 (hb1.at_ 0) (flB_lenE hs))) ⟨hb1, trivial⟩ rfl ?_
  refine T_all (rs := [3]) (by kernel_rfl) rfl (all1 (O_one rfl ?_))
  have ge2 : w.heap.size ≤ w2.heap.size := hB.size
  refine L_call rfl cb43 (room6 (s := s) hs) rfl ?_
  rintro _ w3 ⟨hs3, A_1, c_1, rfl, ho1⟩
  replace hB := gb_tr hB hs3
  replace hb1 := hb1.gb hs3
  have hlo1 : w2.heap.size ≤ w3.heap.size := hs3.size
  refine L_nil (N_then ⟨fun hN_ => ⟨hb1, trivial⟩, ?_⟩)
  refine T_all (rs := [4]) (by kernel_rfl) rfl (all1 (O_one rfl ?_))
  refine L_call rfl cb42 (seal6 (e := e) (i := i) (own_of ho1).2.2 (by rw [List.length_drop, hs]) he hi4) rfl ?_
  rintro _ w4 ⟨hs4, rfl⟩
  replace hB := gb_tr hB hs4
  replace hb1 := hb1.gb hs4
  replace ho1 := own_gb ho1 hs4
  replace hlo1 := Nat.le_trans hlo1 hs4.size
  refine L_nil (N_then ⟨fun hN_ => ⟨hb1, trivial⟩, ?_⟩)
  refine T_takeA (i := 6) rfl rfl (by kernel_rfl) (by kernel_rfl) (by kernel_rfl) (Y_of (fun _ ⟨hb1, _⟩ => R_neqA rfl rfl eqg70 (eqs_bytes arr70 int5 scl5 (sealN_len (by rw [List.length_drop, hs])) hs))) ⟨hb1, trivial⟩ rfl ?_
  refine T_done (by kernel_rfl) (CalmE.normal ?_)
  refine N_then (C_condF rfl (decide_eq_false (fun hn => hn ((seal_eq hs he hi4).2 hq))) (C_skip (N_then (C_seq (C_reg rfl ?_)))))
  refine L_run (R_loadA (vs := fl encB s) rfl agg70 (hb1.at_ 0) (flB_lenE hs)) rfl ?_
  have ge3 : w.heap.size ≤ w4.heap.size := hB.size
  refine L_call rfl cb43 (room6 (s := s) hs) rfl ?_
  rintro _ w5 ⟨hs5, A_2, c_2, rfl, ho2⟩
  replace hB := gb_tr hB hs5
  replace hb1 := hb1.gb hs5
  replace ho1 := own_gb ho1 hs5
  replace hlo1 := Nat.le_trans hlo1 hs5.size
  have hlo2 : w4.heap.size ≤ w5.heap.size := hs5.size
  refine L_run (R_assign rfl) rfl ?_
  refine L_run (R_assign rfl) rfl ?_
  refine L_nil (N_then (C_ret ?_))
  refine ret2 Tryd.results25 rfl rfl ?_
  exact ⟨hB, _, _, rfl, (own_lo ho2 ge3)⟩

theorem open6_n {w : World} {s : List UInt8} {e i : Nat} (hs : s.length = 64) (he : e < 18446744073709551616) (hi4 : i < 4294967296) (hq : ¬ (getN (s.take 8) = e ∧ getN ((s.drop 8).take 4) = i)) :
    Runs Tryd.prog 25 #[.agg (fl encB s).toArray, .int .u64 (e : Int), .int .i64 (i : Int)] w (fun v w' => w.grownBy w' none ∧ v = .tuple #[.slice none 0 0, .bool false]) := by
  have hB := gb_refl w none
  refine enter Tryd.func25 Tryd.ntmps25 rfl rfl ?_
  refine C_seq (C_reg rfl ?_)
  refine L_box (cs := fl encB s) rfl rfl rfl ?_
  intro g1 w1 eg1 hb1 hs1 hz1
  have ge1 : w.heap.size ≤ g1 := eg_ge hB eg1
  replace hB := gb_tr hB hs1
  refine L_run (R_assign rfl) rfl ?_
  refine L_run (R_assign rfl) rfl ?_
  refine L_nil (N_then (C_seq (C_seq ?_)))
  refine C_draw2 rfl mix ?_
  intro w2 hs2 hz2
  replace hB := gb_tr hB hs2
  replace hb1 := hb1.gb hs2
  refine ⟨fun W_ => Blk W_ g1 70 (fl encB s) ∧ True, [0, 1, 2, 5, 6], ?_⟩
  refine T_takeA (i := 0) rfl rfl (by kernel_rfl) (by kernel_rfl) (by kernel_rfl) (Y_of (fun _ ⟨hb1, _⟩ => R_move rfl)) ⟨hb1, trivial⟩ rfl ?_
  refine T_takeA (i := 1) rfl rfl (by kernel_rfl) (by kernel_rfl) (by kernel_rfl) (Y_of (fun _ ⟨hb1, _⟩ => R_move rfl)) ⟨hb1, trivial⟩ rfl ?_
  refine T_takeA (i := 2) rfl rfl (by kernel_rfl) (by kernel_rfl) (by kernel_rfl) (Y_of (fun _ ⟨hb1, _⟩ => R_loadA (vs := fl encB s) rfl agg70 (hb1.at_ 0) (flB_lenE hs))) ⟨hb1, trivial⟩ rfl ?_
  refine T_takeA (i := 5) rfl rfl (by kernel_rfl) (by kernel_rfl) (by kernel_rfl) (Y_of (fun _ ⟨hb1, _⟩ => R_loadA (vs := fl encB s) rfl agg70 (hb1.at_ 0) (flB_lenE hs))) ⟨hb1, trivial⟩ rfl ?_
  refine T_all (rs := [3]) (by kernel_rfl) rfl (all1 (O_one rfl ?_))
  have ge2 : w.heap.size ≤ w2.heap.size := hB.size
  refine L_call rfl cb43 (room6 (s := s) hs) rfl ?_
  rintro _ w3 ⟨hs3, A_1, c_1, rfl, ho1⟩
  replace hB := gb_tr hB hs3
  replace hb1 := hb1.gb hs3
  have hlo1 : w2.heap.size ≤ w3.heap.size := hs3.size
  refine L_nil (N_then ⟨fun hN_ => ⟨hb1, trivial⟩, ?_⟩)
  refine T_all (rs := [4]) (by kernel_rfl) rfl (all1 (O_one rfl ?_))
  refine L_call rfl cb42 (seal6 (e := e) (i := i) (own_of ho1).2.2 (by rw [List.length_drop, hs]) he hi4) rfl ?_
  rintro _ w4 ⟨hs4, rfl⟩
  replace hB := gb_tr hB hs4
  replace hb1 := hb1.gb hs4
  replace ho1 := own_gb ho1 hs4
  replace hlo1 := Nat.le_trans hlo1 hs4.size
  refine L_nil (N_then ⟨fun hN_ => ⟨hb1, trivial⟩, ?_⟩)
  refine T_takeA (i := 6) rfl rfl (by kernel_rfl) (by kernel_rfl) (by kernel_rfl) (Y_of (fun _ ⟨hb1, _⟩ => R_neqA rfl rfl eqg70 (eqs_bytes arr70 int5 scl5 (sealN_len (by rw [List.length_drop, hs])) hs))) ⟨hb1, trivial⟩ rfl ?_
  refine T_done (by kernel_rfl) (CalmE.normal ?_)
  refine N_then (C_condT rfl (decide_eq_true (fun h => hq ((seal_eq hs he hi4).1 h))) (C_seq (C_reg rfl ?_)))
  refine L_run (R_assign rfl) rfl ?_
  refine L_run (R_assign rfl) rfl ?_
  refine L_nil (N_then (C_ret (R_then ?_)))
  refine ret2 Tryd.results25 rfl rfl ?_
  exact ⟨hB, rfl⟩

end Go.Proofs.YtnggbodilhpohaaDoor
