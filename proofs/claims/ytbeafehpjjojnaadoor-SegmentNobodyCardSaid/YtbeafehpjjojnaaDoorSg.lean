/-
  Contracts of the packages name, header and segment, where there is no disk.
-/
import Derived.Test.YtbeafehpjjojnaaDoorRows
import Derived.Test.YtbeafehpjjojnaaDoorVq
import Derived.Test.YtbeafehpjjojnaaDoorVn
import Derived.Test.YtbeafehpjjojnaaDoorVl
import Derived.Test.YtbeafehpjjojnaaDoorGy
import Derived.Test.YtbeafehpjjojnaaDoorEo
namespace Go.Proofs.YtbeafehpjjojnaaDoor
open Go.RowKit Gw Pl
set_option linter.unusedVariables false
set_option linter.unusedSimpArgs false
theorem agg34 : aggB Tryd.prog 34 4 = true := by kernel_rfl
theorem agg36 : aggB Tryd.prog 36 7 = true := by kernel_rfl
theorem any3 : anyB Tryd.prog 3 = true := by kernel_rfl
theorem any33 : anyB Tryd.prog 33 = true := by kernel_rfl
theorem arr121 : arrB Tryd.prog 121 5 20 1 = true := by kernel_rfl
theorem arr34 : arrB Tryd.prog 34 3 4 1 = true := by kernel_rfl
theorem cb18 : callB Tryd.prog 18 = true := by kernel_rfl
theorem cb19 : callB Tryd.prog 19 = true := by kernel_rfl
theorem cb20 : callB Tryd.prog 20 = true := by kernel_rfl
theorem cb22 : callB Tryd.prog 22 = true := by kernel_rfl
theorem cb23 : callB Tryd.prog 23 = true := by kernel_rfl
theorem cb43 : callB Tryd.prog 43 = true := by kernel_rfl
theorem cb44 : callB Tryd.prog 44 = true := by kernel_rfl
theorem cb74 : callB Tryd.prog 74 = true := by kernel_rfl
theorem cb9 : callB Tryd.prog 9 = true := by kernel_rfl
theorem fld36_0 : fldB Tryd.prog 36 0 0 = true := by kernel_rfl
theorem fld36_1 : fldB Tryd.prog 36 1 1 = true := by kernel_rfl
theorem fld36_2 : fldB Tryd.prog 36 2 2 = true := by kernel_rfl
theorem fld36_3 : fldB Tryd.prog 36 3 3 = true := by kernel_rfl
theorem int33 : intB Tryd.prog 33 .u64 = true := by kernel_rfl
theorem int5 : intB Tryd.prog 5 .u8 = true := by kernel_rfl
theorem scl3 : sclB Tryd.prog 3 = true := by kernel_rfl
theorem scl33 : sclB Tryd.prog 33 = true := by kernel_rfl
theorem scl37 : sclB Tryd.prog 37 = true := by kernel_rfl
theorem scl49 : sclB Tryd.prog 49 = true := by kernel_rfl
theorem slc93 : slcB Tryd.prog 93 5 1 1 = true := by kernel_rfl
theorem str9 : strB Tryd.prog 9 = true := by kernel_rfl
theorem sz36 : szB Tryd.prog 36 7 = true := by kernel_rfl
theorem sz37 : szB Tryd.prog 37 1 = true := by kernel_rfl
theorem sz5 : szB Tryd.prog 5 1 = true := by kernel_rfl
theorem zer121 : (Tryd.prog.info? 121).bind (·.zero) = some (.agg #[.int .u8 0, .int .u8 0, .int .u8 0, .int .u8 0, .int .u8 0, .int .u8 0, .int .u8 0, .int .u8 0, .int .u8 0, .int .u8 0, .int .u8 0, .int .u8 0, .int .u8 0, .int .u8 0, .int .u8 0, .int .u8 0, .int .u8 0, .int .u8 0, .int .u8 0, .int .u8 0]) := by kernel_rfl
theorem zer36 : (Tryd.prog.info? 36).bind (·.zero) = some (.agg #[.int .u64 0, .int .i64 0, .int .i64 0, .int .i64 0, .int .i64 0, .int .i64 0, .int .i64 0]) := by kernel_rfl
theorem zer37 : (Tryd.prog.info? 37).bind (·.zero) = some (.int .i64 0) := by kernel_rfl
theorem wname_yes {n : Int} (h : 1 ≤ n ∧ n ≤ 2147483647) : ¬ ((wname n) = []) := by
  unfold wname
  rw [if_pos h]
  simp [walp]
theorem wname_no {n : Int} (h : ¬ (1 ≤ n ∧ n ≤ 2147483647)) : (wname n) = [] := by
  unfold wname
  rw [if_neg h]
theorem name_Digits {w : World} {n : Int} (hn : -9223372036854775808 ≤ n ∧ n ≤ 9223372036854775807) :
    Runs Tryd.prog 43 #[.int .i64 n] w (fun v w' => w.grownBy w' none ∧ v = .string ⟨(digI n).toArray⟩) := by
  have hB := gb_refl w none
  have hD : (dig n.natAbs).length ≤ 19 := dig_len 19 _ (by omega) (by omega)
  refine enter Tryd.func43 Tryd.ntmps43 rfl rfl ?_
  refine C_seq (C_reg rfl ?_)
  refine L_run (R_assign rfl) rfl ?_
  refine L_nil (N_then (C_seq (C_reg rfl ?_)))
  refine L_run (R_move rfl) rfl ?_
  refine L_run (R_conv rfl any3 int33) rfl ?_
  refine L_run (R_assign rfl) rfl ?_
  refine L_nil (N_then (C_seq (C_seq (C_reg rfl ?_))))
  refine L_run (R_move rfl) rfl ?_
  refine L_run (R_lss rfl rfl) rfl ?_
  refine L_nil (N_then ?_)
  refine C_if rfl (fun h1 => ?_) (fun h1 => ?_)
  · refine C_reg rfl ?_
    refine L_run (R_move rfl) rfl ?_
    refine L_run (R_eqv (R_neg rfl) (v' := .int .u64 (n.natAbs : Int)) (congrArg _ (by rw [IntKind.wrap_u64, IntKind.wrap_u64]; omega))) rfl ?_
    refine L_run (R_assign rfl) rfl ?_
    refine L_nil (N_then (C_seq (C_reg rfl ?_)))
    refine L_alloc (cs := [.int .u8 0, .int .u8 0, .int .u8 0, .int .u8 0, .int .u8 0, .int .u8 0, .int .u8 0, .int .u8 0, .int .u8 0, .int .u8 0, .int .u8 0, .int .u8 0, .int .u8 0, .int .u8 0, .int .u8 0, .int .u8 0, .int .u8 0, .int .u8 0, .int .u8 0, .int .u8 0]) zer121 rfl rfl ?_
    intro g1 w1 eg1 hb1 hs1 hz1
    have ge1 : w.heap.size ≤ g1 := eg_ge hB eg1
    replace hB := gb_tr hB hs1
    replace hb1 : Blk w1 g1 121 (fl encB (List.replicate 20 (0 : UInt8))) := hb1
    refine L_nil (N_then (C_seq (C_reg rfl ?_)))
    refine L_run (R_assign rfl) rfl ?_
    refine L_nil (N_then (C_seq (C_block ?_)))
    refine C_loop (fun m_ a_ w_ => ∃ (σ_ : Nat → Value) (k : Nat) (u : Nat) (bs : List UInt8), a_ = Ac 33 σ_ [] [(0, .int .i64 n), (2, .string (⟨#[]⟩)), (3, .int .u64 (u : Int)), (4, .pointer (some ⟨g1, 0, none⟩)), (5, .int .i64 (k : Int))] ∧ w.grownBy w_ none ∧ Blk w_ g1 121 (fl encB bs) ∧ (bs.length = 20) ∧ (dig u ++ bs.drop k = dig n.natAbs) ∧ (1 ≤ k) ∧ (k ≤ 20) ∧ (u < 18446744073709551616) ∧ k = m_) (20) ?_ ?_
    · exact ⟨_, 20, n.natAbs, (List.replicate 20 (0 : UInt8)), Ac_frg ⟨rfl, rfl, (agr rfl (by first | rfl | (congr 1; omega) | (congr 1; simp; done) | (congr 1; simp only [IntKind.wrap_u64, IntKind.wrap_i64, IntKind.wrap_u8]; omega) | (congr 1 <;> omega))), rfl, (agr rfl (by first | rfl | (congr 1; omega) | (congr 1; simp; done) | (congr 1; simp only [IntKind.wrap_u64, IntKind.wrap_i64, IntKind.wrap_u8]; omega) | (congr 1 <;> omega))), trivial⟩, hB, hb1, rfl, (by rw [show List.drop 20 (List.replicate 20 (0 : UInt8)) = [] from rfl, List.append_nil]), (by omega), (by omega), (by omega), rfl⟩
    · clear hB
      clear hb1
      rintro m_ a_ w2 ⟨σ_, k, u, bs, rfl, hB, hbk, hbl, hd, h1k, h2k, hu, rfl⟩
      refine C_block (C_seq (C_reg rfl ?_))
      refine L_run (R_move rfl) rfl ?_
      refine L_run (R_eqv (R_sub64 rfl rfl (by omega)) (v' := .int .i64 ((k - 1 : Nat) : Int)) (congrArg _ (by omega))) rfl ?_
      refine L_run (R_assign rfl) rfl ?_
      refine L_nil (N_then (C_seq (C_reg rfl ?_)))
      refine L_run (R_move rfl) rfl ?_
      refine L_run (R_move rfl) rfl ?_
      refine L_run (R_eqv (R_rem rfl rfl (by first | decide | omega)) (v' := .int .u64 ((u % 10 : Nat) : Int)) (congrArg _ (by rw [Int.tmod_eq_emod_of_nonneg (by omega)]; omega))) rfl ?_
      refine L_run (R_eqv (R_add rfl rfl) (v' := .int .u64 ((48 + u % 10 : Nat) : Int)) (congrArg _ (by rw [IntKind.wrap_u64]; omega))) rfl ?_
      refine L_run (R_eqv (R_conv rfl any33 int5) (v' := .int .u8 ((UInt8.ofNat (48 + u % 10)).toNat : Int)) (u8_of _ (by omega))) rfl ?_
      refine L_run (R_indexArr (i := (k - 1)) (r := (k - 1)) rfl rfl (by first | rfl | omega) arr121 (by omega) (by omega)) rfl ?_
      refine L_st1v (v := .int .u8 ((UInt8.ofNat (48 + u % 10)).toNat : Int)) rfl rfl rfl sz5 hbk (by rw [fl_len EncB, Nat.mul_one]; first | omega | (rw [List.length_set]; omega)) ?_
      intro w3 hb2 hs2 hz2
      rw [fl_setB (by first | omega | (rw [List.length_set]; omega))] at hb2
      replace hB := gb_trg hB hs2 ge1
      refine L_nil (N_then (C_seq (C_reg rfl ?_)))
      refine L_run (R_move rfl) rfl ?_
      refine L_run (R_eqv (R_quo rfl rfl (by first | decide | omega)) (v' := .int .u64 ((u / 10 : Nat) : Int)) (congrArg _ (by rw [Int.tdiv_eq_ediv_of_nonneg (by omega), IntKind.wrap_u64]; omega))) rfl ?_
      refine L_run (R_assign rfl) rfl ?_
      refine L_nil (N_then (C_seq (C_reg rfl ?_)))
      refine L_run (R_move rfl) rfl ?_
      refine L_run (R_eql rfl rfl) rfl ?_
      refine L_nil (N_then ?_)
      refine C_if rfl (fun h2 => ?_) (fun h2 => ?_)
      · refine C_exit (X_miss rfl (X_then (X_hit (N_then (C_seq (C_seq (C_reg rfl ?_)))))))
        refine L_run (R_move rfl) rfl ?_
        refine L_run (R_lss rfl rfl) rfl ?_
        refine L_nil (N_then (C_condT rfl (decide_eq_true h1) (C_seq (C_reg rfl ?_))))
        refine L_run (R_move rfl) rfl ?_
        refine L_run (R_eqv (R_sub64 rfl rfl (by omega)) (v' := .int .i64 ((k - 1 - 1 : Nat) : Int)) (congrArg _ (by have := dig_cut hbl hd hD; omega))) rfl ?_
        refine L_run (R_assign rfl) rfl ?_
        refine L_nil (N_then (C_reg rfl ?_))
        refine L_run (R_move rfl) rfl ?_
        refine L_run (R_indexArr (i := (k - 1 - 1)) (r := (k - 1 - 1)) rfl rfl (by first | rfl | omega) arr121 (by omega) (by omega)) rfl ?_
        refine L_st1v (v := .int .u8 ((45 : UInt8).toNat : Int)) rfl rfl rfl sz5 hb2 (by rw [fl_len EncB, Nat.mul_one]; first | omega | (rw [List.length_set]; omega)) ?_
        intro w4 hb3 hs3 hz3
        rw [fl_setB (by first | omega | (rw [List.length_set]; omega))] at hb3
        replace hB := gb_trg hB hs3 ge1
        refine L_nil (N_then (C_seq (C_reg rfl ?_)))
        refine L_run (R_move rfl) rfl ?_
        refine T_slArr (bs := ((bs.set (k - 1) (UInt8.ofNat (48 + u % 10))).set (k - 1 - 1) 45)) (i := (k - 1 - 1)) rfl rfl (by first | rfl | omega) arr121 (by omega) hb3 (by first | omega | (simp; omega)) rfl ?_
        intro A_1 hS_1
        refine L_run (R_b2s' (bs := ((bs.set (k - 1) (UInt8.ofNat (48 + u % 10))).set (k - 1 - 1) 45).drop (k - 1 - 1)) rfl slc93 int5 str9 hS_1) rfl ?_
        refine L_run (R_assign rfl) rfl ?_
        refine L_nil (N_then (C_ret ?_))
        refine ret1 Tryd.results43 rfl ?_
        have hf := dig_fin hbl hd (by omega) h1k h2k
        have hc2 := dig_cut hbl hd hD
        have e_ : (((bs.set (k - 1) (UInt8.ofNat (48 + u % 10))).set (k - 1 - 1) 45).drop (k - 1 - 1)) = digI n := by unfold digI; rw [if_pos (by omega), set_drop _ (by rw [List.length_set]; omega), show k - 1 - 1 + 1 = k - 1 by omega, hf]
        rw [e_]; exact ⟨hB, rfl⟩
      · refine C_skip (N_in (N_then ?_))
        have hd2 := dig_next hbl hd (by omega) h1k h2k
        have hc2 := dig_cut (bs := (bs.set (k - 1) (UInt8.ofNat (48 + u % 10)))) (k := k - 1) (by rw [List.length_set]; exact hbl) hd2 hD
        exact ⟨(k - 1), by omega, _, (k - 1), (u / 10), (bs.set (k - 1) (UInt8.ofNat (48 + u % 10))), Ac_frg ⟨rfl, rfl, (agr rfl (by first | rfl | (congr 1; omega) | (congr 1; simp; done) | (congr 1; simp only [IntKind.wrap_u64, IntKind.wrap_i64, IntKind.wrap_u8]; omega) | (congr 1 <;> omega))), rfl, (agr rfl (by first | rfl | (congr 1; omega) | (congr 1; simp; done) | (congr 1; simp only [IntKind.wrap_u64, IntKind.wrap_i64, IntKind.wrap_u8]; omega) | (congr 1 <;> omega))), trivial⟩, hB, hb2, (by rw [List.length_set]; exact hbl), hd2, (by omega), (by omega), (by omega), rfl⟩
  · refine C_skip (N_then (C_seq (C_reg rfl ?_)))
    refine L_alloc (cs := [.int .u8 0, .int .u8 0, .int .u8 0, .int .u8 0, .int .u8 0, .int .u8 0, .int .u8 0, .int .u8 0, .int .u8 0, .int .u8 0, .int .u8 0, .int .u8 0, .int .u8 0, .int .u8 0, .int .u8 0, .int .u8 0, .int .u8 0, .int .u8 0, .int .u8 0, .int .u8 0]) zer121 rfl rfl ?_
    intro g2 w5 eg2 hb4 hs4 hz4
    have ge2 : w.heap.size ≤ g2 := eg_ge hB eg2
    replace hB := gb_tr hB hs4
    replace hb4 : Blk w5 g2 121 (fl encB (List.replicate 20 (0 : UInt8))) := hb4
    refine L_nil (N_then (C_seq (C_reg rfl ?_)))
    refine L_run (R_assign rfl) rfl ?_
    refine L_nil (N_then (C_seq (C_block ?_)))
    refine C_loop (fun m_ a_ w_ => ∃ (σ_ : Nat → Value) (k : Nat) (u : Nat) (bs : List UInt8), a_ = Ac 33 σ_ [] [(0, .int .i64 n), (2, .string (⟨#[]⟩)), (3, .int .u64 (u : Int)), (4, .pointer (some ⟨g2, 0, none⟩)), (5, .int .i64 (k : Int))] ∧ w.grownBy w_ none ∧ Blk w_ g2 121 (fl encB bs) ∧ (bs.length = 20) ∧ (dig u ++ bs.drop k = dig n.natAbs) ∧ (1 ≤ k) ∧ (k ≤ 20) ∧ (u < 18446744073709551616) ∧ k = m_) (20) ?_ ?_
    · exact ⟨_, 20, n.natAbs, (List.replicate 20 (0 : UInt8)), Ac_frg ⟨rfl, rfl, (agr rfl (by first | rfl | (congr 1; omega) | (congr 1; simp; done) | (congr 1; simp only [IntKind.wrap_u64, IntKind.wrap_i64, IntKind.wrap_u8]; omega) | (congr 1 <;> omega))), rfl, (agr rfl (by first | rfl | (congr 1; omega) | (congr 1; simp; done) | (congr 1; simp only [IntKind.wrap_u64, IntKind.wrap_i64, IntKind.wrap_u8]; omega) | (congr 1 <;> omega))), trivial⟩, hB, hb4, rfl, (by rw [show List.drop 20 (List.replicate 20 (0 : UInt8)) = [] from rfl, List.append_nil]), (by omega), (by omega), (by omega), rfl⟩
    · clear hB
      clear hb4
      rintro m_ a_ w6 ⟨σ_, k, u, bs, rfl, hB, hbk, hbl, hd, h1k, h2k, hu, rfl⟩
      refine C_block (C_seq (C_reg rfl ?_))
      refine L_run (R_move rfl) rfl ?_
      refine L_run (R_eqv (R_sub64 rfl rfl (by omega)) (v' := .int .i64 ((k - 1 : Nat) : Int)) (congrArg _ (by omega))) rfl ?_
      refine L_run (R_assign rfl) rfl ?_
      refine L_nil (N_then (C_seq (C_reg rfl ?_)))
      refine L_run (R_move rfl) rfl ?_
      refine L_run (R_move rfl) rfl ?_
      refine L_run (R_eqv (R_rem rfl rfl (by first | decide | omega)) (v' := .int .u64 ((u % 10 : Nat) : Int)) (congrArg _ (by rw [Int.tmod_eq_emod_of_nonneg (by omega)]; omega))) rfl ?_
      refine L_run (R_eqv (R_add rfl rfl) (v' := .int .u64 ((48 + u % 10 : Nat) : Int)) (congrArg _ (by rw [IntKind.wrap_u64]; omega))) rfl ?_
      refine L_run (R_eqv (R_conv rfl any33 int5) (v' := .int .u8 ((UInt8.ofNat (48 + u % 10)).toNat : Int)) (u8_of _ (by omega))) rfl ?_
      refine L_run (R_indexArr (i := (k - 1)) (r := (k - 1)) rfl rfl (by first | rfl | omega) arr121 (by omega) (by omega)) rfl ?_
      refine L_st1v (v := .int .u8 ((UInt8.ofNat (48 + u % 10)).toNat : Int)) rfl rfl rfl sz5 hbk (by rw [fl_len EncB, Nat.mul_one]; first | omega | (rw [List.length_set]; omega)) ?_
      intro w7 hb5 hs5 hz5
      rw [fl_setB (by first | omega | (rw [List.length_set]; omega))] at hb5
      replace hB := gb_trg hB hs5 ge2
      refine L_nil (N_then (C_seq (C_reg rfl ?_)))
      refine L_run (R_move rfl) rfl ?_
      refine L_run (R_eqv (R_quo rfl rfl (by first | decide | omega)) (v' := .int .u64 ((u / 10 : Nat) : Int)) (congrArg _ (by rw [Int.tdiv_eq_ediv_of_nonneg (by omega), IntKind.wrap_u64]; omega))) rfl ?_
      refine L_run (R_assign rfl) rfl ?_
      refine L_nil (N_then (C_seq (C_reg rfl ?_)))
      refine L_run (R_move rfl) rfl ?_
      refine L_run (R_eql rfl rfl) rfl ?_
      refine L_nil (N_then ?_)
      refine C_if rfl (fun h3 => ?_) (fun h3 => ?_)
      · refine C_exit (X_miss rfl (X_then (X_hit (N_then (C_seq (C_seq (C_reg rfl ?_)))))))
        refine L_run (R_move rfl) rfl ?_
        refine L_run (R_lss rfl rfl) rfl ?_
        refine L_nil (N_then (C_condF rfl (decide_eq_false h1) (C_skip (N_then (C_seq (C_reg rfl ?_))))))
        refine L_run (R_move rfl) rfl ?_
        refine T_slArr (bs := (bs.set (k - 1) (UInt8.ofNat (48 + u % 10)))) (i := (k - 1)) rfl rfl (by first | rfl | omega) arr121 (by omega) hb5 (by first | omega | (simp; omega)) rfl ?_
        intro A_2 hS_2
        refine L_run (R_b2s' (bs := (bs.set (k - 1) (UInt8.ofNat (48 + u % 10))).drop (k - 1)) rfl slc93 int5 str9 hS_2) rfl ?_
        refine L_run (R_assign rfl) rfl ?_
        refine L_nil (N_then (C_ret ?_))
        refine ret1 Tryd.results43 rfl ?_
        have hf := dig_fin hbl hd (by omega) h1k h2k
        have e_ : ((bs.set (k - 1) (UInt8.ofNat (48 + u % 10))).drop (k - 1)) = digI n := by unfold digI; rw [if_neg (by omega), hf]
        rw [e_]; exact ⟨hB, rfl⟩
      · refine C_skip (N_in (N_then ?_))
        have hd2 := dig_next hbl hd (by omega) h1k h2k
        have hc2 := dig_cut (bs := (bs.set (k - 1) (UInt8.ofNat (48 + u % 10)))) (k := k - 1) (by rw [List.length_set]; exact hbl) hd2 hD
        exact ⟨(k - 1), by omega, _, (k - 1), (u / 10), (bs.set (k - 1) (UInt8.ofNat (48 + u % 10))), Ac_frg ⟨rfl, rfl, (agr rfl (by first | rfl | (congr 1; omega) | (congr 1; simp; done) | (congr 1; simp only [IntKind.wrap_u64, IntKind.wrap_i64, IntKind.wrap_u8]; omega) | (congr 1 <;> omega))), rfl, (agr rfl (by first | rfl | (congr 1; omega) | (congr 1; simp; done) | (congr 1; simp only [IntKind.wrap_u64, IntKind.wrap_i64, IntKind.wrap_u8]; omega) | (congr 1 <;> omega))), trivial⟩, hB, hb5, (by rw [List.length_set]; exact hbl), hd2, (by omega), (by omega), (by omega), rfl⟩

theorem name_Wal {w : World} {n : Int} (hn : -9223372036854775808 ≤ n ∧ n ≤ 9223372036854775807) :
    Runs Tryd.prog 18 #[.int .i64 n] w (fun v w' => w.grownBy w' none ∧ v = .string ⟨(wname n).toArray⟩) := by
  have hB := gb_refl w none
  refine enter Tryd.func18 Tryd.ntmps18 rfl rfl ?_
  refine C_seq (C_reg rfl ?_)
  refine L_run (R_assign rfl) rfl ?_
  refine L_nil (N_then (C_seq (C_seq (C_reg rfl ?_))))
  refine L_run (R_move rfl) rfl ?_
  refine L_run (R_lss rfl rfl) rfl ?_
  refine L_run (R_move rfl) rfl ?_
  refine L_splitD (p := n < 1) (fun h1 => ?_) (fun h1 => ?_)
  · refine L_no rfl rfl rfl (decide_eq_true h1) rfl ?_
    refine L_no rfl rfl rfl (decide_eq_true h1) rfl ?_
    refine L_run (R_pickT rfl (decide_eq_true h1) rfl) rfl ?_
    refine L_nil (N_then (C_condT rfl rfl (C_seq (C_reg rfl ?_))))
    refine L_run (R_assign rfl) rfl ?_
    refine L_nil (N_then (C_ret (R_then ?_)))
    refine ret1 Tryd.results18 rfl ?_
    first
      | (exfalso; omega)
      | (have e_ : ([] : List UInt8) = wname n := by
           unfold wname
           first | (rw [if_pos (by omega)]; rfl) | rw [if_neg (by omega)]
         rw [← e_]; exact ⟨hB, rfl⟩)
  · refine L_yes rfl rfl rfl (decide_eq_false h1) ?_
    refine L_run (R_move rfl) rfl ?_
    refine L_yes rfl rfl rfl (decide_eq_false h1) ?_
    refine L_run (R_gtr rfl rfl) rfl ?_
    refine L_run (R_pickF rfl (decide_eq_false h1) rfl) rfl ?_
    refine L_nil (N_then ?_)
    refine C_if rfl (fun h2 => ?_) (fun h2 => ?_)
    · refine C_seq (C_reg rfl ?_)
      refine L_run (R_assign rfl) rfl ?_
      refine L_nil (N_then (C_ret (R_then ?_)))
      refine ret1 Tryd.results18 rfl ?_
      first
        | (exfalso; omega)
        | (have e_ : ([] : List UInt8) = wname n := by
             unfold wname
             first | (rw [if_pos (by omega)]; rfl) | rw [if_neg (by omega)]
           rw [← e_]; exact ⟨hB, rfl⟩)
    · refine C_skip (N_then (C_seq (C_reg rfl ?_)))
      refine L_run (R_move rfl) rfl ?_
      refine L_call rfl cb43 (name_Digits (n := n) (by omega)) rfl ?_
      rintro _ w1 ⟨hs1, rfl⟩
      replace hB := gb_tr hB hs1
      refine L_run (R_eqv (R_addS rfl rfl (by rw [ba_size, ba_size]; have h_ := digI_len hn; simp; omega)) (v' := .string ⟨(([119, 97, 108, 45] : List UInt8) ++ (digI n)).toArray⟩) (congrArg _ (ba_app _ _).symm)) rfl ?_
      refine L_run (R_assign rfl) rfl ?_
      refine L_nil (N_then (C_ret ?_))
      refine ret1 Tryd.results18 rfl ?_
      first
        | (exfalso; omega)
        | (have e_ : (([119, 97, 108, 45] : List UInt8) ++ (digI n)) = wname n := by
             unfold wname
             first | (rw [if_pos (by omega)]; rfl) | rw [if_neg (by omega)]
           rw [← e_]; exact ⟨hB, rfl⟩)

theorem header_Right {w : World} {ep seq first : Int} {hs : Nat → Int} :
    Runs Tryd.prog 22 #[.agg #[.int .u64 ep, .int .i64 seq, .int .i64 first, .int .i64 (hs 0), .int .i64 (hs 1), .int .i64 (hs 2), .int .i64 (hs 3)]] w (fun v w' => w.grownBy w' none ∧ v = .bool (decide (OkH ep seq first hs))) := by
  have hB := gb_refl w none
  refine enter Tryd.func22 Tryd.ntmps22 rfl rfl ?_
  refine C_seq (C_reg rfl ?_)
  refine L_box (cs := [.int .u64 ep, .int .i64 seq, .int .i64 first, .int .i64 (hs 0), .int .i64 (hs 1), .int .i64 (hs 2), .int .i64 (hs 3)]) rfl rfl rfl ?_
  intro g1 w1 eg1 hb1 hs1 hz1
  have ge1 : w.heap.size ≤ g1 := eg_ge hB eg1
  replace hB := gb_tr hB hs1
  refine L_run (R_assign rfl) rfl ?_
  refine L_nil (N_then (C_seq (C_seq (C_reg rfl ?_))))
  refine L_run (R_field (r := 3) rfl fld36_3 rfl) rfl ?_
  refine L_run (R_loadA (vs := [.int .i64 (hs 0), .int .i64 (hs 1), .int .i64 (hs 2), .int .i64 (hs 3)]) rfl agg34 (At.pre (hb1.at_ 3) rfl) rfl) rfl ?_
  refine L_run (R_move rfl) rfl ?_
  refine L_nil (N_then (C_block ?_))
  refine C_loop (fun m_ a_ w_ => ∃ (σ_ : Nat → Value) (k : Nat), a_ = Ac 42 σ_ [] [(1, .pointer (some ⟨g1, 0, none⟩)), (2, .bool false), (6, .agg #[.int .i64 (hs 0), .int .i64 (hs 1), .int .i64 (hs 2), .int .i64 (hs 3)]), (7, .int .i64 (k : Int))] ∧ w.grownBy w_ none ∧ Blk w_ g1 36 [.int .u64 ep, .int .i64 seq, .int .i64 first, .int .i64 (hs 0), .int .i64 (hs 1), .int .i64 (hs 2), .int .i64 (hs 3)] ∧ (k ≤ 4) ∧ (OkK k first hs) ∧ 4 - k = m_) (4 - 0) ?_ ?_
  · exact ⟨_, 0, Ac_frg ⟨rfl, rfl, rfl, (agr rfl (by first | rfl | (congr 1; omega) | (congr 1; simp; done) | (congr 1; simp only [IntKind.wrap_u64, IntKind.wrap_i64, IntKind.wrap_u8]; omega) | (congr 1 <;> omega))), trivial⟩, hB, hb1, (by omega), OkK_0, rfl⟩
  · clear hB
    clear hb1
    rintro m_ a_ w2 ⟨σ_, k, rfl, hB, hb1, hk, hall, rfl⟩
    refine C_seq (C_reg rfl ?_)
    refine L_run (R_lss rfl rfl) rfl ?_
    refine L_nil (N_then (C_seq ?_))
    refine C_if rfl (fun h1 => ?_) (fun h1 => ?_)
    · refine C_skip (N_then (C_seq (C_block (C_seq (C_reg rfl ?_)))))
      refine L_run (R_indexA4 (f := hs) (a := (k : Int)) (i := k) rfl rfl (by first | rfl | omega) arr34 scl3 (by omega)) rfl ?_
      refine L_run (R_assign rfl) rfl ?_
      refine L_nil (N_then (C_seq (C_reg rfl ?_)))
      refine L_run (R_move rfl) rfl ?_
      refine L_run (R_lss rfl rfl) rfl ?_
      refine L_run (R_move rfl) rfl ?_
      refine L_splitD (p := (hs k) < 0) (fun h2 => ?_) (fun h2 => ?_)
      · refine L_no rfl rfl rfl (decide_eq_true h2) rfl ?_
        refine L_no rfl rfl rfl (decide_eq_true h2) rfl ?_
        refine L_no rfl rfl rfl (decide_eq_true h2) rfl ?_
        refine L_no rfl rfl rfl (decide_eq_true h2) rfl ?_
        refine L_run (R_pickT rfl (decide_eq_true h2) rfl) rfl ?_
        refine L_nil (N_then (C_condT rfl rfl (C_seq (C_reg rfl ?_))))
        refine L_run (R_assign rfl) rfl ?_
        refine L_nil (N_then (C_ret (R_in (R_then (R_then (R_in (R_then ?_)))))))
        refine ret1 Tryd.results22 rfl ?_
        first
          | (exfalso; omega)
          | (exact ⟨hB, bF (fun h => by have := h.2 k (by omega); omega)⟩)
      · refine L_yes rfl rfl rfl (decide_eq_false h2) ?_
        refine L_run (R_move rfl) rfl ?_
        refine L_yes rfl rfl rfl (decide_eq_false h2) ?_
        refine L_run (R_field (r := 2) rfl fld36_2 rfl) rfl ?_
        refine L_yes rfl rfl rfl (decide_eq_false h2) ?_
        refine L_run (R_load1 rfl scl3 (hb1.cell (i := 2) rfl)) rfl ?_
        refine L_yes rfl rfl rfl (decide_eq_false h2) ?_
        refine L_run (R_geq rfl rfl) rfl ?_
        refine L_run (R_pickF rfl (decide_eq_false h2) rfl) rfl ?_
        refine L_nil (N_then ?_)
        refine C_if rfl (fun h3 => ?_) (fun h3 => ?_)
        · refine C_seq (C_reg rfl ?_)
          refine L_run (R_assign rfl) rfl ?_
          refine L_nil (N_then (C_ret (R_in (R_then (R_then (R_in (R_then ?_)))))))
          refine ret1 Tryd.results22 rfl ?_
          first
            | (exfalso; omega)
            | (exact ⟨hB, bF (fun h => by have := h.2 k (by omega); omega)⟩)
        · refine C_skip (N_in (N_then (C_reg rfl ?_)))
          refine L_run (R_add64 rfl rfl (by omega)) rfl ?_
          refine L_run (R_move rfl) rfl ?_
          refine L_nil (N_then ?_)
          exact ⟨4 - (k + 1), by omega, _, (k + 1), Ac_frg ⟨rfl, rfl, rfl, (agr rfl (by first | rfl | (congr 1; omega) | (congr 1; simp; done) | (congr 1; simp only [IntKind.wrap_u64, IntKind.wrap_i64, IntKind.wrap_u8]; omega) | (congr 1 <;> omega))), trivial⟩, hB, hb1, (by omega), (OkK_succ.2 ⟨hall, by omega, by omega⟩), rfl⟩
    · refine C_exit (X_then (X_then (X_hit (N_then (C_seq (C_reg rfl ?_))))))
      refine L_run (R_field (r := 0) rfl fld36_0 rfl) rfl ?_
      refine L_run (R_load1 rfl scl33 (hb1.cell (i := 0) rfl)) rfl ?_
      refine L_run (R_neq rfl rfl) rfl ?_
      refine L_run (R_move rfl) rfl ?_
      refine L_splitD (p := ep ≠ 0) (fun h4 => ?_) (fun h4 => ?_)
      · refine L_yes rfl rfl rfl (decide_eq_true h4) ?_
        refine L_run (R_field (r := 1) rfl fld36_1 rfl) rfl ?_
        refine L_yes rfl rfl rfl (decide_eq_true h4) ?_
        refine L_run (R_load1 rfl scl3 (hb1.cell (i := 1) rfl)) rfl ?_
        refine L_yes rfl rfl rfl (decide_eq_true h4) ?_
        refine L_run (R_geq rfl rfl) rfl ?_
        refine L_run (R_pickT rfl (decide_eq_true h4) rfl) rfl ?_
        refine L_run (R_move rfl) rfl ?_
        refine L_splitD (p := 1 ≤ seq) (fun h5 => ?_) (fun h5 => ?_)
        · refine L_yes rfl rfl rfl (decide_eq_true h5) ?_
          refine L_run (R_field (r := 1) rfl fld36_1 rfl) rfl ?_
          refine L_yes rfl rfl rfl (decide_eq_true h5) ?_
          refine L_run (R_load1 rfl scl3 (hb1.cell (i := 1) rfl)) rfl ?_
          refine L_yes rfl rfl rfl (decide_eq_true h5) ?_
          refine L_run (R_leq rfl rfl) rfl ?_
          refine L_run (R_pickT rfl (decide_eq_true h5) rfl) rfl ?_
          refine L_run (R_move rfl) rfl ?_
          refine L_splitD (p := seq ≤ 2147483647) (fun h6 => ?_) (fun h6 => ?_)
          · refine L_yes rfl rfl rfl (decide_eq_true h6) ?_
            refine L_run (R_field (r := 2) rfl fld36_2 rfl) rfl ?_
            refine L_yes rfl rfl rfl (decide_eq_true h6) ?_
            refine L_run (R_load1 rfl scl3 (hb1.cell (i := 2) rfl)) rfl ?_
            refine L_yes rfl rfl rfl (decide_eq_true h6) ?_
            refine L_run (R_geq rfl rfl) rfl ?_
            refine L_run (R_pickT rfl (decide_eq_true h6) rfl) rfl ?_
            refine L_run (R_move rfl) rfl ?_
            refine L_splitD (p := 1 ≤ first) (fun h7 => ?_) (fun h7 => ?_)
            · refine L_yes rfl rfl rfl (decide_eq_true h7) ?_
              refine L_run (R_field (r := 2) rfl fld36_2 rfl) rfl ?_
              refine L_yes rfl rfl rfl (decide_eq_true h7) ?_
              refine L_run (R_load1 rfl scl3 (hb1.cell (i := 2) rfl)) rfl ?_
              refine L_yes rfl rfl rfl (decide_eq_true h7) ?_
              refine L_run (R_leq rfl rfl) rfl ?_
              refine L_run (R_pickT rfl (decide_eq_true h7) rfl) rfl ?_
              refine L_run (R_assign rfl) rfl ?_
              refine L_nil (N_then (C_ret ?_))
              refine ret1 Tryd.results22 rfl ?_
              obtain rfl : k = 4 := by omega
              exact ⟨hB, bD ⟨fun h => ⟨⟨by omega, by omega, by omega, by omega, by omega⟩, hall⟩, fun h => by have := h.1; unfold OkB at this; omega⟩⟩
            · refine L_no rfl rfl rfl (decide_eq_false h7) rfl ?_
              refine L_no rfl rfl rfl (decide_eq_false h7) rfl ?_
              refine L_no rfl rfl rfl (decide_eq_false h7) rfl ?_
              refine L_run (R_pickF rfl (decide_eq_false h7) rfl) rfl ?_
              refine L_run (R_assign rfl) rfl ?_
              refine L_nil (N_then (C_ret ?_))
              refine ret1 Tryd.results22 rfl ?_
              obtain rfl : k = 4 := by omega
              exact ⟨hB, bF (fun h => by have := h.1; unfold OkB at this; omega)⟩
          · refine L_no rfl rfl rfl (decide_eq_false h6) rfl ?_
            refine L_no rfl rfl rfl (decide_eq_false h6) rfl ?_
            refine L_no rfl rfl rfl (decide_eq_false h6) rfl ?_
            refine L_run (R_pickF rfl (decide_eq_false h6) rfl) rfl ?_
            refine L_run (R_move rfl) rfl ?_
            refine L_no rfl rfl rfl rfl rfl ?_
            refine L_no rfl rfl rfl rfl rfl ?_
            refine L_no rfl rfl rfl rfl rfl ?_
            refine L_run (R_pickF rfl rfl rfl) rfl ?_
            refine L_run (R_assign rfl) rfl ?_
            refine L_nil (N_then (C_ret ?_))
            refine ret1 Tryd.results22 rfl ?_
            obtain rfl : k = 4 := by omega
            exact ⟨hB, bF (fun h => by have := h.1; unfold OkB at this; omega)⟩
        · refine L_no rfl rfl rfl (decide_eq_false h5) rfl ?_
          refine L_no rfl rfl rfl (decide_eq_false h5) rfl ?_
          refine L_no rfl rfl rfl (decide_eq_false h5) rfl ?_
          refine L_run (R_pickF rfl (decide_eq_false h5) rfl) rfl ?_
          refine L_run (R_move rfl) rfl ?_
          refine L_no rfl rfl rfl rfl rfl ?_
          refine L_no rfl rfl rfl rfl rfl ?_
          refine L_no rfl rfl rfl rfl rfl ?_
          refine L_run (R_pickF rfl rfl rfl) rfl ?_
          refine L_run (R_move rfl) rfl ?_
          refine L_no rfl rfl rfl rfl rfl ?_
          refine L_no rfl rfl rfl rfl rfl ?_
          refine L_no rfl rfl rfl rfl rfl ?_
          refine L_run (R_pickF rfl rfl rfl) rfl ?_
          refine L_run (R_assign rfl) rfl ?_
          refine L_nil (N_then (C_ret ?_))
          refine ret1 Tryd.results22 rfl ?_
          obtain rfl : k = 4 := by omega
          exact ⟨hB, bF (fun h => by have := h.1; unfold OkB at this; omega)⟩
      · refine L_no rfl rfl rfl (decide_eq_false h4) rfl ?_
        refine L_no rfl rfl rfl (decide_eq_false h4) rfl ?_
        refine L_no rfl rfl rfl (decide_eq_false h4) rfl ?_
        refine L_run (R_pickF rfl (decide_eq_false h4) rfl) rfl ?_
        refine L_run (R_move rfl) rfl ?_
        refine L_no rfl rfl rfl rfl rfl ?_
        refine L_no rfl rfl rfl rfl rfl ?_
        refine L_no rfl rfl rfl rfl rfl ?_
        refine L_run (R_pickF rfl rfl rfl) rfl ?_
        refine L_run (R_move rfl) rfl ?_
        refine L_no rfl rfl rfl rfl rfl ?_
        refine L_no rfl rfl rfl rfl rfl ?_
        refine L_no rfl rfl rfl rfl rfl ?_
        refine L_run (R_pickF rfl rfl rfl) rfl ?_
        refine L_run (R_move rfl) rfl ?_
        refine L_no rfl rfl rfl rfl rfl ?_
        refine L_no rfl rfl rfl rfl rfl ?_
        refine L_no rfl rfl rfl rfl rfl ?_
        refine L_run (R_pickF rfl rfl rfl) rfl ?_
        refine L_run (R_assign rfl) rfl ?_
        refine L_nil (N_then (C_ret ?_))
        refine ret1 Tryd.results22 rfl ?_
        obtain rfl : k = 4 := by omega
        exact ⟨hB, bF (fun h => by have := h.1; unfold OkB at this; omega)⟩

set_option maxRecDepth 100000 in
theorem size_nil {w : World} {nm : ByteArray} : Runs Tryd.prog 20 #[.pointer none, .string nm] w (fun v w' => w.grownBy w' none ∧ v = .int .i64 0) :=
  Ev.closedD (mu := Ev.nomu) (fuel := 100000) (d := 60) (xs := [.pointer none, .string nm]) (by kernel_rfl) (by kernel_rfl)

set_option maxRecDepth 100000 in
theorem down_nil {w : World} : Runs Tryd.prog 74 #[.pointer none] w (fun v w' => w.grownBy w' none ∧ v = .int .i64 11) :=
  Ev.closedD (mu := Ev.nomu) (fuel := 100000) (d := 60) (xs := [.pointer none]) (by kernel_rfl) (by kernel_rfl)

set_option maxRecDepth 100000 in
theorem up_nil {w : World} : Runs Tryd.prog 23 #[.pointer none] w (fun v w' => w.grownBy w' none ∧ v = .int .i64 11) :=
  Ev.closedD (mu := Ev.nomu) (fuel := 100000) (d := 60) (xs := [.pointer none]) (by kernel_rfl) (by kernel_rfl)

set_option maxRecDepth 100000 in
theorem newest_nil {w : World} : Runs Tryd.prog 12 #[.pointer none] w (fun v w' => w.grownBy w' none ∧ v = .int .u64 0) :=
  Ev.closedD (mu := Ev.nomu) (fuel := 100000) (d := 60) (xs := [.pointer none]) (by kernel_rfl) (by kernel_rfl)

theorem find_nil {w : World} {nm : ByteArray} :
    Runs Tryd.prog 44 #[.pointer none, .string nm] w (fun v w' => w.grownBy w' none ∧ v = .tuple #[.pointer none, .int .i64 11]) := by
  have hB := gb_refl w none
  refine enter Tryd.func44 Tryd.ntmps44 rfl rfl ?_
  refine C_seq (C_reg rfl ?_)
  refine L_run (R_assign rfl) rfl ?_
  refine L_run (R_assign rfl) rfl ?_
  refine L_nil (N_then (C_seq (C_seq (C_reg rfl ?_))))
  refine L_run (R_move rfl) rfl ?_
  refine L_call rfl cb74 (down_nil) rfl ?_
  rintro _ w1 ⟨hs1, rfl⟩
  replace hB := gb_tr hB hs1
  refine L_run (R_assign rfl) rfl ?_
  refine L_nil (N_then (C_seq (C_reg rfl ?_)))
  refine L_run (R_move rfl) rfl ?_
  refine L_run (R_eqv (R_neq rfl rfl) (v' := .bool true) rfl) rfl ?_
  refine L_nil (N_then (C_condT rfl rfl (C_seq (C_reg rfl ?_))))
  refine L_run (R_move rfl) rfl ?_
  refine L_run (R_assign rfl) rfl ?_
  refine L_run (R_assign rfl) rfl ?_
  refine L_nil (N_then (C_ret (R_then ?_)))
  refine ret2 Tryd.results44 rfl rfl ?_
  first
    | (exfalso; omega)
    | (exact ⟨hB, rfl⟩)

theorem read_nil {w : World} {nm : ByteArray} {a c : Int} :
    Runs Tryd.prog 19 #[.pointer none, .string nm, .int .i64 a, .int .i64 c] w (fun v w' => w.grownBy w' none ∧ v = .tuple #[.slice none 0 0, .int .i64 11]) := by
  have hB := gb_refl w none
  refine enter Tryd.func19 Tryd.ntmps19 rfl rfl ?_
  refine C_seq (C_reg rfl ?_)
  refine L_run (R_assign rfl) rfl ?_
  refine L_run (R_assign rfl) rfl ?_
  refine L_nil (N_then (C_seq (C_reg rfl ?_)))
  refine L_run (R_move rfl) rfl ?_
  refine L_run (R_move rfl) rfl ?_
  refine L_call rfl cb44 (find_nil) rfl ?_
  rintro _ w1 ⟨hs1, rfl⟩
  replace hB := gb_tr hB hs1
  refine L_run (R_move rfl) rfl ?_
  refine L_run (R_extract rfl rfl) rfl ?_
  refine L_run (R_extract rfl rfl) rfl ?_
  refine L_run (R_assign rfl) rfl ?_
  refine L_run (R_assign rfl) rfl ?_
  refine L_nil (N_then (C_seq (C_seq (C_reg rfl ?_))))
  refine L_run (R_move rfl) rfl ?_
  refine L_run (R_eqv (R_neq rfl rfl) (v' := .bool true) rfl) rfl ?_
  refine L_nil (N_then (C_condT rfl rfl (C_seq (C_reg rfl ?_))))
  refine L_run (R_move rfl) rfl ?_
  refine L_run (R_assign rfl) rfl ?_
  refine L_run (R_assign rfl) rfl ?_
  refine L_nil (N_then (C_ret (R_then ?_)))
  refine ret2 Tryd.results19 rfl rfl ?_
  first
    | (exfalso; omega)
    | (exact ⟨hB, rfl⟩)

theorem hdr_in {w : World} {n : Int} (hn : -9223372036854775808 ≤ n ∧ n ≤ 9223372036854775807) (hq : 1 ≤ n ∧ n ≤ 2147483647) :
    Runs Tryd.prog 9 #[.pointer none, .int .i64 n] w (fun v w' => w.grownBy w' none ∧ v = .tuple #[.agg #[.int .u64 0, .int .i64 0, .int .i64 0, .int .i64 0, .int .i64 0, .int .i64 0, .int .i64 0], .int .i64 11]) := by
  have hB := gb_refl w none
  refine enter Tryd.func9 Tryd.ntmps9 rfl rfl ?_
  refine C_seq (C_reg rfl ?_)
  refine L_alloc (cs := [.int .u64 0, .int .i64 0, .int .i64 0, .int .i64 0, .int .i64 0, .int .i64 0, .int .i64 0]) zer36 rfl rfl ?_
  intro g1 w1 eg1 hb1 hs1 hz1
  have ge1 : w.heap.size ≤ g1 := eg_ge hB eg1
  replace hB := gb_tr hB hs1
  refine L_run (R_assign rfl) rfl ?_
  refine L_nil (N_then (C_seq (C_reg rfl ?_)))
  refine L_run (R_move rfl) rfl ?_
  refine L_call rfl cb18 (name_Wal (n := n) (by omega)) rfl ?_
  rintro _ w2 ⟨hs2, rfl⟩
  replace hB := gb_tr hB hs2
  replace hb1 := hb1.gb hs2
  refine L_run (R_assign rfl) rfl ?_
  refine L_nil (N_then (C_seq (C_seq (C_reg rfl ?_))))
  refine L_run (R_move rfl) rfl ?_
  refine L_run (R_eqv (R_eqlS rfl rfl) (v' := .bool (decide ((wname n) = []))) (bD ba_inj)) rfl ?_
  refine L_nil (N_then (C_condF rfl (decide_eq_false (wname_yes hq)) (C_skip (N_then (C_seq (C_reg rfl ?_))))))
  refine L_run (R_move rfl) rfl ?_
  refine L_run (R_move rfl) rfl ?_
  refine L_run (R_move rfl) rfl ?_
  refine L_run (R_move rfl) rfl ?_
  refine L_call rfl cb20 (size_nil) rfl ?_
  rintro _ w3 ⟨hs3, rfl⟩
  replace hB := gb_tr hB hs3
  replace hb1 := hb1.gb hs3
  refine L_run (R_min (v := .int .i64 0) rfl rfl (fun _ => rfl)) rfl ?_
  refine L_call rfl cb19 (read_nil) rfl ?_
  rintro _ w4 ⟨hs4, rfl⟩
  replace hB := gb_tr hB hs4
  replace hb1 := hb1.gb hs4
  refine L_run (R_move rfl) rfl ?_
  refine L_run (R_extract rfl rfl) rfl ?_
  refine L_run (R_extract rfl rfl) rfl ?_
  refine L_run (R_assign rfl) rfl ?_
  refine L_run (R_assign rfl) rfl ?_
  refine L_nil (N_then (C_seq (C_seq (C_reg rfl ?_))))
  refine L_run (R_move rfl) rfl ?_
  refine L_run (R_eqv (R_neq rfl rfl) (v' := .bool true) rfl) rfl ?_
  refine L_nil (N_then (C_condT rfl rfl (C_seq (C_reg rfl ?_))))
  refine L_run (R_build (pv := []) (cs := [.int .u64 0, .int .i64 0, .int .i64 0, .int .i64 0, .int .i64 0, .int .i64 0, .int .i64 0]) rfl (by kernel_rfl)) rfl ?_
  refine L_run (R_move rfl) rfl ?_
  refine L_stA (vs := [.int .u64 0, .int .i64 0, .int .i64 0, .int .i64 0, .int .i64 0, .int .i64 0, .int .i64 0]) rfl rfl rfl sz36 rfl hb1 rfl ?_
  intro w5 hb2 hs5 hz2
  replace hB := gb_trg hB hs5 ge1
  refine L_run (R_assign rfl) rfl ?_
  refine L_nil (N_then (C_ret (R_then ?_)))
  refine retC1 (vs := [.int .u64 0, .int .i64 0, .int .i64 0, .int .i64 0, .int .i64 0, .int .i64 0, .int .i64 0]) Tryd.results9 rfl agg36 (At.pre (hb2.at_ 0) rfl) rfl rfl ?_
  first
    | (exfalso; omega)
    | (exact ⟨hB, rfl⟩)

theorem hdr_out {w : World} {n : Int} (hn : -9223372036854775808 ≤ n ∧ n ≤ 9223372036854775807) (hq : ¬ (1 ≤ n ∧ n ≤ 2147483647)) :
    Runs Tryd.prog 9 #[.pointer none, .int .i64 n] w (fun v w' => w.grownBy w' none ∧ v = .tuple #[.agg #[.int .u64 0, .int .i64 0, .int .i64 0, .int .i64 0, .int .i64 0, .int .i64 0, .int .i64 0], .int .i64 13]) := by
  have hB := gb_refl w none
  refine enter Tryd.func9 Tryd.ntmps9 rfl rfl ?_
  refine C_seq (C_reg rfl ?_)
  refine L_alloc (cs := [.int .u64 0, .int .i64 0, .int .i64 0, .int .i64 0, .int .i64 0, .int .i64 0, .int .i64 0]) zer36 rfl rfl ?_
  intro g1 w1 eg1 hb1 hs1 hz1
  have ge1 : w.heap.size ≤ g1 := eg_ge hB eg1
  replace hB := gb_tr hB hs1
  refine L_run (R_assign rfl) rfl ?_
  refine L_nil (N_then (C_seq (C_reg rfl ?_)))
  refine L_run (R_move rfl) rfl ?_
  refine L_call rfl cb18 (name_Wal (n := n) (by omega)) rfl ?_
  rintro _ w2 ⟨hs2, rfl⟩
  replace hB := gb_tr hB hs2
  replace hb1 := hb1.gb hs2
  refine L_run (R_assign rfl) rfl ?_
  refine L_nil (N_then (C_seq (C_seq (C_reg rfl ?_))))
  refine L_run (R_move rfl) rfl ?_
  refine L_run (R_eqv (R_eqlS rfl rfl) (v' := .bool (decide ((wname n) = []))) (bD ba_inj)) rfl ?_
  refine L_nil (N_then (C_condT rfl (decide_eq_true (wname_no hq)) (C_seq (C_reg rfl ?_))))
  refine L_run (R_build (pv := []) (cs := [.int .u64 0, .int .i64 0, .int .i64 0, .int .i64 0, .int .i64 0, .int .i64 0, .int .i64 0]) rfl (by kernel_rfl)) rfl ?_
  refine L_stA (vs := [.int .u64 0, .int .i64 0, .int .i64 0, .int .i64 0, .int .i64 0, .int .i64 0, .int .i64 0]) rfl rfl rfl sz36 rfl hb1 rfl ?_
  intro w3 hb2 hs3 hz2
  replace hB := gb_trg hB hs3 ge1
  refine L_run (R_assign rfl) rfl ?_
  refine L_nil (N_then (C_ret (R_then ?_)))
  refine retC1 (vs := [.int .u64 0, .int .i64 0, .int .i64 0, .int .i64 0, .int .i64 0, .int .i64 0, .int .i64 0]) Tryd.results9 rfl agg36 (At.pre (hb2.at_ 0) rfl) rfl rfl ?_
  first
    | (exfalso; omega)
    | (exact ⟨hB, rfl⟩)

theorem sec_nil {w : World} :
    Runs Tryd.prog 10 #[.pointer none, .int .i64 2] w (fun v w' => w.grownBy w' none ∧ v = .tuple #[.slice none 0 0, .int .i64 11]) := by
  have hB := gb_refl w none
  refine enter Tryd.func10 Tryd.ntmps10 rfl rfl ?_
  refine C_seq (C_reg rfl ?_)
  refine L_run (R_assign rfl) rfl ?_
  refine L_run (R_assign rfl) rfl ?_
  refine L_nil (N_then (C_seq (C_seq (C_reg rfl ?_))))
  refine L_run (R_move rfl) rfl ?_
  refine L_run (R_move rfl) rfl ?_
  refine L_call rfl cb9 (hdr_in (n := 2) (by omega) (by omega)) rfl ?_
  rintro _ w1 ⟨hs1, rfl⟩
  replace hB := gb_tr hB hs1
  refine L_run (R_move rfl) rfl ?_
  refine L_run (R_extract rfl rfl) rfl ?_
  refine L_run (R_extract rfl rfl) rfl ?_
  refine L_alloc (cs := [.int .u64 0, .int .i64 0, .int .i64 0, .int .i64 0, .int .i64 0, .int .i64 0, .int .i64 0]) zer36 rfl rfl ?_
  intro g1 w2 eg1 hb1 hs2 hz1
  have ge1 : w.heap.size ≤ g1 := eg_ge hB eg1
  replace hB := gb_tr hB hs2
  refine L_stA (vs := [.int .u64 0, .int .i64 0, .int .i64 0, .int .i64 0, .int .i64 0, .int .i64 0, .int .i64 0]) rfl rfl rfl sz36 rfl hb1 rfl ?_
  intro w3 hb2 hs3 hz2
  replace hB := gb_trg hB hs3 ge1
  refine L_run (R_assign rfl) rfl ?_
  refine L_nil (N_then (C_seq (C_reg rfl ?_)))
  refine L_run (R_move rfl) rfl ?_
  refine L_run (R_eqv (R_neq rfl rfl) (v' := .bool true) rfl) rfl ?_
  refine L_nil (N_then (C_condT rfl rfl (C_seq (C_reg rfl ?_))))
  refine L_run (R_move rfl) rfl ?_
  refine L_run (R_assign rfl) rfl ?_
  refine L_run (R_assign rfl) rfl ?_
  refine L_nil (N_then (C_ret (R_then ?_)))
  refine ret2 Tryd.results10 rfl rfl ?_
  first
    | (exfalso; omega)
    | (exact ⟨hB, rfl⟩)

theorem beg_in {w : World} {ep seq first : Int} {hs : Nat → Int} (hk : OkH ep seq first hs) :
    Runs Tryd.prog 11 #[.pointer none, .agg #[.int .u64 ep, .int .i64 seq, .int .i64 first, .int .i64 (hs 0), .int .i64 (hs 1), .int .i64 (hs 2), .int .i64 (hs 3)]] w (fun v w' => w.grownBy w' none ∧ v = .int .i64 11) := by
  have hB := gb_refl w none
  refine enter Tryd.func11 Tryd.ntmps11 rfl rfl ?_
  refine C_seq (C_reg rfl ?_)
  refine L_box (cs := [.pointer none]) rfl rfl rfl ?_
  intro g1 w1 eg1 hb1 hs1 hz1
  have ge1 : w.heap.size ≤ g1 := eg_ge hB eg1
  replace hB := gb_tr hB hs1
  refine L_box (cs := [.int .u64 ep, .int .i64 seq, .int .i64 first, .int .i64 (hs 0), .int .i64 (hs 1), .int .i64 (hs 2), .int .i64 (hs 3)]) rfl rfl rfl ?_
  intro g2 w2 eg2 hb2 hs2 hz2
  have ge2 : w.heap.size ≤ g2 := eg_ge hB eg2
  have lt1 : g1 < g2 := lt_of_eg hb1.lt eg2
  replace hB := gb_tr hB hs2
  replace hb1 := hb1.gb hs2
  refine L_alloc (cs := [.int .i64 0]) zer37 rfl rfl ?_
  intro g3 w3 eg3 hb3 hs3 hz3
  have ge3 : w.heap.size ≤ g3 := eg_ge hB eg3
  have lt2 : g1 < g3 := lt_of_eg hb1.lt eg3
  have lt3 : g2 < g3 := lt_of_eg hb2.lt eg3
  replace hB := gb_tr hB hs3
  replace hb1 := hb1.gb hs3
  replace hb2 := hb2.gb hs3
  refine L_nil (N_then (C_seq (C_seq (C_reg rfl ?_))))
  refine L_run (R_loadA (vs := [.int .u64 ep, .int .i64 seq, .int .i64 first, .int .i64 (hs 0), .int .i64 (hs 1), .int .i64 (hs 2), .int .i64 (hs 3)]) rfl agg36 (At.pre (hb2.at_ 0) rfl) rfl) rfl ?_
  refine L_call rfl cb22 (header_Right (ep := ep) (seq := seq) (first := first) (hs := hs)) rfl ?_
  rintro _ w4 ⟨hs4, rfl⟩
  replace hB := gb_tr hB hs4
  replace hb1 := hb1.gb hs4
  replace hb2 := hb2.gb hs4
  replace hb3 := hb3.gb hs4
  refine L_run (R_notD rfl) rfl ?_
  refine L_nil (N_then (C_condF rfl (decide_eq_false (fun hn => hn hk)) (C_skip (N_then (C_seq (C_seq (C_reg rfl ?_)))))))
  refine L_run (R_load1 rfl scl49 (hb1.cell (i := 0) rfl)) rfl ?_
  refine L_call rfl cb23 (up_nil) rfl ?_
  rintro _ w5 ⟨hs5, rfl⟩
  replace hB := gb_tr hB hs5
  replace hb1 := hb1.gb hs5
  replace hb2 := hb2.gb hs5
  replace hb3 := hb3.gb hs5
  refine L_run (R_assign rfl) rfl ?_
  refine L_nil (N_then (C_seq (C_reg rfl ?_)))
  refine L_run (R_move rfl) rfl ?_
  refine L_run (R_eqv (R_neq rfl rfl) (v' := .bool true) rfl) rfl ?_
  refine L_nil (N_then (C_condT rfl rfl (C_seq (C_reg rfl ?_))))
  refine L_run (R_move rfl) rfl ?_
  refine L_st1 rfl rfl rfl sz37 hb3 rfl ?_
  intro w6 hb4 hs6 hz4
  replace hB := gb_trg hB hs6 ge3
  replace hb1 := hb1.grown hs6 (ne_lt lt2)
  replace hb2 := hb2.grown hs6 (ne_lt lt3)
  refine L_nil (N_then (C_ret (R_then ?_)))
  refine retCS (v := .int .i64 11) Tryd.results11 rfl scl37 (hb4.cell (i := 0) rfl) ?_
  first
    | (exfalso; omega)
    | (exact ⟨hB, rfl⟩)

theorem beg_out {w : World} {ep seq first : Int} {hs : Nat → Int} (hk : ¬ (OkH ep seq first hs)) :
    Runs Tryd.prog 11 #[.pointer none, .agg #[.int .u64 ep, .int .i64 seq, .int .i64 first, .int .i64 (hs 0), .int .i64 (hs 1), .int .i64 (hs 2), .int .i64 (hs 3)]] w (fun v w' => w.grownBy w' none ∧ v = .int .i64 13) := by
  have hB := gb_refl w none
  refine enter Tryd.func11 Tryd.ntmps11 rfl rfl ?_
  refine C_seq (C_reg rfl ?_)
  refine L_box (cs := [.pointer none]) rfl rfl rfl ?_
  intro g1 w1 eg1 hb1 hs1 hz1
  have ge1 : w.heap.size ≤ g1 := eg_ge hB eg1
  replace hB := gb_tr hB hs1
  refine L_box (cs := [.int .u64 ep, .int .i64 seq, .int .i64 first, .int .i64 (hs 0), .int .i64 (hs 1), .int .i64 (hs 2), .int .i64 (hs 3)]) rfl rfl rfl ?_
  intro g2 w2 eg2 hb2 hs2 hz2
  have ge2 : w.heap.size ≤ g2 := eg_ge hB eg2
  have lt1 : g1 < g2 := lt_of_eg hb1.lt eg2
  replace hB := gb_tr hB hs2
  replace hb1 := hb1.gb hs2
  refine L_alloc (cs := [.int .i64 0]) zer37 rfl rfl ?_
  intro g3 w3 eg3 hb3 hs3 hz3
  have ge3 : w.heap.size ≤ g3 := eg_ge hB eg3
  have lt2 : g1 < g3 := lt_of_eg hb1.lt eg3
  have lt3 : g2 < g3 := lt_of_eg hb2.lt eg3
  replace hB := gb_tr hB hs3
  replace hb1 := hb1.gb hs3
  replace hb2 := hb2.gb hs3
  refine L_nil (N_then (C_seq (C_seq (C_reg rfl ?_))))
  refine L_run (R_loadA (vs := [.int .u64 ep, .int .i64 seq, .int .i64 first, .int .i64 (hs 0), .int .i64 (hs 1), .int .i64 (hs 2), .int .i64 (hs 3)]) rfl agg36 (At.pre (hb2.at_ 0) rfl) rfl) rfl ?_
  refine L_call rfl cb22 (header_Right (ep := ep) (seq := seq) (first := first) (hs := hs)) rfl ?_
  rintro _ w4 ⟨hs4, rfl⟩
  replace hB := gb_tr hB hs4
  replace hb1 := hb1.gb hs4
  replace hb2 := hb2.gb hs4
  replace hb3 := hb3.gb hs4
  refine L_run (R_notD rfl) rfl ?_
  refine L_nil (N_then (C_condT rfl (decide_eq_true hk) (C_seq (C_reg rfl ?_))))
  refine L_st1 rfl rfl rfl sz37 hb3 rfl ?_
  intro w5 hb4 hs5 hz4
  replace hB := gb_trg hB hs5 ge3
  replace hb1 := hb1.grown hs5 (ne_lt lt2)
  replace hb2 := hb2.grown hs5 (ne_lt lt3)
  refine L_nil (N_then (C_ret (R_then ?_)))
  refine retCS (v := .int .i64 13) Tryd.results11 rfl scl37 (hb4.cell (i := 0) rfl) ?_
  first
    | (exfalso; omega)
    | (exact ⟨hB, rfl⟩)

end Go.Proofs.YtbeafehpjjojnaaDoor
