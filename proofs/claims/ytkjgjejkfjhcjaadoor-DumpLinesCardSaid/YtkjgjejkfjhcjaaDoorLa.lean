/-
  Contracts of the package name and of its reference: digits, names.
-/
import Derived.Test.YtkjgjejkfjhcjaaDoorSh
import Derived.Test.YtkjgjejkfjhcjaaDoorVq
import Derived.Test.YtkjgjejkfjhcjaaDoorVn
import Derived.Test.YtkjgjejkfjhcjaaDoorGa
import Derived.Test.YtkjgjejkfjhcjaaDoorGs
import Derived.Test.YtkjgjejkfjhcjaaDoorGk
import Derived.Test.YtkjgjejkfjhcjaaDoorVl
namespace Go.Proofs.YtkjgjejkfjhcjaaDoor
open Go.RowKit Gw Pl
set_option linter.unusedVariables false
set_option linter.unusedSimpArgs false
theorem any3 : anyB Tryd.prog 3 = true := by kernel_rfl
theorem any30 : anyB Tryd.prog 30 = true := by kernel_rfl
theorem any5 : anyB Tryd.prog 5 = true := by kernel_rfl
theorem arr95 : arrB Tryd.prog 95 5 20 1 = true := by kernel_rfl
theorem cb16 : callB Tryd.prog 16 = true := by kernel_rfl
theorem cb22 : callB Tryd.prog 22 = true := by kernel_rfl
theorem cb46 : callB Tryd.prog 46 = true := by kernel_rfl
theorem cb47 : callB Tryd.prog 47 = true := by kernel_rfl
theorem cb48 : callB Tryd.prog 48 = true := by kernel_rfl
theorem cb49 : callB Tryd.prog 49 = true := by kernel_rfl
theorem cb56 : callB Tryd.prog 56 = true := by kernel_rfl
theorem cb65 : callB Tryd.prog 65 = true := by kernel_rfl
theorem int3 : intB Tryd.prog 3 .i64 = true := by kernel_rfl
theorem int30 : intB Tryd.prog 30 .u64 = true := by kernel_rfl
theorem int5 : intB Tryd.prog 5 .u8 = true := by kernel_rfl
theorem slc34 : slcB Tryd.prog 34 5 1 1 = true := by kernel_rfl
theorem str9 : strB Tryd.prog 9 = true := by kernel_rfl
theorem sz5 : szB Tryd.prog 5 1 = true := by kernel_rfl
theorem zer95 : (Tryd.prog.info? 95).bind (·.zero) = some (.agg #[.int .u8 0, .int .u8 0, .int .u8 0, .int .u8 0, .int .u8 0, .int .u8 0, .int .u8 0, .int .u8 0, .int .u8 0, .int .u8 0, .int .u8 0, .int .u8 0, .int .u8 0, .int .u8 0, .int .u8 0, .int .u8 0, .int .u8 0, .int .u8 0, .int .u8 0, .int .u8 0]) := by kernel_rfl
theorem name_Digits {w : World} {n : Int} (hn : -9223372036854775808 ≤ n ∧ n ≤ 9223372036854775807) :
    Runs Tryd.prog 22 #[.int .i64 n] w (fun v w' => w.grownBy w' none ∧ v = .string ⟨(digI n).toArray⟩) := by
  have hB := gb_refl w none
  have hD : (dig n.natAbs).length ≤ 19 := dig_len 19 _ (by omega) (by omega)
  refine enter Tryd.func22 Tryd.ntmps22 rfl rfl ?_
  refine C_seq (C_reg rfl ?_)
  refine L_run (R_assign rfl) rfl ?_
  refine L_nil (N_then (C_seq (C_reg rfl ?_)))
  refine L_run (R_move rfl) rfl ?_
  refine L_run (R_conv rfl any3 int30) rfl ?_
  refine L_run (R_assign rfl) rfl ?_
  refine L_nil (N_then (C_seq (C_seq (C_reg rfl ?_))))
  refine L_run (R_move rfl) rfl ?_
  refine L_run (R_lss rfl rfl) rfl ?_
  refine L_nil (N_then ?_)
  refine C_if rfl (fun h1 => ?_) (fun h1 => ?_)
  · refine C_reg rfl ?_
    refine L_run (R_move rfl) rfl ?_
    refine L_run (R_eqv (R_neg rfl) (v' := .int .u64 (n.natAbs : Int)) (congrArg _ (by rw [IntKind.wrap_u64, IntKind.wrap_u64]; omega))) rfl ?_
    refine L_run (R_assign rfl) rfl ?_
    refine L_nil (N_then (C_seq (C_reg rfl ?_)))
    refine L_alloc (cs := [.int .u8 0, .int .u8 0, .int .u8 0, .int .u8 0, .int .u8 0, .int .u8 0, .int .u8 0, .int .u8 0, .int .u8 0, .int .u8 0, .int .u8 0, .int .u8 0, .int .u8 0, .int .u8 0, .int .u8 0, .int .u8 0, .int .u8 0, .int .u8 0, .int .u8 0, .int .u8 0]) zer95 rfl rfl ?_
    intro g1 w1 eg1 hb1 hs1 hz1
    have ge1 : w.heap.size ≤ g1 := eg_ge hB eg1
    replace hB := gb_tr hB hs1
    replace hb1 : Blk w1 g1 95 (fl encB (List.replicate 20 (0 : UInt8))) := hb1
    refine L_nil (N_then (C_seq (C_reg rfl ?_)))
    refine L_run (R_assign rfl) rfl ?_
    refine L_nil (N_then (C_seq (C_block ?_)))
    refine C_loop (fun m_ a_ w_ => ∃ (σ_ : Nat → Value) (k : Nat) (u : Nat) (bs : List UInt8), a_ = Ac 33 σ_ [] [(0, .int .i64 n), (2, .string (⟨#[]⟩)), (3, .int .u64 (u : Int)), (4, .pointer (some ⟨g1, 0, none⟩)), (5, .int .i64 (k : Int))] ∧ w.grownBy w_ none ∧ Blk w_ g1 95 (fl encB bs) ∧ (bs.length = 20) ∧ (dig u ++ bs.drop k = dig n.natAbs) ∧ (1 ≤ k) ∧ (k ≤ 20) ∧ (u < 18446744073709551616) ∧ k = m_) (20) ?_ ?_
    · exact ⟨_, 20, n.natAbs, (List.replicate 20 (0 : UInt8)), Ac_frg ⟨rfl, rfl, (agr rfl (by first | rfl | (congr 1; omega) | (congr 1; simp; done) | (congr 1; simp only [IntKind.wrap_u64, IntKind.wrap_i64, IntKind.wrap_u8]; omega) | (congr 1 <;> omega))), rfl, (agr rfl (by first | rfl | (congr 1; omega) | (congr 1; simp; done) | (congr 1; simp only [IntKind.wrap_u64, IntKind.wrap_i64, IntKind.wrap_u8]; omega) | (congr 1 <;> omega))), trivial⟩, hB, hb1, rfl, (by rw [show List.drop 20 (List.replicate 20 (0 : UInt8)) = [] from rfl, List.append_nil]), (by omega), (by omega), (by omega), rfl⟩
    · clear hB
      clear hb1
      rintro m_ a_ w2 ⟨σ_, k, u, bs, rfl, hB, hbk, hbl, hd, h1k, h2k, hu, rfl⟩
      refine C_block (C_seq (C_reg rfl ?_))
      refine L_run (R_move rfl) rfl ?_
      refine L_run (R_eqv (R_sub64 rfl rfl (by omega)) (v' := .int .i64 ((k - 1 : Nat) : Int)) (congrArg _ (by omega))) rfl ?_
      refine L_run (R_assign rfl) rfl ?_
      refine L_nil (N_then (C_seq (C_reg rfl ?_)))
      refine L_run (R_move rfl) rfl ?_
      refine L_run (R_move rfl) rfl ?_
      refine L_run (R_eqv (R_rem rfl rfl (by first | decide | omega)) (v' := .int .u64 ((u % 10 : Nat) : Int)) (congrArg _ (by rw [Int.tmod_eq_emod_of_nonneg (by omega)]; omega))) rfl ?_
      refine L_run (R_eqv (R_add rfl rfl) (v' := .int .u64 ((48 + u % 10 : Nat) : Int)) (congrArg _ (by rw [IntKind.wrap_u64]; omega))) rfl ?_
      refine L_run (R_eqv (R_conv rfl any30 int5) (v' := .int .u8 ((UInt8.ofNat (48 + u % 10)).toNat : Int)) (u8_of _ (by omega))) rfl ?_
      refine L_run (R_indexArr (i := (k - 1)) (r := (k - 1)) rfl rfl (by first | rfl | omega) arr95 (by omega) (by omega)) rfl ?_
      refine L_st1v (v := .int .u8 ((UInt8.ofNat (48 + u % 10)).toNat : Int)) rfl rfl rfl sz5 hbk (by rw [fl_len EncB, Nat.mul_one]; first | omega | (rw [List.length_set]; omega)) ?_
      intro w3 hb2 hs2 hz2
      rw [fl_setB (by first | omega | (rw [List.length_set]; omega))] at hb2
      replace hB := gb_trg hB hs2 ge1
      refine L_nil (N_then (C_seq (C_reg rfl ?_)))
      refine L_run (R_move rfl) rfl ?_
      refine L_run (R_eqv (R_quo rfl rfl (by first | decide | omega)) (v' := .int .u64 ((u / 10 : Nat) : Int)) (congrArg _ (by rw [Int.tdiv_eq_ediv_of_nonneg (by omega), IntKind.wrap_u64]; omega))) rfl ?_
      refine L_run (R_assign rfl) rfl ?_
      refine L_nil (N_then (C_seq (C_reg rfl ?_)))
      refine L_run (R_move rfl) rfl ?_
      refine L_run (R_eql rfl rfl) rfl ?_
      refine L_nil (N_then ?_)
      refine C_if rfl (fun h2 => ?_) (fun h2 => ?_)
      · refine C_exit (X_miss rfl (X_then (X_hit (N_then (C_seq (C_seq (C_reg rfl ?_)))))))
        refine L_run (R_move rfl) rfl ?_
        refine L_run (R_lss rfl rfl) rfl ?_
        refine L_nil (N_then (C_condT rfl (decide_eq_true h1) (C_seq (C_reg rfl ?_))))
        refine L_run (R_move rfl) rfl ?_
        refine L_run (R_eqv (R_sub64 rfl rfl (by omega)) (v' := .int .i64 ((k - 1 - 1 : Nat) : Int)) (congrArg _ (by have := dig_cut hbl hd hD; omega))) rfl ?_
        refine L_run (R_assign rfl) rfl ?_
        refine L_nil (N_then (C_reg rfl ?_))
        refine L_run (R_move rfl) rfl ?_
        refine L_run (R_indexArr (i := (k - 1 - 1)) (r := (k - 1 - 1)) rfl rfl (by first | rfl | omega) arr95 (by omega) (by omega)) rfl ?_
        refine L_st1v (v := .int .u8 ((45 : UInt8).toNat : Int)) rfl rfl rfl sz5 hb2 (by rw [fl_len EncB, Nat.mul_one]; first | omega | (rw [List.length_set]; omega)) ?_
        intro w4 hb3 hs3 hz3
        rw [fl_setB (by first | omega | (rw [List.length_set]; omega))] at hb3
        replace hB := gb_trg hB hs3 ge1
        refine L_nil (N_then (C_seq (C_reg rfl ?_)))
        refine L_run (R_move rfl) rfl ?_
        refine T_slArr (bs := ((bs.set (k - 1) (UInt8.ofNat (48 + u % 10))).set (k - 1 - 1) 45)) (i := (k - 1 - 1)) rfl rfl (by first | rfl | omega) arr95 (by omega) hb3 (by first | omega | (simp; omega)) rfl ?_
        intro A_1 hS_1
        refine L_run (R_b2s' (bs := ((bs.set (k - 1) (UInt8.ofNat (48 + u % 10))).set (k - 1 - 1) 45).drop (k - 1 - 1)) rfl slc34 int5 str9 hS_1) rfl ?_
        refine L_run (R_assign rfl) rfl ?_
        refine L_nil (N_then (C_ret ?_))
        refine ret1 Tryd.results22 rfl ?_
        have hf := dig_fin hbl hd (by omega) h1k h2k
        have hc2 := dig_cut hbl hd hD
        have e_ : (((bs.set (k - 1) (UInt8.ofNat (48 + u % 10))).set (k - 1 - 1) 45).drop (k - 1 - 1)) = digI n := by unfold digI; rw [if_pos (by omega), set_drop _ (by rw [List.length_set]; omega), show k - 1 - 1 + 1 = k - 1 by omega, hf]
        rw [e_]; exact ⟨hB, rfl⟩
      · refine C_skip (N_in (N_then ?_))
        have hd2 := dig_next hbl hd (by omega) h1k h2k
        have hc2 := dig_cut (bs := (bs.set (k - 1) (UInt8.ofNat (48 + u % 10)))) (k := k - 1) (by rw [List.length_set]; exact hbl) hd2 hD
        exact ⟨(k - 1), by omega, _, (k - 1), (u / 10), (bs.set (k - 1) (UInt8.ofNat (48 + u % 10))), Ac_frg ⟨rfl, rfl, (agr rfl (by first | rfl | (congr 1; omega) | (congr 1; simp; done) | (congr 1; simp only [IntKind.wrap_u64, IntKind.wrap_i64, IntKind.wrap_u8]; omega) | (congr 1 <;> omega))), rfl, (agr rfl (by first | rfl | (congr 1; omega) | (congr 1; simp; done) | (congr 1; simp only [IntKind.wrap_u64, IntKind.wrap_i64, IntKind.wrap_u8]; omega) | (congr 1 <;> omega))), trivial⟩, hB, hb2, (by rw [List.length_set]; exact hbl), hd2, (by omega), (by omega), (by omega), rfl⟩
  · refine C_skip (N_then (C_seq (C_reg rfl ?_)))
    refine L_alloc (cs := [.int .u8 0, .int .u8 0, .int .u8 0, .int .u8 0, .int .u8 0, .int .u8 0, .int .u8 0, .int .u8 0, .int .u8 0, .int .u8 0, .int .u8 0, .int .u8 0, .int .u8 0, .int .u8 0, .int .u8 0, .int .u8 0, .int .u8 0, .int .u8 0, .int .u8 0, .int .u8 0]) zer95 rfl rfl ?_
    intro g2 w5 eg2 hb4 hs4 hz4
    have ge2 : w.heap.size ≤ g2 := eg_ge hB eg2
    replace hB := gb_tr hB hs4
    replace hb4 : Blk w5 g2 95 (fl encB (List.replicate 20 (0 : UInt8))) := hb4
    refine L_nil (N_then (C_seq (C_reg rfl ?_)))
    refine L_run (R_assign rfl) rfl ?_
    refine L_nil (N_then (C_seq (C_block ?_)))
    refine C_loop (fun m_ a_ w_ => ∃ (σ_ : Nat → Value) (k : Nat) (u : Nat) (bs : List UInt8), a_ = Ac 33 σ_ [] [(0, .int .i64 n), (2, .string (⟨#[]⟩)), (3, .int .u64 (u : Int)), (4, .pointer (some ⟨g2, 0, none⟩)), (5, .int .i64 (k : Int))] ∧ w.grownBy w_ none ∧ Blk w_ g2 95 (fl encB bs) ∧ (bs.length = 20) ∧ (dig u ++ bs.drop k = dig n.natAbs) ∧ (1 ≤ k) ∧ (k ≤ 20) ∧ (u < 18446744073709551616) ∧ k = m_) (20) ?_ ?_
    · exact ⟨_, 20, n.natAbs, (List.replicate 20 (0 : UInt8)), Ac_frg ⟨rfl, rfl, (agr rfl (by first | rfl | (congr 1; omega) | (congr 1; simp; done) | (congr 1; simp only [IntKind.wrap_u64, IntKind.wrap_i64, IntKind.wrap_u8]; omega) | (congr 1 <;> omega))), rfl, (agr rfl (by first | rfl | (congr 1; omega) | (congr 1; simp; done) | (congr 1; simp only [IntKind.wrap_u64, IntKind.wrap_i64, IntKind.wrap_u8]; omega) | (congr 1 <;> omega))), trivial⟩, hB, hb4, rfl, (by rw [show List.drop 20 (List.replicate 20 (0 : UInt8)) = [] from rfl, List.append_nil]), (by omega), (by omega), (by omega), rfl⟩
    · clear hB
      clear hb4
      rintro m_ a_ w6 ⟨σ_, k, u, bs, rfl, hB, hbk, hbl, hd, h1k, h2k, hu, rfl⟩
      refine C_block (C_seq (C_reg rfl ?_))
      refine L_run (R_move rfl) rfl ?_
      refine L_run (R_eqv (R_sub64 rfl rfl (by omega)) (v' := .int .i64 ((k - 1 : Nat) : Int)) (congrArg _ (by omega))) rfl ?_
      refine L_run (R_assign rfl) rfl ?_
      refine L_nil (N_then (C_seq (C_reg rfl ?_)))
      refine L_run (R_move rfl) rfl ?_
      refine L_run (R_move rfl) rfl ?_
      refine L_run (R_eqv (R_rem rfl rfl (by first | decide | omega)) (v' := .int .u64 ((u % 10 : Nat) : Int)) (congrArg _ (by rw [Int.tmod_eq_emod_of_nonneg (by omega)]; omega))) rfl ?_
      refine L_run (R_eqv (R_add rfl rfl) (v' := .int .u64 ((48 + u % 10 : Nat) : Int)) (congrArg _ (by rw [IntKind.wrap_u64]; omega))) rfl ?_
      refine L_run (R_eqv (R_conv rfl any30 int5) (v' := .int .u8 ((UInt8.ofNat (48 + u % 10)).toNat : Int)) (u8_of _ (by omega))) rfl ?_
      refine L_run (R_indexArr (i := (k - 1)) (r := (k - 1)) rfl rfl (by first | rfl | omega) arr95 (by omega) (by omega)) rfl ?_
      refine L_st1v (v := .int .u8 ((UInt8.ofNat (48 + u % 10)).toNat : Int)) rfl rfl rfl sz5 hbk (by rw [fl_len EncB, Nat.mul_one]; first | omega | (rw [List.length_set]; omega)) ?_
      intro w7 hb5 hs5 hz5
      rw [fl_setB (by first | omega | (rw [List.length_set]; omega))] at hb5
      replace hB := gb_trg hB hs5 ge2
      refine L_nil (N_then (C_seq (C_reg rfl ?_)))
      refine L_run (R_move rfl) rfl ?_
      refine L_run (R_eqv (R_quo rfl rfl (by first | decide | omega)) (v' := .int .u64 ((u / 10 : Nat) : Int)) (congrArg _ (by rw [Int.tdiv_eq_ediv_of_nonneg (by omega), IntKind.wrap_u64]; omega))) rfl ?_
      refine L_run (R_assign rfl) rfl ?_
      refine L_nil (N_then (C_seq (C_reg rfl ?_)))
      refine L_run (R_move rfl) rfl ?_
      refine L_run (R_eql rfl rfl) rfl ?_
      refine L_nil (N_then ?_)
      refine C_if rfl (fun h3 => ?_) (fun h3 => ?_)
      · refine C_exit (X_miss rfl (X_then (X_hit (N_then (C_seq (C_seq (C_reg rfl ?_)))))))
        refine L_run (R_move rfl) rfl ?_
        refine L_run (R_lss rfl rfl) rfl ?_
        refine L_nil (N_then (C_condF rfl (decide_eq_false h1) (C_skip (N_then (C_seq (C_reg rfl ?_))))))
        refine L_run (R_move rfl) rfl ?_
        refine T_slArr (bs := (bs.set (k - 1) (UInt8.ofNat (48 + u % 10)))) (i := (k - 1)) rfl rfl (by first | rfl | omega) arr95 (by omega) hb5 (by first | omega | (simp; omega)) rfl ?_
        intro A_2 hS_2
        refine L_run (R_b2s' (bs := (bs.set (k - 1) (UInt8.ofNat (48 + u % 10))).drop (k - 1)) rfl slc34 int5 str9 hS_2) rfl ?_
        refine L_run (R_assign rfl) rfl ?_
        refine L_nil (N_then (C_ret ?_))
        refine ret1 Tryd.results22 rfl ?_
        have hf := dig_fin hbl hd (by omega) h1k h2k
        have e_ : ((bs.set (k - 1) (UInt8.ofNat (48 + u % 10))).drop (k - 1)) = digI n := by unfold digI; rw [if_neg (by omega), hf]
        rw [e_]; exact ⟨hB, rfl⟩
      · refine C_skip (N_in (N_then ?_))
        have hd2 := dig_next hbl hd (by omega) h1k h2k
        have hc2 := dig_cut (bs := (bs.set (k - 1) (UInt8.ofNat (48 + u % 10)))) (k := k - 1) (by rw [List.length_set]; exact hbl) hd2 hD
        exact ⟨(k - 1), by omega, _, (k - 1), (u / 10), (bs.set (k - 1) (UInt8.ofNat (48 + u % 10))), Ac_frg ⟨rfl, rfl, (agr rfl (by first | rfl | (congr 1; omega) | (congr 1; simp; done) | (congr 1; simp only [IntKind.wrap_u64, IntKind.wrap_i64, IntKind.wrap_u8]; omega) | (congr 1 <;> omega))), rfl, (agr rfl (by first | rfl | (congr 1; omega) | (congr 1; simp; done) | (congr 1; simp only [IntKind.wrap_u64, IntKind.wrap_i64, IntKind.wrap_u8]; omega) | (congr 1 <;> omega))), trivial⟩, hB, hb5, (by rw [List.length_set]; exact hbl), hd2, (by omega), (by omega), (by omega), rfl⟩

theorem name_Wal {w : World} {n : Int} (hn : -9223372036854775808 ≤ n ∧ n ≤ 9223372036854775807) :
    Runs Tryd.prog 48 #[.int .i64 n] w (fun v w' => w.grownBy w' none ∧ v = .string ⟨(wname n).toArray⟩) := by
  have hB := gb_refl w none
  refine enter Tryd.func48 Tryd.ntmps48 rfl rfl ?_
  refine C_seq (C_reg rfl ?_)
  refine L_run (R_assign rfl) rfl ?_
  refine L_nil (N_then (C_seq (C_seq (C_reg rfl ?_))))
  refine L_run (R_move rfl) rfl ?_
  refine L_run (R_lss rfl rfl) rfl ?_
  refine L_run (R_move rfl) rfl ?_
  refine L_splitD (p := n < 1) (fun h1 => ?_) (fun h1 => ?_)
  · refine L_no rfl rfl rfl (decide_eq_true h1) rfl ?_
    refine L_no rfl rfl rfl (decide_eq_true h1) rfl ?_
    refine L_run (R_pickT rfl (decide_eq_true h1) rfl) rfl ?_
    refine L_nil (N_then (C_condT rfl rfl (C_seq (C_reg rfl ?_))))
    refine L_run (R_assign rfl) rfl ?_
    refine L_nil (N_then (C_ret (R_then ?_)))
    refine ret1 Tryd.results48 rfl ?_
    first
      | (exfalso; omega)
      | (have e_ : ([] : List UInt8) = wname n := by
           unfold wname
           first | (rw [if_pos (by omega)]; rfl) | rw [if_neg (by omega)]
         rw [← e_]; exact ⟨hB, rfl⟩)
  · refine L_yes rfl rfl rfl (decide_eq_false h1) ?_
    refine L_run (R_move rfl) rfl ?_
    refine L_yes rfl rfl rfl (decide_eq_false h1) ?_
    refine L_run (R_gtr rfl rfl) rfl ?_
    refine L_run (R_pickF rfl (decide_eq_false h1) rfl) rfl ?_
    refine L_nil (N_then ?_)
    refine C_if rfl (fun h2 => ?_) (fun h2 => ?_)
    · refine C_seq (C_reg rfl ?_)
      refine L_run (R_assign rfl) rfl ?_
      refine L_nil (N_then (C_ret (R_then ?_)))
      refine ret1 Tryd.results48 rfl ?_
      first
        | (exfalso; omega)
        | (have e_ : ([] : List UInt8) = wname n := by
             unfold wname
             first | (rw [if_pos (by omega)]; rfl) | rw [if_neg (by omega)]
           rw [← e_]; exact ⟨hB, rfl⟩)
    · refine C_skip (N_then (C_seq (C_reg rfl ?_)))
      refine L_run (R_move rfl) rfl ?_
      refine L_call rfl cb22 (name_Digits (n := n) (by omega)) rfl ?_
      rintro _ w1 ⟨hs1, rfl⟩
      replace hB := gb_tr hB hs1
      refine L_run (R_eqv (R_addS rfl rfl (by rw [ba_size, ba_size]; have h_ := digI_len hn; simp; omega)) (v' := .string ⟨(([119, 97, 108, 45] : List UInt8) ++ (digI n)).toArray⟩) (congrArg _ (ba_app _ _).symm)) rfl ?_
      refine L_run (R_assign rfl) rfl ?_
      refine L_nil (N_then (C_ret ?_))
      refine ret1 Tryd.results48 rfl ?_
      first
        | (exfalso; omega)
        | (have e_ : (([119, 97, 108, 45] : List UInt8) ++ (digI n)) = wname n := by
             unfold wname
             first | (rw [if_pos (by omega)]; rfl) | rw [if_neg (by omega)]
           rw [← e_]; exact ⟨hB, rfl⟩)

theorem name_Pool {w : World} {n : Int} (hn : -9223372036854775808 ≤ n ∧ n ≤ 9223372036854775807) :
    Runs Tryd.prog 49 #[.int .i64 n] w (fun v w' => w.grownBy w' none ∧ v = .string ⟨(pname n).toArray⟩) := by
  have hB := gb_refl w none
  refine enter Tryd.func49 Tryd.ntmps49 rfl rfl ?_
  refine C_seq (C_reg rfl ?_)
  refine L_run (R_assign rfl) rfl ?_
  refine L_nil (N_then (C_seq (C_seq (C_reg rfl ?_))))
  refine L_run (R_move rfl) rfl ?_
  refine L_run (R_lss rfl rfl) rfl ?_
  refine L_run (R_move rfl) rfl ?_
  refine L_splitD (p := n < 0) (fun h1 => ?_) (fun h1 => ?_)
  · refine L_no rfl rfl rfl (decide_eq_true h1) rfl ?_
    refine L_no rfl rfl rfl (decide_eq_true h1) rfl ?_
    refine L_run (R_pickT rfl (decide_eq_true h1) rfl) rfl ?_
    refine L_nil (N_then (C_condT rfl rfl (C_seq (C_reg rfl ?_))))
    refine L_run (R_assign rfl) rfl ?_
    refine L_nil (N_then (C_ret (R_then ?_)))
    refine ret1 Tryd.results49 rfl ?_
    first
      | (exfalso; omega)
      | (have e_ : ([] : List UInt8) = pname n := by
           unfold pname
           first | (rw [if_pos (by omega)]; rfl) | rw [if_neg (by omega)]
         rw [← e_]; exact ⟨hB, rfl⟩)
  · refine L_yes rfl rfl rfl (decide_eq_false h1) ?_
    refine L_run (R_move rfl) rfl ?_
    refine L_yes rfl rfl rfl (decide_eq_false h1) ?_
    refine L_run (R_gtr rfl rfl) rfl ?_
    refine L_run (R_pickF rfl (decide_eq_false h1) rfl) rfl ?_
    refine L_nil (N_then ?_)
    refine C_if rfl (fun h2 => ?_) (fun h2 => ?_)
    · refine C_seq (C_reg rfl ?_)
      refine L_run (R_assign rfl) rfl ?_
      refine L_nil (N_then (C_ret (R_then ?_)))
      refine ret1 Tryd.results49 rfl ?_
      first
        | (exfalso; omega)
        | (have e_ : ([] : List UInt8) = pname n := by
             unfold pname
             first | (rw [if_pos (by omega)]; rfl) | rw [if_neg (by omega)]
           rw [← e_]; exact ⟨hB, rfl⟩)
    · refine C_skip (N_then (C_seq (C_reg rfl ?_)))
      refine L_run (R_move rfl) rfl ?_
      refine L_call rfl cb22 (name_Digits (n := n) (by omega)) rfl ?_
      rintro _ w1 ⟨hs1, rfl⟩
      replace hB := gb_tr hB hs1
      refine L_run (R_eqv (R_addS rfl rfl (by rw [ba_size, ba_size]; have h_ := digI_len hn; simp; omega)) (v' := .string ⟨(([102, 114, 101, 101, 45] : List UInt8) ++ (digI n)).toArray⟩) (congrArg _ (ba_app _ _).symm)) rfl ?_
      refine L_run (R_assign rfl) rfl ?_
      refine L_nil (N_then (C_ret ?_))
      refine ret1 Tryd.results49 rfl ?_
      first
        | (exfalso; omega)
        | (have e_ : (([102, 114, 101, 101, 45] : List UInt8) ++ (digI n)) = pname n := by
             unfold pname
             first | (rw [if_pos (by omega)]; rfl) | rw [if_neg (by omega)]
           rw [← e_]; exact ⟨hB, rfl⟩)

theorem ref05_Digits_step {w : World} {n : Int} (hn : -9223372036854775808 ≤ n ∧ n ≤ 9223372036854775807) (ih : ∀ {n' : Int}, n'.natAbs < n.natAbs ∨ (n' = -n ∧ n < 0 ∧ -10 < n) → -9223372036854775808 ≤ n' ∧ n' ≤ 9223372036854775807 → ∀ (w : World), Runs Tryd.prog 16 #[.int .i64 n'] w (fun v w' => w.grownBy w' none ∧ v = .string ⟨(digI n').toArray⟩)) :
    Runs Tryd.prog 16 #[.int .i64 n] w (fun v w' => w.grownBy w' none ∧ v = .string ⟨(digI n).toArray⟩) := by
  have hB := gb_refl w none
  refine enter Tryd.func16 Tryd.ntmps16 rfl rfl ?_
  refine C_seq (C_reg rfl ?_)
  refine L_run (R_assign rfl) rfl ?_
  refine L_nil (N_then (C_seq (C_seq (C_reg rfl ?_))))
  refine L_run (R_move rfl) rfl ?_
  refine L_run (R_lss rfl rfl) rfl ?_
  refine L_nil (N_then ?_)
  refine C_if rfl (fun h1 => ?_) (fun h1 => ?_)
  · refine C_seq (C_reg rfl ?_)
    refine L_run (R_move rfl) rfl ?_
    refine L_run (R_rem rfl rfl (by first | decide | omega)) rfl ?_
    refine L_run (R_eqv (R_neg rfl) (v' := .int .i64 (((-n).toNat % 10 : Nat) : Int)) (neg_rem (by omega) hn)) rfl ?_
    refine L_run (R_assign rfl) rfl ?_
    refine L_nil (N_then (C_seq (C_seq (C_reg rfl ?_))))
    refine L_run (R_move rfl) rfl ?_
    refine L_run (R_gtr rfl rfl) rfl ?_
    refine L_nil (N_then ?_)
    refine C_if rfl (fun h2 => ?_) (fun h2 => ?_)
    · refine C_seq (C_reg rfl ?_)
      refine L_run (R_move rfl) rfl ?_
      refine L_call rfl cb16 (ih (n' := (((-n).toNat % 10 : Nat) : Int)) (by omega) (by omega) _) rfl ?_
      rintro _ w1 ⟨hs1, rfl⟩
      replace hB := gb_tr hB hs1
      refine L_run (R_eqv (R_addS rfl rfl (by rw [ba_size, ba_size]; first | (have h1_ := digI_len (n := -(((-n).toNat / 10 : Nat) : Int)) (by omega); have h2_ := digI_len (n := (((-n).toNat % 10 : Nat) : Int)) (by omega); have h3_ := digI_len (n := ((n.toNat / 10 : Nat) : Int)) (by omega); have h4_ := digI_len (n := ((n.toNat % 10 : Nat) : Int)) (by omega); first | omega | (simp only [List.length_cons, List.length_nil]; omega)))) (v' := .string ⟨(([45] : List UInt8) ++ (digI (((-n).toNat % 10 : Nat) : Int))).toArray⟩) (congrArg _ (ba_app _ _).symm)) rfl ?_
      refine L_run (R_assign rfl) rfl ?_
      refine L_nil (N_then (C_ret (R_then (R_then ?_))))
      refine ret1 Tryd.results16 rfl ?_
      first
        | (exfalso; omega)
        | (have e_ : (([45] : List UInt8) ++ (digI (((-n).toNat % 10 : Nat) : Int))) = digI n := by first | exact rdig_1 (by omega) (by omega) | exact rdig_2 (by omega) | exact rdig_4 (by omega) | (exact rdig_5 (by omega) (by omega))
           rw [e_]; exact ⟨hB, rfl⟩)
    · refine C_skip (N_then (C_seq (C_reg rfl ?_)))
      refine L_run (R_move rfl) rfl ?_
      refine L_run (R_eqv (R_quo rfl rfl (by first | decide | omega)) (v' := .int .i64 (-(((-n).toNat / 10 : Nat) : Int))) (neg_quo (by omega) hn)) rfl ?_
      refine L_call rfl cb16 (ih (n' := (-(((-n).toNat / 10 : Nat) : Int))) (by omega) (by omega) _) rfl ?_
      rintro _ w2 ⟨hs2, rfl⟩
      replace hB := gb_tr hB hs2
      refine L_run (R_move rfl) rfl ?_
      refine L_call rfl cb16 (ih (n' := (((-n).toNat % 10 : Nat) : Int)) (by omega) (by omega) _) rfl ?_
      rintro _ w3 ⟨hs3, rfl⟩
      replace hB := gb_tr hB hs3
      refine L_run (R_eqv (R_addS rfl rfl (by rw [ba_size, ba_size]; first | (have h1_ := digI_len (n := -(((-n).toNat / 10 : Nat) : Int)) (by omega); have h2_ := digI_len (n := (((-n).toNat % 10 : Nat) : Int)) (by omega); have h3_ := digI_len (n := ((n.toNat / 10 : Nat) : Int)) (by omega); have h4_ := digI_len (n := ((n.toNat % 10 : Nat) : Int)) (by omega); first | omega | (simp only [List.length_cons, List.length_nil]; omega)))) (v' := .string ⟨((digI (-(((-n).toNat / 10 : Nat) : Int))) ++ (digI (((-n).toNat % 10 : Nat) : Int))).toArray⟩) (congrArg _ (ba_app _ _).symm)) rfl ?_
      refine L_run (R_assign rfl) rfl ?_
      refine L_nil (N_then (C_ret (R_then ?_)))
      refine ret1 Tryd.results16 rfl ?_
      first
        | (exfalso; omega)
        | (have e_ : ((digI (-(((-n).toNat / 10 : Nat) : Int))) ++ (digI (((-n).toNat % 10 : Nat) : Int))) = digI n := by first | exact rdig_1 (by omega) (by omega) | exact rdig_2 (by omega) | exact rdig_4 (by omega) | (exact rdig_5 (by omega) (by omega))
           rw [e_]; exact ⟨hB, rfl⟩)
  · refine C_skip (N_then (C_seq (C_seq (C_reg rfl ?_))))
    refine L_run (R_move rfl) rfl ?_
    refine L_run (R_lss rfl rfl) rfl ?_
    refine L_nil (N_then ?_)
    refine C_if rfl (fun h3 => ?_) (fun h3 => ?_)
    · refine C_seq (C_reg rfl ?_)
      refine L_run (R_move rfl) rfl ?_
      refine L_run (R_move rfl) rfl ?_
      refine L_run (R_add64 rfl rfl (by omega)) rfl ?_
      refine L_run (R_slSLH (cs := [48, 49, 50, 51, 52, 53, 54, 55, 56, 57]) (i := n.toNat) (j := (n.toNat + 1)) rfl rfl rfl (by first | rfl | omega) (by first | rfl | omega) str9 (by first | omega | (simp; done) | (simp; omega)) (by simp; omega)) rfl ?_
      refine L_run (R_assign rfl) rfl ?_
      refine L_nil (N_then (C_ret (R_then ?_)))
      refine ret1 Tryd.results16 rfl ?_
      first
        | (exfalso; omega)
        | (have e_ : ((([48, 49, 50, 51, 52, 53, 54, 55, 56, 57] : List UInt8).drop n.toNat).take ((n.toNat + 1) - n.toNat)) = digI n := by first | exact rdig_1 (by omega) (by omega) | exact rdig_2 (by omega) | exact rdig_4 (by omega) | (exact rdig_5 (by omega) (by omega))
           rw [e_]; exact ⟨hB, rfl⟩)
    · refine C_skip (N_then (C_seq (C_reg rfl ?_)))
      refine L_run (R_move rfl) rfl ?_
      refine L_run (R_eqv (R_quo rfl rfl (by first | decide | omega)) (v' := .int .i64 ((n.toNat / 10 : Nat) : Int)) (pos_quo (by omega) hn)) rfl ?_
      refine L_call rfl cb16 (ih (n' := ((n.toNat / 10 : Nat) : Int)) (by omega) (by omega) _) rfl ?_
      rintro _ w4 ⟨hs4, rfl⟩
      replace hB := gb_tr hB hs4
      refine L_run (R_move rfl) rfl ?_
      refine L_run (R_eqv (R_rem rfl rfl (by first | decide | omega)) (v' := .int .i64 ((n.toNat % 10 : Nat) : Int)) (pos_rem (by omega))) rfl ?_
      refine L_call rfl cb16 (ih (n' := ((n.toNat % 10 : Nat) : Int)) (by omega) (by omega) _) rfl ?_
      rintro _ w5 ⟨hs5, rfl⟩
      replace hB := gb_tr hB hs5
      refine L_run (R_eqv (R_addS rfl rfl (by rw [ba_size, ba_size]; first | (have h1_ := digI_len (n := -(((-n).toNat / 10 : Nat) : Int)) (by omega); have h2_ := digI_len (n := (((-n).toNat % 10 : Nat) : Int)) (by omega); have h3_ := digI_len (n := ((n.toNat / 10 : Nat) : Int)) (by omega); have h4_ := digI_len (n := ((n.toNat % 10 : Nat) : Int)) (by omega); first | omega | (simp only [List.length_cons, List.length_nil]; omega)))) (v' := .string ⟨((digI ((n.toNat / 10 : Nat) : Int)) ++ (digI ((n.toNat % 10 : Nat) : Int))).toArray⟩) (congrArg _ (ba_app _ _).symm)) rfl ?_
      refine L_run (R_assign rfl) rfl ?_
      refine L_nil (N_then (C_ret ?_))
      refine ret1 Tryd.results16 rfl ?_
      first
        | (exfalso; omega)
        | (have e_ : ((digI ((n.toNat / 10 : Nat) : Int)) ++ (digI ((n.toNat % 10 : Nat) : Int))) = digI n := by first | exact rdig_1 (by omega) (by omega) | exact rdig_2 (by omega) | exact rdig_4 (by omega) | (exact rdig_5 (by omega) (by omega))
           rw [e_]; exact ⟨hB, rfl⟩)
theorem ref05_Digits {n : Int} (hn : -9223372036854775808 ≤ n ∧ n ≤ 9223372036854775807) : ∀ (w : World), Runs Tryd.prog 16 #[.int .i64 n] w (fun v w' => w.grownBy w' none ∧ v = .string ⟨(digI n).toArray⟩) := by
  have key : ∀ (m : Nat) {n : Int}, 2 * n.natAbs + (if n < 0 then 1 else 0) ≤ m → -9223372036854775808 ≤ n ∧ n ≤ 9223372036854775807 → ∀ (w : World), Runs Tryd.prog 16 #[.int .i64 n] w (fun v w' => w.grownBy w' none ∧ v = .string ⟨(digI n).toArray⟩) := by
    intro m
    induction m with
    | zero =>
      intro n h hn w
      exact ref05_Digits_step hn (fun {n'} h1 h2 => by split at h <;> omega)
    | succ m ih =>
      intro n h hn w
      exact ref05_Digits_step hn (fun {n'} h1 h2 => ih (by split at h <;> split <;> omega) h2)
  exact key _ (Nat.le_refl _) hn

theorem hasPrefix {w : World} {cs ps : List UInt8} :
    Runs Tryd.prog 56 #[.string (⟨cs.toArray⟩), .string (⟨ps.toArray⟩)] w (fun v w' => w.grownBy w' none ∧ v = .bool (decide (cs.take ps.length = ps))) := by
  have hB := gb_refl w none
  refine enter Tryd.func56 Tryd.ntmps56 rfl rfl ?_
  refine C_seq (C_reg rfl ?_)
  refine L_run (R_assign rfl) rfl ?_
  refine L_nil (N_then (C_seq (C_reg rfl ?_)))
  refine L_run (R_move rfl) rfl ?_
  refine L_run (R_eqv (R_lenS rfl str9) (v' := .int .i64 (cs.length : Int)) (by rw [ba_size])) rfl ?_
  refine L_run (R_move rfl) rfl ?_
  refine L_run (R_eqv (R_lenS rfl str9) (v' := .int .i64 (ps.length : Int)) (by rw [ba_size])) rfl ?_
  refine L_run (R_geq rfl rfl) rfl ?_
  refine L_run (R_move rfl) rfl ?_
  refine L_splitD (p := (ps.length : Int) ≤ (cs.length : Int)) (fun h1 => ?_) (fun h1 => ?_)
  · refine L_yes rfl rfl rfl (decide_eq_true h1) ?_
    refine L_run (R_move rfl) rfl ?_
    refine L_yes rfl rfl rfl (decide_eq_true h1) ?_
    refine L_run (R_move rfl) rfl ?_
    refine L_yes rfl rfl rfl (decide_eq_true h1) ?_
    refine L_run (R_eqv (R_lenS rfl str9) (v' := .int .i64 (ps.length : Int)) (by rw [ba_size])) rfl ?_
    refine L_yes rfl rfl rfl (decide_eq_true h1) ?_
    refine L_run (R_slSH (cs := cs) (i := ps.length) rfl rfl (by first | rfl | omega) str9 (by first | omega | (simp; done) | (simp; omega))) rfl ?_
    refine L_yes rfl rfl rfl (decide_eq_true h1) ?_
    refine L_run (R_move rfl) rfl ?_
    refine L_yes rfl rfl rfl (decide_eq_true h1) ?_
    refine L_run (R_eqv (R_eqlS rfl rfl) (v' := .bool (decide ((cs.take ps.length) = ps))) (bD ba_inj)) rfl ?_
    refine L_run (R_pickT rfl (decide_eq_true h1) rfl) rfl ?_
    refine L_run (R_assign rfl) rfl ?_
    refine L_nil (N_then (C_ret ?_))
    refine ret1 Tryd.results56 rfl ?_
    exact ⟨hB, bD (by rw [pre_iff (by omega)])⟩
  · refine L_no rfl rfl rfl (decide_eq_false h1) rfl ?_
    refine L_no rfl rfl rfl (decide_eq_false h1) rfl ?_
    refine L_no rfl rfl rfl (decide_eq_false h1) rfl ?_
    refine L_no rfl rfl rfl (decide_eq_false h1) rfl ?_
    refine L_no rfl rfl rfl (decide_eq_false h1) rfl ?_
    refine L_no rfl rfl rfl (decide_eq_false h1) rfl ?_
    refine L_run (R_pickF rfl (decide_eq_false h1) rfl) rfl ?_
    refine L_run (R_assign rfl) rfl ?_
    refine L_nil (N_then (C_ret ?_))
    refine ret1 Tryd.results56 rfl ?_
    exact ⟨hB, bF (fun h => by have := congrArg List.length h; rw [List.length_take] at this; omega)⟩
theorem cutPrefix0 {w : World} {cs ps : List UInt8} :
    Runs Tryd.prog 65 #[.string (⟨cs.toArray⟩), .string (⟨ps.toArray⟩)] w (fun v w' => w.grownBy w' none ∧ v = if cs.take ps.length = ps then .tuple #[.string ⟨(cs.drop ps.length).toArray⟩, .bool true] else .tuple #[.string ⟨cs.toArray⟩, .bool false]) := by
  have hB := gb_refl w none
  refine enter Tryd.func65 Tryd.ntmps65 rfl rfl ?_
  refine C_seq (C_reg rfl ?_)
  refine L_run (R_assign rfl) rfl ?_
  refine L_run (R_assign rfl) rfl ?_
  refine L_nil (N_then (C_seq (C_seq (C_reg rfl ?_))))
  refine L_run (R_move rfl) rfl ?_
  refine L_run (R_move rfl) rfl ?_
  refine L_call rfl cb56 (hasPrefix (cs := cs) (ps := ps)) rfl ?_
  rintro _ w1 ⟨hs1, rfl⟩
  replace hB := gb_tr hB hs1
  refine L_run (R_notD rfl) rfl ?_
  refine L_nil (N_then ?_)
  refine C_ifN rfl (fun h1 => ?_) (fun h1 => ?_)
  · refine C_seq (C_reg rfl ?_)
    refine L_run (R_move rfl) rfl ?_
    refine L_run (R_assign rfl) rfl ?_
    refine L_run (R_assign rfl) rfl ?_
    refine L_nil (N_then (C_ret (R_then ?_)))
    refine ret2 Tryd.results65 rfl rfl ?_
    exact ⟨hB, by rw [if_neg (by assumption)]⟩
  · refine C_skip (N_then (C_seq (C_reg rfl ?_)))
    refine L_run (R_move rfl) rfl ?_
    refine L_run (R_move rfl) rfl ?_
    refine L_run (R_eqv (R_lenS rfl str9) (v' := .int .i64 (ps.length : Int)) (by rw [ba_size])) rfl ?_
    refine L_run (R_slSL (cs := cs) (i := ps.length) rfl rfl (by first | rfl | omega) str9 (pre_le (by assumption))) rfl ?_
    refine L_run (R_assign rfl) rfl ?_
    refine L_run (R_assign rfl) rfl ?_
    refine L_nil (N_then (C_ret ?_))
    refine ret2 Tryd.results65 rfl rfl ?_
    exact ⟨hB, by rw [if_pos (by assumption)]⟩
theorem cutPrefix0_y {w : World} {cs ps : List UInt8} (h : cs.take ps.length = ps) : Runs Tryd.prog 65 #[.string ⟨cs.toArray⟩, .string ⟨ps.toArray⟩] w (fun v w' => w.grownBy w' none ∧ v = .tuple #[.string ⟨(cs.drop ps.length).toArray⟩, .bool true]) :=
  cutPrefix0.mono fun v w' hh => by rw [if_pos h] at hh; exact hh
theorem cutPrefix0_n {w : World} {cs ps : List UInt8} (h : ¬ cs.take ps.length = ps) : Runs Tryd.prog 65 #[.string ⟨cs.toArray⟩, .string ⟨ps.toArray⟩] w (fun v w' => w.grownBy w' none ∧ v = .tuple #[.string ⟨cs.toArray⟩, .bool false]) :=
  cutPrefix0.mono fun v w' hh => by rw [if_neg h] at hh; exact hh
theorem cutPrefix_y {w : World} {cs ps : List UInt8} (h : cs.take ps.length = ps) :
    Runs Tryd.prog 46 #[.string (⟨cs.toArray⟩), .string (⟨ps.toArray⟩)] w (fun v w' => w.grownBy w' none ∧ v = .tuple #[.string ⟨(cs.drop ps.length).toArray⟩, .bool true]) := by
  have hB := gb_refl w none
  refine enter Tryd.func46 Tryd.ntmps46 rfl rfl ?_
  refine C_seq (C_reg rfl ?_)
  refine L_run (R_assign rfl) rfl ?_
  refine L_run (R_assign rfl) rfl ?_
  refine L_nil (N_then (C_seq (C_reg rfl ?_)))
  refine L_run (R_move rfl) rfl ?_
  refine L_run (R_move rfl) rfl ?_
  refine L_call rfl cb65 (cutPrefix0_y (cs := cs) (ps := ps) h) rfl ?_
  rintro _ w1 ⟨hs1, rfl⟩
  replace hB := gb_tr hB hs1
  refine L_run (R_extract rfl rfl) rfl ?_
  refine L_run (R_extract rfl rfl) rfl ?_
  refine L_run (R_assign rfl) rfl ?_
  refine L_run (R_assign rfl) rfl ?_
  refine L_nil (N_then (C_ret ?_))
  refine ret2 Tryd.results46 rfl rfl ?_
  exact ⟨hB, rfl⟩
theorem cutPrefix_n {w : World} {cs ps : List UInt8} (h : ¬ cs.take ps.length = ps) :
    Runs Tryd.prog 46 #[.string (⟨cs.toArray⟩), .string (⟨ps.toArray⟩)] w (fun v w' => w.grownBy w' none ∧ v = .tuple #[.string ⟨cs.toArray⟩, .bool false]) := by
  have hB := gb_refl w none
  refine enter Tryd.func46 Tryd.ntmps46 rfl rfl ?_
  refine C_seq (C_reg rfl ?_)
  refine L_run (R_assign rfl) rfl ?_
  refine L_run (R_assign rfl) rfl ?_
  refine L_nil (N_then (C_seq (C_reg rfl ?_)))
  refine L_run (R_move rfl) rfl ?_
  refine L_run (R_move rfl) rfl ?_
  refine L_call rfl cb65 (cutPrefix0_n (cs := cs) (ps := ps) h) rfl ?_
  rintro _ w1 ⟨hs1, rfl⟩
  replace hB := gb_tr hB hs1
  refine L_run (R_extract rfl rfl) rfl ?_
  refine L_run (R_extract rfl rfl) rfl ?_
  refine L_run (R_assign rfl) rfl ?_
  refine L_run (R_assign rfl) rfl ?_
  refine L_nil (N_then (C_ret ?_))
  refine ret2 Tryd.results46 rfl rfl ?_
  exact ⟨hB, rfl⟩

theorem name_number {w : World} {cs : List UInt8} (hl : cs.length ≤ 9000000000000000000) :
    Runs Tryd.prog 47 #[.string (⟨cs.toArray⟩)] w (fun v w' => w.grownBy w' none ∧ v = .int .i64 (nnum cs)) := by
  have hB := gb_refl w none
  refine enter Tryd.func47 Tryd.ntmps47 rfl rfl ?_
  refine C_seq (C_reg rfl ?_)
  refine L_run (R_assign rfl) rfl ?_
  refine L_nil (N_then (C_seq (C_reg rfl ?_)))
  refine L_run (R_assign rfl) rfl ?_
  refine L_nil (N_then (C_seq (C_seq (C_reg rfl ?_))))
  refine L_run (R_move rfl) rfl ?_
  refine L_run (R_eqv (R_lenS rfl str9) (v' := .int .i64 (cs.length : Int)) (by rw [ba_size])) rfl ?_
  refine L_run (R_move rfl) rfl ?_
  refine L_nil (N_then (C_block ?_))
  refine C_loop (fun m_ a_ w_ => ∃ (σ_ : Nat → Value) (k : Nat), a_ = Ac 40 σ_ [] [(0, .string (⟨cs.toArray⟩)), (2, .int .i64 0), (3, .int .i64 (dval (cs.take k) : Int)), (6, .string (⟨cs.toArray⟩)), (7, .int .i64 (cs.length : Int)), (8, .int .i64 (k : Int))] ∧ w.grownBy w_ none ∧ (k ≤ cs.length) ∧ (k ≤ 10) ∧ (∀ c ∈ cs.take k, isd c) ∧ cs.length - k = m_) (cs.length - 0) ?_ ?_
  · exact ⟨_, 0, Ac_frg ⟨rfl, rfl, (agr rfl (by first | rfl | (congr 1; omega) | (congr 1; simp; done) | (congr 1; simp only [IntKind.wrap_u64, IntKind.wrap_i64, IntKind.wrap_u8]; omega) | (congr 1 <;> omega))), rfl, rfl, (agr rfl (by first | rfl | (congr 1; omega) | (congr 1; simp; done) | (congr 1; simp only [IntKind.wrap_u64, IntKind.wrap_i64, IntKind.wrap_u8]; omega) | (congr 1 <;> omega))), trivial⟩, hB, (by omega), (by omega), (by intro c hc; simp at hc), rfl⟩
  · clear hB
    rintro m_ a_ w1 ⟨σ_, k, rfl, hB, hk, h10, hall, rfl⟩
    refine C_seq (C_reg rfl ?_)
    refine L_run (R_lss rfl rfl) rfl ?_
    refine L_nil (N_then (C_seq ?_))
    refine C_if rfl (fun h1 => ?_) (fun h1 => ?_)
    · refine C_skip (N_then (C_seq (C_block (C_seq (C_reg rfl ?_)))))
      refine L_run (R_move rfl) rfl ?_
      refine L_run (R_assign rfl) rfl ?_
      refine L_nil (N_then (C_seq (C_reg rfl ?_)))
      refine L_run (R_move rfl) rfl ?_
      refine L_run (R_move rfl) rfl ?_
      have hk1 : k < cs.length := by first | omega | (simp; omega)
      refine L_run (R_indexS (cs := cs) (a := (k : Int)) (i := k) rfl rfl (by first | rfl | omega) str9 hk1) rfl ?_
      refine L_run (R_eqv (R_conv rfl any5 int3) (v' := .int .i64 (cs[k].toNat : Int)) (congrArg _ (i64_fit (by have := cs[k].toNat_lt; omega)))) rfl ?_
      refine L_run (R_sub64 rfl rfl (by first | omega | (have h2_ := cs[k].toNat_lt; first | omega | (have h_ := dval_lt 10 _ hall (by rw [List.length_take]; omega); omega)))) rfl ?_
      refine L_run (R_assign rfl) rfl ?_
      refine L_nil (N_then (C_seq (C_seq (C_reg rfl ?_))))
      refine L_run (R_move rfl) rfl ?_
      refine L_run (R_lss rfl rfl) rfl ?_
      refine L_run (R_move rfl) rfl ?_
      refine L_splitD (p := ((cs[k].toNat : Int) - 48) < 0) (fun h2 => ?_) (fun h2 => ?_)
      · refine L_no rfl rfl rfl (decide_eq_true h2) rfl ?_
        refine L_no rfl rfl rfl (decide_eq_true h2) rfl ?_
        refine L_run (R_pickT rfl (decide_eq_true h2) rfl) rfl ?_
        refine L_run (R_move rfl) rfl ?_
        refine L_no rfl rfl rfl rfl rfl ?_
        refine L_no rfl rfl rfl rfl rfl ?_
        refine L_run (R_pickT rfl rfl rfl) rfl ?_
        refine L_nil (N_then (C_condT rfl rfl (C_seq (C_reg rfl ?_))))
        refine L_run (R_assign rfl) rfl ?_
        refine L_nil (N_then (C_ret (R_then (R_in (R_then (R_then (R_in (R_then ?_))))))))
        refine ret1 Tryd.results47 rfl ?_
        first
          | (exfalso; omega)
          | (have e_ : nnum cs = -1 := by
               first
                 | exact nnum_bad1 hk1 (by omega)
                 | exact nnum_bad2 hk1 (by omega)
                 | (rw [List.take_of_length_le (by omega)] at *; first | exact nnum_nil (by assumption) | exact nnum_ne (by assumption) | exact nnum_yes (by assumption) hall (by omega) (by assumption))
             rw [e_]; exact ⟨hB, rfl⟩)
      · refine L_yes rfl rfl rfl (decide_eq_false h2) ?_
        refine L_run (R_move rfl) rfl ?_
        refine L_yes rfl rfl rfl (decide_eq_false h2) ?_
        refine L_run (R_gtr rfl rfl) rfl ?_
        refine L_run (R_pickF rfl (decide_eq_false h2) rfl) rfl ?_
        refine L_run (R_move rfl) rfl ?_
        refine L_splitD (p := 9 < ((cs[k].toNat : Int) - 48)) (fun h3 => ?_) (fun h3 => ?_)
        · refine L_no rfl rfl rfl (decide_eq_true h3) rfl ?_
          refine L_no rfl rfl rfl (decide_eq_true h3) rfl ?_
          refine L_run (R_pickT rfl (decide_eq_true h3) rfl) rfl ?_
          refine L_nil (N_then (C_condT rfl rfl (C_seq (C_reg rfl ?_))))
          refine L_run (R_assign rfl) rfl ?_
          refine L_nil (N_then (C_ret (R_then (R_in (R_then (R_then (R_in (R_then ?_))))))))
          refine ret1 Tryd.results47 rfl ?_
          first
            | (exfalso; omega)
            | (have e_ : nnum cs = -1 := by
                 first
                   | exact nnum_bad1 hk1 (by omega)
                   | exact nnum_bad2 hk1 (by omega)
                   | (rw [List.take_of_length_le (by omega)] at *; first | exact nnum_nil (by assumption) | exact nnum_ne (by assumption) | exact nnum_yes (by assumption) hall (by omega) (by assumption))
               rw [e_]; exact ⟨hB, rfl⟩)
        · refine L_yes rfl rfl rfl (decide_eq_false h3) ?_
          refine L_run (R_move rfl) rfl ?_
          refine L_yes rfl rfl rfl (decide_eq_false h3) ?_
          refine L_run (R_gtr rfl rfl) rfl ?_
          refine L_run (R_pickF rfl (decide_eq_false h3) rfl) rfl ?_
          refine L_nil (N_then ?_)
          refine C_if rfl (fun h4 => ?_) (fun h4 => ?_)
          · refine C_seq (C_reg rfl ?_)
            refine L_run (R_assign rfl) rfl ?_
            refine L_nil (N_then (C_ret (R_then (R_in (R_then (R_then (R_in (R_then ?_))))))))
            refine ret1 Tryd.results47 rfl ?_
            first
              | (exfalso; omega)
              | (have e_ : nnum cs = -1 := by
                   first
                     | exact nnum_bad1 hk1 (by omega)
                     | exact nnum_bad2 hk1 (by omega)
                     | (rw [List.take_of_length_le (by omega)] at *; first | exact nnum_nil (by assumption) | exact nnum_ne (by assumption) | exact nnum_yes (by assumption) hall (by omega) (by assumption))
                 rw [e_]; exact ⟨hB, rfl⟩)
          · refine C_skip (N_then (C_reg rfl ?_))
            refine L_run (R_move rfl) rfl ?_
            refine L_run (R_mul64 rfl rfl (by first | omega | (have h2_ := cs[k].toNat_lt; first | omega | (have h_ := dval_lt 10 _ hall (by rw [List.length_take]; omega); omega)))) rfl ?_
            refine L_run (R_move rfl) rfl ?_
            refine L_run (R_eqv (R_add64 rfl rfl (by first | omega | (have h2_ := cs[k].toNat_lt; first | omega | (have h_ := dval_lt 10 _ hall (by rw [List.length_take]; omega); omega)))) (v' := .int .i64 (dval (cs.take (k + 1)) : Int)) (congrArg _ (dval_step hk1 (by omega)))) rfl ?_
            refine L_run (R_assign rfl) rfl ?_
            refine L_nil (N_in (N_then (C_reg rfl ?_)))
            refine L_run (R_add64 rfl rfl (by first | omega | (have h2_ := cs[k].toNat_lt; first | omega | (have h_ := dval_lt 10 _ hall (by rw [List.length_take]; omega); omega)))) rfl ?_
            refine L_run (R_move rfl) rfl ?_
            refine L_nil (N_then ?_)
            exact ⟨cs.length - (k + 1), by omega, _, (k + 1), Ac_frg ⟨rfl, rfl, rfl, rfl, rfl, (agr rfl (by first | rfl | (congr 1; omega) | (congr 1; simp; done) | (congr 1; simp only [IntKind.wrap_u64, IntKind.wrap_i64, IntKind.wrap_u8]; omega) | (congr 1 <;> omega))), trivial⟩, hB, (by omega), (by omega), (isd_take hall hk1 (by omega) (by omega)), rfl⟩
    · refine C_exit (X_then (X_then (X_hit (N_then (C_seq (C_seq (C_reg rfl ?_)))))))
      refine L_run (R_move rfl) rfl ?_
      refine L_run (R_eqv (R_eqlS rfl rfl) (v' := .bool (decide (cs = []))) (bD ba_inj)) rfl ?_
      refine L_run (R_move rfl) rfl ?_
      refine L_splitD (p := cs = []) (fun h5 => ?_) (fun h5 => ?_)
      · refine L_no rfl rfl rfl (decide_eq_true h5) rfl ?_
        refine L_no rfl rfl rfl (decide_eq_true h5) rfl ?_
        refine L_no rfl rfl rfl (decide_eq_true h5) rfl ?_
        refine L_no rfl rfl rfl (decide_eq_true h5) rfl ?_
        refine L_run (R_pickT rfl (decide_eq_true h5) rfl) rfl ?_
        refine L_nil (N_then (C_condT rfl rfl (C_seq (C_reg rfl ?_))))
        refine L_run (R_assign rfl) rfl ?_
        refine L_nil (N_then (C_ret (R_then ?_)))
        refine ret1 Tryd.results47 rfl ?_
        first
          | (exfalso; omega)
          | (have e_ : nnum cs = -1 := by
               first
                 | exact nnum_bad1 hk1 (by omega)
                 | exact nnum_bad2 hk1 (by omega)
                 | (rw [List.take_of_length_le (by omega)] at *; first | exact nnum_nil (by assumption) | exact nnum_ne (by assumption) | exact nnum_yes (by assumption) hall (by omega) (by assumption))
             rw [e_]; exact ⟨hB, rfl⟩)
      · refine L_yes rfl rfl rfl (decide_eq_false h5) ?_
        refine L_run (R_move rfl) rfl ?_
        refine L_yes rfl rfl rfl (decide_eq_false h5) ?_
        refine L_call rfl cb22 (name_Digits (n := (dval (cs.take k) : Int)) (by have h_ := dval_lt 10 _ hall (by rw [List.length_take]; omega); omega)) rfl ?_
        rintro _ w2 ⟨hs1, rfl⟩
        replace hB := gb_tr hB hs1
        refine L_yes rfl rfl rfl (decide_eq_false h5) ?_
        refine L_run (R_move rfl) rfl ?_
        refine L_yes rfl rfl rfl (decide_eq_false h5) ?_
        refine L_run (R_eqv (R_neqS rfl rfl) (v' := .bool (decide (¬ ((digI (dval (cs.take k) : Int)) = cs)))) (bD (not_congr ba_inj))) rfl ?_
        refine L_run (R_pickF rfl (decide_eq_false h5) rfl) rfl ?_
        refine L_nil (N_then ?_)
        refine C_ifN rfl (fun h6 => ?_) (fun h6 => ?_)
        · refine C_seq (C_reg rfl ?_)
          refine L_run (R_assign rfl) rfl ?_
          refine L_nil (N_then (C_ret (R_then ?_)))
          refine ret1 Tryd.results47 rfl ?_
          first
            | (exfalso; omega)
            | (have e_ : nnum cs = -1 := by
                 first
                   | exact nnum_bad1 hk1 (by omega)
                   | exact nnum_bad2 hk1 (by omega)
                   | (rw [List.take_of_length_le (by omega)] at *; first | exact nnum_nil (by assumption) | exact nnum_ne (by assumption) | exact nnum_yes (by assumption) hall (by omega) (by assumption))
               rw [e_]; exact ⟨hB, rfl⟩)
        · refine C_skip (N_then (C_seq (C_reg rfl ?_)))
          refine L_run (R_move rfl) rfl ?_
          refine L_run (R_assign rfl) rfl ?_
          refine L_nil (N_then (C_ret ?_))
          refine ret1 Tryd.results47 rfl ?_
          first
            | (exfalso; omega)
            | (have e_ : nnum cs = (dval (cs.take k) : Int) := by
                 first
                   | exact nnum_bad1 hk1 (by omega)
                   | exact nnum_bad2 hk1 (by omega)
                   | (rw [List.take_of_length_le (by omega)] at *; first | exact nnum_nil (by assumption) | exact nnum_ne (by assumption) | exact nnum_yes (by assumption) hall (by omega) (by assumption))
               rw [e_]; exact ⟨hB, rfl⟩)

theorem name_Parse_yy {w : World} {cs : List UInt8} (hl : cs.length ≤ 9000000000000000000) (hw : cs.take ([119, 97, 108, 45] : List UInt8).length = ([119, 97, 108, 45] : List UInt8)) (hf : cs.take ([102, 114, 101, 101, 45] : List UInt8).length = ([102, 114, 101, 101, 45] : List UInt8)) :
    Runs Tryd.prog 23 #[.string (⟨cs.toArray⟩)] w (fun v w' => w.grownBy w' none ∧ v = .tuple #[.int .i64 (nparse cs).1, .int .i64 (nparse cs).2]) := by
  have hB := gb_refl w none
  refine enter Tryd.func23 Tryd.ntmps23 rfl rfl ?_
  refine C_seq (C_reg rfl ?_)
  refine L_run (R_assign rfl) rfl ?_
  refine L_run (R_assign rfl) rfl ?_
  refine L_nil (N_then (C_seq (C_seq (C_reg rfl ?_))))
  refine L_run (R_move rfl) rfl ?_
  refine L_call rfl cb46 (cutPrefix_y (cs := cs) (ps := ([119, 97, 108, 45] : List UInt8)) hw) rfl ?_
  rintro _ w1 ⟨hs1, rfl⟩
  replace hB := gb_tr hB hs1
  refine L_run (R_move rfl) rfl ?_
  refine L_run (R_extract rfl rfl) rfl ?_
  refine L_run (R_extract rfl rfl) rfl ?_
  refine L_run (R_assign rfl) rfl ?_
  refine L_run (R_assign rfl) rfl ?_
  refine L_nil (N_then (C_seq (C_reg rfl ?_)))
  refine L_run (R_move rfl) rfl ?_
  refine L_nil (N_then (C_condT rfl rfl (C_seq (C_reg rfl ?_))))
  refine L_run (R_move rfl) rfl ?_
  refine L_call rfl cb47 (name_number (cs := (cs.drop ([119, 97, 108, 45] : List UInt8).length)) (by first | omega | (simp; omega))) rfl ?_
  rintro _ w2 ⟨hs2, rfl⟩
  replace hB := gb_tr hB hs2
  refine L_run (R_assign rfl) rfl ?_
  refine L_nil (N_then (C_seq (C_reg rfl ?_)))
  refine L_run (R_move rfl) rfl ?_
  refine L_run (R_gtr rfl rfl) rfl ?_
  refine L_run (R_move rfl) rfl ?_
  refine L_splitD (p := 0 < (nnum (cs.drop ([119, 97, 108, 45] : List UInt8).length))) (fun h1 => ?_) (fun h1 => ?_)
  · refine L_yes rfl rfl rfl (decide_eq_true h1) ?_
    refine L_run (R_move rfl) rfl ?_
    refine L_yes rfl rfl rfl (decide_eq_true h1) ?_
    refine L_call rfl cb48 (name_Wal (n := (nnum (cs.drop ([119, 97, 108, 45] : List UInt8).length))) (by have h_ := nnum_bound (cs.drop ([119, 97, 108, 45] : List UInt8).length); have h2_ := nnum_bound (cs.drop ([102, 114, 101, 101, 45] : List UInt8).length); omega)) rfl ?_
    rintro _ w3 ⟨hs3, rfl⟩
    replace hB := gb_tr hB hs3
    refine L_yes rfl rfl rfl (decide_eq_true h1) ?_
    refine L_run (R_move rfl) rfl ?_
    refine L_yes rfl rfl rfl (decide_eq_true h1) ?_
    refine L_run (R_eqv (R_eqlS rfl rfl) (v' := .bool (decide ((wname (nnum (cs.drop ([119, 97, 108, 45] : List UInt8).length))) = cs))) (bD ba_inj)) rfl ?_
    refine L_run (R_pickT rfl (decide_eq_true h1) rfl) rfl ?_
    refine L_nil (N_then ?_)
    refine C_if rfl (fun h2 => ?_) (fun h2 => ?_)
    · refine C_seq (C_reg rfl ?_)
      refine L_run (R_move rfl) rfl ?_
      refine L_run (R_assign rfl) rfl ?_
      refine L_run (R_assign rfl) rfl ?_
      refine L_nil (N_then (C_ret (R_then ?_)))
      refine ret2 Tryd.results23 rfl rfl ?_
      first
        | (exfalso; omega)
        | (have e_ : nparse cs = (1, (nnum (cs.drop ([119, 97, 108, 45] : List UInt8).length))) := by
             first
               | exact npar_w hw (by assumption) (by assumption)
               | exact npar_p hf (by assumption) (by assumption)
               | exact npar_0 (fun h => by first | contradiction | omega | (obtain ⟨h1, h2, h3⟩ := h; contradiction)) (fun h => by first | contradiction | omega | (obtain ⟨h1, h2, h3⟩ := h; contradiction))
           rw [e_]; exact ⟨hB, rfl⟩)
    · refine C_skip (N_then (C_seq (C_seq (C_reg rfl ?_))))
      refine L_run (R_move rfl) rfl ?_
      refine L_call rfl cb46 (cutPrefix_y (cs := cs) (ps := ([102, 114, 101, 101, 45] : List UInt8)) hf) rfl ?_
      rintro _ w4 ⟨hs4, rfl⟩
      replace hB := gb_tr hB hs4
      refine L_run (R_move rfl) rfl ?_
      refine L_run (R_extract rfl rfl) rfl ?_
      refine L_run (R_extract rfl rfl) rfl ?_
      refine L_run (R_assign rfl) rfl ?_
      refine L_run (R_assign rfl) rfl ?_
      refine L_nil (N_then (C_seq (C_reg rfl ?_)))
      refine L_run (R_move rfl) rfl ?_
      refine L_nil (N_then (C_condT rfl rfl (C_seq (C_reg rfl ?_))))
      refine L_run (R_move rfl) rfl ?_
      refine L_call rfl cb47 (name_number (cs := (cs.drop ([102, 114, 101, 101, 45] : List UInt8).length)) (by first | omega | (simp; omega))) rfl ?_
      rintro _ w5 ⟨hs5, rfl⟩
      replace hB := gb_tr hB hs5
      refine L_run (R_assign rfl) rfl ?_
      refine L_nil (N_then (C_seq (C_reg rfl ?_)))
      refine L_run (R_move rfl) rfl ?_
      refine L_run (R_geq rfl rfl) rfl ?_
      refine L_run (R_move rfl) rfl ?_
      refine L_splitD (p := 0 ≤ (nnum (cs.drop ([102, 114, 101, 101, 45] : List UInt8).length))) (fun h3 => ?_) (fun h3 => ?_)
      · refine L_yes rfl rfl rfl (decide_eq_true h3) ?_
        refine L_run (R_move rfl) rfl ?_
        refine L_yes rfl rfl rfl (decide_eq_true h3) ?_
        refine L_call rfl cb49 (name_Pool (n := (nnum (cs.drop ([102, 114, 101, 101, 45] : List UInt8).length))) (by have h_ := nnum_bound (cs.drop ([119, 97, 108, 45] : List UInt8).length); have h2_ := nnum_bound (cs.drop ([102, 114, 101, 101, 45] : List UInt8).length); omega)) rfl ?_
        rintro _ w6 ⟨hs6, rfl⟩
        replace hB := gb_tr hB hs6
        refine L_yes rfl rfl rfl (decide_eq_true h3) ?_
        refine L_run (R_move rfl) rfl ?_
        refine L_yes rfl rfl rfl (decide_eq_true h3) ?_
        refine L_run (R_eqv (R_eqlS rfl rfl) (v' := .bool (decide ((pname (nnum (cs.drop ([102, 114, 101, 101, 45] : List UInt8).length))) = cs))) (bD ba_inj)) rfl ?_
        refine L_run (R_pickT rfl (decide_eq_true h3) rfl) rfl ?_
        refine L_nil (N_then ?_)
        refine C_if rfl (fun h4 => ?_) (fun h4 => ?_)
        · refine C_seq (C_reg rfl ?_)
          refine L_run (R_move rfl) rfl ?_
          refine L_run (R_assign rfl) rfl ?_
          refine L_run (R_assign rfl) rfl ?_
          refine L_nil (N_then (C_ret (R_then ?_)))
          refine ret2 Tryd.results23 rfl rfl ?_
          first
            | (exfalso; omega)
            | (have e_ : nparse cs = (2, (nnum (cs.drop ([102, 114, 101, 101, 45] : List UInt8).length))) := by
                 first
                   | exact npar_w hw (by assumption) (by assumption)
                   | exact npar_p hf (by assumption) (by assumption)
                   | exact npar_0 (fun h => by first | contradiction | omega | (obtain ⟨h1, h2, h3⟩ := h; contradiction)) (fun h => by first | contradiction | omega | (obtain ⟨h1, h2, h3⟩ := h; contradiction))
               rw [e_]; exact ⟨hB, rfl⟩)
        · refine C_skip (N_then (C_seq (C_reg rfl ?_)))
          refine L_run (R_assign rfl) rfl ?_
          refine L_run (R_assign rfl) rfl ?_
          refine L_nil (N_then (C_ret ?_))
          refine ret2 Tryd.results23 rfl rfl ?_
          first
            | (exfalso; omega)
            | (have e_ : nparse cs = (0, 0) := by
                 first
                   | exact npar_w hw (by assumption) (by assumption)
                   | exact npar_p hf (by assumption) (by assumption)
                   | exact npar_0 (fun h => by first | contradiction | omega | (obtain ⟨h1, h2, h3⟩ := h; contradiction)) (fun h => by first | contradiction | omega | (obtain ⟨h1, h2, h3⟩ := h; contradiction))
               rw [e_]; exact ⟨hB, rfl⟩)
      · refine L_no rfl rfl rfl (decide_eq_false h3) rfl ?_
        refine L_no rfl rfl rfl (decide_eq_false h3) rfl ?_
        refine L_no rfl rfl rfl (decide_eq_false h3) rfl ?_
        refine L_no rfl rfl rfl (decide_eq_false h3) rfl ?_
        refine L_run (R_pickF rfl (decide_eq_false h3) rfl) rfl ?_
        refine L_nil (N_then (C_condF rfl rfl (C_skip (N_then (C_seq (C_reg rfl ?_))))))
        refine L_run (R_assign rfl) rfl ?_
        refine L_run (R_assign rfl) rfl ?_
        refine L_nil (N_then (C_ret ?_))
        refine ret2 Tryd.results23 rfl rfl ?_
        first
          | (exfalso; omega)
          | (have e_ : nparse cs = (0, 0) := by
               first
                 | exact npar_w hw (by assumption) (by assumption)
                 | exact npar_p hf (by assumption) (by assumption)
                 | exact npar_0 (fun h => by first | contradiction | omega | (obtain ⟨h1, h2, h3⟩ := h; contradiction)) (fun h => by first | contradiction | omega | (obtain ⟨h1, h2, h3⟩ := h; contradiction))
             rw [e_]; exact ⟨hB, rfl⟩)
  · refine L_no rfl rfl rfl (decide_eq_false h1) rfl ?_
    refine L_no rfl rfl rfl (decide_eq_false h1) rfl ?_
    refine L_no rfl rfl rfl (decide_eq_false h1) rfl ?_
    refine L_no rfl rfl rfl (decide_eq_false h1) rfl ?_
    refine L_run (R_pickF rfl (decide_eq_false h1) rfl) rfl ?_
    refine L_nil (N_then (C_condF rfl rfl (C_skip (N_then (C_seq (C_seq (C_reg rfl ?_)))))))
    refine L_run (R_move rfl) rfl ?_
    refine L_call rfl cb46 (cutPrefix_y (cs := cs) (ps := ([102, 114, 101, 101, 45] : List UInt8)) hf) rfl ?_
    rintro _ w7 ⟨hs7, rfl⟩
    replace hB := gb_tr hB hs7
    refine L_run (R_move rfl) rfl ?_
    refine L_run (R_extract rfl rfl) rfl ?_
    refine L_run (R_extract rfl rfl) rfl ?_
    refine L_run (R_assign rfl) rfl ?_
    refine L_run (R_assign rfl) rfl ?_
    refine L_nil (N_then (C_seq (C_reg rfl ?_)))
    refine L_run (R_move rfl) rfl ?_
    refine L_nil (N_then (C_condT rfl rfl (C_seq (C_reg rfl ?_))))
    refine L_run (R_move rfl) rfl ?_
    refine L_call rfl cb47 (name_number (cs := (cs.drop ([102, 114, 101, 101, 45] : List UInt8).length)) (by first | omega | (simp; omega))) rfl ?_
    rintro _ w8 ⟨hs8, rfl⟩
    replace hB := gb_tr hB hs8
    refine L_run (R_assign rfl) rfl ?_
    refine L_nil (N_then (C_seq (C_reg rfl ?_)))
    refine L_run (R_move rfl) rfl ?_
    refine L_run (R_geq rfl rfl) rfl ?_
    refine L_run (R_move rfl) rfl ?_
    refine L_splitD (p := 0 ≤ (nnum (cs.drop ([102, 114, 101, 101, 45] : List UInt8).length))) (fun h5 => ?_) (fun h5 => ?_)
    · refine L_yes rfl rfl rfl (decide_eq_true h5) ?_
      refine L_run (R_move rfl) rfl ?_
      refine L_yes rfl rfl rfl (decide_eq_true h5) ?_
      refine L_call rfl cb49 (name_Pool (n := (nnum (cs.drop ([102, 114, 101, 101, 45] : List UInt8).length))) (by have h_ := nnum_bound (cs.drop ([119, 97, 108, 45] : List UInt8).length); have h2_ := nnum_bound (cs.drop ([102, 114, 101, 101, 45] : List UInt8).length); omega)) rfl ?_
      rintro _ w9 ⟨hs9, rfl⟩
      replace hB := gb_tr hB hs9
      refine L_yes rfl rfl rfl (decide_eq_true h5) ?_
      refine L_run (R_move rfl) rfl ?_
      refine L_yes rfl rfl rfl (decide_eq_true h5) ?_
      refine L_run (R_eqv (R_eqlS rfl rfl) (v' := .bool (decide ((pname (nnum (cs.drop ([102, 114, 101, 101, 45] : List UInt8).length))) = cs))) (bD ba_inj)) rfl ?_
      refine L_run (R_pickT rfl (decide_eq_true h5) rfl) rfl ?_
      refine L_nil (N_then ?_)
      refine C_if rfl (fun h6 => ?_) (fun h6 => ?_)
      · refine C_seq (C_reg rfl ?_)
        refine L_run (R_move rfl) rfl ?_
        refine L_run (R_assign rfl) rfl ?_
        refine L_run (R_assign rfl) rfl ?_
        refine L_nil (N_then (C_ret (R_then ?_)))
        refine ret2 Tryd.results23 rfl rfl ?_
        first
          | (exfalso; omega)
          | (have e_ : nparse cs = (2, (nnum (cs.drop ([102, 114, 101, 101, 45] : List UInt8).length))) := by
               first
                 | exact npar_w hw (by assumption) (by assumption)
                 | exact npar_p hf (by assumption) (by assumption)
                 | exact npar_0 (fun h => by first | contradiction | omega | (obtain ⟨h1, h2, h3⟩ := h; contradiction)) (fun h => by first | contradiction | omega | (obtain ⟨h1, h2, h3⟩ := h; contradiction))
             rw [e_]; exact ⟨hB, rfl⟩)
      · refine C_skip (N_then (C_seq (C_reg rfl ?_)))
        refine L_run (R_assign rfl) rfl ?_
        refine L_run (R_assign rfl) rfl ?_
        refine L_nil (N_then (C_ret ?_))
        refine ret2 Tryd.results23 rfl rfl ?_
        first
          | (exfalso; omega)
          | (have e_ : nparse cs = (0, 0) := by
               first
                 | exact npar_w hw (by assumption) (by assumption)
                 | exact npar_p hf (by assumption) (by assumption)
                 | exact npar_0 (fun h => by first | contradiction | omega | (obtain ⟨h1, h2, h3⟩ := h; contradiction)) (fun h => by first | contradiction | omega | (obtain ⟨h1, h2, h3⟩ := h; contradiction))
             rw [e_]; exact ⟨hB, rfl⟩)
    · refine L_no rfl rfl rfl (decide_eq_false h5) rfl ?_
      refine L_no rfl rfl rfl (decide_eq_false h5) rfl ?_
      refine L_no rfl rfl rfl (decide_eq_false h5) rfl ?_
      refine L_no rfl rfl rfl (decide_eq_false h5) rfl ?_
      refine L_run (R_pickF rfl (decide_eq_false h5) rfl) rfl ?_
      refine L_nil (N_then (C_condF rfl rfl (C_skip (N_then (C_seq (C_reg rfl ?_))))))
      refine L_run (R_assign rfl) rfl ?_
      refine L_run (R_assign rfl) rfl ?_
      refine L_nil (N_then (C_ret ?_))
      refine ret2 Tryd.results23 rfl rfl ?_
      first
        | (exfalso; omega)
        | (have e_ : nparse cs = (0, 0) := by
             first
               | exact npar_w hw (by assumption) (by assumption)
               | exact npar_p hf (by assumption) (by assumption)
               | exact npar_0 (fun h => by first | contradiction | omega | (obtain ⟨h1, h2, h3⟩ := h; contradiction)) (fun h => by first | contradiction | omega | (obtain ⟨h1, h2, h3⟩ := h; contradiction))
           rw [e_]; exact ⟨hB, rfl⟩)
theorem name_Parse_yn {w : World} {cs : List UInt8} (hl : cs.length ≤ 9000000000000000000) (hw : cs.take ([119, 97, 108, 45] : List UInt8).length = ([119, 97, 108, 45] : List UInt8)) (hf : ¬ cs.take ([102, 114, 101, 101, 45] : List UInt8).length = ([102, 114, 101, 101, 45] : List UInt8)) :
    Runs Tryd.prog 23 #[.string (⟨cs.toArray⟩)] w (fun v w' => w.grownBy w' none ∧ v = .tuple #[.int .i64 (nparse cs).1, .int .i64 (nparse cs).2]) := by
  have hB := gb_refl w none
  refine enter Tryd.func23 Tryd.ntmps23 rfl rfl ?_
  refine C_seq (C_reg rfl ?_)
  refine L_run (R_assign rfl) rfl ?_
  refine L_run (R_assign rfl) rfl ?_
  refine L_nil (N_then (C_seq (C_seq (C_reg rfl ?_))))
  refine L_run (R_move rfl) rfl ?_
  refine L_call rfl cb46 (cutPrefix_y (cs := cs) (ps := ([119, 97, 108, 45] : List UInt8)) hw) rfl ?_
  rintro _ w1 ⟨hs1, rfl⟩
  replace hB := gb_tr hB hs1
  refine L_run (R_move rfl) rfl ?_
  refine L_run (R_extract rfl rfl) rfl ?_
  refine L_run (R_extract rfl rfl) rfl ?_
  refine L_run (R_assign rfl) rfl ?_
  refine L_run (R_assign rfl) rfl ?_
  refine L_nil (N_then (C_seq (C_reg rfl ?_)))
  refine L_run (R_move rfl) rfl ?_
  refine L_nil (N_then (C_condT rfl rfl (C_seq (C_reg rfl ?_))))
  refine L_run (R_move rfl) rfl ?_
  refine L_call rfl cb47 (name_number (cs := (cs.drop ([119, 97, 108, 45] : List UInt8).length)) (by first | omega | (simp; omega))) rfl ?_
  rintro _ w2 ⟨hs2, rfl⟩
  replace hB := gb_tr hB hs2
  refine L_run (R_assign rfl) rfl ?_
  refine L_nil (N_then (C_seq (C_reg rfl ?_)))
  refine L_run (R_move rfl) rfl ?_
  refine L_run (R_gtr rfl rfl) rfl ?_
  refine L_run (R_move rfl) rfl ?_
  refine L_splitD (p := 0 < (nnum (cs.drop ([119, 97, 108, 45] : List UInt8).length))) (fun h1 => ?_) (fun h1 => ?_)
  · refine L_yes rfl rfl rfl (decide_eq_true h1) ?_
    refine L_run (R_move rfl) rfl ?_
    refine L_yes rfl rfl rfl (decide_eq_true h1) ?_
    refine L_call rfl cb48 (name_Wal (n := (nnum (cs.drop ([119, 97, 108, 45] : List UInt8).length))) (by have h_ := nnum_bound (cs.drop ([119, 97, 108, 45] : List UInt8).length); have h2_ := nnum_bound (cs.drop ([102, 114, 101, 101, 45] : List UInt8).length); omega)) rfl ?_
    rintro _ w3 ⟨hs3, rfl⟩
    replace hB := gb_tr hB hs3
    refine L_yes rfl rfl rfl (decide_eq_true h1) ?_
    refine L_run (R_move rfl) rfl ?_
    refine L_yes rfl rfl rfl (decide_eq_true h1) ?_
    refine L_run (R_eqv (R_eqlS rfl rfl) (v' := .bool (decide ((wname (nnum (cs.drop ([119, 97, 108, 45] : List UInt8).length))) = cs))) (bD ba_inj)) rfl ?_
    refine L_run (R_pickT rfl (decide_eq_true h1) rfl) rfl ?_
    refine L_nil (N_then ?_)
    refine C_if rfl (fun h2 => ?_) (fun h2 => ?_)
    · refine C_seq (C_reg rfl ?_)
      refine L_run (R_move rfl) rfl ?_
      refine L_run (R_assign rfl) rfl ?_
      refine L_run (R_assign rfl) rfl ?_
      refine L_nil (N_then (C_ret (R_then ?_)))
      refine ret2 Tryd.results23 rfl rfl ?_
      first
        | (exfalso; omega)
        | (have e_ : nparse cs = (1, (nnum (cs.drop ([119, 97, 108, 45] : List UInt8).length))) := by
             first
               | exact npar_w hw (by assumption) (by assumption)
               | exact npar_p hf (by assumption) (by assumption)
               | exact npar_0 (fun h => by first | contradiction | omega | (obtain ⟨h1, h2, h3⟩ := h; contradiction)) (fun h => by first | contradiction | omega | (obtain ⟨h1, h2, h3⟩ := h; contradiction))
           rw [e_]; exact ⟨hB, rfl⟩)
    · refine C_skip (N_then (C_seq (C_seq (C_reg rfl ?_))))
      refine L_run (R_move rfl) rfl ?_
      refine L_call rfl cb46 (cutPrefix_n (cs := cs) (ps := ([102, 114, 101, 101, 45] : List UInt8)) hf) rfl ?_
      rintro _ w4 ⟨hs4, rfl⟩
      replace hB := gb_tr hB hs4
      refine L_run (R_move rfl) rfl ?_
      refine L_run (R_extract rfl rfl) rfl ?_
      refine L_run (R_extract rfl rfl) rfl ?_
      refine L_run (R_assign rfl) rfl ?_
      refine L_run (R_assign rfl) rfl ?_
      refine L_nil (N_then (C_seq (C_reg rfl ?_)))
      refine L_run (R_move rfl) rfl ?_
      refine L_nil (N_then (C_condF rfl rfl (C_skip (N_then (C_seq (C_reg rfl ?_))))))
      refine L_run (R_assign rfl) rfl ?_
      refine L_run (R_assign rfl) rfl ?_
      refine L_nil (N_then (C_ret ?_))
      refine ret2 Tryd.results23 rfl rfl ?_
      first
        | (exfalso; omega)
        | (have e_ : nparse cs = (0, 0) := by
             first
               | exact npar_w hw (by assumption) (by assumption)
               | exact npar_p hf (by assumption) (by assumption)
               | exact npar_0 (fun h => by first | contradiction | omega | (obtain ⟨h1, h2, h3⟩ := h; contradiction)) (fun h => by first | contradiction | omega | (obtain ⟨h1, h2, h3⟩ := h; contradiction))
           rw [e_]; exact ⟨hB, rfl⟩)
  · refine L_no rfl rfl rfl (decide_eq_false h1) rfl ?_
    refine L_no rfl rfl rfl (decide_eq_false h1) rfl ?_
    refine L_no rfl rfl rfl (decide_eq_false h1) rfl ?_
    refine L_no rfl rfl rfl (decide_eq_false h1) rfl ?_
    refine L_run (R_pickF rfl (decide_eq_false h1) rfl) rfl ?_
    refine L_nil (N_then (C_condF rfl rfl (C_skip (N_then (C_seq (C_seq (C_reg rfl ?_)))))))
    refine L_run (R_move rfl) rfl ?_
    refine L_call rfl cb46 (cutPrefix_n (cs := cs) (ps := ([102, 114, 101, 101, 45] : List UInt8)) hf) rfl ?_
    rintro _ w5 ⟨hs5, rfl⟩
    replace hB := gb_tr hB hs5
    refine L_run (R_move rfl) rfl ?_
    refine L_run (R_extract rfl rfl) rfl ?_
    refine L_run (R_extract rfl rfl) rfl ?_
    refine L_run (R_assign rfl) rfl ?_
    refine L_run (R_assign rfl) rfl ?_
    refine L_nil (N_then (C_seq (C_reg rfl ?_)))
    refine L_run (R_move rfl) rfl ?_
    refine L_nil (N_then (C_condF rfl rfl (C_skip (N_then (C_seq (C_reg rfl ?_))))))
    refine L_run (R_assign rfl) rfl ?_
    refine L_run (R_assign rfl) rfl ?_
    refine L_nil (N_then (C_ret ?_))
    refine ret2 Tryd.results23 rfl rfl ?_
    first
      | (exfalso; omega)
      | (have e_ : nparse cs = (0, 0) := by
           first
             | exact npar_w hw (by assumption) (by assumption)
             | exact npar_p hf (by assumption) (by assumption)
             | exact npar_0 (fun h => by first | contradiction | omega | (obtain ⟨h1, h2, h3⟩ := h; contradiction)) (fun h => by first | contradiction | omega | (obtain ⟨h1, h2, h3⟩ := h; contradiction))
         rw [e_]; exact ⟨hB, rfl⟩)
theorem name_Parse_ny {w : World} {cs : List UInt8} (hl : cs.length ≤ 9000000000000000000) (hw : ¬ cs.take ([119, 97, 108, 45] : List UInt8).length = ([119, 97, 108, 45] : List UInt8)) (hf : cs.take ([102, 114, 101, 101, 45] : List UInt8).length = ([102, 114, 101, 101, 45] : List UInt8)) :
    Runs Tryd.prog 23 #[.string (⟨cs.toArray⟩)] w (fun v w' => w.grownBy w' none ∧ v = .tuple #[.int .i64 (nparse cs).1, .int .i64 (nparse cs).2]) := by
  have hB := gb_refl w none
  refine enter Tryd.func23 Tryd.ntmps23 rfl rfl ?_
  refine C_seq (C_reg rfl ?_)
  refine L_run (R_assign rfl) rfl ?_
  refine L_run (R_assign rfl) rfl ?_
  refine L_nil (N_then (C_seq (C_seq (C_reg rfl ?_))))
  refine L_run (R_move rfl) rfl ?_
  refine L_call rfl cb46 (cutPrefix_n (cs := cs) (ps := ([119, 97, 108, 45] : List UInt8)) hw) rfl ?_
  rintro _ w1 ⟨hs1, rfl⟩
  replace hB := gb_tr hB hs1
  refine L_run (R_move rfl) rfl ?_
  refine L_run (R_extract rfl rfl) rfl ?_
  refine L_run (R_extract rfl rfl) rfl ?_
  refine L_run (R_assign rfl) rfl ?_
  refine L_run (R_assign rfl) rfl ?_
  refine L_nil (N_then (C_seq (C_reg rfl ?_)))
  refine L_run (R_move rfl) rfl ?_
  refine L_nil (N_then (C_condF rfl rfl (C_skip (N_then (C_seq (C_seq (C_reg rfl ?_)))))))
  refine L_run (R_move rfl) rfl ?_
  refine L_call rfl cb46 (cutPrefix_y (cs := cs) (ps := ([102, 114, 101, 101, 45] : List UInt8)) hf) rfl ?_
  rintro _ w2 ⟨hs2, rfl⟩
  replace hB := gb_tr hB hs2
  refine L_run (R_move rfl) rfl ?_
  refine L_run (R_extract rfl rfl) rfl ?_
  refine L_run (R_extract rfl rfl) rfl ?_
  refine L_run (R_assign rfl) rfl ?_
  refine L_run (R_assign rfl) rfl ?_
  refine L_nil (N_then (C_seq (C_reg rfl ?_)))
  refine L_run (R_move rfl) rfl ?_
  refine L_nil (N_then (C_condT rfl rfl (C_seq (C_reg rfl ?_))))
  refine L_run (R_move rfl) rfl ?_
  refine L_call rfl cb47 (name_number (cs := (cs.drop ([102, 114, 101, 101, 45] : List UInt8).length)) (by first | omega | (simp; omega))) rfl ?_
  rintro _ w3 ⟨hs3, rfl⟩
  replace hB := gb_tr hB hs3
  refine L_run (R_assign rfl) rfl ?_
  refine L_nil (N_then (C_seq (C_reg rfl ?_)))
  refine L_run (R_move rfl) rfl ?_
  refine L_run (R_geq rfl rfl) rfl ?_
  refine L_run (R_move rfl) rfl ?_
  refine L_splitD (p := 0 ≤ (nnum (cs.drop ([102, 114, 101, 101, 45] : List UInt8).length))) (fun h1 => ?_) (fun h1 => ?_)
  · refine L_yes rfl rfl rfl (decide_eq_true h1) ?_
    refine L_run (R_move rfl) rfl ?_
    refine L_yes rfl rfl rfl (decide_eq_true h1) ?_
    refine L_call rfl cb49 (name_Pool (n := (nnum (cs.drop ([102, 114, 101, 101, 45] : List UInt8).length))) (by have h_ := nnum_bound (cs.drop ([119, 97, 108, 45] : List UInt8).length); have h2_ := nnum_bound (cs.drop ([102, 114, 101, 101, 45] : List UInt8).length); omega)) rfl ?_
    rintro _ w4 ⟨hs4, rfl⟩
    replace hB := gb_tr hB hs4
    refine L_yes rfl rfl rfl (decide_eq_true h1) ?_
    refine L_run (R_move rfl) rfl ?_
    refine L_yes rfl rfl rfl (decide_eq_true h1) ?_
    refine L_run (R_eqv (R_eqlS rfl rfl) (v' := .bool (decide ((pname (nnum (cs.drop ([102, 114, 101, 101, 45] : List UInt8).length))) = cs))) (bD ba_inj)) rfl ?_
    refine L_run (R_pickT rfl (decide_eq_true h1) rfl) rfl ?_
    refine L_nil (N_then ?_)
    refine C_if rfl (fun h2 => ?_) (fun h2 => ?_)
    · refine C_seq (C_reg rfl ?_)
      refine L_run (R_move rfl) rfl ?_
      refine L_run (R_assign rfl) rfl ?_
      refine L_run (R_assign rfl) rfl ?_
      refine L_nil (N_then (C_ret (R_then ?_)))
      refine ret2 Tryd.results23 rfl rfl ?_
      first
        | (exfalso; omega)
        | (have e_ : nparse cs = (2, (nnum (cs.drop ([102, 114, 101, 101, 45] : List UInt8).length))) := by
             first
               | exact npar_w hw (by assumption) (by assumption)
               | exact npar_p hf (by assumption) (by assumption)
               | exact npar_0 (fun h => by first | contradiction | omega | (obtain ⟨h1, h2, h3⟩ := h; contradiction)) (fun h => by first | contradiction | omega | (obtain ⟨h1, h2, h3⟩ := h; contradiction))
           rw [e_]; exact ⟨hB, rfl⟩)
    · refine C_skip (N_then (C_seq (C_reg rfl ?_)))
      refine L_run (R_assign rfl) rfl ?_
      refine L_run (R_assign rfl) rfl ?_
      refine L_nil (N_then (C_ret ?_))
      refine ret2 Tryd.results23 rfl rfl ?_
      first
        | (exfalso; omega)
        | (have e_ : nparse cs = (0, 0) := by
             first
               | exact npar_w hw (by assumption) (by assumption)
               | exact npar_p hf (by assumption) (by assumption)
               | exact npar_0 (fun h => by first | contradiction | omega | (obtain ⟨h1, h2, h3⟩ := h; contradiction)) (fun h => by first | contradiction | omega | (obtain ⟨h1, h2, h3⟩ := h; contradiction))
           rw [e_]; exact ⟨hB, rfl⟩)
  · refine L_no rfl rfl rfl (decide_eq_false h1) rfl ?_
    refine L_no rfl rfl rfl (decide_eq_false h1) rfl ?_
    refine L_no rfl rfl rfl (decide_eq_false h1) rfl ?_
    refine L_no rfl rfl rfl (decide_eq_false h1) rfl ?_
    refine L_run (R_pickF rfl (decide_eq_false h1) rfl) rfl ?_
    refine L_nil (N_then (C_condF rfl rfl (C_skip (N_then (C_seq (C_reg rfl ?_))))))
    refine L_run (R_assign rfl) rfl ?_
    refine L_run (R_assign rfl) rfl ?_
    refine L_nil (N_then (C_ret ?_))
    refine ret2 Tryd.results23 rfl rfl ?_
    first
      | (exfalso; omega)
      | (have e_ : nparse cs = (0, 0) := by
           first
             | exact npar_w hw (by assumption) (by assumption)
             | exact npar_p hf (by assumption) (by assumption)
             | exact npar_0 (fun h => by first | contradiction | omega | (obtain ⟨h1, h2, h3⟩ := h; contradiction)) (fun h => by first | contradiction | omega | (obtain ⟨h1, h2, h3⟩ := h; contradiction))
         rw [e_]; exact ⟨hB, rfl⟩)
theorem name_Parse_nn {w : World} {cs : List UInt8} (hl : cs.length ≤ 9000000000000000000) (hw : ¬ cs.take ([119, 97, 108, 45] : List UInt8).length = ([119, 97, 108, 45] : List UInt8)) (hf : ¬ cs.take ([102, 114, 101, 101, 45] : List UInt8).length = ([102, 114, 101, 101, 45] : List UInt8)) :
    Runs Tryd.prog 23 #[.string (⟨cs.toArray⟩)] w (fun v w' => w.grownBy w' none ∧ v = .tuple #[.int .i64 (nparse cs).1, .int .i64 (nparse cs).2]) := by
  have hB := gb_refl w none
  refine enter Tryd.func23 Tryd.ntmps23 rfl rfl ?_
  refine C_seq (C_reg rfl ?_)
  refine L_run (R_assign rfl) rfl ?_
  refine L_run (R_assign rfl) rfl ?_
  refine L_nil (N_then (C_seq (C_seq (C_reg rfl ?_))))
  refine L_run (R_move rfl) rfl ?_
  refine L_call rfl cb46 (cutPrefix_n (cs := cs) (ps := ([119, 97, 108, 45] : List UInt8)) hw) rfl ?_
  rintro _ w1 ⟨hs1, rfl⟩
  replace hB := gb_tr hB hs1
  refine L_run (R_move rfl) rfl ?_
  refine L_run (R_extract rfl rfl) rfl ?_
  refine L_run (R_extract rfl rfl) rfl ?_
  refine L_run (R_assign rfl) rfl ?_
  refine L_run (R_assign rfl) rfl ?_
  refine L_nil (N_then (C_seq (C_reg rfl ?_)))
  refine L_run (R_move rfl) rfl ?_
  refine L_nil (N_then (C_condF rfl rfl (C_skip (N_then (C_seq (C_seq (C_reg rfl ?_)))))))
  refine L_run (R_move rfl) rfl ?_
  refine L_call rfl cb46 (cutPrefix_n (cs := cs) (ps := ([102, 114, 101, 101, 45] : List UInt8)) hf) rfl ?_
  rintro _ w2 ⟨hs2, rfl⟩
  replace hB := gb_tr hB hs2
  refine L_run (R_move rfl) rfl ?_
  refine L_run (R_extract rfl rfl) rfl ?_
  refine L_run (R_extract rfl rfl) rfl ?_
  refine L_run (R_assign rfl) rfl ?_
  refine L_run (R_assign rfl) rfl ?_
  refine L_nil (N_then (C_seq (C_reg rfl ?_)))
  refine L_run (R_move rfl) rfl ?_
  refine L_nil (N_then (C_condF rfl rfl (C_skip (N_then (C_seq (C_reg rfl ?_))))))
  refine L_run (R_assign rfl) rfl ?_
  refine L_run (R_assign rfl) rfl ?_
  refine L_nil (N_then (C_ret ?_))
  refine ret2 Tryd.results23 rfl rfl ?_
  first
    | (exfalso; omega)
    | (have e_ : nparse cs = (0, 0) := by
         first
           | exact npar_w hw (by assumption) (by assumption)
           | exact npar_p hf (by assumption) (by assumption)
           | exact npar_0 (fun h => by first | contradiction | omega | (obtain ⟨h1, h2, h3⟩ := h; contradiction)) (fun h => by first | contradiction | omega | (obtain ⟨h1, h2, h3⟩ := h; contradiction))
       rw [e_]; exact ⟨hB, rfl⟩)
theorem name_Parse {w : World} {cs : List UInt8} (hl : cs.length ≤ 9000000000000000000) : Runs Tryd.prog 23 #[.string ⟨cs.toArray⟩] w (fun v w' => w.grownBy w' none ∧ v = .tuple #[.int .i64 (nparse cs).1, .int .i64 (nparse cs).2]) := by
  by_cases hw : cs.take ([119, 97, 108, 45] : List UInt8).length = ([119, 97, 108, 45] : List UInt8)
  · by_cases hf : cs.take ([102, 114, 101, 101, 45] : List UInt8).length = ([102, 114, 101, 101, 45] : List UInt8)
    · exact name_Parse_yy hl hw hf
    · exact name_Parse_yn hl hw hf
  · by_cases hf : cs.take ([102, 114, 101, 101, 45] : List UInt8).length = ([102, 114, 101, 101, 45] : List UInt8)
    · exact name_Parse_ny hl hw hf
    · exact name_Parse_nn hl hw hf

end Go.Proofs.YtkjgjejkfjhcjaaDoor
