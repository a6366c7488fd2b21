/-
  Contracts of digits, and of lines.
-/
import Derived.Test.YtkjgjejkfjhcjaaDoorLa
namespace Go.Proofs.YtkjgjejkfjhcjaaDoor
open Go.RowKit Gw Pl
set_option linter.unusedVariables false
set_option linter.unusedSimpArgs false
theorem cb25 : callB Tryd.prog 25 = true := by kernel_rfl
theorem cb29 : callB Tryd.prog 29 = true := by kernel_rfl
theorem dig_div {u : Nat} (h : 10 ≤ u) : dig (u / 10) ++ dig (u % 10) = dig u := by rw [dig_lt (u := u % 10) (by omega), ← dig_ge h]
theorem digU_len {u : Nat} (h : u < 18446744073709551616) : (dig u).length ≤ 20 := dig_len 20 u (by omega) (by omega)
theorem ten_dig {n : Nat} (h : n < 10) : ((([48, 49, 50, 51, 52, 53, 54, 55, 56, 57] : List UInt8).drop n).take (n + 1 - n)) = dig n := by
  have h_ := rdig_5 (n := (n : Int)) (by omega) (by omega)
  rw [digI_nat] at h_
  exact h_
theorem recfam_quoU {n k : Nat} (hn : n < 18446744073709551616) : Value.int .u64 (IntKind.u64.wrap (Int.tdiv (n : Int) (k : Int))) = .int .u64 ((n / k : Nat) : Int) := by
  have h2 : n / k ≤ n := Nat.div_le_self _ _
  rw [tdivn, w64n (by omega)]
theorem dump_digits {w : World} {n : Nat} (hn : n < 18446744073709551616) :
    Runs Tryd.prog 28 #[.int .u64 (n : Int)] w (fun v w' => w.grownBy w' none ∧ v = .string ⟨(dig n).toArray⟩) := by
  have hB := gb_refl w none
  refine enter Tryd.func28 Tryd.ntmps28 rfl rfl ?_
  refine C_seq (C_reg rfl ?_)
  refine L_run (R_assign rfl) rfl ?_
  refine L_nil (N_then (C_seq (C_seq (C_reg rfl ?_))))
  refine L_run (R_move rfl) rfl ?_
  refine L_run (R_gtr rfl rfl) rfl ?_
  refine L_nil (N_then ?_)
  refine C_if rfl (fun h1 => ?_) (fun h1 => ?_)
  · refine C_seq (C_reg rfl ?_)
    refine L_run (R_move rfl) rfl ?_
    refine L_run (R_eqv (R_quo rfl rfl (by first | decide | omega)) (v' := .int .u64 ((n / 10 : Nat) : Int)) (recfam_quoU (k := 10) hn)) rfl ?_
    refine L_run (R_eqv (R_conv rfl any30 int3) (v' := .int .i64 ((n / 10 : Nat) : Int)) (congrArg _ (by rw [IntKind.wrap_i64]; omega))) rfl ?_
    refine L_call rfl cb22 (name_Digits (n := ((n / 10 : Nat) : Int)) (by omega)) rfl ?_
    rintro _ w1 ⟨hs1, rfl⟩
    replace hB := gb_tr hB hs1
    refine L_run (R_move rfl) rfl ?_
    refine L_run (R_eqv (R_rem rfl rfl (by first | decide | omega)) (v' := .int .u64 ((n % 10 : Nat) : Int)) (rfl)) rfl ?_
    refine L_run (R_eqv (R_conv rfl any30 int3) (v' := .int .i64 ((n % 10 : Nat) : Int)) (congrArg _ (by rw [IntKind.wrap_i64]; omega))) rfl ?_
    refine L_call rfl cb22 (name_Digits (n := ((n % 10 : Nat) : Int)) (by omega)) rfl ?_
    rintro _ w2 ⟨hs2, rfl⟩
    replace hB := gb_tr hB hs2
    refine L_run (R_eqv (R_addS rfl rfl (by rw [ba_size, ba_size]; have h1_ := digI_len (n := ((n / 10 : Nat) : Int)) (by omega); have h2_ := digI_len (n := ((n % 10 : Nat) : Int)) (by omega); omega)) (v' := .string ⟨((digI ((n / 10 : Nat) : Int)) ++ (digI ((n % 10 : Nat) : Int))).toArray⟩) (congrArg _ (ba_app _ _).symm)) rfl ?_
    refine L_run (R_assign rfl) rfl ?_
    refine L_nil (N_then (C_ret (R_then ?_)))
    refine ret1 Tryd.results28 rfl ?_
    first
      | (exfalso; omega)
      | (have e_ : ((digI ((n / 10 : Nat) : Int)) ++ (digI ((n % 10 : Nat) : Int))) = dig n := by first | exact digI_nat _ | (rw [digI_nat, digI_nat]; exact dig_div (by omega))
         rw [e_]; exact ⟨hB, rfl⟩)
  · refine C_skip (N_then (C_seq (C_reg rfl ?_)))
    refine L_run (R_move rfl) rfl ?_
    refine L_run (R_eqv (R_conv rfl any30 int3) (v' := .int .i64 ((n : Nat) : Int)) (congrArg _ (by rw [IntKind.wrap_i64]; omega))) rfl ?_
    refine L_call rfl cb22 (name_Digits (n := ((n : Nat) : Int)) (by omega)) rfl ?_
    rintro _ w3 ⟨hs3, rfl⟩
    replace hB := gb_tr hB hs3
    refine L_run (R_assign rfl) rfl ?_
    refine L_nil (N_then (C_ret ?_))
    refine ret1 Tryd.results28 rfl ?_
    first
      | (exfalso; omega)
      | (have e_ : (digI ((n : Nat) : Int)) = dig n := by first | exact digI_nat _ | (rw [digI_nat, digI_nat]; exact dig_div (by omega))
         rw [e_]; exact ⟨hB, rfl⟩)

theorem ref48_digits_step {w : World} {n : Nat} (hn : n < 18446744073709551616) (ih : ∀ {m : Nat}, m < n → m < 18446744073709551616 → ∀ (w : World), Runs Tryd.prog 29 #[.int .u64 ((m : Nat) : Int)] w (fun v w' => w.grownBy w' none ∧ v = .string ⟨(dig m).toArray⟩)) :
    Runs Tryd.prog 29 #[.int .u64 (n : Int)] w (fun v w' => w.grownBy w' none ∧ v = .string ⟨(dig n).toArray⟩) := by
  have hB := gb_refl w none
  refine enter Tryd.func29 Tryd.ntmps29 rfl rfl ?_
  refine C_seq (C_reg rfl ?_)
  refine L_run (R_assign rfl) rfl ?_
  refine L_nil (N_then (C_seq (C_seq (C_reg rfl ?_))))
  refine L_run (R_move rfl) rfl ?_
  refine L_run (R_lss rfl rfl) rfl ?_
  refine L_nil (N_then ?_)
  refine C_if rfl (fun h1 => ?_) (fun h1 => ?_)
  · refine C_seq (C_reg rfl ?_)
    refine L_run (R_move rfl) rfl ?_
    refine L_run (R_move rfl) rfl ?_
    refine L_run (R_eqv (R_add rfl rfl) (v' := .int .u64 ((n + 1 : Nat) : Int)) (congrArg _ (by rw [IntKind.wrap_u64]; omega))) rfl ?_
    refine L_run (R_slSLH (cs := [48, 49, 50, 51, 52, 53, 54, 55, 56, 57]) (i := n) (j := (n + 1)) rfl rfl rfl (by first | rfl | omega) (by first | rfl | omega) str9 (by first | omega | (simp; done) | (simp; omega)) (by simp; omega)) rfl ?_
    refine L_run (R_assign rfl) rfl ?_
    refine L_nil (N_then (C_ret (R_then ?_)))
    refine ret1 Tryd.results29 rfl ?_
    first
      | (exfalso; omega)
      | (have e_ : ((([48, 49, 50, 51, 52, 53, 54, 55, 56, 57] : List UInt8).drop n).take ((n + 1) - n)) = dig n := by first | exact ten_dig (by omega) | exact dig_div (by omega)
         rw [e_]; exact ⟨hB, rfl⟩)
  · refine C_skip (N_then (C_seq (C_reg rfl ?_)))
    refine L_run (R_move rfl) rfl ?_
    refine L_run (R_eqv (R_quo rfl rfl (by first | decide | omega)) (v' := .int .u64 ((n / 10 : Nat) : Int)) (recfam_quoU (k := 10) hn)) rfl ?_
    refine L_call rfl cb29 (ih (m := (n / 10)) (by omega) (by omega) _) rfl ?_
    rintro _ w1 ⟨hs1, rfl⟩
    replace hB := gb_tr hB hs1
    refine L_run (R_move rfl) rfl ?_
    refine L_run (R_eqv (R_rem rfl rfl (by first | decide | omega)) (v' := .int .u64 ((n % 10 : Nat) : Int)) (rfl)) rfl ?_
    refine L_call rfl cb29 (ih (m := (n % 10)) (by omega) (by omega) _) rfl ?_
    rintro _ w2 ⟨hs2, rfl⟩
    replace hB := gb_tr hB hs2
    refine L_run (R_eqv (R_addS rfl rfl (by rw [ba_size, ba_size]; have h1_ := digU_len (u := n / 10) (by omega); have h2_ := digU_len (u := n % 10) (by omega); omega)) (v' := .string ⟨((dig (n / 10)) ++ (dig (n % 10))).toArray⟩) (congrArg _ (ba_app _ _).symm)) rfl ?_
    refine L_run (R_assign rfl) rfl ?_
    refine L_nil (N_then (C_ret ?_))
    refine ret1 Tryd.results29 rfl ?_
    first
      | (exfalso; omega)
      | (have e_ : ((dig (n / 10)) ++ (dig (n % 10))) = dig n := by first | exact ten_dig (by omega) | exact dig_div (by omega)
         rw [e_]; exact ⟨hB, rfl⟩)

theorem ref48_digits {n : Nat} (hn : n < 18446744073709551616) : ∀ (w : World), Runs Tryd.prog 29 #[.int .u64 ((n : Nat) : Int)] w (fun v w' => w.grownBy w' none ∧ v = .string ⟨(dig n).toArray⟩) := by
  have key : ∀ (k : Nat) {n : Nat}, n ≤ k → n < 18446744073709551616 → ∀ (w : World), Runs Tryd.prog 29 #[.int .u64 ((n : Nat) : Int)] w (fun v w' => w.grownBy w' none ∧ v = .string ⟨(dig n).toArray⟩) := by
    intro k
    induction k with
    | zero => intro n h hn w; exact ref48_digits_step hn (fun {m} h1 h2 => by omega)
    | succ k ih => intro n h hn w; exact ref48_digits_step hn (fun {m} h1 h2 => ih (by omega) h2)
  exact key n (Nat.le_refl _) hn
theorem line_ok {w : World} {t1 lo hi c : Nat} {A : Option Addr} {xs : List (List UInt8)} (hS : Sli t1 lo hi w A (fl encW xs)) (hc : xs.length ≤ c) (hN : xs.length ≤ 1000000) (hl : (Go.Lib.join xs [32]).length ≤ 140737488355328) :
    Runs Tryd.prog 21 #[.slice A xs.length c] w (fun v w' => w.grownBy w' none ∧ v = .string ⟨(Go.Lib.join xs [32]).toArray⟩) := by
  have hB := gb_refl w none
  replace hS := hS.top
  refine enter Tryd.func21 Tryd.ntmps21 rfl rfl ?_
  refine C_seq (C_reg rfl ?_)
  refine L_run (R_assign rfl) rfl ?_
  refine L_nil (N_then (C_seq (C_reg rfl ?_)))
  refine L_run (R_move rfl) rfl ?_
  have hjl_ := hl
  refine L_call rfl cb25 (join_ok (xs := xs) (sep := ([32] : List UInt8)) hS hc hN hjl_) rfl ?_
  rintro _ w1 ⟨hs1, rfl⟩
  replace hB := gb_tr hB hs1
  replace hS := hS.gb hs1
  refine L_run (R_assign rfl) rfl ?_
  refine L_nil (N_then (C_ret ?_))
  refine ret1 Tryd.results21 rfl ?_
  exact ⟨hB, rfl⟩

end Go.Proofs.YtkjgjejkfjhcjaaDoor
