/-
  Contracts of the package span: places in a body.
-/
import Derived.Test.YtnggbodilhpohaaDoorRows
import Derived.Test.YtnggbodilhpohaaDoorVq
import Derived.Test.YtnggbodilhpohaaDoorVw
import Derived.Test.YtnggbodilhpohaaDoorGu
import Derived.Test.YtnggbodilhpohaaDoorGl
namespace Go.Proofs.YtnggbodilhpohaaDoor
open Go.RowKit Gw Pl
set_option linter.unusedVariables false
set_option linter.unusedSimpArgs false
theorem agg83 : aggB Tryd.prog 83 2 = true := by kernel_rfl
theorem cb40 : callB Tryd.prog 40 = true := by kernel_rfl
theorem cb41 : callB Tryd.prog 41 = true := by kernel_rfl
theorem eqg83 : Tryd.prog.eqGuardType Tryd.prog.depth 83 = false := by kernel_rfl
theorem int3 : intB Tryd.prog 3 .i64 = true := by kernel_rfl
theorem scl3 : sclB Tryd.prog 3 = true := by kernel_rfl
theorem sih83 : Tryd.prog.stoodInHeld 83 = false := by kernel_rfl
theorem sz83 : szB Tryd.prog 83 2 = true := by kernel_rfl
theorem und83 : Tryd.prog.underlying 83 = some (.struct #[⟨ "Sector", 3, 0, false, "", "", 0⟩, ⟨ "Off", 3, 1, false, "", "", 8⟩]) := by kernel_rfl
theorem zer83 : (Tryd.prog.info? 83).bind (·.zero) = some (.agg #[.int .i64 0, .int .i64 0]) := by kernel_rfl
theorem quoN {n k : Nat} (hk : n < 9223372036854775808) : Value.int .i64 (IntKind.i64.wrap (Int.tdiv (n : Int) (k : Int))) = .int .i64 ((n / k : Nat) : Int) := by
  have h1 : Int.tdiv (n : Int) (k : Int) = ((n / k : Nat) : Int) := by rw [Int.tdiv_eq_ediv_of_nonneg (by omega)]; rfl
  have h2 : n / k ≤ n := Nat.div_le_self _ _
  rw [h1, IntKind.wrap_i64]
  refine congrArg (Value.int .i64) ?_
  generalize n / k = q at *
  omega
theorem remN {n k : Nat} : Value.int .i64 (Int.tmod (n : Int) (k : Int)) = .int .i64 ((n % k : Nat) : Int) := rfl
theorem near_ok {w : World} {n m : Nat} :
    Runs Tryd.prog 40 #[.int .i64 (n : Int), .int .i64 (m : Int)] w (fun v w' => w.grownBy w' none ∧ v = .int .i64 ((min n m : Nat) : Int)) := by
  have hB := gb_refl w none
  refine enter Tryd.func40 Tryd.ntmps40 rfl rfl ?_
  refine C_seq (C_reg rfl ?_)
  refine L_run (R_assign rfl) rfl ?_
  refine L_nil (N_then (C_seq (C_reg rfl ?_)))
  refine L_run (R_move rfl) rfl ?_
  refine L_run (R_move rfl) rfl ?_
  refine L_run (R_min2 rfl rfl) rfl ?_
  refine L_run (R_eqv (R_max2 rfl rfl) (v' := .int .i64 ((min n m : Nat) : Int)) (congrArg _ (by omega))) rfl ?_
  refine L_run (R_assign rfl) rfl ?_
  refine L_nil (N_then (C_ret ?_))
  refine ret1 Tryd.results40 rfl ?_
  first
    | (exfalso; omega)
    | (exact ⟨hB, rfl⟩)

theorem where_ok {w : World} {n : Nat} (hn : n ≤ 832) :
    Runs Tryd.prog 41 #[.int .i64 (n : Int)] w (fun v w' => w.grownBy w' none ∧ v = .agg #[.int .i64 ((n / 52 : Nat) : Int), .int .i64 ((n % 52 : Nat) : Int)]) := by
  have hB := gb_refl w none
  refine enter Tryd.func41 Tryd.ntmps41 rfl rfl ?_
  refine C_seq (C_reg rfl ?_)
  refine L_alloc (cs := [.int .i64 0, .int .i64 0]) zer83 rfl rfl ?_
  intro g1 w1 eg1 hb1 hs1 hz1
  have ge1 : w.heap.size ≤ g1 := eg_ge hB eg1
  replace hB := gb_tr hB hs1
  refine L_nil (N_then (C_seq (C_reg rfl ?_)))
  refine L_run (R_move rfl) rfl ?_
  refine L_call rfl cb40 (near_ok (n := n) (m := 832)) rfl ?_
  rintro _ w2 ⟨hs2, rfl⟩
  replace hB := gb_tr hB hs2
  replace hb1 := hb1.gb hs2
  refine L_run (R_eqv (R_assign rfl) (v' := .int .i64 (n : Int)) (congrArg _ (by omega))) rfl ?_
  refine L_nil (N_then (C_seq (C_reg rfl ?_)))
  refine L_run (R_move rfl) rfl ?_
  refine L_run (R_eqv (R_quo rfl rfl (by first | decide | omega)) (v' := .int .i64 ((n / 52 : Nat) : Int)) (quoN (k := 52) (by omega))) rfl ?_
  refine L_run (R_move rfl) rfl ?_
  refine L_run (R_eqv (R_rem rfl rfl (by first | decide | omega)) (v' := .int .i64 ((n % 52 : Nat) : Int)) (remN (k := 52))) rfl ?_
  refine L_run (R_build (pv := [(0, .int .i64 ((n / 52 : Nat) : Int)), (1, .int .i64 ((n % 52 : Nat) : Int))]) (cs := [.int .i64 ((n / 52 : Nat) : Int), .int .i64 ((n % 52 : Nat) : Int)]) rfl (by kernel_rfl)) rfl ?_
  refine L_stA (vs := [.int .i64 ((n / 52 : Nat) : Int), .int .i64 ((n % 52 : Nat) : Int)]) rfl rfl rfl sz83 rfl hb1 rfl ?_
  intro w3 hb2 hs3 hz2
  replace hB := gb_trg hB hs3 ge1
  refine L_nil (N_then (C_ret ?_))
  refine retC (vs := [.int .i64 ((n / 52 : Nat) : Int), .int .i64 ((n % 52 : Nat) : Int)]) Tryd.results41 rfl agg83 (At.pre (hb2.at_ 0) rfl) rfl  ?_
  first
    | (exfalso; omega)
    | (exact ⟨hB, rfl⟩)

theorem left_ok {w : World} {n : Nat} (hn : n ≤ 832) :
    Runs Tryd.prog 23 #[.int .i64 (n : Int)] w (fun v w' => w.grownBy w' none ∧ v = .int .i64 ((leftN n : Nat) : Int)) := by
  have hB := gb_refl w none
  refine enter Tryd.func23 Tryd.ntmps23 rfl rfl ?_
  refine C_seq (C_reg rfl ?_)
  refine L_run (R_assign rfl) rfl ?_
  refine L_nil (N_then (C_seq (C_reg rfl ?_)))
  refine L_run (R_move rfl) rfl ?_
  refine L_call rfl cb40 (near_ok (n := n) (m := 832)) rfl ?_
  rintro _ w1 ⟨hs1, rfl⟩
  replace hB := gb_tr hB hs1
  refine L_run (R_eqv (R_assign rfl) (v' := .int .i64 (n : Int)) (congrArg _ (by omega))) rfl ?_
  refine L_nil (N_then (C_seq (C_seq (C_reg rfl ?_))))
  refine L_run (R_move rfl) rfl ?_
  refine L_call rfl cb41 (where_ok (n := n) (by first | omega | (simp; done) | (simp; omega))) rfl ?_
  rintro _ w2 ⟨hs2, rfl⟩
  replace hB := gb_tr hB hs2
  refine L_run (R_build (pv := [(0, .int .i64 16)]) (cs := [.int .i64 16, .int .i64 0]) rfl (by kernel_rfl)) rfl ?_
  refine L_run (R_eqlA rfl rfl eqg83 (eqs_struct und83 sih83 (eqf_cons (by decide) scl3 rfl rfl (eqs_int int3) (eqf_cons (by decide) scl3 rfl rfl (eqs_int int3) eqf_nil)))) rfl ?_
  refine L_nil (N_then ?_)
  refine C_if rfl (fun h1 => ?_) (fun h1 => ?_)
  · refine C_seq (C_reg rfl ?_)
    refine L_run (R_assign rfl) rfl ?_
    refine L_nil (N_then (C_ret (R_then ?_)))
    refine ret1 Tryd.results23 rfl ?_
    first
      | (exfalso; omega)
      | (refine ⟨hB, congrArg (Value.int .i64) ?_⟩
         try simp only [and_true] at *
         unfold leftN
         first | (rw [if_pos (by omega)]; rfl) | (rw [if_neg (by omega)]; omega))
  · refine C_skip (N_then (C_seq (C_reg rfl ?_)))
    refine L_run (R_move rfl) rfl ?_
    refine L_run (R_eqv (R_rem rfl rfl (by first | decide | omega)) (v' := .int .i64 ((n % 208 : Nat) : Int)) (remN (k := 208))) rfl ?_
    refine L_run (R_sub64 rfl rfl (by omega)) rfl ?_
    refine L_run (R_assign rfl) rfl ?_
    refine L_nil (N_then (C_ret ?_))
    refine ret1 Tryd.results23 rfl ?_
    first
      | (exfalso; omega)
      | (refine ⟨hB, congrArg (Value.int .i64) ?_⟩
         try simp only [and_true] at *
         unfold leftN
         first | (rw [if_pos (by omega)]; rfl) | (rw [if_neg (by omega)]; omega))

theorem begin_ok {w : World} {n : Nat} (hn : n ≤ 832) :
    Runs Tryd.prog 24 #[.int .i64 (n : Int)] w (fun v w' => w.grownBy w' none ∧ v = .int .i64 ((beginN n : Nat) : Int)) := by
  have hB := gb_refl w none
  refine enter Tryd.func24 Tryd.ntmps24 rfl rfl ?_
  refine C_seq (C_reg rfl ?_)
  refine L_run (R_assign rfl) rfl ?_
  refine L_nil (N_then (C_seq (C_reg rfl ?_)))
  refine L_run (R_move rfl) rfl ?_
  refine L_call rfl cb40 (near_ok (n := n) (m := 832)) rfl ?_
  rintro _ w1 ⟨hs1, rfl⟩
  replace hB := gb_tr hB hs1
  refine L_run (R_eqv (R_assign rfl) (v' := .int .i64 (n : Int)) (congrArg _ (by omega))) rfl ?_
  refine L_nil (N_then (C_seq (C_seq (C_reg rfl ?_))))
  refine L_run (R_move rfl) rfl ?_
  refine L_call rfl cb41 (where_ok (n := n) (by first | omega | (simp; done) | (simp; omega))) rfl ?_
  rintro _ w2 ⟨hs2, rfl⟩
  replace hB := gb_tr hB hs2
  refine L_run (R_field1 rfl Tryd.underlying83 rfl scl3 rfl) rfl ?_
  refine L_run (R_sub64 rfl rfl (by omega)) rfl ?_
  refine L_run (R_assign rfl) rfl ?_
  refine L_nil (N_then (C_seq (C_reg rfl ?_)))
  refine L_run (R_move rfl) rfl ?_
  refine L_run (R_lss rfl rfl) rfl ?_
  refine L_nil (N_then ?_)
  refine C_if rfl (fun h1 => ?_) (fun h1 => ?_)
  · refine C_seq (C_reg rfl ?_)
    refine L_run (R_move rfl) rfl ?_
    refine L_run (R_move rfl) rfl ?_
    refine L_run (R_add64 rfl rfl (by omega)) rfl ?_
    refine L_run (R_assign rfl) rfl ?_
    refine L_nil (N_then (C_ret (R_then ?_)))
    refine ret1 Tryd.results24 rfl ?_
    first
      | (exfalso; omega)
      | (refine ⟨hB, congrArg (Value.int .i64) ?_⟩
         unfold beginN
         first | (rw [if_pos (by omega)]; omega) | (rw [if_neg (by omega)]))
  · refine C_skip (N_then (C_seq (C_reg rfl ?_)))
    refine L_run (R_move rfl) rfl ?_
    refine L_run (R_assign rfl) rfl ?_
    refine L_nil (N_then (C_ret ?_))
    refine ret1 Tryd.results24 rfl ?_
    first
      | (exfalso; omega)
      | (refine ⟨hB, congrArg (Value.int .i64) ?_⟩
         unfold beginN
         first | (rw [if_pos (by omega)]; omega) | (rw [if_neg (by omega)]))

theorem touch_ok {w : World} {a b : Nat} :
    Runs Tryd.prog 35 #[.int .i64 (a : Int), .int .i64 (b : Int)] w (fun v w' => w.grownBy w' none ∧ v = .tuple #[.int .i64 (((touchN (min a 832) (min b 832)).1 : Nat) : Int), .int .i64 (((touchN (min a 832) (min b 832)).2 : Nat) : Int)]) := by
  have hB := gb_refl w none
  refine enter Tryd.func35 Tryd.ntmps35 rfl rfl ?_
  refine C_seq (C_reg rfl ?_)
  refine L_run (R_assign rfl) rfl ?_
  refine L_run (R_assign rfl) rfl ?_
  refine L_nil (N_then (C_seq (C_reg rfl ?_)))
  refine L_run (R_move rfl) rfl ?_
  refine L_call rfl cb40 (near_ok (n := a) (m := 832)) rfl ?_
  rintro _ w1 ⟨hs1, rfl⟩
  replace hB := gb_tr hB hs1
  refine L_run (R_move rfl) rfl ?_
  refine L_call rfl cb40 (near_ok (n := b) (m := 832)) rfl ?_
  rintro _ w2 ⟨hs2, rfl⟩
  replace hB := gb_tr hB hs2
  refine L_run (R_assign rfl) rfl ?_
  refine L_run (R_assign rfl) rfl ?_
  refine L_nil (N_then (C_seq (C_seq (C_reg rfl ?_))))
  refine L_run (R_move rfl) rfl ?_
  refine L_run (R_move rfl) rfl ?_
  refine L_run (R_geq rfl rfl) rfl ?_
  refine L_nil (N_then ?_)
  refine C_if rfl (fun h1 => ?_) (fun h1 => ?_)
  · refine C_seq (C_reg rfl ?_)
    refine L_run (R_assign rfl) rfl ?_
    refine L_run (R_assign rfl) rfl ?_
    refine L_nil (N_then (C_ret (R_then ?_)))
    refine ret2 Tryd.results35 rfl rfl ?_
    first
      | (exfalso; omega)
      | (refine ⟨hB, ?_⟩
         unfold touchN
         first | (rw [if_neg (by omega)]; rfl) | (rw [if_pos (by omega)]))
  · refine C_skip (N_then (C_seq (C_reg rfl ?_)))
    refine L_run (R_move rfl) rfl ?_
    refine L_call rfl cb41 (where_ok (n := (min a 832)) (by first | omega | (simp; done) | (simp; omega))) rfl ?_
    rintro _ w3 ⟨hs3, rfl⟩
    replace hB := gb_tr hB hs3
    refine L_run (R_field1 rfl Tryd.underlying83 rfl scl3 rfl) rfl ?_
    refine L_run (R_move rfl) rfl ?_
    refine L_run (R_eqv (R_sub64 rfl rfl (by omega)) (v' := .int .i64 ((min b 832 - 1 : Nat) : Int)) (congrArg _ (by omega))) rfl ?_
    refine L_call rfl cb41 (where_ok (n := (min b 832 - 1)) (by first | omega | (simp; done) | (simp; omega))) rfl ?_
    rintro _ w4 ⟨hs4, rfl⟩
    replace hB := gb_tr hB hs4
    refine L_run (R_field1 rfl Tryd.underlying83 rfl scl3 rfl) rfl ?_
    refine L_run (R_eqv (R_add64 rfl rfl (by omega)) (v' := .int .i64 (((min b 832 - 1) / 52 + 1 : Nat) : Int)) (congrArg _ (by omega))) rfl ?_
    refine L_run (R_assign rfl) rfl ?_
    refine L_run (R_assign rfl) rfl ?_
    refine L_nil (N_then (C_ret ?_))
    refine ret2 Tryd.results35 rfl rfl ?_
    first
      | (exfalso; omega)
      | (refine ⟨hB, ?_⟩
         unfold touchN
         first | (rw [if_neg (by omega)]; rfl) | (rw [if_pos (by omega)]))

end Go.Proofs.YtnggbodilhpohaaDoor
