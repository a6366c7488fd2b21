/-
  Contracts of the package span and of its reference: places in a body.
-/
import Derived.Test.YtbpjdcpfphnccaaDoorRows
import Derived.Test.YtbpjdcpfphnccaaDoorVq
import Derived.Test.YtbpjdcpfphnccaaDoorVw
import Derived.Test.YtbpjdcpfphnccaaDoorGu
import Derived.Test.YtbpjdcpfphnccaaDoorGl
import Derived.Test.YtbpjdcpfphnccaaDoorGj
namespace Go.Proofs.YtbpjdcpfphnccaaDoor
open Go.RowKit Gw Pl
set_option linter.unusedVariables false
set_option linter.unusedSimpArgs false
theorem agg97 : aggB Tryd.prog 97 2 = true := by kernel_rfl
theorem cb39 : callB Tryd.prog 39 = true := by kernel_rfl
theorem cb40 : callB Tryd.prog 40 = true := by kernel_rfl
theorem cb45 : callB Tryd.prog 45 = true := by kernel_rfl
theorem cb46 : callB Tryd.prog 46 = true := by kernel_rfl
theorem eqg97 : Tryd.prog.eqGuardType Tryd.prog.depth 97 = false := by kernel_rfl
theorem int3 : intB Tryd.prog 3 .i64 = true := by kernel_rfl
theorem scl3 : sclB Tryd.prog 3 = true := by kernel_rfl
theorem sih97 : Tryd.prog.stoodInHeld 97 = false := by kernel_rfl
theorem sz97 : szB Tryd.prog 97 2 = true := by kernel_rfl
theorem und97 : Tryd.prog.underlying 97 = some (.struct #[⟨ "Sector", 3, 0, false, "", "", 0⟩, ⟨ "Off", 3, 1, false, "", "", 8⟩]) := by kernel_rfl
theorem zer97 : (Tryd.prog.info? 97).bind (·.zero) = some (.agg #[.int .i64 0, .int .i64 0]) := by kernel_rfl
theorem quoN {n k : Nat} (hk : n < 9223372036854775808) : Value.int .i64 (IntKind.i64.wrap (Int.tdiv (n : Int) (k : Int))) = .int .i64 ((n / k : Nat) : Int) := by
  have h1 : Int.tdiv (n : Int) (k : Int) = ((n / k : Nat) : Int) := by rw [Int.tdiv_eq_ediv_of_nonneg (by omega)]; rfl
  have h2 : n / k ≤ n := Nat.div_le_self _ _
  rw [h1, IntKind.wrap_i64]
  refine congrArg (Value.int .i64) ?_
  generalize n / k = q at *
  omega
theorem remN {n k : Nat} : Value.int .i64 (Int.tmod (n : Int) (k : Int)) = .int .i64 ((n % k : Nat) : Int) := rfl
theorem near_ok {w : World} {n m : Nat} :
    Runs Tryd.prog 45 #[.int .i64 (n : Int), .int .i64 (m : Int)] w (fun v w' => w.grownBy w' none ∧ v = .int .i64 ((min n m : Nat) : Int)) := by
  have hB := gb_refl w none
  refine enter Tryd.func45 Tryd.ntmps45 rfl rfl ?_
  refine C_seq (C_reg rfl ?_)
  refine L_run (R_assign rfl) rfl ?_
  refine L_nil (N_then (C_seq (C_reg rfl ?_)))
  refine L_run (R_move rfl) rfl ?_
  refine L_run (R_move rfl) rfl ?_
  refine L_run (R_min2 rfl rfl) rfl ?_
  refine L_run (R_eqv (R_max2 rfl rfl) (v' := .int .i64 ((min n m : Nat) : Int)) (congrArg _ (by omega))) rfl ?_
  refine L_run (R_assign rfl) rfl ?_
  refine L_nil (N_then (C_ret ?_))
  refine ret1 Tryd.results45 rfl ?_
  first
    | (exfalso; omega)
    | (exact ⟨hB, rfl⟩)

theorem where_ok {w : World} {n : Nat} (hn : n ≤ 832) :
    Runs Tryd.prog 46 #[.int .i64 (n : Int)] w (fun v w' => w.grownBy w' none ∧ v = .agg #[.int .i64 ((n / 52 : Nat) : Int), .int .i64 ((n % 52 : Nat) : Int)]) := by
  have hB := gb_refl w none
  refine enter Tryd.func46 Tryd.ntmps46 rfl rfl ?_
  refine C_seq (C_reg rfl ?_)
  refine L_alloc (cs := [.int .i64 0, .int .i64 0]) zer97 rfl rfl ?_
  intro g1 w1 eg1 hb1 hs1 hz1
  have ge1 : w.heap.size ≤ g1 := eg_ge hB eg1
  replace hB := gb_tr hB hs1
  refine L_nil (N_then (C_seq (C_reg rfl ?_)))
  refine L_run (R_move rfl) rfl ?_
  refine L_call rfl cb45 (near_ok (n := n) (m := 832)) rfl ?_
  rintro _ w2 ⟨hs2, rfl⟩
  replace hB := gb_tr hB hs2
  replace hb1 := hb1.gb hs2
  refine L_run (R_eqv (R_assign rfl) (v' := .int .i64 (n : Int)) (congrArg _ (by omega))) rfl ?_
  refine L_nil (N_then (C_seq (C_reg rfl ?_)))
  refine L_run (R_move rfl) rfl ?_
  refine L_run (R_eqv (R_quo rfl rfl (by first | decide | omega)) (v' := .int .i64 ((n / 52 : Nat) : Int)) (quoN (k := 52) (by omega))) rfl ?_
  refine L_run (R_move rfl) rfl ?_
  refine L_run (R_eqv (R_rem rfl rfl (by first | decide | omega)) (v' := .int .i64 ((n % 52 : Nat) : Int)) (remN (k := 52))) rfl ?_
  refine L_run (R_build (pv := [(0, .int .i64 ((n / 52 : Nat) : Int)), (1, .int .i64 ((n % 52 : Nat) : Int))]) (cs := [.int .i64 ((n / 52 : Nat) : Int), .int .i64 ((n % 52 : Nat) : Int)]) rfl (by kernel_rfl)) rfl ?_
  refine L_stA (vs := [.int .i64 ((n / 52 : Nat) : Int), .int .i64 ((n % 52 : Nat) : Int)]) rfl rfl rfl sz97 rfl hb1 rfl ?_
  intro w3 hb2 hs3 hz2
  replace hB := gb_trg hB hs3 ge1
  refine L_nil (N_then (C_ret ?_))
  refine retC (vs := [.int .i64 ((n / 52 : Nat) : Int), .int .i64 ((n % 52 : Nat) : Int)]) Tryd.results46 rfl agg97 (At.pre (hb2.at_ 0) rfl) rfl  ?_
  first
    | (exfalso; omega)
    | (exact ⟨hB, rfl⟩)

theorem left_ok {w : World} {n : Nat} (hn : n ≤ 832) :
    Runs Tryd.prog 58 #[.int .i64 (n : Int)] w (fun v w' => w.grownBy w' none ∧ v = .int .i64 ((leftN n : Nat) : Int)) := by
  have hB := gb_refl w none
  refine enter Tryd.func58 Tryd.ntmps58 rfl rfl ?_
  refine C_seq (C_reg rfl ?_)
  refine L_run (R_assign rfl) rfl ?_
  refine L_nil (N_then (C_seq (C_reg rfl ?_)))
  refine L_run (R_move rfl) rfl ?_
  refine L_call rfl cb45 (near_ok (n := n) (m := 832)) rfl ?_
  rintro _ w1 ⟨hs1, rfl⟩
  replace hB := gb_tr hB hs1
  refine L_run (R_eqv (R_assign rfl) (v' := .int .i64 (n : Int)) (congrArg _ (by omega))) rfl ?_
  refine L_nil (N_then (C_seq (C_seq (C_reg rfl ?_))))
  refine L_run (R_move rfl) rfl ?_
  refine L_call rfl cb46 (where_ok (n := n) (by first | omega | (simp; done) | (simp; omega))) rfl ?_
  rintro _ w2 ⟨hs2, rfl⟩
  replace hB := gb_tr hB hs2
  refine L_run (R_build (pv := [(0, .int .i64 16)]) (cs := [.int .i64 16, .int .i64 0]) rfl (by kernel_rfl)) rfl ?_
  refine L_run (R_eqlA rfl rfl eqg97 (eqs_struct und97 sih97 (eqf_cons (by decide) scl3 rfl rfl (eqs_int int3) (eqf_cons (by decide) scl3 rfl rfl (eqs_int int3) eqf_nil)))) rfl ?_
  refine L_nil (N_then ?_)
  refine C_if rfl (fun h1 => ?_) (fun h1 => ?_)
  · refine C_seq (C_reg rfl ?_)
    refine L_run (R_assign rfl) rfl ?_
    refine L_nil (N_then (C_ret (R_then ?_)))
    refine ret1 Tryd.results58 rfl ?_
    first
      | (exfalso; omega)
      | (refine ⟨hB, congrArg (Value.int .i64) ?_⟩
         try simp only [and_true] at *
         unfold leftN
         first | (rw [if_pos (by omega)]; rfl) | (rw [if_neg (by omega)]; omega))
  · refine C_skip (N_then (C_seq (C_reg rfl ?_)))
    refine L_run (R_move rfl) rfl ?_
    refine L_run (R_eqv (R_rem rfl rfl (by first | decide | omega)) (v' := .int .i64 ((n % 208 : Nat) : Int)) (remN (k := 208))) rfl ?_
    refine L_run (R_sub64 rfl rfl (by omega)) rfl ?_
    refine L_run (R_assign rfl) rfl ?_
    refine L_nil (N_then (C_ret ?_))
    refine ret1 Tryd.results58 rfl ?_
    first
      | (exfalso; omega)
      | (refine ⟨hB, congrArg (Value.int .i64) ?_⟩
         try simp only [and_true] at *
         unfold leftN
         first | (rw [if_pos (by omega)]; rfl) | (rw [if_neg (by omega)]; omega))

theorem begin_ok {w : World} {n : Nat} (hn : n ≤ 832) :
    Runs Tryd.prog 35 #[.int .i64 (n : Int)] w (fun v w' => w.grownBy w' none ∧ v = .int .i64 ((beginN n : Nat) : Int)) := by
  have hB := gb_refl w none
  refine enter Tryd.func35 Tryd.ntmps35 rfl rfl ?_
  refine C_seq (C_reg rfl ?_)
  refine L_run (R_assign rfl) rfl ?_
  refine L_nil (N_then (C_seq (C_reg rfl ?_)))
  refine L_run (R_move rfl) rfl ?_
  refine L_call rfl cb45 (near_ok (n := n) (m := 832)) rfl ?_
  rintro _ w1 ⟨hs1, rfl⟩
  replace hB := gb_tr hB hs1
  refine L_run (R_eqv (R_assign rfl) (v' := .int .i64 (n : Int)) (congrArg _ (by omega))) rfl ?_
  refine L_nil (N_then (C_seq (C_seq (C_reg rfl ?_))))
  refine L_run (R_move rfl) rfl ?_
  refine L_call rfl cb46 (where_ok (n := n) (by first | omega | (simp; done) | (simp; omega))) rfl ?_
  rintro _ w2 ⟨hs2, rfl⟩
  replace hB := gb_tr hB hs2
  refine L_run (R_field1 rfl Tryd.underlying97 rfl scl3 rfl) rfl ?_
  refine L_run (R_sub64 rfl rfl (by omega)) rfl ?_
  refine L_run (R_assign rfl) rfl ?_
  refine L_nil (N_then (C_seq (C_reg rfl ?_)))
  refine L_run (R_move rfl) rfl ?_
  refine L_run (R_lss rfl rfl) rfl ?_
  refine L_nil (N_then ?_)
  refine C_if rfl (fun h1 => ?_) (fun h1 => ?_)
  · refine C_seq (C_reg rfl ?_)
    refine L_run (R_move rfl) rfl ?_
    refine L_run (R_move rfl) rfl ?_
    refine L_run (R_add64 rfl rfl (by omega)) rfl ?_
    refine L_run (R_assign rfl) rfl ?_
    refine L_nil (N_then (C_ret (R_then ?_)))
    refine ret1 Tryd.results35 rfl ?_
    first
      | (exfalso; omega)
      | (refine ⟨hB, congrArg (Value.int .i64) ?_⟩
         unfold beginN
         first | (rw [if_pos (by omega)]; omega) | (rw [if_neg (by omega)]))
  · refine C_skip (N_then (C_seq (C_reg rfl ?_)))
    refine L_run (R_move rfl) rfl ?_
    refine L_run (R_assign rfl) rfl ?_
    refine L_nil (N_then (C_ret ?_))
    refine ret1 Tryd.results35 rfl ?_
    first
      | (exfalso; omega)
      | (refine ⟨hB, congrArg (Value.int .i64) ?_⟩
         unfold beginN
         first | (rw [if_pos (by omega)]; omega) | (rw [if_neg (by omega)]))

theorem touch_ok {w : World} {a b : Nat} :
    Runs Tryd.prog 50 #[.int .i64 (a : Int), .int .i64 (b : Int)] w (fun v w' => w.grownBy w' none ∧ v = .tuple #[.int .i64 (((touchN (min a 832) (min b 832)).1 : Nat) : Int), .int .i64 (((touchN (min a 832) (min b 832)).2 : Nat) : Int)]) := by
  have hB := gb_refl w none
  refine enter Tryd.func50 Tryd.ntmps50 rfl rfl ?_
  refine C_seq (C_reg rfl ?_)
  refine L_run (R_assign rfl) rfl ?_
  refine L_run (R_assign rfl) rfl ?_
  refine L_nil (N_then (C_seq (C_reg rfl ?_)))
  refine L_run (R_move rfl) rfl ?_
  refine L_call rfl cb45 (near_ok (n := a) (m := 832)) rfl ?_
  rintro _ w1 ⟨hs1, rfl⟩
  replace hB := gb_tr hB hs1
  refine L_run (R_move rfl) rfl ?_
  refine L_call rfl cb45 (near_ok (n := b) (m := 832)) rfl ?_
  rintro _ w2 ⟨hs2, rfl⟩
  replace hB := gb_tr hB hs2
  refine L_run (R_assign rfl) rfl ?_
  refine L_run (R_assign rfl) rfl ?_
  refine L_nil (N_then (C_seq (C_seq (C_reg rfl ?_))))
  refine L_run (R_move rfl) rfl ?_
  refine L_run (R_move rfl) rfl ?_
  refine L_run (R_geq rfl rfl) rfl ?_
  refine L_nil (N_then ?_)
  refine C_if rfl (fun h1 => ?_) (fun h1 => ?_)
  · refine C_seq (C_reg rfl ?_)
    refine L_run (R_assign rfl) rfl ?_
    refine L_run (R_assign rfl) rfl ?_
    refine L_nil (N_then (C_ret (R_then ?_)))
    refine ret2 Tryd.results50 rfl rfl ?_
    first
      | (exfalso; omega)
      | (refine ⟨hB, ?_⟩
         unfold touchN
         first | (rw [if_neg (by omega)]; rfl) | (rw [if_pos (by omega)]))
  · refine C_skip (N_then (C_seq (C_reg rfl ?_)))
    refine L_run (R_move rfl) rfl ?_
    refine L_call rfl cb46 (where_ok (n := (min a 832)) (by first | omega | (simp; done) | (simp; omega))) rfl ?_
    rintro _ w3 ⟨hs3, rfl⟩
    replace hB := gb_tr hB hs3
    refine L_run (R_field1 rfl Tryd.underlying97 rfl scl3 rfl) rfl ?_
    refine L_run (R_move rfl) rfl ?_
    refine L_run (R_eqv (R_sub64 rfl rfl (by omega)) (v' := .int .i64 ((min b 832 - 1 : Nat) : Int)) (congrArg _ (by omega))) rfl ?_
    refine L_call rfl cb46 (where_ok (n := (min b 832 - 1)) (by first | omega | (simp; done) | (simp; omega))) rfl ?_
    rintro _ w4 ⟨hs4, rfl⟩
    replace hB := gb_tr hB hs4
    refine L_run (R_field1 rfl Tryd.underlying97 rfl scl3 rfl) rfl ?_
    refine L_run (R_eqv (R_add64 rfl rfl (by omega)) (v' := .int .i64 (((min b 832 - 1) / 52 + 1 : Nat) : Int)) (congrArg _ (by omega))) rfl ?_
    refine L_run (R_assign rfl) rfl ?_
    refine L_run (R_assign rfl) rfl ?_
    refine L_nil (N_then (C_ret ?_))
    refine ret2 Tryd.results50 rfl rfl ?_
    first
      | (exfalso; omega)
      | (refine ⟨hB, ?_⟩
         unfold touchN
         first | (rw [if_neg (by omega)]; rfl) | (rw [if_pos (by omega)]))

theorem touch_le {a b : Nat} : (touchN (min a 832) (min b 832)).2 ≤ 16 ∧ (touchN (min a 832) (min b 832)).1 ≤ 16 := by
  unfold touchN
  split
  · exact ⟨by show (min b 832 - 1) / 52 + 1 ≤ 16; omega, by show min a 832 / 52 ≤ 16; omega⟩
  · exact ⟨by decide, by decide⟩
def encO (b : Bool) : List Value := [.bool b]
theorem EncO : Enc encO 1 := ⟨fun _ => rfl, fun _ => rfl⟩
theorem covN_false {ok : List Bool} {a b i : Nat} (h1 : (touchN a b).1 ≤ i) (h2 : i < (touchN a b).2) (h : ok.getD i false = false) : covN ok a b = false := by
  unfold covN
  rw [List.all_eq_false]
  exact ⟨i, by rw [List.mem_range']; exact ⟨i - (touchN a b).1, by omega, by omega⟩, by rw [h]; decide⟩
theorem covN_true {ok : List Bool} {a b i : Nat} (h2 : ¬ i < (touchN a b).2) (h : ∀ j, (touchN a b).1 ≤ j → j < i → ok.getD j false = true) : covN ok a b = true := by
  unfold covN
  rw [List.all_eq_true]
  intro x hx
  rw [List.mem_range'] at hx
  obtain ⟨y, hy, rfl⟩ := hx
  exact h _ (by omega) (by omega)
theorem getD_out {ok : List Bool} {i : Nat} (h : ok.length ≤ i) : ok.getD i false = false := by
  rw [List.getD_eq_getElem?_getD, List.getElem?_eq_none h]; rfl
theorem getD_in {ok : List Bool} {i : Nat} (h : i < ok.length) : ok.getD i false = ok[i] := by
  rw [List.getD_eq_getElem?_getD, List.getElem?_eq_getElem h]; rfl
theorem cov_step {ok : List Bool} {lo i : Nat} (h : ∀ j, lo ≤ j → j < i → ok.getD j false = true) (hi : i < ok.length) (hv : ok[i] = true) : ∀ j, lo ≤ j → j < i + 1 → ok.getD j false = true := by
  intro j h1 h2
  rcases Nat.lt_or_ge j i with h3 | h3
  · exact h j h1 h3
  · obtain rfl : j = i := by omega
    rw [getD_in hi]; exact hv
theorem near7 {w : World} {n : Nat} :
    Runs Tryd.prog 39 #[.int .i64 (n : Int)] w (fun v w' => w.grownBy w' none ∧ v = .int .i64 ((min n 832 : Nat) : Int)) := by
  have hB := gb_refl w none
  refine enter Tryd.func39 Tryd.ntmps39 rfl rfl ?_
  refine C_seq (C_reg rfl ?_)
  refine L_run (R_assign rfl) rfl ?_
  refine L_nil (N_then (C_seq (C_seq (C_reg rfl ?_))))
  refine L_run (R_move rfl) rfl ?_
  refine L_run (R_lss rfl rfl) rfl ?_
  refine L_nil (N_then ?_)
  refine C_if rfl (fun h1 => ?_) (fun h1 => ?_)
  · refine C_seq (C_reg rfl ?_)
    refine L_run (R_assign rfl) rfl ?_
    refine L_nil (N_then (C_ret (R_then ?_)))
    refine ret1 Tryd.results39 rfl ?_
    first
      | (exfalso; omega)
      | (refine ⟨hB, congrArg (Value.int .i64) ?_⟩
         omega)
  · refine C_skip (N_then (C_seq (C_seq (C_reg rfl ?_))))
    refine L_run (R_move rfl) rfl ?_
    refine L_run (R_gtr rfl rfl) rfl ?_
    refine L_nil (N_then ?_)
    refine C_if rfl (fun h2 => ?_) (fun h2 => ?_)
    · refine C_seq (C_reg rfl ?_)
      refine L_run (R_assign rfl) rfl ?_
      refine L_nil (N_then (C_ret (R_then ?_)))
      refine ret1 Tryd.results39 rfl ?_
      first
        | (exfalso; omega)
        | (refine ⟨hB, congrArg (Value.int .i64) ?_⟩
           omega)
    · refine C_skip (N_then (C_seq (C_reg rfl ?_)))
      refine L_run (R_move rfl) rfl ?_
      refine L_run (R_assign rfl) rfl ?_
      refine L_nil (N_then (C_ret ?_))
      refine ret1 Tryd.results39 rfl ?_
      first
        | (exfalso; omega)
        | (refine ⟨hB, congrArg (Value.int .i64) ?_⟩
           omega)

theorem where7 {w : World} {n : Nat} (hn : n ≤ 832) :
    Runs Tryd.prog 40 #[.int .i64 (n : Int)] w (fun v w' => w.grownBy w' none ∧ v = .tuple #[.int .i64 ((n / 52 : Nat) : Int), .int .i64 ((n % 52 : Nat) : Int)]) := by
  have hB := gb_refl w none
  refine enter Tryd.func40 Tryd.ntmps40 rfl rfl ?_
  refine C_seq (C_reg rfl ?_)
  refine L_run (R_assign rfl) rfl ?_
  refine L_run (R_assign rfl) rfl ?_
  refine L_nil (N_then (C_seq (C_reg rfl ?_)))
  refine L_run (R_assign rfl) rfl ?_
  refine L_nil (N_then (C_seq (C_reg rfl ?_)))
  refine L_run (R_assign rfl) rfl ?_
  refine L_nil (N_then (C_seq (C_seq (C_reg rfl ?_))))
  refine L_run (R_assign rfl) rfl ?_
  refine L_nil (N_then (C_block ?_))
  refine C_loop (fun m_ a_ w_ => ∃ (σ_ : Nat → Value) (a : Nat) (b : Nat) (i : Nat), a_ = Ac 21 σ_ [] [(0, .int .i64 (n : Int)), (4, .int .i64 (a : Int)), (5, .int .i64 (b : Int)), (6, .int .i64 (i : Int))] ∧ w.grownBy w_ none ∧ (52 * a + b = i) ∧ (b < 52) ∧ (i ≤ n) ∧ n - i = m_) (n - 0) ?_ ?_
  · exact ⟨_, 0, 0, 0, Ac_frg ⟨rfl, (agr rfl (by first | rfl | (congr 1; omega) | (congr 1; simp; done) | (congr 1; simp only [IntKind.wrap_u64, IntKind.wrap_i64, IntKind.wrap_u8]; omega) | (congr 1 <;> omega))), (agr rfl (by first | rfl | (congr 1; omega) | (congr 1; simp; done) | (congr 1; simp only [IntKind.wrap_u64, IntKind.wrap_i64, IntKind.wrap_u8]; omega) | (congr 1 <;> omega))), (agr rfl (by first | rfl | (congr 1; omega) | (congr 1; simp; done) | (congr 1; simp only [IntKind.wrap_u64, IntKind.wrap_i64, IntKind.wrap_u8]; omega) | (congr 1 <;> omega))), trivial⟩, hB, (by omega), (by omega), (by omega), rfl⟩
  · clear hB
    rintro m_ a_ w1 ⟨σ_, a, b, i, rfl, hB, hab, hb, hi, rfl⟩
    refine C_seq (C_seq (C_reg rfl ?_))
    refine L_run (R_move rfl) rfl ?_
    refine L_run (R_move rfl) rfl ?_
    refine L_call rfl cb39 (near7 (n := n)) rfl ?_
    rintro _ w2 ⟨hs1, rfl⟩
    replace hB := gb_tr hB hs1
    refine L_run (R_lss rfl rfl) rfl ?_
    refine L_nil (N_then ?_)
    refine C_if rfl (fun h1 => ?_) (fun h1 => ?_)
    · refine C_skip (N_then (C_seq (C_block (C_seq (C_reg rfl ?_)))))
      refine L_run (R_move rfl) rfl ?_
      refine L_run (R_add64 rfl rfl (by omega)) rfl ?_
      refine L_run (R_assign rfl) rfl ?_
      refine L_nil (N_then (C_seq (C_reg rfl ?_)))
      refine L_run (R_move rfl) rfl ?_
      refine L_run (R_eql rfl rfl) rfl ?_
      refine L_nil (N_then ?_)
      refine C_if rfl (fun h2 => ?_) (fun h2 => ?_)
      · refine C_seq (C_reg rfl ?_)
        refine L_run (R_move rfl) rfl ?_
        refine L_run (R_add64 rfl rfl (by omega)) rfl ?_
        refine L_run (R_assign rfl) rfl ?_
        refine L_nil (N_then (C_reg rfl ?_))
        refine L_run (R_assign rfl) rfl ?_
        refine L_nil (N_in (N_then (C_reg rfl ?_)))
        refine L_run (R_move rfl) rfl ?_
        refine L_run (R_add64 rfl rfl (by omega)) rfl ?_
        refine L_run (R_assign rfl) rfl ?_
        refine L_nil (N_then ?_)
        exact ⟨n - (i + 1), by omega, _, (a + 1), 0, (i + 1), Ac_frg ⟨rfl, (agr rfl (by first | rfl | (congr 1; omega) | (congr 1; simp; done) | (congr 1; simp only [IntKind.wrap_u64, IntKind.wrap_i64, IntKind.wrap_u8]; omega) | (congr 1 <;> omega))), (agr rfl (by first | rfl | (congr 1; omega) | (congr 1; simp; done) | (congr 1; simp only [IntKind.wrap_u64, IntKind.wrap_i64, IntKind.wrap_u8]; omega) | (congr 1 <;> omega))), (agr rfl (by first | rfl | (congr 1; omega) | (congr 1; simp; done) | (congr 1; simp only [IntKind.wrap_u64, IntKind.wrap_i64, IntKind.wrap_u8]; omega) | (congr 1 <;> omega))), trivial⟩, hB, (by omega), (by omega), (by omega), rfl⟩
      · refine C_skip (N_in (N_then (C_reg rfl ?_)))
        refine L_run (R_move rfl) rfl ?_
        refine L_run (R_add64 rfl rfl (by omega)) rfl ?_
        refine L_run (R_assign rfl) rfl ?_
        refine L_nil (N_then ?_)
        exact ⟨n - (i + 1), by omega, _, a, (b + 1), (i + 1), Ac_frg ⟨rfl, rfl, (agr rfl (by first | rfl | (congr 1; omega) | (congr 1; simp; done) | (congr 1; simp only [IntKind.wrap_u64, IntKind.wrap_i64, IntKind.wrap_u8]; omega) | (congr 1 <;> omega))), (agr rfl (by first | rfl | (congr 1; omega) | (congr 1; simp; done) | (congr 1; simp only [IntKind.wrap_u64, IntKind.wrap_i64, IntKind.wrap_u8]; omega) | (congr 1 <;> omega))), trivial⟩, hB, (by omega), (by omega), (by omega), rfl⟩
    · refine C_exit (X_then (X_then (X_hit (N_then (C_seq (C_reg rfl ?_))))))
      refine L_run (R_move rfl) rfl ?_
      refine L_run (R_move rfl) rfl ?_
      refine L_run (R_assign rfl) rfl ?_
      refine L_run (R_assign rfl) rfl ?_
      refine L_nil (N_then (C_ret ?_))
      refine ret2 Tryd.results40 rfl rfl ?_
      first
        | (exfalso; omega)
        | (obtain rfl : n = i := by omega
           exact ⟨hB, by rw [show n / 52 = a by omega, show n % 52 = b by omega]⟩)

theorem left7 {w : World} {n : Nat} (hn : n ≤ 832) :
    Runs Tryd.prog 52 #[.int .i64 (n : Int)] w (fun v w' => w.grownBy w' none ∧ v = .int .i64 ((leftN n : Nat) : Int)) := by
  have hB := gb_refl w none
  refine enter Tryd.func52 Tryd.ntmps52 rfl rfl ?_
  refine C_seq (C_reg rfl ?_)
  refine L_run (R_assign rfl) rfl ?_
  refine L_nil (N_then (C_seq (C_reg rfl ?_)))
  refine L_run (R_assign rfl) rfl ?_
  refine L_nil (N_then (C_seq (C_reg rfl ?_)))
  refine L_run (R_move rfl) rfl ?_
  refine L_call rfl cb39 (near7 (n := n)) rfl ?_
  rintro _ w1 ⟨hs1, rfl⟩
  replace hB := gb_tr hB hs1
  refine L_run (R_assign rfl) rfl ?_
  refine L_nil (N_then (C_seq (C_block ?_)))
  refine C_loop (fun m_ a_ w_ => ∃ (σ_ : Nat → Value) (k : Nat), a_ = Ac 22 σ_ [] [(0, .int .i64 ((n + k : Nat) : Int)), (3, .int .i64 (k : Int))] ∧ w.grownBy w_ none ∧ (k ≤ 208 - n % 208 ∧ n + k ≤ 832) ∧ 832 - (n + k) = m_) (832 - (n + 0)) ?_ ?_
  · exact ⟨_, 0, Ac_frg ⟨(agr rfl (by first | rfl | (congr 1; omega) | (congr 1; simp; done) | (congr 1; simp only [IntKind.wrap_u64, IntKind.wrap_i64, IntKind.wrap_u8]; omega) | (congr 1 <;> omega))), (agr rfl (by first | rfl | (congr 1; omega) | (congr 1; simp; done) | (congr 1; simp only [IntKind.wrap_u64, IntKind.wrap_i64, IntKind.wrap_u8]; omega) | (congr 1 <;> omega))), trivial⟩, hB, (by omega), rfl⟩
  · clear hB
    rintro m_ a_ w2 ⟨σ_, k, rfl, hB, hk, rfl⟩
    refine C_seq (C_seq (C_reg rfl ?_))
    refine L_run (R_move rfl) rfl ?_
    refine L_run (R_lss rfl rfl) rfl ?_
    refine L_run (R_move rfl) rfl ?_
    refine L_splitD (p := ((n + k : Nat) : Int) < 832) (fun h1 => ?_) (fun h1 => ?_)
    · refine L_yes rfl rfl rfl (decide_eq_true h1) ?_
      refine L_run (R_move rfl) rfl ?_
      refine L_yes rfl rfl rfl (decide_eq_true h1) ?_
      refine L_run (R_eql rfl rfl) rfl ?_
      refine L_yes rfl rfl rfl (decide_eq_true h1) ?_
      refine L_run (R_move rfl) rfl ?_
      refine L_splitD (p := (k : Int) = 0) (fun h2 => ?_) (fun h2 => ?_)
      · refine L_no rfl rfl rfl (decide_eq_true h2) rfl ?_
        refine L_no rfl rfl rfl (decide_eq_true h2) rfl ?_
        refine L_no rfl rfl rfl (decide_eq_true h2) rfl ?_
        refine L_yes rfl rfl rfl (decide_eq_true h1) ?_
        refine L_run (R_pickT rfl (decide_eq_true h2) rfl) rfl ?_
        refine L_run (R_pickT rfl (decide_eq_true h1) rfl) rfl ?_
        refine L_nil (N_then (C_condT rfl rfl (C_skip (N_then (C_block (C_seq (C_reg rfl ?_)))))))
        refine L_run (R_move rfl) rfl ?_
        refine L_run (R_add64 rfl rfl (by omega)) rfl ?_
        refine L_run (R_assign rfl) rfl ?_
        refine L_nil (N_then (C_reg rfl ?_))
        refine L_run (R_move rfl) rfl ?_
        refine L_run (R_add64 rfl rfl (by omega)) rfl ?_
        refine L_run (R_assign rfl) rfl ?_
        refine L_nil (N_in (N_then ?_))
        exact ⟨832 - (n + (k + 1)), by omega, _, (k + 1), Ac_frg ⟨(agr rfl (by first | rfl | (congr 1; omega) | (congr 1; simp; done) | (congr 1; simp only [IntKind.wrap_u64, IntKind.wrap_i64, IntKind.wrap_u8]; omega) | (congr 1 <;> omega))), (agr rfl (by first | rfl | (congr 1; omega) | (congr 1; simp; done) | (congr 1; simp only [IntKind.wrap_u64, IntKind.wrap_i64, IntKind.wrap_u8]; omega) | (congr 1 <;> omega))), trivial⟩, hB, (by omega), rfl⟩
      · refine L_yes rfl rfl rfl (decide_eq_false h2) ?_
        refine L_run (R_move rfl) rfl ?_
        refine L_yes rfl rfl rfl (decide_eq_false h2) ?_
        refine L_run (R_eqv (R_rem rfl rfl (by first | decide | omega)) (v' := .int .i64 (((n + k) % 208 : Nat) : Int)) (remN (k := 208))) rfl ?_
        refine L_yes rfl rfl rfl (decide_eq_false h2) ?_
        refine L_run (R_neq rfl rfl) rfl ?_
        refine L_yes rfl rfl rfl (decide_eq_true h1) ?_
        refine L_run (R_pickF rfl (decide_eq_false h2) rfl) rfl ?_
        refine L_run (R_pickT rfl (decide_eq_true h1) rfl) rfl ?_
        refine L_nil (N_then ?_)
        refine C_if rfl (fun h3 => ?_) (fun h3 => ?_)
        · refine C_skip (N_then (C_block (C_seq (C_reg rfl ?_))))
          refine L_run (R_move rfl) rfl ?_
          refine L_run (R_add64 rfl rfl (by omega)) rfl ?_
          refine L_run (R_assign rfl) rfl ?_
          refine L_nil (N_then (C_reg rfl ?_))
          refine L_run (R_move rfl) rfl ?_
          refine L_run (R_add64 rfl rfl (by omega)) rfl ?_
          refine L_run (R_assign rfl) rfl ?_
          refine L_nil (N_in (N_then ?_))
          exact ⟨832 - (n + (k + 1)), by omega, _, (k + 1), Ac_frg ⟨(agr rfl (by first | rfl | (congr 1; omega) | (congr 1; simp; done) | (congr 1; simp only [IntKind.wrap_u64, IntKind.wrap_i64, IntKind.wrap_u8]; omega) | (congr 1 <;> omega))), (agr rfl (by first | rfl | (congr 1; omega) | (congr 1; simp; done) | (congr 1; simp only [IntKind.wrap_u64, IntKind.wrap_i64, IntKind.wrap_u8]; omega) | (congr 1 <;> omega))), trivial⟩, hB, (by omega), rfl⟩
        · refine C_exit (X_then (X_then (X_hit (N_then (C_seq (C_reg rfl ?_))))))
          refine L_run (R_move rfl) rfl ?_
          refine L_run (R_assign rfl) rfl ?_
          refine L_nil (N_then (C_ret ?_))
          refine ret1 Tryd.results52 rfl ?_
          first
            | (exfalso; omega)
            | (refine ⟨hB, congrArg (Value.int .i64) ?_⟩
               unfold leftN
               split <;> omega)
    · refine L_no rfl rfl rfl (decide_eq_false h1) rfl ?_
      refine L_no rfl rfl rfl (decide_eq_false h1) rfl ?_
      refine L_no rfl rfl rfl (decide_eq_false h1) rfl ?_
      refine L_noU rfl rfl rfl rfl ?_
      refine L_noU rfl rfl rfl rfl ?_
      refine L_noU rfl rfl rfl rfl ?_
      refine L_no rfl rfl rfl (decide_eq_false h1) rfl ?_
      refine L_run (R_pickF rfl (decide_eq_false h1) rfl) rfl ?_
      refine L_nil (N_then (C_condF rfl rfl (C_exit (X_then (X_then (X_hit (N_then (C_seq (C_reg rfl ?_)))))))))
      refine L_run (R_move rfl) rfl ?_
      refine L_run (R_assign rfl) rfl ?_
      refine L_nil (N_then (C_ret ?_))
      refine ret1 Tryd.results52 rfl ?_
      first
        | (exfalso; omega)
        | (refine ⟨hB, congrArg (Value.int .i64) ?_⟩
           unfold leftN
           split <;> omega)

theorem begin7 {w : World} {n : Nat} (hn : n ≤ 832) :
    Runs Tryd.prog 29 #[.int .i64 (n : Int)] w (fun v w' => w.grownBy w' none ∧ v = .int .i64 ((beginN n : Nat) : Int)) := by
  have hB := gb_refl w none
  refine enter Tryd.func29 Tryd.ntmps29 rfl rfl ?_
  refine C_seq (C_reg rfl ?_)
  refine L_run (R_assign rfl) rfl ?_
  refine L_nil (N_then (C_seq (C_reg rfl ?_)))
  refine L_run (R_move rfl) rfl ?_
  refine L_call rfl cb39 (near7 (n := n)) rfl ?_
  rintro _ w1 ⟨hs1, rfl⟩
  replace hB := gb_tr hB hs1
  refine L_run (R_assign rfl) rfl ?_
  refine L_nil (N_then (C_seq (C_reg rfl ?_)))
  refine L_run (R_move rfl) rfl ?_
  refine L_call rfl cb40 (where7 (n := (min n 832)) (by first | omega | (simp; done) | (simp; omega))) rfl ?_
  rintro _ w2 ⟨hs2, rfl⟩
  replace hB := gb_tr hB hs2
  refine L_run (R_move rfl) rfl ?_
  refine L_run (R_extract rfl rfl) rfl ?_
  refine L_run (R_extract rfl rfl) rfl ?_
  refine L_run (R_assign rfl) rfl ?_
  refine L_run (R_assign rfl) rfl ?_
  refine L_nil (N_then (C_seq (C_block ?_)))
  refine C_loop (fun m_ a_ w_ => ∃ (σ_ : Nat → Value) (j : Nat), a_ = Ac 27 σ_ [] [(0, .int .i64 ((n + j : Nat) : Int)), (4, .int .i64 ((n % 52 + j : Nat) : Int))] ∧ w.grownBy w_ none ∧ (n % 52 + j ≤ 52 ∧ n + j ≤ 832 ∧ (j = 0 ∨ 41 < n % 52)) ∧ 832 - (n + j) = m_) (832 - (n + 0)) ?_ ?_
  · exact ⟨_, 0, Ac_frg ⟨(agr rfl (by first | rfl | (congr 1; omega) | (congr 1; simp; done) | (congr 1; simp only [IntKind.wrap_u64, IntKind.wrap_i64, IntKind.wrap_u8]; omega) | (congr 1 <;> omega))), (agr rfl (by rw [Nat.min_eq_left hn]; rfl)), trivial⟩, hB, (by omega), rfl⟩
  · clear hB
    rintro m_ a_ w3 ⟨σ_, j, rfl, hB, hj, rfl⟩
    refine C_seq (C_seq (C_reg rfl ?_))
    refine L_run (R_move rfl) rfl ?_
    refine L_run (R_lss rfl rfl) rfl ?_
    refine L_run (R_move rfl) rfl ?_
    refine L_splitD (p := ((n + j : Nat) : Int) < 832) (fun h1 => ?_) (fun h1 => ?_)
    · refine L_yes rfl rfl rfl (decide_eq_true h1) ?_
      refine L_run (R_move rfl) rfl ?_
      refine L_yes rfl rfl rfl (decide_eq_true h1) ?_
      refine L_run (R_gtr rfl rfl) rfl ?_
      refine L_run (R_pickT rfl (decide_eq_true h1) rfl) rfl ?_
      refine L_run (R_move rfl) rfl ?_
      refine L_splitD (p := 41 < ((n % 52 + j : Nat) : Int)) (fun h2 => ?_) (fun h2 => ?_)
      · refine L_yes rfl rfl rfl (decide_eq_true h2) ?_
        refine L_run (R_move rfl) rfl ?_
        refine L_yes rfl rfl rfl (decide_eq_true h2) ?_
        refine L_run (R_lss rfl rfl) rfl ?_
        refine L_run (R_pickT rfl (decide_eq_true h2) rfl) rfl ?_
        refine L_nil (N_then ?_)
        refine C_if rfl (fun h3 => ?_) (fun h3 => ?_)
        · refine C_skip (N_then (C_block (C_seq (C_reg rfl ?_))))
          refine L_run (R_move rfl) rfl ?_
          refine L_run (R_add64 rfl rfl (by omega)) rfl ?_
          refine L_run (R_assign rfl) rfl ?_
          refine L_nil (N_then (C_reg rfl ?_))
          refine L_run (R_move rfl) rfl ?_
          refine L_run (R_add64 rfl rfl (by omega)) rfl ?_
          refine L_run (R_assign rfl) rfl ?_
          refine L_nil (N_in (N_then ?_))
          exact ⟨832 - (n + (j + 1)), by omega, _, (j + 1), Ac_frg ⟨(agr rfl (by first | rfl | (congr 1; omega) | (congr 1; simp; done) | (congr 1; simp only [IntKind.wrap_u64, IntKind.wrap_i64, IntKind.wrap_u8]; omega) | (congr 1 <;> omega))), (agr rfl (by first | rfl | (congr 1; omega) | (congr 1; simp; done) | (congr 1; simp only [IntKind.wrap_u64, IntKind.wrap_i64, IntKind.wrap_u8]; omega) | (congr 1 <;> omega))), trivial⟩, hB, (by omega), rfl⟩
        · refine C_exit (X_then (X_then (X_hit (N_then (C_seq (C_reg rfl ?_))))))
          refine L_run (R_move rfl) rfl ?_
          refine L_run (R_assign rfl) rfl ?_
          refine L_nil (N_then (C_ret ?_))
          refine ret1 Tryd.results29 rfl ?_
          first
            | (exfalso; omega)
            | (refine ⟨hB, congrArg (Value.int .i64) ?_⟩
               unfold beginN
               split <;> omega)
      · refine L_no rfl rfl rfl (decide_eq_false h2) rfl ?_
        refine L_no rfl rfl rfl (decide_eq_false h2) rfl ?_
        refine L_run (R_pickF rfl (decide_eq_false h2) rfl) rfl ?_
        refine L_nil (N_then (C_condF rfl rfl (C_exit (X_then (X_then (X_hit (N_then (C_seq (C_reg rfl ?_)))))))))
        refine L_run (R_move rfl) rfl ?_
        refine L_run (R_assign rfl) rfl ?_
        refine L_nil (N_then (C_ret ?_))
        refine ret1 Tryd.results29 rfl ?_
        first
          | (exfalso; omega)
          | (refine ⟨hB, congrArg (Value.int .i64) ?_⟩
             unfold beginN
             split <;> omega)
    · refine L_no rfl rfl rfl (decide_eq_false h1) rfl ?_
      refine L_no rfl rfl rfl (decide_eq_false h1) rfl ?_
      refine L_run (R_pickF rfl (decide_eq_false h1) rfl) rfl ?_
      refine L_run (R_move rfl) rfl ?_
      refine L_no rfl rfl rfl rfl rfl ?_
      refine L_no rfl rfl rfl rfl rfl ?_
      refine L_run (R_pickF rfl rfl rfl) rfl ?_
      refine L_nil (N_then (C_condF rfl rfl (C_exit (X_then (X_then (X_hit (N_then (C_seq (C_reg rfl ?_)))))))))
      refine L_run (R_move rfl) rfl ?_
      refine L_run (R_assign rfl) rfl ?_
      refine L_nil (N_then (C_ret ?_))
      refine ret1 Tryd.results29 rfl ?_
      first
        | (exfalso; omega)
        | (refine ⟨hB, congrArg (Value.int .i64) ?_⟩
           unfold beginN
           split <;> omega)

theorem touch7 {w : World} {a b : Nat} :
    Runs Tryd.prog 43 #[.int .i64 (a : Int), .int .i64 (b : Int)] w (fun v w' => w.grownBy w' none ∧ v = .tuple #[.int .i64 (((touchN (min a 832) (min b 832)).1 : Nat) : Int), .int .i64 (((touchN (min a 832) (min b 832)).2 : Nat) : Int)]) := by
  have hB := gb_refl w none
  refine enter Tryd.func43 Tryd.ntmps43 rfl rfl ?_
  refine C_seq (C_reg rfl ?_)
  refine L_run (R_assign rfl) rfl ?_
  refine L_run (R_assign rfl) rfl ?_
  refine L_nil (N_then (C_seq (C_reg rfl ?_)))
  refine L_run (R_assign rfl) rfl ?_
  refine L_nil (N_then (C_seq (C_reg rfl ?_)))
  refine L_run (R_assign rfl) rfl ?_
  refine L_nil (N_then (C_seq (C_seq (C_reg rfl ?_))))
  refine L_run (R_move rfl) rfl ?_
  refine L_call rfl cb39 (near7 (n := a)) rfl ?_
  rintro _ w1 ⟨hs1, rfl⟩
  replace hB := gb_tr hB hs1
  refine L_run (R_assign rfl) rfl ?_
  refine L_nil (N_then (C_block ?_))
  refine C_loop (fun m_ a_ w_ => ∃ (σ_ : Nat → Value) (p : Int) (q : Int) (i : Nat), a_ = Ac 28 σ_ [] [(1, .int .i64 (b : Int)), (6, .int .i64 p), (7, .int .i64 q), (8, .int .i64 (i : Int))] ∧ w.grownBy w_ none ∧ (i ≤ 832) ∧ ((i = min a 832 ∧ p = -1) ∨ (min a 832 < i ∧ i ≤ min b 832 ∧ p = ((min a 832 / 52 : Nat) : Int) ∧ q = (((i - 1) / 52 : Nat) : Int))) ∧ 832 - i = m_) (832 - (min a 832)) ?_ ?_
  · exact ⟨_, (-1), (-1), (min a 832), Ac_frg ⟨rfl, rfl, rfl, (agr rfl (by first | rfl | (congr 1; omega) | (congr 1; simp; done) | (congr 1; simp only [IntKind.wrap_u64, IntKind.wrap_i64, IntKind.wrap_u8]; omega) | (congr 1 <;> omega))), trivial⟩, hB, (by omega), (by omega), rfl⟩
  · clear hB
    rintro m_ a_ w2 ⟨σ_, p, q, i, rfl, hB, hi, hp, rfl⟩
    refine C_seq (C_seq (C_reg rfl ?_))
    refine L_run (R_move rfl) rfl ?_
    refine L_run (R_move rfl) rfl ?_
    refine L_call rfl cb39 (near7 (n := b)) rfl ?_
    rintro _ w3 ⟨hs2, rfl⟩
    replace hB := gb_tr hB hs2
    refine L_run (R_lss rfl rfl) rfl ?_
    refine L_nil (N_then ?_)
    refine C_if rfl (fun h1 => ?_) (fun h1 => ?_)
    · refine C_skip (N_then (C_seq (C_block (C_seq (C_seq (C_reg rfl ?_))))))
      refine L_run (R_move rfl) rfl ?_
      refine L_run (R_lss rfl rfl) rfl ?_
      refine L_nil (N_then ?_)
      refine C_if rfl (fun h2 => ?_) (fun h2 => ?_)
      · refine C_reg rfl ?_
        refine L_run (R_move rfl) rfl ?_
        refine L_run (R_eqv (R_quo rfl rfl (by first | decide | omega)) (v' := .int .i64 ((i / 52 : Nat) : Int)) (quoN (k := 52) (by omega))) rfl ?_
        refine L_run (R_assign rfl) rfl ?_
        refine L_nil (N_then (C_reg rfl ?_))
        refine L_run (R_move rfl) rfl ?_
        refine L_run (R_eqv (R_quo rfl rfl (by first | decide | omega)) (v' := .int .i64 ((i / 52 : Nat) : Int)) (quoN (k := 52) (by omega))) rfl ?_
        refine L_run (R_assign rfl) rfl ?_
        refine L_nil (N_in (N_then (C_reg rfl ?_)))
        refine L_run (R_move rfl) rfl ?_
        refine L_run (R_add64 rfl rfl (by omega)) rfl ?_
        refine L_run (R_assign rfl) rfl ?_
        refine L_nil (N_then ?_)
        exact ⟨832 - (i + 1), by omega, _, ((i / 52 : Nat) : Int), ((i / 52 : Nat) : Int), (i + 1), Ac_frg ⟨rfl, rfl, rfl, (agr rfl (by first | rfl | (congr 1; omega) | (congr 1; simp; done) | (congr 1; simp only [IntKind.wrap_u64, IntKind.wrap_i64, IntKind.wrap_u8]; omega) | (congr 1 <;> omega))), trivial⟩, hB, (by omega), (by omega), rfl⟩
      · refine C_skip (N_then (C_reg rfl ?_))
        refine L_run (R_move rfl) rfl ?_
        refine L_run (R_eqv (R_quo rfl rfl (by first | decide | omega)) (v' := .int .i64 ((i / 52 : Nat) : Int)) (quoN (k := 52) (by omega))) rfl ?_
        refine L_run (R_assign rfl) rfl ?_
        refine L_nil (N_in (N_then (C_reg rfl ?_)))
        refine L_run (R_move rfl) rfl ?_
        refine L_run (R_add64 rfl rfl (by omega)) rfl ?_
        refine L_run (R_assign rfl) rfl ?_
        refine L_nil (N_then ?_)
        exact ⟨832 - (i + 1), by omega, _, p, ((i / 52 : Nat) : Int), (i + 1), Ac_frg ⟨rfl, rfl, rfl, (agr rfl (by first | rfl | (congr 1; omega) | (congr 1; simp; done) | (congr 1; simp only [IntKind.wrap_u64, IntKind.wrap_i64, IntKind.wrap_u8]; omega) | (congr 1 <;> omega))), trivial⟩, hB, (by omega), (by omega), rfl⟩
    · refine C_exit (X_then (X_then (X_hit (N_then (C_seq (C_seq (C_reg rfl ?_)))))))
      refine L_run (R_move rfl) rfl ?_
      refine L_run (R_lss rfl rfl) rfl ?_
      refine L_nil (N_then ?_)
      refine C_if rfl (fun h3 => ?_) (fun h3 => ?_)
      · refine C_seq (C_reg rfl ?_)
        refine L_run (R_assign rfl) rfl ?_
        refine L_run (R_assign rfl) rfl ?_
        refine L_nil (N_then (C_ret (R_then ?_)))
        refine ret2 Tryd.results43 rfl rfl ?_
        first
          | (exfalso; omega)
          | (refine ⟨hB, ?_⟩
             unfold touchN
             first | (rw [if_neg (by omega)]; rfl) | (rw [if_pos (by omega)]; have e_ : i = min b 832 := (by omega); have e1_ : p = ((min a 832 / 52 : Nat) : Int) := (by omega); have e2_ : q + 1 = (((min b 832 - 1) / 52 + 1 : Nat) : Int) := (by omega); rw [e1_, e2_]))
      · refine C_skip (N_then (C_seq (C_reg rfl ?_)))
        refine L_run (R_move rfl) rfl ?_
        refine L_run (R_move rfl) rfl ?_
        refine L_run (R_add64 rfl rfl (by omega)) rfl ?_
        refine L_run (R_assign rfl) rfl ?_
        refine L_run (R_assign rfl) rfl ?_
        refine L_nil (N_then (C_ret ?_))
        refine ret2 Tryd.results43 rfl rfl ?_
        first
          | (exfalso; omega)
          | (refine ⟨hB, ?_⟩
             unfold touchN
             first | (rw [if_neg (by omega)]; rfl) | (rw [if_pos (by omega)]; have e_ : i = min b 832 := (by omega); have e1_ : p = ((min a 832 / 52 : Nat) : Int) := (by omega); have e2_ : q + 1 = (((min b 832 - 1) / 52 + 1 : Nat) : Int) := (by omega); rw [e1_, e2_]))

end Go.Proofs.YtbpjdcpfphnccaaDoor
