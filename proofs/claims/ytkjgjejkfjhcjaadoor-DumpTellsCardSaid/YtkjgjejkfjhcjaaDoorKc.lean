import Derived.Test.YtkjgjejkfjhcjaaDoorKb
/-
  What the law's proof stands on, part 3.
-/
namespace Go.Proofs.YtkjgjejkfjhcjaaDoor
open Go.RowKit Gw Pl
set_option linter.unusedVariables false
set_option linter.unusedSimpArgs false
theorem agg134 : aggB Tryd.prog 134 2 = true := by kernel_rfl
theorem agg33 : aggB Tryd.prog 33 7 = true := by kernel_rfl
theorem agg36 : aggB Tryd.prog 36 5 = true := by kernel_rfl
theorem cb10 : callB Tryd.prog 10 = true := by kernel_rfl
theorem cb107 : callB Tryd.prog 107 = true := by kernel_rfl
theorem cb108 : callB Tryd.prog 108 = true := by kernel_rfl
theorem cb11 : callB Tryd.prog 11 = true := by kernel_rfl
theorem cb12 : callB Tryd.prog 12 = true := by kernel_rfl
theorem cb13 : callB Tryd.prog 13 = true := by kernel_rfl
theorem cb6 : callB Tryd.prog 6 = true := by kernel_rfl
theorem cb60 : callB Tryd.prog 60 = true := by kernel_rfl
theorem cb61 : callB Tryd.prog 61 = true := by kernel_rfl
theorem cb84 : callB Tryd.prog 84 = true := by kernel_rfl
theorem cb95 : callB Tryd.prog 95 = true := by kernel_rfl
theorem eqg134 : Tryd.prog.eqGuardType Tryd.prog.depth 134 = false := by kernel_rfl
theorem scl4 : sclB Tryd.prog 4 = true := by kernel_rfl
theorem sih134 : Tryd.prog.stoodInHeld 134 = false := by kernel_rfl
theorem slc79 : slcB Tryd.prog 79 4 1 1 = true := by kernel_rfl
theorem sz134 : szB Tryd.prog 134 2 = true := by kernel_rfl
theorem und134 : Tryd.prog.underlying 134 = some (.struct #[⟨ "Sector", 3, 0, false, "", "", 0⟩, ⟨ "Off", 3, 1, false, "", "", 8⟩]) := by kernel_rfl
theorem zer134 : (Tryd.prog.info? 134).bind (·.zero) = some (.agg #[.int .i64 0, .int .i64 0]) := by kernel_rfl
theorem quoN {n k : Nat} (hk : n < 9223372036854775808) : Value.int .i64 (IntKind.i64.wrap (Int.tdiv (n : Int) (k : Int))) = .int .i64 ((n / k : Nat) : Int) := by
  have h1 : Int.tdiv (n : Int) (k : Int) = ((n / k : Nat) : Int) := by rw [Int.tdiv_eq_ediv_of_nonneg (by omega)]; rfl
  have h2 : n / k ≤ n := Nat.div_le_self _ _
  rw [h1, IntKind.wrap_i64]
  refine congrArg (Value.int .i64) ?_
  generalize n / k = q at *
  omega
theorem remN {n k : Nat} : Value.int .i64 (Int.tmod (n : Int) (k : Int)) = .int .i64 ((n % k : Nat) : Int) := rfl
theorem near_ok {w : World} {n m : Nat} :
    Runs Tryd.prog 107 #[.int .i64 (n : Int), .int .i64 (m : Int)] w (fun v w' => w.grownBy w' none ∧ v = .int .i64 ((min n m : Nat) : Int)) := by
 have hB := gb_refl w none
 refine enter Tryd.func107 Tryd.ntmps107 rfl rfl ?_
 refine C_seq (C_reg rfl ?_)
 refine Las rfl rfl (L_nil (N_then (C_seq (C_reg rfl (Lmv rfl rfl (Lmv rfl rfl (L_run (R_min2 rfl rfl) rfl ?_)))))))
 refine L_run (R_eqv (R_max2 rfl rfl) (v' := .int .i64 ((min n m : Nat) : Int)) (congrArg _ (by omega))) rfl ?_
 refine Las rfl rfl (L_nil (N_then (C_ret ?_)))
 refine ret1 Tryd.results107 rfl ?_
 first
   | (exfalso; omega)
   | (exact ⟨hB, rfl⟩)
theorem where_ok {w : World} {n : Nat} (hn : n ≤ 832) :
    Runs Tryd.prog 95 #[.int .i64 (n : Int)] w (fun v w' => w.grownBy w' none ∧ v = .agg #[.int .i64 ((n / 52 : Nat) : Int), .int .i64 ((n % 52 : Nat) : Int)]) := by
 have hB := gb_refl w none
 refine enter Tryd.func95 Tryd.ntmps95 rfl rfl ?_
 refine C_seq (C_reg rfl ?_)
 refine L_alloc (cs := [.int .i64 0, .int .i64 0]) zer134 rfl rfl ?_
 intro g1 w1 eg1 hb1 hs1 hz1
 have ge1 : w.heap.size ≤ g1 := eg_ge hB eg1
 replace hB := gb_tr hB hs1
 refine L_nil (N_then (C_seq (C_reg rfl (Lmv rfl rfl ?_))))
 refine L_call rfl cb107 (near_ok (n := n) (m := 832)) rfl ?_
 rintro _ w2 ⟨hs2, rfl⟩
 replace hB := gb_tr hB hs2; replace hb1 := hb1.gb hs2
 refine L_run (R_eqv (R_assign rfl) (v' := .int .i64 (n : Int)) (congrArg _ (by omega))) rfl ?_
 refine L_nil (N_then (C_seq (C_reg rfl (Lmv rfl rfl ?_))))
 refine L_run (R_eqv (R_quo rfl rfl (by first | decide | omega)) (v' := .int .i64 ((n / 52 : Nat) : Int)) (quoN (k := 52) (by omega))) rfl ?_
 refine Lmv rfl rfl ?_
 refine L_run (R_eqv (R_rem rfl rfl (by first | decide | omega)) (v' := .int .i64 ((n % 52 : Nat) : Int)) (remN (k := 52))) rfl ?_
 refine L_run (R_build (pv := [(0, .int .i64 ((n / 52 : Nat) : Int)), (1, .int .i64 ((n % 52 : Nat) : Int))]) (cs := [.int .i64 ((n / 52 : Nat) : Int), .int .i64 ((n % 52 : Nat) : Int)]) rfl (by kernel_rfl)) rfl ?_
 refine L_stA (vs := [.int .i64 ((n / 52 : Nat) : Int), .int .i64 ((n % 52 : Nat) : Int)]) rfl rfl rfl sz134 rfl hb1 rfl ?_
 intro w3 hb2 hs3 hz2
 replace hB := gb_trg hB hs3 ge1
 refine L_nil (N_then (C_ret ?_))
 refine retC (vs := [.int .i64 ((n / 52 : Nat) : Int), .int .i64 ((n % 52 : Nat) : Int)]) Tryd.results95 rfl agg134 (At.pre (hb2.at_ 0) rfl) rfl  ?_
 first
   | (exfalso; omega)
   | (exact ⟨hB, rfl⟩)
theorem left_ok {w : World} {n : Nat} (hn : n ≤ 832) :
    Runs Tryd.prog 92 #[.int .i64 (n : Int)] w (fun v w' => w.grownBy w' none ∧ v = .int .i64 ((leftN n : Nat) : Int)) := by
 have hB := gb_refl w none
 refine enter Tryd.func92 Tryd.ntmps92 rfl rfl ?_
 refine C_seq (C_reg rfl ?_)
 refine Las rfl rfl (L_nil (N_then (C_seq (C_reg rfl (Lmv rfl rfl ?_)))))
 refine L_call rfl cb107 (near_ok (n := n) (m := 832)) rfl ?_
 rintro _ w1 ⟨hs1, rfl⟩
 replace hB := gb_tr hB hs1
 refine L_run (R_eqv (R_assign rfl) (v' := .int .i64 (n : Int)) (congrArg _ (by omega))) rfl ?_
 refine L_nil (N_then (C_seq (C_seq (C_reg rfl (Lmv rfl rfl ?_)))))
 refine L_call rfl cb95 (where_ok (n := n) (by first | omega | (simp; done) | (simp; omega))) rfl ?_
 rintro _ w2 ⟨hs2, rfl⟩
 replace hB := gb_tr hB hs2
 refine L_run (R_build (pv := [(0, .int .i64 16)]) (cs := [.int .i64 16, .int .i64 0]) rfl (by kernel_rfl)) rfl ?_
 refine L_run (R_eqlA rfl rfl eqg134 (eqs_struct und134 sih134 (eqf_cons (by decide) scl3 rfl rfl (eqs_int int3) (eqf_cons (by decide) scl3 rfl rfl (eqs_int int3) eqf_nil)))) rfl ?_
 refine L_nil (N_then (C_if rfl (fun h1 => ?_) (fun h1 => ?_)))
 ·refine C_seq (C_reg rfl ?_)
  refine Las rfl rfl (L_nil (N_then (C_ret (R_then ?_))))
  refine ret1 Tryd.results92 rfl ?_
  first
    | (exfalso; omega)
    | (refine ⟨hB, congrArg (Value.int .i64) ?_⟩
       try simp only [and_true] at *
       unfold leftN
       first | (rw [if_pos (by omega)]; rfl) | (rw [if_neg (by omega)]; omega))
 ·refine C_skip (N_then (C_seq (C_reg rfl ?_)))
  refine Lmv rfl rfl ?_
  refine L_run (R_eqv (R_rem rfl rfl (by first | decide | omega)) (v' := .int .i64 ((n % 208 : Nat) : Int)) (remN (k := 208))) rfl ?_
  refine L_run (R_sub64 rfl rfl (by omega)) rfl ?_
  refine Las rfl rfl (L_nil (N_then (C_ret ?_)))
  refine ret1 Tryd.results92 rfl ?_
  first
    | (exfalso; omega)
    | (refine ⟨hB, congrArg (Value.int .i64) ?_⟩
       try simp only [and_true] at *
       unfold leftN
       first | (rw [if_pos (by omega)]; rfl) | (rw [if_neg (by omega)]; omega))
theorem begin_ok {w : World} {n : Nat} (hn : n ≤ 832) :
    Runs Tryd.prog 89 #[.int .i64 (n : Int)] w (fun v w' => w.grownBy w' none ∧ v = .int .i64 ((beginN n : Nat) : Int)) := by
 have hB := gb_refl w none
 refine enter Tryd.func89 Tryd.ntmps89 rfl rfl ?_
 refine C_seq (C_reg rfl ?_)
 refine Las rfl rfl (L_nil (N_then (C_seq (C_reg rfl (Lmv rfl rfl ?_)))))
 refine L_call rfl cb107 (near_ok (n := n) (m := 832)) rfl ?_
 rintro _ w1 ⟨hs1, rfl⟩
 replace hB := gb_tr hB hs1
 refine L_run (R_eqv (R_assign rfl) (v' := .int .i64 (n : Int)) (congrArg _ (by omega))) rfl ?_
 refine L_nil (N_then (C_seq (C_seq (C_reg rfl (Lmv rfl rfl ?_)))))
 refine L_call rfl cb95 (where_ok (n := n) (by first | omega | (simp; done) | (simp; omega))) rfl ?_
 rintro _ w2 ⟨hs2, rfl⟩
 replace hB := gb_tr hB hs2
 refine L_run (R_field1 rfl Tryd.underlying134 rfl scl3 rfl) rfl ?_
 refine L_run (R_sub64 rfl rfl (by omega)) rfl ?_
 refine Las rfl rfl (L_nil (N_then (C_seq (C_reg rfl (Lmv rfl rfl (L_run (R_lss rfl rfl) rfl (L_nil (N_then (C_if rfl (fun h1 => ?_) (fun h1 => ?_))))))))))
 ·refine C_seq (C_reg rfl ?_)
  refine Lmv rfl rfl (Lmv rfl rfl ?_)
  refine L_run (R_add64 rfl rfl (by omega)) rfl ?_
  refine Las rfl rfl (L_nil (N_then (C_ret (R_then ?_))))
  refine ret1 Tryd.results89 rfl ?_
  first
    | (exfalso; omega)
    | (refine ⟨hB, congrArg (Value.int .i64) ?_⟩
       unfold beginN
       first | (rw [if_pos (by omega)]; omega) | (rw [if_neg (by omega)]))
 ·refine C_skip (N_then (C_seq (C_reg rfl ?_)))
  refine Lmv rfl rfl (Las rfl rfl (L_nil (N_then (C_ret ?_))))
  refine ret1 Tryd.results89 rfl ?_
  first
    | (exfalso; omega)
    | (refine ⟨hB, congrArg (Value.int .i64) ?_⟩
       unfold beginN
       first | (rw [if_pos (by omega)]; omega) | (rw [if_neg (by omega)]))
theorem touch_ok {w : World} {a b : Nat} :
    Runs Tryd.prog 108 #[.int .i64 (a : Int), .int .i64 (b : Int)] w (fun v w' => w.grownBy w' none ∧ v = .tuple #[.int .i64 (((touchN (min a 832) (min b 832)).1 : Nat) : Int), .int .i64 (((touchN (min a 832) (min b 832)).2 : Nat) : Int)]) := by
 have hB := gb_refl w none
 refine enter Tryd.func108 Tryd.ntmps108 rfl rfl ?_
 refine C_seq (C_reg rfl ?_)
 refine Las rfl rfl (Las rfl rfl (L_nil (N_then (C_seq (C_reg rfl (Lmv rfl rfl ?_))))))
 refine L_call rfl cb107 (near_ok (n := a) (m := 832)) rfl ?_
 rintro _ w1 ⟨hs1, rfl⟩
 replace hB := gb_tr hB hs1
 refine Lmv rfl rfl ?_
 refine L_call rfl cb107 (near_ok (n := b) (m := 832)) rfl ?_
 rintro _ w2 ⟨hs2, rfl⟩
 replace hB := gb_tr hB hs2
 refine Las rfl rfl (Las rfl rfl (L_nil (N_then (C_seq (C_seq (C_reg rfl (Lmv rfl rfl (Lmv rfl rfl (L_run (R_geq rfl rfl) rfl (L_nil (N_then (C_if rfl (fun h1 => ?_) (fun h1 => ?_)))))))))))))
 ·refine C_seq (C_reg rfl ?_)
  refine Las rfl rfl (Las rfl rfl (L_nil (N_then (C_ret (R_then ?_)))))
  refine ret2 Tryd.results108 rfl rfl ?_
  first
    | (exfalso; omega)
    | (refine ⟨hB, ?_⟩
       unfold touchN
       first | (rw [if_neg (by omega)]; rfl) | (rw [if_pos (by omega)]))
 ·refine C_skip (N_then (C_seq (C_reg rfl ?_)))
  refine Lmv rfl rfl ?_
  refine L_call rfl cb95 (where_ok (n := (min a 832)) (by first | omega | (simp; done) | (simp; omega))) rfl ?_
  rintro _ w3 ⟨hs3, rfl⟩
  replace hB := gb_tr hB hs3
  refine L_run (R_field1 rfl Tryd.underlying134 rfl scl3 rfl) rfl (Lmv rfl rfl ?_)
  refine L_run (R_eqv (R_sub64 rfl rfl (by omega)) (v' := .int .i64 ((min b 832 - 1 : Nat) : Int)) (congrArg _ (by omega))) rfl ?_
  refine L_call rfl cb95 (where_ok (n := (min b 832 - 1)) (by first | omega | (simp; done) | (simp; omega))) rfl ?_
  rintro _ w4 ⟨hs4, rfl⟩
  replace hB := gb_tr hB hs4
  refine L_run (R_field1 rfl Tryd.underlying134 rfl scl3 rfl) rfl ?_
  refine L_run (R_eqv (R_add64 rfl rfl (by omega)) (v' := .int .i64 (((min b 832 - 1) / 52 + 1 : Nat) : Int)) (congrArg _ (by omega))) rfl ?_
  refine Las rfl rfl (Las rfl rfl (L_nil (N_then (C_ret ?_))))
  refine ret2 Tryd.results108 rfl rfl ?_
  first
    | (exfalso; omega)
    | (refine ⟨hB, ?_⟩
       unfold touchN
       first | (rw [if_neg (by omega)]; rfl) | (rw [if_pos (by omega)]))
theorem touch_le {a b : Nat} : (touchN (min a 832) (min b 832)).2 ≤ 16 ∧ (touchN (min a 832) (min b 832)).1 ≤ 16 := by
  unfold touchN
  split
  · exact ⟨by show (min b 832 - 1) / 52 + 1 ≤ 16; omega, by show min a 832 / 52 ≤ 16; omega⟩
  · exact ⟨by decide, by decide⟩
def encO (b : Bool) : List Value := [.bool b]
theorem EncO : Enc encO 1 := ⟨fun _ => rfl, fun _ => rfl⟩
theorem covN_false {ok : List Bool} {a b i : Nat} (h1 : (touchN a b).1 ≤ i) (h2 : i < (touchN a b).2) (h : ok.getD i false = false) : covN ok a b = false := by
  unfold covN
  rw [List.all_eq_false]
  exact ⟨i, by rw [List.mem_range']; exact ⟨i - (touchN a b).1, by omega, by omega⟩, by rw [h]; decide⟩
theorem covN_true {ok : List Bool} {a b i : Nat} (h2 : ¬ i < (touchN a b).2) (h : ∀ j, (touchN a b).1 ≤ j → j < i → ok.getD j false = true) : covN ok a b = true := by
  unfold covN
  rw [List.all_eq_true]
  intro x hx
  rw [List.mem_range'] at hx
  obtain ⟨y, hy, rfl⟩ := hx
  exact h _ (by omega) (by omega)
theorem getD_out {ok : List Bool} {i : Nat} (h : ok.length ≤ i) : ok.getD i false = false := by
  rw [List.getD_eq_getElem?_getD, List.getElem?_eq_none h]; rfl
theorem getD_in {ok : List Bool} {i : Nat} (h : i < ok.length) : ok.getD i false = ok[i] := by
  rw [List.getD_eq_getElem?_getD, List.getElem?_eq_getElem h]; rfl
theorem cov_step {ok : List Bool} {lo i : Nat} (h : ∀ j, lo ≤ j → j < i → ok.getD j false = true) (hi : i < ok.length) (hv : ok[i] = true) : ∀ j, lo ≤ j → j < i + 1 → ok.getD j false = true := by
  intro j h1 h2
  rcases Nat.lt_or_ge j i with h3 | h3
  · exact h j h1 h3
  · obtain rfl : j = i := by omega
    rw [getD_in hi]; exact hv
theorem near7 {w : World} {n : Nat} :
    Runs Tryd.prog 60 #[.int .i64 (n : Int)] w (fun v w' => w.grownBy w' none ∧ v = .int .i64 ((min n 832 : Nat) : Int)) := by
 have hB := gb_refl w none
 refine enter Tryd.func60 Tryd.ntmps60 rfl rfl ?_
 refine C_seq (C_reg rfl ?_)
 refine Las rfl rfl (L_nil (N_then (C_seq (C_seq (C_reg rfl (Lmv rfl rfl (L_run (R_lss rfl rfl) rfl (L_nil (N_then (C_if rfl (fun h1 => ?_) (fun h1 => ?_)))))))))))
 ·refine C_seq (C_reg rfl ?_)
  refine Las rfl rfl (L_nil (N_then (C_ret (R_then ?_))))
  refine ret1 Tryd.results60 rfl ?_
  first
    | (exfalso; omega)
    | (refine ⟨hB, congrArg (Value.int .i64) ?_⟩
       omega)
 ·refine C_skip (N_then (C_seq (C_seq (C_reg rfl ?_))))
  refine Lmv rfl rfl (L_run (R_gtr rfl rfl) rfl (L_nil (N_then (C_if rfl (fun h2 => ?_) (fun h2 => ?_)))))
  ·refine C_seq (C_reg rfl ?_)
   refine Las rfl rfl (L_nil (N_then (C_ret (R_then ?_))))
   refine ret1 Tryd.results60 rfl ?_
   first
     | (exfalso; omega)
     | (refine ⟨hB, congrArg (Value.int .i64) ?_⟩
        omega)
  ·refine C_skip (N_then (C_seq (C_reg rfl ?_)))
   refine Lmv rfl rfl (Las rfl rfl (L_nil (N_then (C_ret ?_))))
   refine ret1 Tryd.results60 rfl ?_
   first
     | (exfalso; omega)
     | (refine ⟨hB, congrArg (Value.int .i64) ?_⟩
        omega)
theorem where7 {w : World} {n : Nat} (hn : n ≤ 832) :
    Runs Tryd.prog 61 #[.int .i64 (n : Int)] w (fun v w' => w.grownBy w' none ∧ v = .tuple #[.int .i64 ((n / 52 : Nat) : Int), .int .i64 ((n % 52 : Nat) : Int)]) := by
 have hB := gb_refl w none
 refine enter Tryd.func61 Tryd.ntmps61 rfl rfl ?_
 refine C_seq (C_reg rfl ?_)
 refine Las rfl rfl (Las rfl rfl (L_nil (N_then (C_seq (C_reg rfl (Las rfl rfl (L_nil (N_then (C_seq (C_reg rfl (Las rfl rfl (L_nil (N_then (C_seq (C_seq (C_reg rfl (Las rfl rfl (L_nil (N_then (C_block ?_))))))))))))))))))))
 refine C_loop (fun m_ a_ w_ => ∃ (σ_ : Nat → Value) (a : Nat) (b : Nat) (i : Nat), a_ = Ac 21 σ_ [] [(0, .int .i64 (n : Int)), (4, .int .i64 (a : Int)), (5, .int .i64 (b : Int)), (6, .int .i64 (i : Int))] ∧ w.grownBy w_ none ∧ (52 * a + b = i) ∧ (b < 52) ∧ (i ≤ n) ∧ n - i = m_) (n - 0) ?_ ?_
 ·exact ⟨_, 0, 0, 0, Ac_frg ⟨rfl, (agx rfl), (agx rfl), (agx rfl), trivial⟩, hB, (by omega), (by omega), (by omega), rfl⟩
 ·clear hB
  rintro m_ a_ w1 ⟨σ_, a, b, i, rfl, hB, hab, hb, hi, rfl⟩
  refine C_seq (C_seq (C_reg rfl ?_))
  refine Lmv rfl rfl (Lmv rfl rfl ?_)
  refine L_call rfl cb60 (near7 (n := n)) rfl ?_
  rintro _ w2 ⟨hs1, rfl⟩
  replace hB := gb_tr hB hs1
  refine L_run (R_lss rfl rfl) rfl ?_
  refine L_nil (N_then (C_if rfl (fun h1 => ?_) (fun h1 => ?_)))
  ·refine C_skip (N_then (C_seq (C_block (C_seq (C_reg rfl ?_)))))
   refine Lmv rfl rfl ?_
   refine L_run (R_add64 rfl rfl (by omega)) rfl ?_
   refine Las rfl rfl (L_nil (N_then (C_seq (C_reg rfl (Lmv rfl rfl (L_run (R_eql rfl rfl) rfl (L_nil (N_then (C_if rfl (fun h2 => ?_) (fun h2 => ?_))))))))))
   ·refine C_seq (C_reg rfl ?_)
    refine Lmv rfl rfl ?_
    refine L_run (R_add64 rfl rfl (by omega)) rfl ?_
    refine Las rfl rfl (L_nil (N_then (C_reg rfl (Las rfl rfl ?_))))
    refine L_nil (N_in (N_then (C_reg rfl ?_)))
    refine Lmv rfl rfl ?_
    refine L_run (R_add64 rfl rfl (by omega)) rfl ?_
    refine Las rfl rfl (L_nil (N_then ?_))
    exact ⟨n - (i + 1), by omega, _, (a + 1), 0, (i + 1), Ac_frg ⟨rfl, (agx rfl), (agx rfl), (agx rfl), trivial⟩, hB, (by omega), (by omega), (by omega), rfl⟩
   ·refine C_skip (N_in (N_then (C_reg rfl ?_)))
    refine Lmv rfl rfl ?_
    refine L_run (R_add64 rfl rfl (by omega)) rfl ?_
    refine Las rfl rfl (L_nil (N_then ?_))
    exact ⟨n - (i + 1), by omega, _, a, (b + 1), (i + 1), Ac_frg ⟨rfl, rfl, (agx rfl), (agx rfl), trivial⟩, hB, (by omega), (by omega), (by omega), rfl⟩
  ·refine C_exit (X_then (X_then (X_hit (N_then (C_seq (C_reg rfl ?_))))))
   refine Lmv rfl rfl (Lmv rfl rfl (Las rfl rfl (Las rfl rfl (L_nil (N_then (C_ret ?_))))))
   refine ret2 Tryd.results61 rfl rfl ?_
   first
     | (exfalso; omega)
     | (obtain rfl : n = i := by omega
        exact ⟨hB, by rw [show n / 52 = a by omega, show n % 52 = b by omega]⟩)
theorem left7 {w : World} {n : Nat} (hn : n ≤ 832) :
    Runs Tryd.prog 64 #[.int .i64 (n : Int)] w (fun v w' => w.grownBy w' none ∧ v = .int .i64 ((leftN n : Nat) : Int)) := by
 have hB := gb_refl w none
 refine enter Tryd.func64 Tryd.ntmps64 rfl rfl ?_
 refine C_seq (C_reg rfl ?_)
 refine Las rfl rfl (L_nil (N_then (C_seq (C_reg rfl (Las rfl rfl (L_nil (N_then (C_seq (C_reg rfl (Lmv rfl rfl ?_))))))))))
 refine L_call rfl cb60 (near7 (n := n)) rfl ?_
 rintro _ w1 ⟨hs1, rfl⟩
 replace hB := gb_tr hB hs1
 refine Las rfl rfl (L_nil (N_then (C_seq (C_block ?_))))
 refine C_loop (fun m_ a_ w_ => ∃ (σ_ : Nat → Value) (k : Nat), a_ = Ac 22 σ_ [] [(0, .int .i64 ((n + k : Nat) : Int)), (3, .int .i64 (k : Int))] ∧ w.grownBy w_ none ∧ (k ≤ 208 - n % 208 ∧ n + k ≤ 832) ∧ 832 - (n + k) = m_) (832 - (n + 0)) ?_ ?_
 ·exact ⟨_, 0, Ac_frg ⟨(agx rfl), (agx rfl), trivial⟩, hB, (by omega), rfl⟩
 ·clear hB
  rintro m_ a_ w2 ⟨σ_, k, rfl, hB, hk, rfl⟩
  refine C_seq (C_seq (C_reg rfl ?_))
  refine Lmv rfl rfl (L_run (R_lss rfl rfl) rfl (Lmv rfl rfl ?_))
  refine L_splitD (p := ((n + k : Nat) : Int) < 832) (fun h1 => ?_) (fun h1 => ?_)
  ·refine L_yes rfl rfl rfl (decide_eq_true h1) (Lmv rfl rfl (L_yes rfl rfl rfl (decide_eq_true h1) (L_run (R_eql rfl rfl) rfl (L_yes rfl rfl rfl (decide_eq_true h1) (Lmv rfl rfl ?_)))))
   refine L_splitD (p := (k : Int) = 0) (fun h2 => ?_) (fun h2 => ?_)
   ·refine L_no rfl rfl rfl (decide_eq_true h2) rfl (L_no rfl rfl rfl (decide_eq_true h2) rfl (L_no rfl rfl rfl (decide_eq_true h2) rfl (L_yes rfl rfl rfl (decide_eq_true h1) (L_run (R_pickT rfl (decide_eq_true h2) rfl) rfl (L_run (R_pickT rfl (decide_eq_true h1) rfl) rfl (L_nil (N_then (C_condT rfl rfl (C_skip (N_then (C_block (C_seq (C_reg rfl (Lmv rfl rfl ?_))))))))))))))
    refine L_run (R_add64 rfl rfl (by omega)) rfl ?_
    refine Las rfl rfl (L_nil (N_then (C_reg rfl (Lmv rfl rfl ?_))))
    refine L_run (R_add64 rfl rfl (by omega)) rfl ?_
    refine Las rfl rfl ?_
    refine L_nil (N_in (N_then ?_))
    exact ⟨832 - (n + (k + 1)), by omega, _, (k + 1), Ac_frg ⟨(agx rfl), (agx rfl), trivial⟩, hB, (by omega), rfl⟩
   ·refine L_yes rfl rfl rfl (decide_eq_false h2) (Lmv rfl rfl (L_yes rfl rfl rfl (decide_eq_false h2) ?_))
    refine L_run (R_eqv (R_rem rfl rfl (by first | decide | omega)) (v' := .int .i64 (((n + k) % 208 : Nat) : Int)) (remN (k := 208))) rfl ?_
    refine L_yes rfl rfl rfl (decide_eq_false h2) (L_run (R_neq rfl rfl) rfl (L_yes rfl rfl rfl (decide_eq_true h1) (L_run (R_pickF rfl (decide_eq_false h2) rfl) rfl (L_run (R_pickT rfl (decide_eq_true h1) rfl) rfl (L_nil (N_then (C_if rfl (fun h3 => ?_) (fun h3 => ?_))))))))
    ·refine C_skip (N_then (C_block (C_seq (C_reg rfl ?_))))
     refine Lmv rfl rfl ?_
     refine L_run (R_add64 rfl rfl (by omega)) rfl ?_
     refine Las rfl rfl (L_nil (N_then (C_reg rfl (Lmv rfl rfl ?_))))
     refine L_run (R_add64 rfl rfl (by omega)) rfl ?_
     refine Las rfl rfl ?_
     refine L_nil (N_in (N_then ?_))
     exact ⟨832 - (n + (k + 1)), by omega, _, (k + 1), Ac_frg ⟨(agx rfl), (agx rfl), trivial⟩, hB, (by omega), rfl⟩
    ·refine C_exit (X_then (X_then (X_hit (N_then (C_seq (C_reg rfl ?_))))))
     refine Lmv rfl rfl (Las rfl rfl (L_nil (N_then (C_ret ?_))))
     refine ret1 Tryd.results64 rfl ?_
     first
       | (exfalso; omega)
       | (refine ⟨hB, congrArg (Value.int .i64) ?_⟩
          unfold leftN
          split <;> omega)
  ·refine L_no rfl rfl rfl (decide_eq_false h1) rfl (L_no rfl rfl rfl (decide_eq_false h1) rfl (L_no rfl rfl rfl (decide_eq_false h1) rfl ?_))
   refine L_noU rfl rfl rfl rfl ?_
   refine L_noU rfl rfl rfl rfl ?_
   refine L_noU rfl rfl rfl rfl ?_
   refine L_no rfl rfl rfl (decide_eq_false h1) rfl (L_run (R_pickF rfl (decide_eq_false h1) rfl) rfl (L_nil (N_then (C_condF rfl rfl (C_exit (X_then (X_then (X_hit (N_then (C_seq (C_reg rfl (Lmv rfl rfl (Las rfl rfl (L_nil (N_then (C_ret ?_))))))))))))))))
   refine ret1 Tryd.results64 rfl ?_
   first
     | (exfalso; omega)
     | (refine ⟨hB, congrArg (Value.int .i64) ?_⟩
        unfold leftN
        split <;> omega)
theorem begin7 {w : World} {n : Nat} (hn : n ≤ 832) :
    Runs Tryd.prog 40 #[.int .i64 (n : Int)] w (fun v w' => w.grownBy w' none ∧ v = .int .i64 ((beginN n : Nat) : Int)) := by
 have hB := gb_refl w none
 refine enter Tryd.func40 Tryd.ntmps40 rfl rfl ?_
 refine C_seq (C_reg rfl ?_)
 refine Las rfl rfl (L_nil (N_then (C_seq (C_reg rfl (Lmv rfl rfl ?_)))))
 refine L_call rfl cb60 (near7 (n := n)) rfl ?_
 rintro _ w1 ⟨hs1, rfl⟩
 replace hB := gb_tr hB hs1
 refine Las rfl rfl (L_nil (N_then (C_seq (C_reg rfl (Lmv rfl rfl ?_)))))
 refine L_call rfl cb61 (where7 (n := (min n 832)) (by first | omega | (simp; done) | (simp; omega))) rfl ?_
 rintro _ w2 ⟨hs2, rfl⟩
 replace hB := gb_tr hB hs2
 refine Lmv rfl rfl (L_run (R_extract rfl rfl) rfl (L_run (R_extract rfl rfl) rfl (Las rfl rfl (Las rfl rfl (L_nil (N_then (C_seq (C_block ?_))))))))
 refine C_loop (fun m_ a_ w_ => ∃ (σ_ : Nat → Value) (j : Nat), a_ = Ac 27 σ_ [] [(0, .int .i64 ((n + j : Nat) : Int)), (4, .int .i64 ((n % 52 + j : Nat) : Int))] ∧ w.grownBy w_ none ∧ (n % 52 + j ≤ 52 ∧ n + j ≤ 832 ∧ (j = 0 ∨ 41 < n % 52)) ∧ 832 - (n + j) = m_) (832 - (n + 0)) ?_ ?_
 ·exact ⟨_, 0, Ac_frg ⟨(agx rfl), (agr rfl (by rw [Nat.min_eq_left hn]; rfl)), trivial⟩, hB, (by omega), rfl⟩
 ·clear hB
  rintro m_ a_ w3 ⟨σ_, j, rfl, hB, hj, rfl⟩
  refine C_seq (C_seq (C_reg rfl ?_))
  refine Lmv rfl rfl (L_run (R_lss rfl rfl) rfl (Lmv rfl rfl ?_))
  refine L_splitD (p := ((n + j : Nat) : Int) < 832) (fun h1 => ?_) (fun h1 => ?_)
  ·refine L_yes rfl rfl rfl (decide_eq_true h1) (Lmv rfl rfl (L_yes rfl rfl rfl (decide_eq_true h1) (L_run (R_gtr rfl rfl) rfl (L_run (R_pickT rfl (decide_eq_true h1) rfl) rfl (Lmv rfl rfl ?_)))))
   refine L_splitD (p := 41 < ((n % 52 + j : Nat) : Int)) (fun h2 => ?_) (fun h2 => ?_)
   ·refine L_yes rfl rfl rfl (decide_eq_true h2) (Lmv rfl rfl (L_yes rfl rfl rfl (decide_eq_true h2) (L_run (R_lss rfl rfl) rfl (L_run (R_pickT rfl (decide_eq_true h2) rfl) rfl (L_nil (N_then (C_if rfl (fun h3 => ?_) (fun h3 => ?_))))))))
    ·refine C_skip (N_then (C_block (C_seq (C_reg rfl ?_))))
     refine Lmv rfl rfl ?_
     refine L_run (R_add64 rfl rfl (by omega)) rfl ?_
     refine Las rfl rfl (L_nil (N_then (C_reg rfl (Lmv rfl rfl ?_))))
     refine L_run (R_add64 rfl rfl (by omega)) rfl ?_
     refine Las rfl rfl ?_
     refine L_nil (N_in (N_then ?_))
     exact ⟨832 - (n + (j + 1)), by omega, _, (j + 1), Ac_frg ⟨(agx rfl), (agx rfl), trivial⟩, hB, (by omega), rfl⟩
    ·refine C_exit (X_then (X_then (X_hit (N_then (C_seq (C_reg rfl ?_))))))
     refine Lmv rfl rfl (Las rfl rfl (L_nil (N_then (C_ret ?_))))
     refine ret1 Tryd.results40 rfl ?_
     first
       | (exfalso; omega)
       | (refine ⟨hB, congrArg (Value.int .i64) ?_⟩
          unfold beginN
          split <;> omega)
   ·refine L_no rfl rfl rfl (decide_eq_false h2) rfl (L_no rfl rfl rfl (decide_eq_false h2) rfl (L_run (R_pickF rfl (decide_eq_false h2) rfl) rfl (L_nil (N_then (C_condF rfl rfl (C_exit (X_then (X_then (X_hit (N_then (C_seq (C_reg rfl (Lmv rfl rfl (Las rfl rfl (L_nil (N_then (C_ret ?_)))))))))))))))))
    refine ret1 Tryd.results40 rfl ?_
    first
      | (exfalso; omega)
      | (refine ⟨hB, congrArg (Value.int .i64) ?_⟩
         unfold beginN
         split <;> omega)
  ·refine L_no rfl rfl rfl (decide_eq_false h1) rfl (L_no rfl rfl rfl (decide_eq_false h1) rfl (L_run (R_pickF rfl (decide_eq_false h1) rfl) rfl (Lmv rfl rfl (L_no rfl rfl rfl rfl rfl (L_no rfl rfl rfl rfl rfl (L_run (R_pickF rfl rfl rfl) rfl (L_nil (N_then (C_condF rfl rfl (C_exit (X_then (X_then (X_hit (N_then (C_seq (C_reg rfl (Lmv rfl rfl (Las rfl rfl (L_nil (N_then (C_ret ?_)))))))))))))))))))))
   refine ret1 Tryd.results40 rfl ?_
   first
     | (exfalso; omega)
     | (refine ⟨hB, congrArg (Value.int .i64) ?_⟩
        unfold beginN
        split <;> omega)
theorem touch7 {w : World} {a b : Nat} :
    Runs Tryd.prog 84 #[.int .i64 (a : Int), .int .i64 (b : Int)] w (fun v w' => w.grownBy w' none ∧ v = .tuple #[.int .i64 (((touchN (min a 832) (min b 832)).1 : Nat) : Int), .int .i64 (((touchN (min a 832) (min b 832)).2 : Nat) : Int)]) := by
 have hB := gb_refl w none
 refine enter Tryd.func84 Tryd.ntmps84 rfl rfl ?_
 refine C_seq (C_reg rfl ?_)
 refine Las rfl rfl (Las rfl rfl (L_nil (N_then (C_seq (C_reg rfl (Las rfl rfl (L_nil (N_then (C_seq (C_reg rfl (Las rfl rfl (L_nil (N_then (C_seq (C_seq (C_reg rfl (Lmv rfl rfl ?_)))))))))))))))))
 refine L_call rfl cb60 (near7 (n := a)) rfl ?_
 rintro _ w1 ⟨hs1, rfl⟩
 replace hB := gb_tr hB hs1
 refine Las rfl rfl (L_nil (N_then (C_block ?_)))
 refine C_loop (fun m_ a_ w_ => ∃ (σ_ : Nat → Value) (p : Int) (q : Int) (i : Nat), a_ = Ac 28 σ_ [] [(1, .int .i64 (b : Int)), (6, .int .i64 p), (7, .int .i64 q), (8, .int .i64 (i : Int))] ∧ w.grownBy w_ none ∧ (i ≤ 832) ∧ ((i = min a 832 ∧ p = -1) ∨ (min a 832 < i ∧ i ≤ min b 832 ∧ p = ((min a 832 / 52 : Nat) : Int) ∧ q = (((i - 1) / 52 : Nat) : Int))) ∧ 832 - i = m_) (832 - (min a 832)) ?_ ?_
 ·exact ⟨_, (-1), (-1), (min a 832), Ac_frg ⟨rfl, rfl, rfl, (agx rfl), trivial⟩, hB, (by omega), (by omega), rfl⟩
 ·clear hB
  rintro m_ a_ w2 ⟨σ_, p, q, i, rfl, hB, hi, hp, rfl⟩
  refine C_seq (C_seq (C_reg rfl ?_))
  refine Lmv rfl rfl (Lmv rfl rfl ?_)
  refine L_call rfl cb60 (near7 (n := b)) rfl ?_
  rintro _ w3 ⟨hs2, rfl⟩
  replace hB := gb_tr hB hs2
  refine L_run (R_lss rfl rfl) rfl ?_
  refine L_nil (N_then (C_if rfl (fun h1 => ?_) (fun h1 => ?_)))
  ·refine C_skip (N_then (C_seq (C_block (C_seq (C_seq (C_reg rfl ?_))))))
   refine Lmv rfl rfl (L_run (R_lss rfl rfl) rfl (L_nil (N_then (C_if rfl (fun h2 => ?_) (fun h2 => ?_)))))
   ·refine C_reg rfl ?_
    refine Lmv rfl rfl ?_
    refine L_run (R_eqv (R_quo rfl rfl (by first | decide | omega)) (v' := .int .i64 ((i / 52 : Nat) : Int)) (quoN (k := 52) (by omega))) rfl ?_
    refine Las rfl rfl (L_nil (N_then (C_reg rfl (Lmv rfl rfl ?_))))
    refine L_run (R_eqv (R_quo rfl rfl (by first | decide | omega)) (v' := .int .i64 ((i / 52 : Nat) : Int)) (quoN (k := 52) (by omega))) rfl ?_
    refine Las rfl rfl ?_
    refine L_nil (N_in (N_then (C_reg rfl ?_)))
    refine Lmv rfl rfl ?_
    refine L_run (R_add64 rfl rfl (by omega)) rfl ?_
    refine Las rfl rfl (L_nil (N_then ?_))
    exact ⟨832 - (i + 1), by omega, _, ((i / 52 : Nat) : Int), ((i / 52 : Nat) : Int), (i + 1), Ac_frg ⟨rfl, rfl, rfl, (agx rfl), trivial⟩, hB, (by omega), (by omega), rfl⟩
   ·refine C_skip (N_then (C_reg rfl ?_))
    refine Lmv rfl rfl ?_
    refine L_run (R_eqv (R_quo rfl rfl (by first | decide | omega)) (v' := .int .i64 ((i / 52 : Nat) : Int)) (quoN (k := 52) (by omega))) rfl ?_
    refine Las rfl rfl ?_
    refine L_nil (N_in (N_then (C_reg rfl ?_)))
    refine Lmv rfl rfl ?_
    refine L_run (R_add64 rfl rfl (by omega)) rfl ?_
    refine Las rfl rfl (L_nil (N_then ?_))
    exact ⟨832 - (i + 1), by omega, _, p, ((i / 52 : Nat) : Int), (i + 1), Ac_frg ⟨rfl, rfl, rfl, (agx rfl), trivial⟩, hB, (by omega), (by omega), rfl⟩
  ·refine C_exit (X_then (X_then (X_hit (N_then (C_seq (C_seq (C_reg rfl ?_)))))))
   refine Lmv rfl rfl (L_run (R_lss rfl rfl) rfl (L_nil (N_then (C_if rfl (fun h3 => ?_) (fun h3 => ?_)))))
   ·refine C_seq (C_reg rfl ?_)
    refine Las rfl rfl (Las rfl rfl (L_nil (N_then (C_ret (R_then ?_)))))
    refine ret2 Tryd.results84 rfl rfl ?_
    first
      | (exfalso; omega)
      | (refine ⟨hB, ?_⟩
         unfold touchN
         first | (rw [if_neg (by omega)]; rfl) | (rw [if_pos (by omega)]; have e_ : i = min b 832 := (by omega); have e1_ : p = ((min a 832 / 52 : Nat) : Int) := (by omega); have e2_ : q + 1 = (((min b 832 - 1) / 52 + 1 : Nat) : Int) := (by omega); rw [e1_, e2_]))
   ·refine C_skip (N_then (C_seq (C_reg rfl ?_)))
    refine Lmv rfl rfl (Lmv rfl rfl ?_)
    refine L_run (R_add64 rfl rfl (by omega)) rfl ?_
    refine Las rfl rfl (Las rfl rfl (L_nil (N_then (C_ret ?_))))
    refine ret2 Tryd.results84 rfl rfl ?_
    first
      | (exfalso; omega)
      | (refine ⟨hB, ?_⟩
         unfold touchN
         first | (rw [if_neg (by omega)]; rfl) | (rw [if_pos (by omega)]; have e_ : i = min b 832 := (by omega); have e1_ : p = ((min a 832 / 52 : Nat) : Int) := (by omega); have e2_ : q + 1 = (((min b 832 - 1) / 52 + 1 : Nat) : Int) := (by omega); rw [e1_, e2_]))
theorem cov_ok {w : World} {t1 lo hi : Nat} {A : Option Addr} {c : Nat} {ok : List Bool} {a b : Nat} (hS : Sli t1 lo hi w A (fl encO ok)) :
    Runs Tryd.prog 90 #[.slice A ok.length c, .int .i64 (a : Int), .int .i64 (b : Int)] w (fun v w' => w.grownBy w' none ∧ v = .bool (covN ok (min a 832) (min b 832))) := by
 have hB := gb_refl w none
 replace hS := hS.top
 refine enter Tryd.func90 Tryd.ntmps90 rfl rfl ?_
 refine C_seq (C_reg rfl ?_)
 refine Las rfl rfl (L_nil (N_then (C_seq (C_reg rfl (Lmv rfl rfl (Lmv rfl rfl ?_))))))
 refine L_call rfl cb108 (touch_ok (a := a) (b := b)) rfl ?_
 rintro _ w1 ⟨hs1, rfl⟩
 replace hB := gb_tr hB hs1; replace hS := hS.gb hs1
 refine Lmv rfl rfl (L_run (R_extract rfl rfl) rfl (L_run (R_extract rfl rfl) rfl (Las rfl rfl (Las rfl rfl (L_nil (N_then (C_seq (C_seq (C_reg rfl (Lmv rfl rfl (Las rfl rfl (L_nil (N_then (C_block ?_))))))))))))))
 refine C_loop (fun m_ a_ w_ => ∃ (σ_ : Nat → Value) (i : Nat), a_ = Ac 33 σ_ [] [(0, .slice A ok.length c), (1, .int .i64 (a : Int)), (2, .int .i64 (b : Int)), (7, .int .i64 (((touchN (min a 832) (min b 832)).1 : Nat) : Int)), (8, .int .i64 (((touchN (min a 832) (min b 832)).2 : Nat) : Int)), (9, .int .i64 (i : Int))] ∧ w.grownBy w_ none ∧ Sli t1 lo w.heap.size w_ A (fl encO ok) ∧ ((touchN (min a 832) (min b 832)).1 ≤ i) ∧ (∀ j, (touchN (min a 832) (min b 832)).1 ≤ j → j < i → ok.getD j false = true) ∧ (touchN (min a 832) (min b 832)).2 - i = m_) ((touchN (min a 832) (min b 832)).2 - (touchN (min a 832) (min b 832)).1) ?_ ?_
 ·exact ⟨_, (touchN (min a 832) (min b 832)).1, Ac_frg ⟨rfl, rfl, rfl, rfl, rfl, (agx rfl), trivial⟩, hB, hS, (Nat.le_refl _), (fun j h1 h2 => by omega), rfl⟩
 ·clear hB
  clear hS
  rintro m_ a_ w2 ⟨σ_, i, rfl, hB, hS, hlo, hall, rfl⟩
  refine C_seq (C_seq (C_reg rfl ?_))
  refine Lmv rfl rfl (Lmv rfl rfl (L_run (R_lss rfl rfl) rfl (L_nil (N_then (C_if rfl (fun h1 => ?_) (fun h1 => ?_))))))
  ·refine C_skip (N_then (C_seq (C_block (C_seq (C_reg rfl ?_)))))
   refine Lmv rfl rfl (Lmv rfl rfl (L_run (R_lenSl rfl slc79) rfl (L_run (R_geq rfl rfl) rfl (Lmv rfl rfl ?_))))
   refine L_splitD (p := (ok.length : Int) ≤ (i : Int)) (fun h2 => ?_) (fun h2 => ?_)
   ·refine L_no rfl rfl rfl (decide_eq_true h2) rfl (L_no rfl rfl rfl (decide_eq_true h2) rfl (L_no rfl rfl rfl (decide_eq_true h2) rfl (L_no rfl rfl rfl (decide_eq_true h2) rfl (L_no rfl rfl rfl (decide_eq_true h2) rfl (L_run (R_pickT rfl (decide_eq_true h2) rfl) rfl (L_nil (N_then (C_condT rfl rfl (C_seq (C_reg rfl (Las rfl rfl (L_nil (N_then (C_ret (R_in (R_then (R_then (R_in (R_then ?_)))))))))))))))))))
    refine ret1 Tryd.results90 rfl ?_
    first
      | (exfalso; omega)
      | (exact ⟨hB, by rw [covN_false hlo (by omega) (by first | exact getD_out (by omega) | (rw [getD_in (by omega)]; first | assumption | simp_all))]⟩)
   ·refine L_yes rfl rfl rfl (decide_eq_false h2) (Lmv rfl rfl (L_yes rfl rfl rfl (decide_eq_false h2) (Lmv rfl rfl (L_yes rfl rfl rfl (decide_eq_false h2) ?_))))
    have hl1 : i < ok.length := by first | omega | (simp; omega)
    refine T_index (xs := ok) (i := i) EncO rfl rfl (by first | rfl | omega) slc79 hl1 hS rfl ?_
    intro g1 o1 ha1
    refine L_yes rfl rfl rfl (decide_eq_false h2) (L_run (R_load1 rfl scl4 (ha1 0 _ rfl)) rfl (L_yes rfl rfl rfl (decide_eq_false h2) (L_run (R_not rfl) rfl (L_run (R_pickF rfl (decide_eq_false h2) rfl) rfl (L_nil (N_then ?_))))))
    refine C_cond rfl (fun h3 => ?_) (fun h3 => ?_)
    ·refine C_seq (C_reg rfl ?_)
     refine Las rfl rfl (L_nil (N_then (C_ret (R_in (R_then (R_then (R_in (R_then ?_))))))))
     refine ret1 Tryd.results90 rfl ?_
     first
       | (exfalso; omega)
       | (exact ⟨hB, by rw [covN_false hlo (by omega) (by first | exact getD_out (by omega) | (rw [getD_in (by omega)]; first | assumption | simp_all))]⟩)
    ·refine C_skip (N_in (N_then (C_reg rfl ?_)))
     refine Lmv rfl rfl ?_
     refine L_run (R_add64 rfl rfl (by have h_ := touch_le (a := a) (b := b); omega)) rfl ?_
     refine Las rfl rfl (L_nil (N_then ?_))
     exact ⟨(touchN (min a 832) (min b 832)).2 - (i + 1), by omega, _, (i + 1), Ac_frg ⟨rfl, rfl, rfl, rfl, rfl, (agx rfl), trivial⟩, hB, hS, (by omega), (cov_step hall (by omega) (by first | assumption | simp_all)), rfl⟩
  ·refine C_exit (X_then (X_then (X_hit (N_then (C_seq (C_reg rfl ?_))))))
   refine Las rfl rfl (L_nil (N_then (C_ret ?_)))
   refine ret1 Tryd.results90 rfl ?_
   exact ⟨hB, by rw [covN_true (by omega) hall]⟩
theorem cov16 {w : World} {t1 lo hi : Nat} {A : Option Addr} {c : Nat} {ok : List Bool} {a b : Nat} (hS : Sli t1 lo hi w A (fl encO ok)) :
    Runs Tryd.prog 62 #[.slice A ok.length c, .int .i64 (a : Int), .int .i64 (b : Int)] w (fun v w' => w.grownBy w' none ∧ v = .bool (covN ok (min a 832) (min b 832))) := by
 have hB := gb_refl w none
 replace hS := hS.top
 refine enter Tryd.func62 Tryd.ntmps62 rfl rfl ?_
 refine C_seq (C_reg rfl ?_)
 refine Las rfl rfl (L_nil (N_then (C_seq (C_reg rfl (Lmv rfl rfl (Lmv rfl rfl ?_))))))
 refine L_call rfl cb84 (touch7 (a := a) (b := b)) rfl ?_
 rintro _ w1 ⟨hs1, rfl⟩
 replace hB := gb_tr hB hs1; replace hS := hS.gb hs1
 refine Lmv rfl rfl (L_run (R_extract rfl rfl) rfl (L_run (R_extract rfl rfl) rfl (Las rfl rfl (Las rfl rfl (L_nil (N_then (C_seq (C_seq (C_reg rfl (Lmv rfl rfl (Las rfl rfl (L_nil (N_then (C_block ?_))))))))))))))
 refine C_loop (fun m_ a_ w_ => ∃ (σ_ : Nat → Value) (i : Nat), a_ = Ac 33 σ_ [] [(0, .slice A ok.length c), (1, .int .i64 (a : Int)), (2, .int .i64 (b : Int)), (7, .int .i64 (((touchN (min a 832) (min b 832)).1 : Nat) : Int)), (8, .int .i64 (((touchN (min a 832) (min b 832)).2 : Nat) : Int)), (9, .int .i64 (i : Int))] ∧ w.grownBy w_ none ∧ Sli t1 lo w.heap.size w_ A (fl encO ok) ∧ ((touchN (min a 832) (min b 832)).1 ≤ i) ∧ (∀ j, (touchN (min a 832) (min b 832)).1 ≤ j → j < i → ok.getD j false = true) ∧ (touchN (min a 832) (min b 832)).2 - i = m_) ((touchN (min a 832) (min b 832)).2 - (touchN (min a 832) (min b 832)).1) ?_ ?_
 ·exact ⟨_, (touchN (min a 832) (min b 832)).1, Ac_frg ⟨rfl, rfl, rfl, rfl, rfl, (agx rfl), trivial⟩, hB, hS, (Nat.le_refl _), (fun j h1 h2 => by omega), rfl⟩
 ·clear hB
  clear hS
  rintro m_ a_ w2 ⟨σ_, i, rfl, hB, hS, hlo, hall, rfl⟩
  refine C_seq (C_seq (C_reg rfl ?_))
  refine Lmv rfl rfl (Lmv rfl rfl (L_run (R_lss rfl rfl) rfl (L_nil (N_then (C_if rfl (fun h1 => ?_) (fun h1 => ?_))))))
  ·refine C_skip (N_then (C_seq (C_block (C_seq (C_reg rfl ?_)))))
   refine Lmv rfl rfl (Lmv rfl rfl (L_run (R_lenSl rfl slc79) rfl (L_run (R_geq rfl rfl) rfl (Lmv rfl rfl ?_))))
   refine L_splitD (p := (ok.length : Int) ≤ (i : Int)) (fun h2 => ?_) (fun h2 => ?_)
   ·refine L_no rfl rfl rfl (decide_eq_true h2) rfl (L_no rfl rfl rfl (decide_eq_true h2) rfl (L_no rfl rfl rfl (decide_eq_true h2) rfl (L_no rfl rfl rfl (decide_eq_true h2) rfl (L_no rfl rfl rfl (decide_eq_true h2) rfl (L_run (R_pickT rfl (decide_eq_true h2) rfl) rfl (L_nil (N_then (C_condT rfl rfl (C_seq (C_reg rfl (Las rfl rfl (L_nil (N_then (C_ret (R_in (R_then (R_then (R_in (R_then ?_)))))))))))))))))))
    refine ret1 Tryd.results62 rfl ?_
    first
      | (exfalso; omega)
      | (exact ⟨hB, by rw [covN_false hlo (by omega) (by first | exact getD_out (by omega) | (rw [getD_in (by omega)]; first | assumption | simp_all))]⟩)
   ·refine L_yes rfl rfl rfl (decide_eq_false h2) (Lmv rfl rfl (L_yes rfl rfl rfl (decide_eq_false h2) (Lmv rfl rfl (L_yes rfl rfl rfl (decide_eq_false h2) ?_))))
    have hl1 : i < ok.length := by first | omega | (simp; omega)
    refine T_index (xs := ok) (i := i) EncO rfl rfl (by first | rfl | omega) slc79 hl1 hS rfl ?_
    intro g1 o1 ha1
    refine L_yes rfl rfl rfl (decide_eq_false h2) (L_run (R_load1 rfl scl4 (ha1 0 _ rfl)) rfl (L_yes rfl rfl rfl (decide_eq_false h2) (L_run (R_not rfl) rfl (L_run (R_pickF rfl (decide_eq_false h2) rfl) rfl (L_nil (N_then ?_))))))
    refine C_cond rfl (fun h3 => ?_) (fun h3 => ?_)
    ·refine C_seq (C_reg rfl ?_)
     refine Las rfl rfl (L_nil (N_then (C_ret (R_in (R_then (R_then (R_in (R_then ?_))))))))
     refine ret1 Tryd.results62 rfl ?_
     first
       | (exfalso; omega)
       | (exact ⟨hB, by rw [covN_false hlo (by omega) (by first | exact getD_out (by omega) | (rw [getD_in (by omega)]; first | assumption | simp_all))]⟩)
    ·refine C_skip (N_in (N_then (C_reg rfl ?_)))
     refine Lmv rfl rfl ?_
     refine L_run (R_add64 rfl rfl (by have h_ := touch_le (a := a) (b := b); omega)) rfl ?_
     refine Las rfl rfl (L_nil (N_then ?_))
     exact ⟨(touchN (min a 832) (min b 832)).2 - (i + 1), by omega, _, (i + 1), Ac_frg ⟨rfl, rfl, rfl, rfl, rfl, (agx rfl), trivial⟩, hB, hS, (by omega), (cov_step hall (by omega) (by first | assumption | simp_all)), rfl⟩
  ·refine C_exit (X_then (X_then (X_hit (N_then (C_seq (C_reg rfl ?_))))))
   refine Las rfl rfl (L_nil (N_then (C_ret ?_)))
   refine ret1 Tryd.results62 rfl ?_
   exact ⟨hB, by rw [covN_true (by omega) hall]⟩
end Go.Proofs.YtkjgjejkfjhcjaaDoor
namespace Go.Proofs.YtkjgjejkfjhcjaaDoor
open Go.RowKit Gw Pl
set_option linter.unusedVariables false
set_option linter.unusedSimpArgs false
theorem agg50 : aggB Tryd.prog 50 64 = true := by kernel_rfl
theorem arr50 : arrB Tryd.prog 50 5 64 1 = true := by kernel_rfl
theorem cb103 : callB Tryd.prog 103 = true := by kernel_rfl
theorem cb104 : callB Tryd.prog 104 = true := by kernel_rfl
theorem cb57 : callB Tryd.prog 57 = true := by kernel_rfl
theorem cb82 : callB Tryd.prog 82 = true := by kernel_rfl
theorem cb83 : callB Tryd.prog 83 = true := by kernel_rfl
theorem eqg50 : Tryd.prog.eqGuardType Tryd.prog.depth 50 = false := by kernel_rfl
theorem scl5 : sclB Tryd.prog 5 = true := by kernel_rfl
theorem sz50 : szB Tryd.prog 50 64 = true := by kernel_rfl
theorem zer5 : (Tryd.prog.info? 5).bind (·.zero) = some (.int .u8 0) := by kernel_rfl
theorem shl8 {c k : Nat} (hk : k ≤ 7) (hx : c * 256 ^ k < 18446744073709551616) :
    Value.int .u64 (IntKind.u64.wrap ((c : Int) * 2 ^ (min ((8 : Int) * (k : Int)).toNat (IntKind.bits .u64)))) = .int .u64 ((c * 256 ^ k : Nat) : Int) := by
  refine congrArg (Value.int .u64) ?_
  have h1 : ((8 : Int) * (k : Int)).toNat = 8 * k := by omega
  have h2 : min (8 * k) (IntKind.bits .u64) = 8 * k := by simp [IntKind.bits]; omega
  have h3 : (2 : Int) ^ (8 * k) = ((256 ^ k : Nat) : Int) := by
    rw [Int.natCast_pow, Int.pow_mul]; rfl
  rw [h1, h2, h3, ← Int.natCast_mul, w64n hx]
theorem or_add8 {n c k : Nat} (hn : n < 256 ^ k) (hx : n + c * 256 ^ k < 18446744073709551616) :
    Value.int .u64 (bitsI .or .u64 (n : Int) ((c * 256 ^ k : Nat) : Int)) = .int .u64 ((n + c * 256 ^ k : Nat) : Int) := by
  rw [bits_or64 (by omega) (by omega)]
  refine congrArg (fun q : Nat => Value.int .u64 (q : Int)) ?_
  have e : 256 ^ k = 2 ^ (8 * k) := by rw [Nat.pow_mul]
  rw [e] at hn ⊢
  have := Nat.shiftLeft_add_eq_or_of_lt hn c
  rw [Nat.shiftLeft_eq] at this
  rw [Nat.or_comm, ← this, Nat.add_comm]
theorem gstep {n k : Nat} {c : UInt8} (hn : n < 256 ^ k) : n + c.toNat * 256 ^ k < 256 ^ (k + 1) := by
  rw [Nat.pow_succ]
  have h := c.toNat_lt
  have : c.toNat * 256 ^ k ≤ 255 * 256 ^ k := Nat.mul_le_mul_right _ (by omega)
  omega
theorem gfit {n k : Nat} {c : UInt8} (hn : n < 256 ^ k) (hk : k ≤ 7) : n + c.toNat * 256 ^ k < 18446744073709551616 := by
  have h := gstep (c := c) hn
  have h2 : 256 ^ (k + 1) ≤ 256 ^ 8 := Nat.pow_le_pow_right (by omega) (by omega)
  omega
theorem take_8 {bs : List UInt8} {k : Nat} (h : k = min bs.length 8) : bs.take k = bs.take 8 := by
  rw [h, List.take_eq_take_min (i := 8), Nat.min_comm]
theorem mul256 {c k : Nat} (hx : c * 256 ^ k < 18446744073709551616) : Value.int .u64 (IntKind.u64.wrap ((c : Int) * ((2 ^ (8 * k) : Nat) : Int))) = .int .u64 ((c * 256 ^ k : Nat) : Int) := by
  rw [← Int.natCast_mul, show 2 ^ (8 * k) = 256 ^ k by rw [Nat.pow_mul], w64n hx]
theorem two_step {k n : Nat} (h : k < n) (hn : n ≤ 63) : Value.int .u64 (IntKind.u64.wrap (((2 ^ k : Nat) : Int) * 2)) = .int .u64 ((2 ^ (k + 1) : Nat) : Int) := by
  have h2 : 2 ^ (k + 1) ≤ 2 ^ 63 := Nat.pow_le_pow_right (by omega) (by omega)
  have e : (((2 ^ k : Nat) : Int) * 2) = ((2 ^ (k + 1) : Nat) : Int) := by rw [Nat.pow_succ]; norm_cast
  rw [e, w64n (by omega)]
theorem remU {n k : Nat} : Value.int .u64 (Int.tmod (n : Int) (k : Int)) = .int .u64 ((n % k : Nat) : Int) := rfl
theorem quoU {n k : Nat} (hn : n < 18446744073709551616) : Value.int .u64 (IntKind.u64.wrap (Int.tdiv (n : Int) (k : Int))) = .int .u64 ((n / k : Nat) : Int) := by
  have h2 : n / k ≤ n := Nat.div_le_self _ _
  rw [tdivn, w64n (by omega)]
theorem put_step {acc : List UInt8} {m k i n : Nat} {X : List UInt8} (h : i < k) (e : acc ++ putN m (k - i) = X) : (acc ++ [UInt8.ofNat (m % 256)]) ++ putN (m / 256) (k - (i + 1)) = X := by
  rw [← e, show k - i = (k - (i + 1)) + 1 by omega, putN]
  simp
theorem word_get {w : World} {t1 lo hi : Nat} {A : Option Addr} {c : Nat} {bs : List UInt8} (hS : Sli t1 lo hi w A (fl encB bs)) (hb : bs.length ≤ 140737488355328) :
    Runs Tryd.prog 68 #[.slice A bs.length c] w (fun v w' => w.grownBy w' none ∧ v = .int .u64 ((getN (bs.take 8) : Nat) : Int)) := by
 have hB := gb_refl w none
 replace hS := hS.top
 refine enter Tryd.func68 Tryd.ntmps68 rfl rfl ?_
 refine C_seq (C_reg rfl ?_)
 refine Las rfl rfl (L_nil (N_then (C_seq (C_reg rfl (Las rfl rfl (L_nil (N_then (C_seq (C_seq (C_reg rfl (Lmv rfl rfl (L_run (R_lenSl rfl slc34) rfl (L_run (R_min2 rfl rfl) rfl (Lmv rfl rfl (L_nil (N_then (C_block ?_)))))))))))))))))
 refine C_loop (fun m_ a_ w_ => ∃ (σ_ : Nat → Value) (k : Nat) (n : Nat), a_ = Ac 23 σ_ [] [(0, .slice A bs.length c), (3, .int .u64 (n : Int)), (7, .int .i64 (min (bs.length : Int) 8)), (8, .int .i64 (k : Int))] ∧ w.grownBy w_ none ∧ Sli t1 lo w.heap.size w_ A (fl encB bs) ∧ (k ≤ bs.length ∧ k ≤ 8) ∧ (n < 256 ^ k) ∧ (n = getN (bs.take k)) ∧ bs.length - k = m_) (bs.length - 0) ?_ ?_
 ·exact ⟨_, 0, 0, Ac_frg ⟨rfl, (agx rfl), rfl, (agx rfl), trivial⟩, hB, hS, (by omega), (by decide), rfl, rfl⟩
 ·clear hB
  clear hS
  rintro m_ a_ w1 ⟨σ_, k, n, rfl, hB, hS, hk, hn, hv, rfl⟩
  refine C_seq (C_reg rfl ?_)
  refine L_run (R_lss rfl rfl) rfl ?_
  refine L_nil (N_then (C_seq (C_if rfl (fun h1 => ?_) (fun h1 => ?_))))
  ·refine C_skip (N_then (C_seq (C_block (C_seq (C_reg rfl ?_)))))
   refine Lmv rfl rfl (Las rfl rfl (L_nil (N_then (C_reg rfl (Lmv rfl rfl (Lmv rfl rfl (Lmv rfl rfl ?_)))))))
   have hl1 : k < bs.length := by first | omega | (simp; omega)
   refine T_index (xs := bs) (i := k) EncB rfl rfl (by first | rfl | omega) slc34 hl1 hS rfl ?_
   intro g1 o1 ha1
   refine L_run (R_load1 rfl scl5 (ha1 0 _ rfl)) rfl ?_
   refine L_run (R_eqv (R_conv rfl any5 int30) (v' := .int .u64 (bs[k].toNat : Int)) (congrArg _ (w64n (by have := bs[k].toNat_lt; omega)))) rfl ?_
   refine Lmv rfl rfl ?_
   refine L_run (R_mul64 rfl rfl (by omega)) rfl ?_
   refine L_run (R_eqv (R_shl rfl rfl (by first | decide | omega)) (v' := .int .u64 ((bs[k].toNat * 256 ^ k : Nat) : Int)) (shl8 (by omega) (by have := gfit (c := bs[k]) hn (by omega); omega))) rfl ?_
   refine L_run (R_eqv (R_or rfl rfl) (v' := .int .u64 ((n + bs[k].toNat * 256 ^ k : Nat) : Int)) (or_add8 hn (gfit hn (by omega)))) rfl ?_
   refine Las rfl rfl ?_
   refine L_nil (N_in (N_then (C_reg rfl ?_)))
   refine L_run (R_add64 rfl rfl (by omega)) rfl ?_
   refine Lmv rfl rfl (L_nil (N_then ?_))
   exact ⟨bs.length - (k + 1), by omega, _, (k + 1), (n + bs[k].toNat * 256 ^ k), Ac_frg ⟨rfl, (agx rfl), rfl, (agx rfl), trivial⟩, hB, hS, (by omega), (gstep hn), (by rw [getN_succ hl1, ← hv]), rfl⟩
  ·refine C_exit (X_then (X_then (X_hit (N_then (C_seq (C_reg rfl ?_))))))
   refine Lmv rfl rfl (Las rfl rfl (L_nil (N_then (C_ret ?_))))
   refine ret1 Tryd.results68 rfl ?_
   first
     | (exfalso; omega)
     | (exact ⟨hB, by rw [← take_8 (k := k) (by omega), ← hv]⟩)
theorem two_ok {w : World} {n : Nat} (hn : n ≤ 63) :
    Runs Tryd.prog 57 #[.int .i64 (n : Int)] w (fun v w' => w.grownBy w' none ∧ v = .int .u64 ((2 ^ n : Nat) : Int)) := by
 have hB := gb_refl w none
 refine enter Tryd.func57 Tryd.ntmps57 rfl rfl ?_
 refine C_seq (C_reg rfl ?_)
 refine Las rfl rfl (L_nil (N_then (C_seq (C_reg rfl (Las rfl rfl (L_nil (N_then (C_seq (C_seq (C_reg rfl (Las rfl rfl (L_nil (N_then (C_block ?_))))))))))))))
 refine C_loop (fun m_ a_ w_ => ∃ (σ_ : Nat → Value) (k : Nat), a_ = Ac 13 σ_ [] [(0, .int .i64 (n : Int)), (3, .int .u64 ((2 ^ k : Nat) : Int)), (4, .int .i64 (k : Int))] ∧ w.grownBy w_ none ∧ (k ≤ n) ∧ n - k = m_) (n - 0) ?_ ?_
 ·exact ⟨_, 0, Ac_frg ⟨rfl, (agx rfl), (agx rfl), trivial⟩, hB, (by omega), rfl⟩
 ·clear hB
  rintro m_ a_ w1 ⟨σ_, k, rfl, hB, hk, rfl⟩
  refine C_seq (C_seq (C_reg rfl ?_))
  refine Lmv rfl rfl (Lmv rfl rfl (L_run (R_lss rfl rfl) rfl (L_nil (N_then (C_if rfl (fun h1 => ?_) (fun h1 => ?_))))))
  ·refine C_skip (N_then (C_seq (C_block (C_reg rfl ?_))))
   refine Lmv rfl rfl ?_
   refine L_run (R_eqv (R_mul rfl rfl) (v' := .int .u64 ((2 ^ (k + 1) : Nat) : Int)) (two_step (by omega) hn)) rfl ?_
   refine Las rfl rfl ?_
   refine L_nil (N_in (N_then (C_reg rfl ?_)))
   refine Lmv rfl rfl ?_
   refine L_run (R_add64 rfl rfl (by omega)) rfl ?_
   refine Las rfl rfl (L_nil (N_then ?_))
   exact ⟨n - (k + 1), by omega, _, (k + 1), Ac_frg ⟨rfl, rfl, (agx rfl), trivial⟩, hB, (by omega), rfl⟩
  ·refine C_exit (X_then (X_then (X_hit (N_then (C_seq (C_reg rfl ?_))))))
   refine Lmv rfl rfl (Las rfl rfl (L_nil (N_then (C_ret ?_))))
   refine ret1 Tryd.results57 rfl ?_
   first
     | (exfalso; omega)
     | (obtain rfl : n = k := by omega
        exact ⟨hB, rfl⟩)
theorem ref1_get {w : World} {t1 lo hi : Nat} {A : Option Addr} {c : Nat} {bs : List UInt8} (hS : Sli t1 lo hi w A (fl encB bs)) (hb : bs.length ≤ 140737488355328) :
    Runs Tryd.prog 35 #[.slice A bs.length c] w (fun v w' => w.grownBy w' none ∧ v = .int .u64 ((getN (bs.take 8) : Nat) : Int)) := by
 have hB := gb_refl w none
 replace hS := hS.top
 refine enter Tryd.func35 Tryd.ntmps35 rfl rfl ?_
 refine C_seq (C_reg rfl ?_)
 refine Las rfl rfl (L_nil (N_then (C_seq (C_reg rfl (Las rfl rfl (L_nil (N_then (C_seq (C_seq (C_reg rfl (Las rfl rfl (L_nil (N_then (C_block ?_))))))))))))))
 refine C_loop (fun m_ a_ w_ => ∃ (σ_ : Nat → Value) (k : Nat) (n : Nat), a_ = Ac 27 σ_ [] [(0, .slice A bs.length c), (3, .int .u64 (n : Int)), (4, .int .i64 (k : Int))] ∧ w.grownBy w_ none ∧ Sli t1 lo w.heap.size w_ A (fl encB bs) ∧ (k ≤ bs.length ∧ k ≤ 8) ∧ (n < 256 ^ k) ∧ (n = getN (bs.take k)) ∧ bs.length - k = m_) (bs.length - 0) ?_ ?_
 ·exact ⟨_, 0, 0, Ac_frg ⟨rfl, (agx rfl), (agx rfl), trivial⟩, hB, hS, (by omega), (by decide), rfl, rfl⟩
 ·clear hB
  clear hS
  rintro m_ a_ w1 ⟨σ_, k, n, rfl, hB, hS, hk, hn, hv, rfl⟩
  refine C_seq (C_seq (C_reg rfl ?_))
  refine Lmv rfl rfl (Lmv rfl rfl (L_run (R_lenSl rfl slc34) rfl (L_run (R_lss rfl rfl) rfl (Lmv rfl rfl ?_))))
  refine L_splitD (p := (k : Int) < (bs.length : Int)) (fun h1 => ?_) (fun h1 => ?_)
  ·refine L_yes rfl rfl rfl (decide_eq_true h1) (Lmv rfl rfl (L_yes rfl rfl rfl (decide_eq_true h1) (L_run (R_lss rfl rfl) rfl (L_run (R_pickT rfl (decide_eq_true h1) rfl) rfl (L_nil (N_then (C_if rfl (fun h2 => ?_) (fun h2 => ?_))))))))
   ·refine C_skip (N_then (C_seq (C_block ?_)))
    refine C_draw2 rfl mix ?_
    intro w2 hs1 hz1
    replace hB := gb_tr hB hs1; replace hS := hS.gb hs1
    have hl1 : k < bs.length := by first | omega | (simp; omega)
    obtain ⟨g1, o1, r1, eA1, er1, ha1⟩ := Sli.place' (xs := bs) (i := k) EncB hS hl1 rfl
    refine ⟨fun W_ => At W_ g1 r1 [.int .u8 ((bs[k]).toNat : Int)] ∧ True, [0, 1, 2, 3, 4, 5, 6, 7, 9, 10, 11], ?_⟩
    refine T_tk (i := 0) rfl (Y_of (fun _ _ => R_move rfl)) ⟨ha1, trivial⟩ rfl ?_
    refine T_tk (i := 1) rfl (Y_of (fun _ _ => R_move rfl)) ⟨ha1, trivial⟩ rfl ?_
    refine T_tk (i := 2) rfl (Y_of (fun _ _ => R_move rfl)) ⟨ha1, trivial⟩ rfl ?_
    refine T_tk (i := 3) rfl (Y_of (fun _ _ => R_indexE rfl rfl (by first | rfl | omega) slc34 hl1 eA1 er1)) ⟨ha1, trivial⟩ rfl ?_
    refine T_tk (i := 4) rfl (Y_of (fun _ ⟨ha1, _⟩ => R_load1 rfl scl5 (ha1 0 _ rfl))) ⟨ha1, trivial⟩ rfl ?_
    refine T_tk (i := 5) rfl (Y_of (fun _ _ => R_eqv (R_conv rfl any5 int30) (v' := .int .u64 (bs[k].toNat : Int)) (congrArg _ (w64n (by have := bs[k].toNat_lt; omega))))) ⟨ha1, trivial⟩ rfl ?_
    refine T_tk (i := 6) rfl (Y_of (fun _ _ => R_move rfl)) ⟨ha1, trivial⟩ rfl ?_
    refine T_tk (i := 7) rfl (Y_of (fun _ _ => R_mul64 rfl rfl (by omega))) ⟨ha1, trivial⟩ rfl ?_
    refine T_all (rs := [8]) (by kernel_rfl) rfl (all1 (O_one rfl ?_))
    refine L_call rfl cb57 (two_ok (n := (8 * k)) (by first | omega | (simp; done) | (simp; omega))) rfl ?_
    rintro _ w3 ⟨hs2, rfl⟩
    replace hB := gb_tr hB hs2; replace hS := hS.gb hs2; replace ha1 := At.gb ha1 hs2 (by simp)
    refine L_nil (N_then ⟨fun hN_ => ⟨ha1, trivial⟩, ?_⟩)
    refine T_tk (i := 9) rfl (Y_of (fun _ _ => R_eqv (R_mul rfl rfl) (v' := .int .u64 ((bs[k].toNat * 256 ^ k : Nat) : Int)) (mul256 (by have := gfit (c := bs[k]) hn (by omega); omega)))) ⟨ha1, trivial⟩ rfl ?_
    refine T_tk (i := 10) rfl (Y_of (fun _ _ => R_eqv (R_add rfl rfl) (v' := .int .u64 ((n + bs[k].toNat * 256 ^ k : Nat) : Int)) (add_w (gfit hn (by omega))))) ⟨ha1, trivial⟩ rfl ?_
    refine T_tk (i := 11) rfl (Y_of (fun _ _ => R_assign rfl)) ⟨ha1, trivial⟩ rfl ?_
    refine T_done (by kernel_rfl) (CalmE.normal ?_)
    refine N_in (N_then (C_reg rfl ?_))
    refine Lmv rfl rfl ?_
    refine L_run (R_add64 rfl rfl (by omega)) rfl ?_
    refine Las rfl rfl (L_nil (N_then ?_))
    exact ⟨bs.length - (k + 1), by omega, _, (k + 1), (n + bs[k].toNat * 256 ^ k), Ac_frg ⟨rfl, (agx rfl), (agx rfl), trivial⟩, hB, hS, (by omega), (gstep hn), (by rw [getN_succ hl1, ← hv]), rfl⟩
   ·refine C_exit (X_then (X_then (X_hit (N_then (C_seq (C_reg rfl ?_))))))
    refine Lmv rfl rfl (Las rfl rfl (L_nil (N_then (C_ret ?_))))
    refine ret1 Tryd.results35 rfl ?_
    first
      | (exfalso; omega)
      | (exact ⟨hB, by rw [← take_8 (k := k) (by omega), ← hv]⟩)
  ·refine L_no rfl rfl rfl (decide_eq_false h1) rfl (L_no rfl rfl rfl (decide_eq_false h1) rfl (L_run (R_pickF rfl (decide_eq_false h1) rfl) rfl (L_nil (N_then (C_condF rfl rfl (C_exit (X_then (X_then (X_hit (N_then (C_seq (C_reg rfl (Lmv rfl rfl (Las rfl rfl (L_nil (N_then (C_ret ?_)))))))))))))))))
   refine ret1 Tryd.results35 rfl ?_
   first
     | (exfalso; omega)
     | (exact ⟨hB, by rw [← take_8 (k := k) (by omega), ← hv]⟩)
theorem ref1_put {w : World} {n k : Nat} (hk : k ≤ 8) (hn : n < 18446744073709551616) :
    Runs Tryd.prog 104 #[.int .u64 (n : Int), .int .i64 (k : Int)] w (fun v w' => w.grownBy w' none ∧ ∃ A' c', v = .slice A' (putN n k).length c' ∧ World.ownsRow w' w.heap.size 5 1 (.slice A' (putN n k).length c') (putN n k).length (fl encB (putN n k))) := by
 have hB := gb_refl w none
 refine enter Tryd.func104 Tryd.ntmps104 rfl rfl ?_
 refine C_seq (C_reg rfl ?_)
 refine Las rfl rfl (L_nil (N_then (C_seq (C_reg rfl (Las rfl rfl (L_nil (N_then (C_seq (C_seq (C_reg rfl (Las rfl rfl (L_nil (N_then (C_block ?_))))))))))))))
 refine C_loop (fun m_ a_ w_ => ∃ (σ_ : Nat → Value) (A' : Option Addr) (c' : Nat) (acc : List UInt8) (m : Nat) (i : Nat), a_ = Ac 25 σ_ [] [(0, .int .u64 (m : Int)), (1, .int .i64 (k : Int)), (5, .slice A' acc.length c'), (6, .int .i64 (i : Int))] ∧ w.grownBy w_ none ∧ World.ownsRow w_ w.heap.size 5 1 (.slice A' acc.length c') acc.length (fl encB acc) ∧ (acc ++ putN m (k - i) = putN n k) ∧ (i ≤ k) ∧ (m < 18446744073709551616) ∧ k - i = m_) (k - 0) ?_ ?_
 ·exact ⟨_, none, 0, [], n, 0, Ac_frg ⟨rfl, rfl, (agx rfl), (agx rfl), trivial⟩, hB, (own_nil _ _ _ _), rfl, (by omega), (by omega), rfl⟩
 ·clear hB
  rintro m_ a_ w1 ⟨σ_, A', c', acc, m, i, rfl, hB, ho, hinv, hi, hm, rfl⟩
  refine C_seq (C_seq (C_reg rfl ?_))
  refine Lmv rfl rfl (Lmv rfl rfl (L_run (R_lss rfl rfl) rfl (Lmv rfl rfl ?_)))
  refine L_splitD (p := (i : Int) < (k : Int)) (fun h1 => ?_) (fun h1 => ?_)
  ·refine L_yes rfl rfl rfl (decide_eq_true h1) (Lmv rfl rfl (L_yes rfl rfl rfl (decide_eq_true h1) (L_run (R_lss rfl rfl) rfl (L_run (R_pickT rfl (decide_eq_true h1) rfl) rfl (L_nil (N_then (C_if rfl (fun h2 => ?_) (fun h2 => ?_))))))))
   ·refine C_skip (N_then (C_seq (C_block (C_seq (C_reg rfl ?_)))))
    refine Lmv rfl rfl (Lmv rfl rfl ?_)
    refine L_run (R_eqv (R_rem rfl rfl (by first | decide | omega)) (v' := .int .u64 ((m % 256 : Nat) : Int)) (remU (k := 256))) rfl ?_
    refine L_run (R_eqv (R_conv rfl any30 int5) (v' := .int .u8 ((UInt8.ofNat (m % 256)).toNat : Int)) (u8_of _ (by omega))) rfl ?_
    refine L_buildSlice (pv := [(0, .int .u8 ((UInt8.ofNat (m % 256)).toNat : Int))]) (cs := [.int .u8 ((UInt8.ofNat (m % 256)).toNat : Int)]) slc34 zer5 rfl rfl (by kernel_rfl) rfl ?_
    intro g1 w2 eg1 hb1 hs1 hz1
    have hap1 : ∀ k_, (Value.slice A' acc.length c').ownBlock = some k_ → k_ ≠ g1 := fun k_ hk => by have h_ := (World.ownsRow.lt ho k_ hk).2; omega
    replace hB := gb_tr hB hs1; replace ho := own_gb ho hs1
    refine T_append (xs := acc) (ys := [(UInt8.ofNat (m % 256))]) EncB slc34 rfl rfl ho (Blk.sli (m := 0) hb1) (by have h_ := congrArg List.length hinv; rw [List.length_append, putN_len, putN_len] at h_; simp; omega) (by have := hB.size; omega) rfl ?_
    intro A_1 c_1 w3 ho1 hs2 hat1
    replace hB := gb_tro hB ho hs2 (Nat.le_refl _)
    refine Las rfl rfl (L_nil (N_then (C_reg rfl (Lmv rfl rfl ?_))))
    refine L_run (R_eqv (R_quo rfl rfl (by first | decide | omega)) (v' := .int .u64 ((m / 256 : Nat) : Int)) (quoU (k := 256) hm)) rfl ?_
    refine Las rfl rfl ?_
    refine L_nil (N_in (N_then (C_reg rfl ?_)))
    refine Lmv rfl rfl ?_
    refine L_run (R_add64 rfl rfl (by omega)) rfl ?_
    refine Las rfl rfl (L_nil (N_then ?_))
    exact ⟨k - (i + 1), by omega, _, A_1, c_1, acc ++ ([(UInt8.ofNat (m % 256))]), (m / 256), (i + 1), Ac_frg ⟨(agx rfl), rfl, rfl, (agx rfl), trivial⟩, hB, ho1, (put_step (n := n) (by omega) hinv), (by omega), (by omega), rfl⟩
   ·refine C_exit (X_then (X_then (X_hit (N_then (C_seq (C_reg rfl ?_))))))
    refine Lmv rfl rfl (Las rfl rfl (L_nil (N_then (C_ret ?_))))
    refine ret1 Tryd.results104 rfl ?_
    obtain rfl : i = k := by omega
    have e_ : acc = putN n i := by rw [← hinv, Nat.sub_self]; simp [putN]
    rw [← e_]; exact ⟨hB, _, _, rfl, ho⟩
  ·refine L_no rfl rfl rfl (decide_eq_false h1) rfl (L_no rfl rfl rfl (decide_eq_false h1) rfl (L_run (R_pickF rfl (decide_eq_false h1) rfl) rfl (L_nil (N_then (C_condF rfl rfl (C_exit (X_then (X_then (X_hit (N_then (C_seq (C_reg rfl (Lmv rfl rfl (Las rfl rfl (L_nil (N_then (C_ret ?_)))))))))))))))))
   refine ret1 Tryd.results104 rfl ?_
   obtain rfl : i = k := by omega
   have e_ : acc = putN n i := by rw [← hinv, Nat.sub_self]; simp [putN]
   rw [← e_]; exact ⟨hB, _, _, rfl, ho⟩
/-- A stamped sector. -/
def sealN (e i : Nat) (X : List UInt8) : List UInt8 := putN e 8 ++ putN i 4 ++ X
theorem sealN_len {e i : Nat} {X : List UInt8} (h : X.length = 52) : (sealN e i X).length = 64 := by simp [sealN, putN_len, h]
theorem seal_1 {e i a : Nat} {X : List UInt8} (h : a < 8) (hl : a < (putN e 8).length) : (putN e 8)[a] = (sealN e i X).getD a 0 := by
  unfold sealN
  rw [List.getD_eq_getElem?_getD, List.append_assoc, List.getElem?_append_left hl, List.getElem?_eq_getElem hl]; rfl
theorem seal_2 {e i a : Nat} {X : List UInt8} (h1 : 8 ≤ a) (h : a < 12) (hl : a - 8 < (putN i 4).length) : (putN i 4)[a - 8] = (sealN e i X).getD a 0 := by
  unfold sealN
  rw [List.getD_eq_getElem?_getD, List.append_assoc, List.getElem?_append_right (by rw [putN_len]; omega), putN_len, List.getElem?_append_left hl, List.getElem?_eq_getElem hl]; rfl
theorem seal_3 {e i a : Nat} {X : List UInt8} (h1 : 12 ≤ a) (hl : a - 12 < X.length) : X[a - 12] = (sealN e i X).getD a 0 := by
  unfold sealN
  rw [List.getD_eq_getElem?_getD, List.append_assoc, List.getElem?_append_right (by rw [putN_len]; omega), putN_len, List.getElem?_append_right (by rw [putN_len]; omega), putN_len, show a - 8 - 4 = a - 12 by omega, List.getElem?_eq_getElem hl]; rfl
theorem set_take {Y Z : List UInt8} {k : Nat} (hY : Y.length = Z.length) (hk : k < Y.length) (h : Y.take k = Z.take k) : (Y.set k (Z.getD k 0)).take (k + 1) = Z.take (k + 1) := by
  have hk2 : k < Z.length := by omega
  rw [List.take_succ_eq_append_getElem (by rw [List.length_set]; exact hk), List.take_succ_eq_append_getElem hk2, List.take_set_of_le (Nat.le_refl k), h, List.getElem_set_self, List.getD_eq_getElem?_getD, List.getElem?_eq_getElem hk2]
  rfl
theorem room_step {s : List UInt8} {k : Nat} (h1 : 12 ≤ k) (hk : k < s.length) : (s.drop 12).take (k - 12) ++ [s[k]] = (s.drop 12).take (k + 1 - 12) := by
  have hl : k - 12 < (s.drop 12).length := by rw [List.length_drop]; omega
  rw [show k + 1 - 12 = (k - 12) + 1 by omega, List.take_succ_eq_append_getElem hl]
  congr 2
  rw [List.getElem_drop]
  congr 1
  omega
theorem seal_eq {s : List UInt8} {e i : Nat} (hs : s.length = 64) (he : e < 18446744073709551616) (hi : i < 4294967296) : sealN e i (s.drop 12) = s ↔ getN (s.take 8) = e ∧ getN ((s.drop 8).take 4) = i := by
  have h1 := putN_eq (bs := s.take 8) (n := e) (k := 8) (by rw [List.length_take]; omega) he
  have h2 := putN_eq (bs := (s.drop 8).take 4) (n := i) (k := 4) (by rw [List.length_take, List.length_drop]; omega) hi
  have e2 : s = s.take 8 ++ ((s.drop 8).take 4 ++ s.drop 12) := by
    have := List.take_append_drop 8 s
    have h3 := List.take_append_drop 4 (s.drop 8)
    rw [List.drop_drop] at h3
    rw [h3, this]
  unfold sealN
  rw [List.append_assoc]
  constructor
  · intro h
    have h3 := h.trans e2
    have h4 := List.append_inj h3 (by rw [putN_len, List.length_take]; omega)
    have h5 := List.append_inj h4.2 (by rw [putN_len, List.length_take, List.length_drop]; omega)
    exact ⟨h1.1 h4.1, h2.1 h5.1⟩
  · rintro ⟨p, q⟩
    rw [h1.2 p, h2.2 q, ← e2]
theorem byte6 {w : World} {t1 lo hi : Nat} {A : Option Addr} {c e i : Nat} {X : List UInt8} (hS : Sli t1 lo hi w A (fl encB X)) (hX : X.length = 52) (he : e < 18446744073709551616) (hi4 : i < 4294967296) {a : Nat} (ha : a < 64) :
    Runs Tryd.prog 103 #[.int .u64 (e : Int), .int .i64 (i : Int), .slice A X.length c, .int .i64 (a : Int)] w (fun v w' => w.grownBy w' none ∧ v = .int .u8 (((sealN e i X).getD a 0).toNat : Int)) := by
 have hB := gb_refl w none
 replace hS := hS.top
 refine enter Tryd.func103 Tryd.ntmps103 rfl rfl ?_
 refine C_seq (C_reg rfl ?_)
 refine Las rfl rfl (L_nil (N_then (C_seq (C_seq (C_reg rfl (Lmv rfl rfl (L_run (R_lss rfl rfl) rfl (L_nil (N_then (C_if rfl (fun h1 => ?_) (fun h1 => ?_)))))))))))
 ·refine C_seq (C_reg rfl ?_)
  refine Lmv rfl rfl ?_
  refine L_call rfl cb104 (ref1_put (n := e) (k := 8) (by omega) (by first | omega | (simp; done) | (simp; omega))) rfl ?_
  rintro _ w1 ⟨hs1, A_1, c_1, rfl, ho1⟩
  replace hB := gb_tr hB hs1
  have hlo1 : w.heap.size ≤ w1.heap.size := hs1.size
  refine Lmv rfl rfl ?_
  have hl1 : a < (putN e 8).length := (by rw [putN_len]; omega)
  refine T_index (xs := putN e 8) (i := a) EncB rfl rfl (by first | rfl | omega) slc34 hl1 (own_of ho1).2.2 rfl ?_
  intro g1 o1 ha1
  refine L_run (R_load1 rfl scl5 (ha1 0 _ rfl)) rfl (Las rfl rfl (L_nil (N_then (C_ret (R_then ?_)))))
  refine ret1 Tryd.results103 rfl ?_
  first
    | (exfalso; omega)
    | (refine ⟨hB, congrArg (fun q : UInt8 => Value.int .u8 (q.toNat : Int)) ?_⟩
       first | exact seal_1 (by omega) _ | exact seal_2 (by omega) (by omega) _ | exact seal_3 (by omega) _)
 ·refine C_skip (N_then (C_seq (C_seq (C_reg rfl ?_))))
  refine Lmv rfl rfl (L_run (R_lss rfl rfl) rfl (L_nil (N_then (C_if rfl (fun h2 => ?_) (fun h2 => ?_)))))
  ·refine C_seq (C_reg rfl ?_)
   refine Lmv rfl rfl ?_
   refine L_run (R_eqv (R_conv rfl any3 int30) (v' := .int .u64 (i : Int)) (congrArg _ (w64n (by omega)))) rfl ?_
   refine L_call rfl cb104 (ref1_put (n := i) (k := 4) (by omega) (by first | omega | (simp; done) | (simp; omega))) rfl ?_
   rintro _ w2 ⟨hs2, A_2, c_2, rfl, ho2⟩
   replace hB := gb_tr hB hs2
   have hlo2 : w.heap.size ≤ w2.heap.size := hs2.size
   refine Lmv rfl rfl ?_
   refine L_run (R_eqv (R_sub64 rfl rfl (by omega)) (v' := .int .i64 ((a - 8 : Nat) : Int)) (congrArg _ (by omega))) rfl ?_
   have hl2 : (a - 8) < (putN i 4).length := (by rw [putN_len]; omega)
   refine T_index (xs := putN i 4) (i := (a - 8)) EncB rfl rfl (by first | rfl | omega) slc34 hl2 (own_of ho2).2.2 rfl ?_
   intro g2 o2 ha2
   refine L_run (R_load1 rfl scl5 (ha2 0 _ rfl)) rfl (Las rfl rfl (L_nil (N_then (C_ret (R_then ?_)))))
   refine ret1 Tryd.results103 rfl ?_
   first
     | (exfalso; omega)
     | (refine ⟨hB, congrArg (fun q : UInt8 => Value.int .u8 (q.toNat : Int)) ?_⟩
        first | exact seal_1 (by omega) _ | exact seal_2 (by omega) (by omega) _ | exact seal_3 (by omega) _)
  ·refine C_skip (N_then (C_seq (C_seq (C_reg rfl ?_))))
   refine Lmv rfl rfl ?_
   refine L_run (R_sub64 rfl rfl (by omega)) rfl ?_
   refine Lmv rfl rfl (L_run (R_lenSl rfl slc34) rfl (L_run (R_lss rfl rfl) rfl (L_nil (N_then (C_if rfl (fun h3 => ?_) (fun h3 => ?_))))))
   ·refine C_seq (C_reg rfl ?_)
    refine Lmv rfl rfl (Lmv rfl rfl ?_)
    refine L_run (R_eqv (R_sub64 rfl rfl (by omega)) (v' := .int .i64 ((a - 12 : Nat) : Int)) (congrArg _ (by omega))) rfl ?_
    have hl3 : (a - 12) < X.length := by first | omega | (simp; omega)
    refine T_index (xs := X) (i := (a - 12)) EncB rfl rfl (by first | rfl | omega) slc34 hl3 hS rfl ?_
    intro g3 o3 ha3
    refine L_run (R_load1 rfl scl5 (ha3 0 _ rfl)) rfl (Las rfl rfl (L_nil (N_then (C_ret (R_then ?_)))))
    refine ret1 Tryd.results103 rfl ?_
    first
      | (exfalso; omega)
      | (refine ⟨hB, congrArg (fun q : UInt8 => Value.int .u8 (q.toNat : Int)) ?_⟩
         first | exact seal_1 (by omega) _ | exact seal_2 (by omega) (by omega) _ | exact seal_3 (by omega) _)
   ·refine C_skip (N_then (C_seq (C_reg rfl ?_)))
    refine Las rfl rfl (L_nil (N_then (C_ret ?_)))
    refine ret1 Tryd.results103 rfl ?_
    first
      | (exfalso; omega)
      | (refine ⟨hB, congrArg (fun q : UInt8 => Value.int .u8 (q.toNat : Int)) ?_⟩
         first | exact seal_1 (by omega) _ | exact seal_2 (by omega) (by omega) _ | exact seal_3 (by omega) _)
theorem seal6 {w : World} {t1 lo hi : Nat} {A : Option Addr} {c e i : Nat} {X : List UInt8} (hS : Sli t1 lo hi w A (fl encB X)) (hX : X.length = 52) (he : e < 18446744073709551616) (hi4 : i < 4294967296)  :
    Runs Tryd.prog 82 #[.int .u64 (e : Int), .int .i64 (i : Int), .slice A X.length c] w (fun v w' => w.grownBy w' none ∧ v = .agg (fl encB (sealN e i X)).toArray) := by
 have hB := gb_refl w none
 replace hS := hS.top
 refine enter Tryd.func82 Tryd.ntmps82 rfl rfl ?_
 refine C_seq (C_reg rfl ?_)
 refine L_alloc (cs := [.int .u8 0, .int .u8 0, .int .u8 0, .int .u8 0, .int .u8 0, .int .u8 0, .int .u8 0, .int .u8 0, .int .u8 0, .int .u8 0, .int .u8 0, .int .u8 0, .int .u8 0, .int .u8 0, .int .u8 0, .int .u8 0, .int .u8 0, .int .u8 0, .int .u8 0, .int .u8 0, .int .u8 0, .int .u8 0, .int .u8 0, .int .u8 0, .int .u8 0, .int .u8 0, .int .u8 0, .int .u8 0, .int .u8 0, .int .u8 0, .int .u8 0, .int .u8 0, .int .u8 0, .int .u8 0, .int .u8 0, .int .u8 0, .int .u8 0, .int .u8 0, .int .u8 0, .int .u8 0, .int .u8 0, .int .u8 0, .int .u8 0, .int .u8 0, .int .u8 0, .int .u8 0, .int .u8 0, .int .u8 0, .int .u8 0, .int .u8 0, .int .u8 0, .int .u8 0, .int .u8 0, .int .u8 0, .int .u8 0, .int .u8 0, .int .u8 0, .int .u8 0, .int .u8 0, .int .u8 0, .int .u8 0, .int .u8 0, .int .u8 0, .int .u8 0]) zer50 rfl rfl ?_
 intro g1 w1 eg1 hb1 hs1 hz1
 have ge1 : w.heap.size ≤ g1 := eg_ge hB eg1
 replace hB := gb_tr hB hs1; replace hS := hS.gb hs1; replace hb1 : Blk w1 g1 50 (fl encB (List.replicate 64 (0 : UInt8))) := hb1
 refine L_nil (N_then (C_seq (C_reg rfl ?_)))
 refine L_run (R_build (pv := []) (cs := fl encB (List.replicate 64 (0 : UInt8))) rfl (by kernel_rfl)) rfl ?_
 refine L_alloc (cs := [.int .u8 0, .int .u8 0, .int .u8 0, .int .u8 0, .int .u8 0, .int .u8 0, .int .u8 0, .int .u8 0, .int .u8 0, .int .u8 0, .int .u8 0, .int .u8 0, .int .u8 0, .int .u8 0, .int .u8 0, .int .u8 0, .int .u8 0, .int .u8 0, .int .u8 0, .int .u8 0, .int .u8 0, .int .u8 0, .int .u8 0, .int .u8 0, .int .u8 0, .int .u8 0, .int .u8 0, .int .u8 0, .int .u8 0, .int .u8 0, .int .u8 0, .int .u8 0, .int .u8 0, .int .u8 0, .int .u8 0, .int .u8 0, .int .u8 0, .int .u8 0, .int .u8 0, .int .u8 0, .int .u8 0, .int .u8 0, .int .u8 0, .int .u8 0, .int .u8 0, .int .u8 0, .int .u8 0, .int .u8 0, .int .u8 0, .int .u8 0, .int .u8 0, .int .u8 0, .int .u8 0, .int .u8 0, .int .u8 0, .int .u8 0, .int .u8 0, .int .u8 0, .int .u8 0, .int .u8 0, .int .u8 0, .int .u8 0, .int .u8 0, .int .u8 0]) zer50 rfl rfl ?_
 intro g2 w2 eg2 hb2 hs2 hz2
 have ge2 : w.heap.size ≤ g2 := eg_ge hB eg2
 have lt1 : g1 < g2 := lt_of_eg hb1.lt eg2
 replace hB := gb_tr hB hs2; replace hS := hS.gb hs2; replace hb1 := hb1.gb hs2; replace hb2 : Blk w2 g2 50 (fl encB (List.replicate 64 (0 : UInt8))) := hb2
 refine L_stA (vs := fl encB (List.replicate 64 (0 : UInt8))) rfl rfl (flB_one _) sz50 (flB_lenE List.length_replicate) hb2 (flB_lenE List.length_replicate) ?_
 intro w3 hb3 hs3 hz3
 replace hB := gb_trg hB hs3 ge2; replace hS := hS.old hs3 ge2; replace hb1 := hb1.grown hs3 (ne_lt lt1)
 refine L_nil (N_then (C_seq (C_seq (C_reg rfl (Las rfl rfl (L_nil (N_then (C_block ?_))))))))
 refine C_loop (fun m_ a_ w_ => ∃ (σ_ : Nat → Value) (k : Nat) (Y : List UInt8), a_ = Ac 22 σ_ [] [(0, .int .u64 (e : Int)), (1, .int .i64 (i : Int)), (2, .slice A X.length c), (6, .pointer (some ⟨g1, 0, none⟩)), (7, .pointer (some ⟨g2, 0, none⟩)), (8, .int .i64 (k : Int))] ∧ w.grownBy w_ none ∧ Sli t1 lo w.heap.size w_ A (fl encB X) ∧ Blk w_ g1 50 (fl encB (List.replicate 64 (0 : UInt8))) ∧ Blk w_ g2 50 (fl encB Y) ∧ (k ≤ 64) ∧ (Y.length = 64) ∧ (Y.take k = (sealN e i X).take k) ∧ 64 - k = m_) (64 - 0) ?_ ?_
 ·exact ⟨_, 0, (List.replicate 64 (0 : UInt8)), Ac_frg ⟨rfl, rfl, rfl, rfl, rfl, (agx rfl), trivial⟩, hB, hS, hb1, hb3, (by omega), List.length_replicate, rfl, rfl⟩
 ·clear hB
  clear hS hb1 hb3
  rintro m_ a_ w4 ⟨σ_, k, Y, rfl, hB, hS, hb1, hbY, hk, hbl, hbk, rfl⟩
  refine C_seq (C_seq (C_reg rfl ?_))
  refine Lmv rfl rfl (L_run (R_lss rfl rfl) rfl (L_nil (N_then (C_if rfl (fun h1 => ?_) (fun h1 => ?_)))))
  ·refine C_skip (N_then (C_seq (C_block (C_reg rfl ?_))))
   refine Lmv rfl rfl (Lmv rfl rfl (Lmv rfl rfl (Lmv rfl rfl (Lmv rfl rfl ?_))))
   refine L_call rfl cb103 (byte6 (e := e) (i := i) (a := k) hS hX he hi4 (by omega)) rfl ?_
   rintro _ w5 ⟨hs4, rfl⟩
   replace hB := gb_tr hB hs4; replace hS := hS.gb hs4; replace hb1 := hb1.gb hs4; replace hbY := hbY.gb hs4
   refine L_run (R_indexArr (i := k) (r := k) rfl rfl (by first | rfl | omega) arr50 (by omega) (by omega)) rfl ?_
   refine L_st1v (v := .int .u8 (((sealN e i X).getD k 0).toNat : Int)) rfl rfl rfl sz5 hbY (by rw [fl_len EncB, Nat.mul_one]; first | (omega) | (rw [hbl]; omega)) ?_
   intro w6 hb4 hs5 hz4
   rw [fl_setB (by first | (omega) | (rw [hbl]; omega))] at hb4
   replace hB := gb_trg hB hs5 ge2; replace hS := hS.old hs5 ge2; replace hb1 := hb1.grown hs5 (ne_lt lt1)
   refine L_nil (N_in (N_then (C_reg rfl ?_)))
   refine Lmv rfl rfl ?_
   refine L_run (R_add64 rfl rfl (by omega)) rfl ?_
   refine Las rfl rfl (L_nil (N_then ?_))
   exact ⟨64 - (k + 1), by omega, _, (k + 1), (Y.set k ((sealN e i X).getD k 0)), Ac_frg ⟨rfl, rfl, rfl, rfl, rfl, (agx rfl), trivial⟩, hB, hS, hb1, hb4, (by omega), (by rw [List.length_set]; exact hbl), (set_take (by rw [sealN_len hX]; exact hbl) (by omega) hbk), rfl⟩
  ·refine C_exit (X_then (X_then (X_hit (N_then (C_seq (C_reg rfl ?_))))))
   refine L_run (R_loadA (vs := fl encB Y) rfl agg50 (hbY.at_ 0) (flB_lenE hbl)) rfl ?_
   refine L_stA (vs := fl encB Y) rfl rfl (flB_one _) sz50 (flB_lenE hbl) hb1 (flB_lenE List.length_replicate) ?_
   intro w7 hb5 hs6 hz5
   replace hB := gb_trg hB hs6 ge1
   refine L_nil (N_then (C_ret ?_))
   refine retC (vs := fl encB Y) Tryd.results82 rfl agg50 (hb5.at_ 0) (flB_lenE hbl) ?_
   obtain rfl : k = 64 := by omega
   have e_ : Y = sealN e i X := by rw [← List.take_of_length_le (l := Y) (i := 64) (by omega), hbk, List.take_of_length_le (by rw [sealN_len hX]; omega)]
   subst e_; exact ⟨hB, rfl⟩
theorem room6 {w : World} {s : List UInt8} (hs : s.length = 64) :
    Runs Tryd.prog 83 #[.agg (fl encB s).toArray] w (fun v w' => w.grownBy w' none ∧ ∃ A' c', v = .slice A' (s.drop 12).length c' ∧ World.ownsRow w' w.heap.size 5 1 (.slice A' (s.drop 12).length c') (s.drop 12).length (fl encB (s.drop 12))) := by
 have hB := gb_refl w none
 refine enter Tryd.func83 Tryd.ntmps83 rfl rfl ?_
 refine C_seq (C_reg rfl ?_)
 refine L_box (cs := fl encB s) rfl rfl rfl ?_
 intro g1 w1 eg1 hb1 hs1 hz1
 replace hB := gb_tr hB hs1
 refine Las rfl rfl (L_nil (N_then (C_seq (C_reg rfl (Las rfl rfl (L_nil (N_then (C_seq (C_seq (C_reg rfl (Las rfl rfl (L_nil (N_then (C_block ?_))))))))))))))
 refine C_loop (fun m_ a_ w_ => ∃ (σ_ : Nat → Value) (A' : Option Addr) (c' : Nat) (k : Nat), a_ = Ac 16 σ_ [] [(1, .pointer (some ⟨g1, 0, none⟩)), (3, .slice A' (((s.drop 12).take (k - 12)).length) c'), (4, .int .i64 (k : Int))] ∧ w.grownBy w_ none ∧ Blk w_ g1 50 (fl encB s) ∧ World.ownsRow w_ w.heap.size 5 1 (.slice A' ((s.drop 12).take (k - 12)).length c') ((s.drop 12).take (k - 12)).length (fl encB ((s.drop 12).take (k - 12))) ∧ (12 ≤ k ∧ k ≤ 64) ∧ 64 - k = m_) (64 - 12) ?_ ?_
 ·exact ⟨_, none, 0, 12, Ac_frg ⟨rfl, (agx rfl), (agx rfl), trivial⟩, hB, hb1, (own_nil _ _ _ _), (by omega), rfl⟩
 ·clear hB
  clear hb1
  rintro m_ a_ w2 ⟨σ_, A', c', k, rfl, hB, hb1, ho, hk, rfl⟩
  refine C_seq (C_seq (C_reg rfl ?_))
  refine Lmv rfl rfl (L_run (R_lss rfl rfl) rfl (L_nil (N_then (C_if rfl (fun h1 => ?_) (fun h1 => ?_)))))
  ·refine C_skip (N_then (C_seq (C_block (C_reg rfl ?_))))
   refine Lmv rfl rfl (Lmv rfl rfl ?_)
   refine L_run (R_indexArr (i := k) (r := k) rfl rfl (by first | rfl | omega) arr50 (by omega) (by omega)) rfl ?_
   have hl1 : k < s.length := by rw [hs]; omega
   refine L_run (R_load1 rfl scl5 (hb1.cell (fl_atB hl1))) rfl ?_
   refine L_buildSlice (pv := [(0, .int .u8 (s[k].toNat : Int))]) (cs := [.int .u8 (s[k].toNat : Int)]) slc34 zer5 rfl rfl (by kernel_rfl) rfl ?_
   intro g2 w3 eg2 hb2 hs2 hz2
   have hap1 : ∀ k_, (Value.slice A' ((s.drop 12).take (k - 12)).length c').ownBlock = some k_ → k_ ≠ g2 := fun k_ hk => by have h_ := (World.ownsRow.lt ho k_ hk).2; omega
   replace hB := gb_tr hB hs2; replace hb1 := hb1.gb hs2; replace ho := own_gb ho hs2
   refine T_append (xs := (s.drop 12).take (k - 12)) (ys := [s[k]]) EncB slc34 rfl rfl ho (Blk.sli (m := 0) hb2) (by simp; omega) (by have := hB.size; omega) rfl ?_
   intro A_1 c_1 w4 ho1 hs3 hat1
   replace hB := gb_tro hB ho hs3 (Nat.le_refl _); replace hb1 := blk_own hb1 ho rfl hs3
   refine Las rfl rfl ?_
   refine L_nil (N_in (N_then (C_reg rfl ?_)))
   refine Lmv rfl rfl ?_
   refine L_run (R_add64 rfl rfl (by omega)) rfl ?_
   refine Las rfl rfl (L_nil (N_then ?_))
   have et_ := room_step (s := s) (k := k) (by omega) (by omega)
   exact ⟨64 - (k + 1), by omega, _, A_1, c_1, (k + 1), Ac_frg ⟨rfl, (agr rfl (by rw [← et_])), (agx rfl), trivial⟩, hB, hb1, (by rw [← et_]; exact ho1), (by omega), rfl⟩
  ·refine C_exit (X_then (X_then (X_hit (N_then (C_seq (C_reg rfl ?_))))))
   refine Lmv rfl rfl (Las rfl rfl (L_nil (N_then (C_ret ?_))))
   refine ret1 Tryd.results83 rfl ?_
   obtain rfl : k = 64 := by omega
   have e_ : (s.drop 12).take (64 - 12) = s.drop 12 := List.take_of_length_le (by rw [List.length_drop]; omega)
   rw [e_] at ho ⊢
   exact ⟨hB, _, _, rfl, ho⟩
theorem open6_y {w : World} {s : List UInt8} {e i : Nat} (hs : s.length = 64) (he : e < 18446744073709551616) (hi4 : i < 4294967296) (hq : getN (s.take 8) = e ∧ getN ((s.drop 8).take 4) = i) :
    Runs Tryd.prog 59 #[.agg (fl encB s).toArray, .int .u64 (e : Int), .int .i64 (i : Int)] w (fun v w' => w.grownBy w' none ∧ ∃ A' c', v = .tuple #[.slice A' (s.drop 12).length c', .bool true] ∧ World.ownsRow w' w.heap.size 5 1 (.slice A' (s.drop 12).length c') (s.drop 12).length (fl encB (s.drop 12))) := by
 have hB := gb_refl w none
 refine enter Tryd.func59 Tryd.ntmps59 rfl rfl ?_
 refine C_seq (C_reg rfl ?_)
 refine L_box (cs := fl encB s) rfl rfl rfl ?_
 intro g1 w1 eg1 hb1 hs1 hz1
 replace hB := gb_tr hB hs1
 refine Las rfl rfl (Las rfl rfl (L_nil (N_then (C_seq (C_seq ?_)))))
 refine C_draw2 rfl mix ?_
 intro w2 hs2 hz2
 replace hB := gb_tr hB hs2; replace hb1 := hb1.gb hs2
 refine ⟨fun W_ => Blk W_ g1 50 (fl encB s) ∧ True, [0, 1, 2, 5, 6], ?_⟩
 refine T_tk (i := 0) rfl (Y_of (fun _ _ => R_move rfl)) ⟨hb1, trivial⟩ rfl ?_
 refine T_tk (i := 1) rfl (Y_of (fun _ _ => R_move rfl)) ⟨hb1, trivial⟩ rfl ?_
 refine T_tk (i := 2) rfl (Y_of (fun _ ⟨hb1, _⟩ => R_loadA (vs := fl encB s) rfl agg50 (hb1.at_ 0) (flB_lenE hs))) ⟨hb1, trivial⟩ rfl ?_
 refine T_tk (i := 5) rfl (Y_of (fun _ ⟨hb1, _⟩ => R_loadA (vs := fl encB s) rfl agg50 (hb1.at_ 0) (flB_lenE hs))) ⟨hb1, trivial⟩ rfl ?_
 refine T_all (rs := [3]) (by kernel_rfl) rfl (all1 (O_one rfl ?_))
 refine L_call rfl cb83 (room6 (s := s) hs) rfl ?_
 rintro _ w3 ⟨hs3, A_1, c_1, rfl, ho1⟩
 have lb1 : g1 < w2.heap.size := hb1.lt
 replace hB := gb_tr hB hs3; replace hb1 := hb1.gb hs3
 have hlo1 : w2.heap.size ≤ w3.heap.size := hs3.size
 refine L_nil (N_then ⟨fun hN_ => ⟨hb1, trivial⟩, ?_⟩)
 refine T_all (rs := [4]) (by kernel_rfl) rfl (all1 (O_one rfl ?_))
 refine L_call rfl cb82 (seal6 (e := e) (i := i) (own_of ho1).2.2 (by rw [List.length_drop, hs]) he hi4) rfl ?_
 rintro _ w4 ⟨hs4, rfl⟩
 replace hB := gb_tr hB hs4; replace hb1 := hb1.gb hs4
 refine L_nil (N_then ⟨fun hN_ => ⟨hb1, trivial⟩, ?_⟩)
 refine T_tk (i := 6) rfl (Y_of (fun _ _ => R_neqA rfl rfl eqg50 (eqs_bytes arr50 int5 scl5 (sealN_len (by rw [List.length_drop, hs])) hs))) ⟨hb1, trivial⟩ rfl ?_
 refine T_done (by kernel_rfl) (CalmE.normal ?_)
 refine N_then (C_condF rfl (decide_eq_false (fun hn => hn ((seal_eq hs he hi4).2 hq))) (C_skip (N_then (C_seq (C_reg rfl ?_)))))
 refine L_run (R_loadA (vs := fl encB s) rfl agg50 (hb1.at_ 0) (flB_lenE hs)) rfl ?_
 have ge3 : w.heap.size ≤ w4.heap.size := hB.size
 refine L_call rfl cb83 (room6 (s := s) hs) rfl ?_
 rintro _ w5 ⟨hs5, A_2, c_2, rfl, ho2⟩
 have lb2 : g1 < w4.heap.size := hb1.lt
 replace hB := gb_tr hB hs5
 have hlo2 : w4.heap.size ≤ w5.heap.size := hs5.size
 refine Las rfl rfl (Las rfl rfl (L_nil (N_then (C_ret ?_))))
 refine ret2 Tryd.results59 rfl rfl ?_
 exact ⟨hB, _, _, rfl, (own_lo ho2 ge3)⟩
theorem open6_n {w : World} {s : List UInt8} {e i : Nat} (hs : s.length = 64) (he : e < 18446744073709551616) (hi4 : i < 4294967296) (hq : ¬ (getN (s.take 8) = e ∧ getN ((s.drop 8).take 4) = i)) :
    Runs Tryd.prog 59 #[.agg (fl encB s).toArray, .int .u64 (e : Int), .int .i64 (i : Int)] w (fun v w' => w.grownBy w' none ∧ v = .tuple #[.slice none 0 0, .bool false]) := by
 have hB := gb_refl w none
 refine enter Tryd.func59 Tryd.ntmps59 rfl rfl ?_
 refine C_seq (C_reg rfl ?_)
 refine L_box (cs := fl encB s) rfl rfl rfl ?_
 intro g1 w1 eg1 hb1 hs1 hz1
 replace hB := gb_tr hB hs1
 refine Las rfl rfl (Las rfl rfl (L_nil (N_then (C_seq (C_seq ?_)))))
 refine C_draw2 rfl mix ?_
 intro w2 hs2 hz2
 replace hB := gb_tr hB hs2; replace hb1 := hb1.gb hs2
 refine ⟨fun W_ => Blk W_ g1 50 (fl encB s) ∧ True, [0, 1, 2, 5, 6], ?_⟩
 refine T_tk (i := 0) rfl (Y_of (fun _ _ => R_move rfl)) ⟨hb1, trivial⟩ rfl ?_
 refine T_tk (i := 1) rfl (Y_of (fun _ _ => R_move rfl)) ⟨hb1, trivial⟩ rfl ?_
 refine T_tk (i := 2) rfl (Y_of (fun _ ⟨hb1, _⟩ => R_loadA (vs := fl encB s) rfl agg50 (hb1.at_ 0) (flB_lenE hs))) ⟨hb1, trivial⟩ rfl ?_
 refine T_tk (i := 5) rfl (Y_of (fun _ ⟨hb1, _⟩ => R_loadA (vs := fl encB s) rfl agg50 (hb1.at_ 0) (flB_lenE hs))) ⟨hb1, trivial⟩ rfl ?_
 refine T_all (rs := [3]) (by kernel_rfl) rfl (all1 (O_one rfl ?_))
 refine L_call rfl cb83 (room6 (s := s) hs) rfl ?_
 rintro _ w3 ⟨hs3, A_1, c_1, rfl, ho1⟩
 have lb1 : g1 < w2.heap.size := hb1.lt
 replace hB := gb_tr hB hs3; replace hb1 := hb1.gb hs3
 have hlo1 : w2.heap.size ≤ w3.heap.size := hs3.size
 refine L_nil (N_then ⟨fun hN_ => ⟨hb1, trivial⟩, ?_⟩)
 refine T_all (rs := [4]) (by kernel_rfl) rfl (all1 (O_one rfl ?_))
 refine L_call rfl cb82 (seal6 (e := e) (i := i) (own_of ho1).2.2 (by rw [List.length_drop, hs]) he hi4) rfl ?_
 rintro _ w4 ⟨hs4, rfl⟩
 replace hB := gb_tr hB hs4; replace hb1 := hb1.gb hs4
 refine L_nil (N_then ⟨fun hN_ => ⟨hb1, trivial⟩, ?_⟩)
 refine T_tk (i := 6) rfl (Y_of (fun _ _ => R_neqA rfl rfl eqg50 (eqs_bytes arr50 int5 scl5 (sealN_len (by rw [List.length_drop, hs])) hs))) ⟨hb1, trivial⟩ rfl ?_
 refine T_done (by kernel_rfl) (CalmE.normal ?_)
 refine N_then (C_condT rfl (decide_eq_true (fun h => hq ((seal_eq hs he hi4).1 h))) (C_seq (C_reg rfl ?_)))
 refine Las rfl rfl (Las rfl rfl (L_nil (N_then (C_ret (R_then ?_)))))
 refine ret2 Tryd.results59 rfl rfl ?_
 exact ⟨hB, rfl⟩
end Go.Proofs.YtkjgjejkfjhcjaaDoor
namespace Go.Proofs.YtkjgjejkfjhcjaaDoor
open Go.RowKit Gw Pl
set_option linter.unusedVariables false
set_option linter.unusedSimpArgs false
theorem any75 : anyB Tryd.prog 75 = true := by kernel_rfl
theorem cb106 : callB Tryd.prog 106 = true := by kernel_rfl
theorem cb68 : callB Tryd.prog 68 = true := by kernel_rfl
theorem int75 : intB Tryd.prog 75 .u32 = true := by kernel_rfl
theorem conv3 {n : Nat} (h : n < 4294967296) : Value.int .i64 (IntKind.i64.wrap (n : Int)) = .int .i64 (n : Int) := by
  refine congrArg (Value.int .i64) ?_
  rw [IntKind.wrap_i64]
  omega
theorem spl_all {X Y : List UInt8} {n : Nat} (hx : X.length = n) (hy : Y.length = n) : spl X 0 (Y.take n) = Y := by
  unfold spl
  rw [List.take_of_length_le (by omega : Y.length ≤ n), List.take_zero, List.drop_of_length_le (by omega)]
  simp
theorem get4_lt {s : List UInt8} : getN ((((s.drop 8).take 4)).take 8) < 4294967296 := by
  have h := getN_lt (((s.drop 8).take 4).take 8)
  have h2 : (((s.drop 8).take 4).take 8).length ≤ 4 := by rw [List.length_take, List.length_take]; omega
  have h3 : 256 ^ (((s.drop 8).take 4).take 8).length ≤ 256 ^ 4 := Nat.pow_le_pow_right (by omega) h2
  omega
theorem take48 {s : List UInt8} : ((s.drop 8).take 4).take 8 = (s.drop 8).take 4 := by rw [List.take_take]; rfl
theorem take88 {s : List UInt8} : (s.take 8).take 8 = s.take 8 := by rw [List.take_take]; rfl
theorem read_ok {w : World} {s : List UInt8} (hs : s.length = 64) :
    Runs Tryd.prog 106 #[.agg (fl encB s).toArray] w (fun v w' => w.grownBy w' none ∧ ∃ g, w.heap.size ≤ g ∧ v = .tuple #[.int .u64 ((getN (s.take 8) : Nat) : Int), .int .i64 ((getN ((s.drop 8).take 4) : Nat) : Int), .slice (some ⟨g, 0, none⟩) (s.drop 12).length 52] ∧ Blk w' g 5 (fl encB (s.drop 12))) := by
 have hB := gb_refl w none
 refine enter Tryd.func106 Tryd.ntmps106 rfl rfl ?_
 refine C_seq (C_reg rfl ?_)
 refine L_box (cs := fl encB s) rfl rfl rfl ?_
 intro g1 w1 eg1 hb1 hs1 hz1
 replace hB := gb_tr hB hs1
 refine Las rfl rfl (Las rfl rfl (Las rfl rfl (L_nil (N_then (C_seq (C_reg rfl ?_))))))
 refine L_make (enc := encB) (m := 52) (x0 := (0 : UInt8)) slc34 zer5 rfl rfl rfl EncB (by omega) (by omega) rfl ?_
 intro g2 w2 eg2 hb2 hs2 hz2
 have ge2 : w.heap.size ≤ g2 := eg_ge hB eg2
 have lt1 : g1 < g2 := lt_of_eg hb1.lt eg2
 replace hB := gb_tr hB hs2; replace hb1 := hb1.gb hs2
 refine Las rfl rfl (L_nil (N_then (C_seq (C_reg rfl (Lmv rfl rfl ?_)))))
 refine T_slArr (bs := s) (i := 12) rfl rfl (by first | rfl | omega) arr50 (by omega) hb1 (by first | omega | (simp; omega)) rfl ?_
 intro A_1 hS_1
 refine T_copy (xs := (List.replicate 52 (0 : UInt8))) (ys := s.drop 12) (o := 0) (m := 52) EncB slc34 rfl rfl hb2 (fun _ => rfl) (by rw [List.length_replicate]; first | omega | (simp; omega)) hS_1 rfl ?_
 intro w3 hb3 hs3 hz3
 replace hB := gb_trg hB hs3 ge2; replace hb1 := hb1.grown hs3 (ne_lt lt1); replace hS_1 := hS_1.grown hs3 (by rintro _ ⟨rfl⟩; omega)
 refine L_nil (N_then (C_seq ?_))
 refine C_join (fun a_ w_ => (∃ (σ_ : Nat → Value), a_ = Ac 16 σ_ [] [(0, .agg (fl encB s).toArray), (1, .pointer (some ⟨g1, 0, none⟩)), (2, .int .u64 ((getN ((s.take 8).take 8) : Nat) : Int)), (3, .int .i64 ((getN (((s.drop 8).take 4).take 8) : Nat) : Int)), (4, .slice (some ⟨g2, 0, none⟩) 52 52), (5, .slice (some ⟨g2, 0, none⟩) 52 52)] ∧ w.grownBy w_ none ∧ Blk w_ g1 50 (fl encB s) ∧ Blk w_ g2 5 (fl encB (spl (List.replicate 52 (0 : UInt8)) 0 ((s.drop 12).take 52))) ∧ Sli 0 g1 (g1 + 1) w_ A_1 (fl encB (s.drop 12)))) ?_ ?_
 ·refine C_draw2 rfl mix ?_
  intro w4 hs4 hz4
  replace hB := gb_tr hB hs4; replace hb1 := hb1.gb hs4; replace hb3 := hb3.gb hs4; replace hS_1 := hS_1.gb hs4
  refine ⟨fun W_ => True, [4, 5, 6, 7, 8], ?_⟩
  refine T_tk (i := 5) rfl (Y_of (fun _ _ => R_move rfl)) trivial rfl ?_
  refine T_all (rs := [0, 2]) (by kernel_rfl) rfl (all2 (O_one rfl ?_) (O_one rfl ?_))
  ·refine T_slArrG (bs := s) (i := 0) (j := 8) (k := .i64) (k' := .i64) (a := 0) (b := 0) EncB arr50 rfl hb1 hs (by omega) (by omega) rfl rfl ⟨_, rfl⟩ ?_
   intro A_2 hS_2
   have e_ : (s.drop 0).take (8 - 0) = s.take 8 := rfl
   rw [e_] at hS_2 ⊢; clear e_
   refine L_nil (N_then ⟨fun hN_ => trivial, ?_⟩)
   refine T_all (rs := [1, 2]) (by kernel_rfl) rfl (all2 (O_one rfl ?_) (O_one rfl ?_))
   ·refine L_call rfl cb68 (word_get (bs := s.take 8) hS_2 (by first | omega | (simp; done) | (simp; omega))) rfl ?_
    rintro _ w5 ⟨hs5, rfl⟩
    replace hB := gb_tr hB hs5; replace hb1 := hb1.gb hs5; replace hb3 := hb3.gb hs5; replace hS_1 := hS_1.gb hs5
    refine L_nil (N_then ⟨fun hN_ => trivial, ?_⟩)
    refine T_all (rs := [2]) (by kernel_rfl) rfl (all1 (O_one rfl ?_))
    refine T_slArrG (bs := s) (i := 8) (j := 12) (k := .i64) (k' := .i64) (a := 0) (b := 0) EncB arr50 rfl hb1 hs (by omega) (by omega) rfl ⟨_, rfl⟩ ⟨_, rfl⟩ ?_
    intro A_3 hS_3
    have e_ : (s.drop 8).take (12 - 8) = (s.drop 8).take 4 := rfl
    rw [e_] at hS_3 ⊢; clear e_
    refine L_nil (N_then ⟨fun hN_ => trivial, ?_⟩)
    refine T_all (rs := [3]) (by kernel_rfl) rfl (all1 (O_one rfl ?_))
    refine L_call rfl cb68 (word_get (bs := (s.drop 8).take 4) hS_3 (by first | omega | (simp; done) | (simp; omega))) rfl ?_
    rintro _ w6 ⟨hs6, rfl⟩
    replace hB := gb_tr hB hs6; replace hb1 := hb1.gb hs6; replace hb3 := hb3.gb hs6; replace hS_1 := hS_1.gb hs6
    refine L_nil (N_then ⟨fun hN_ => trivial, ?_⟩)
    refine T_tk (i := 4) rfl (Y_of (fun _ _ => R_eqv (R_conv rfl any30 int3) (v' := .int .i64 ((getN (((s.drop 8).take 4).take 8) : Nat) : Int)) (conv3 get4_lt))) trivial rfl ?_
    refine T_tk (i := 6) rfl (Y_of (fun _ _ => R_assign rfl)) trivial rfl ?_
    refine T_tk (i := 7) rfl (Y_of (fun _ _ => R_assign rfl)) trivial rfl ?_
    refine T_tk (i := 8) rfl (Y_of (fun _ _ => R_assign rfl)) trivial rfl ?_
    refine T_done (by kernel_rfl) (CalmE.normal ?_)
    exact ⟨rfl, ⟨_, Ac_frg ⟨rfl, rfl, rfl, rfl, rfl, rfl, trivial⟩, hB, hb1, hb3, hS_1⟩⟩
   ·refine T_slArrG (bs := s) (i := 8) (j := 12) (k := .i64) (k' := .i64) (a := 0) (b := 0) EncB arr50 rfl hb1 hs (by omega) (by omega) rfl ⟨_, rfl⟩ ⟨_, rfl⟩ ?_
    intro A_4 hS_4
    have e_ : (s.drop 8).take (12 - 8) = (s.drop 8).take 4 := rfl
    rw [e_] at hS_4 ⊢; clear e_
    refine L_nil (N_then ⟨fun hN_ => trivial, ?_⟩)
    refine T_all (rs := [1]) (by kernel_rfl) rfl (all1 (O_one rfl ?_))
    refine L_call rfl cb68 (word_get (bs := s.take 8) hS_2 (by first | omega | (simp; done) | (simp; omega))) rfl ?_
    rintro _ w7 ⟨hs7, rfl⟩
    replace hB := gb_tr hB hs7; replace hb1 := hb1.gb hs7; replace hb3 := hb3.gb hs7; replace hS_1 := hS_1.gb hs7; replace hS_4 := hS_4.gb hs7
    refine L_nil (N_then ⟨fun hN_ => trivial, ?_⟩)
    refine T_all (rs := [3]) (by kernel_rfl) rfl (all1 (O_one rfl ?_))
    refine L_call rfl cb68 (word_get (bs := (s.drop 8).take 4) hS_4 (by first | omega | (simp; done) | (simp; omega))) rfl ?_
    rintro _ w8 ⟨hs8, rfl⟩
    replace hB := gb_tr hB hs8; replace hb1 := hb1.gb hs8; replace hb3 := hb3.gb hs8; replace hS_1 := hS_1.gb hs8
    refine L_nil (N_then ⟨fun hN_ => trivial, ?_⟩)
    refine T_tk (i := 4) rfl (Y_of (fun _ _ => R_eqv (R_conv rfl any30 int3) (v' := .int .i64 ((getN (((s.drop 8).take 4).take 8) : Nat) : Int)) (conv3 get4_lt))) trivial rfl ?_
    refine T_tk (i := 6) rfl (Y_of (fun _ _ => R_assign rfl)) trivial rfl ?_
    refine T_tk (i := 7) rfl (Y_of (fun _ _ => R_assign rfl)) trivial rfl ?_
    refine T_tk (i := 8) rfl (Y_of (fun _ _ => R_assign rfl)) trivial rfl ?_
    refine T_done (by kernel_rfl) (CalmE.normal ?_)
    exact ⟨rfl, ⟨_, Ac_frg ⟨rfl, rfl, rfl, rfl, rfl, rfl, trivial⟩, hB, hb1, hb3, hS_1⟩⟩
  ·refine T_slArrG (bs := s) (i := 8) (j := 12) (k := .i64) (k' := .i64) (a := 0) (b := 0) EncB arr50 rfl hb1 hs (by omega) (by omega) rfl ⟨_, rfl⟩ ⟨_, rfl⟩ ?_
   intro A_5 hS_5
   have e_ : (s.drop 8).take (12 - 8) = (s.drop 8).take 4 := rfl
   rw [e_] at hS_5 ⊢; clear e_
   refine L_nil (N_then ⟨fun hN_ => trivial, ?_⟩)
   refine T_all (rs := [0]) (by kernel_rfl) rfl (all1 (O_one rfl ?_))
   refine T_slArrG (bs := s) (i := 0) (j := 8) (k := .i64) (k' := .i64) (a := 0) (b := 0) EncB arr50 rfl hb1 hs (by omega) (by omega) rfl rfl ⟨_, rfl⟩ ?_
   intro A_6 hS_6
   have e_ : (s.drop 0).take (8 - 0) = s.take 8 := rfl
   rw [e_] at hS_6 ⊢; clear e_
   refine L_nil (N_then ⟨fun hN_ => trivial, ?_⟩)
   refine T_all (rs := [1]) (by kernel_rfl) rfl (all1 (O_one rfl ?_))
   refine L_call rfl cb68 (word_get (bs := s.take 8) hS_6 (by first | omega | (simp; done) | (simp; omega))) rfl ?_
   rintro _ w9 ⟨hs9, rfl⟩
   replace hB := gb_tr hB hs9; replace hb1 := hb1.gb hs9; replace hb3 := hb3.gb hs9; replace hS_1 := hS_1.gb hs9; replace hS_5 := hS_5.gb hs9
   refine L_nil (N_then ⟨fun hN_ => trivial, ?_⟩)
   refine T_all (rs := [3]) (by kernel_rfl) rfl (all1 (O_one rfl ?_))
   refine L_call rfl cb68 (word_get (bs := (s.drop 8).take 4) hS_5 (by first | omega | (simp; done) | (simp; omega))) rfl ?_
   rintro _ w10 ⟨hs10, rfl⟩
   replace hB := gb_tr hB hs10; replace hb1 := hb1.gb hs10; replace hb3 := hb3.gb hs10; replace hS_1 := hS_1.gb hs10
   refine L_nil (N_then ⟨fun hN_ => trivial, ?_⟩)
   refine T_tk (i := 4) rfl (Y_of (fun _ _ => R_eqv (R_conv rfl any30 int3) (v' := .int .i64 ((getN (((s.drop 8).take 4).take 8) : Nat) : Int)) (conv3 get4_lt))) trivial rfl ?_
   refine T_tk (i := 6) rfl (Y_of (fun _ _ => R_assign rfl)) trivial rfl ?_
   refine T_tk (i := 7) rfl (Y_of (fun _ _ => R_assign rfl)) trivial rfl ?_
   refine T_tk (i := 8) rfl (Y_of (fun _ _ => R_assign rfl)) trivial rfl ?_
   refine T_done (by kernel_rfl) (CalmE.normal ?_)
   exact ⟨rfl, ⟨_, Ac_frg ⟨rfl, rfl, rfl, rfl, rfl, rfl, trivial⟩, hB, hb1, hb3, hS_1⟩⟩
 ·clear hB
  clear hb1 hb3 hS_1
  rintro a_ w11 ⟨σ_, rfl, hB, hb1, hb3, hS_1⟩
  refine N_then (C_ret ?_)
  refine ret3 Tryd.results106 rfl rfl rfl ?_
  rw [spl_all List.length_replicate (by rw [List.length_drop, hs])] at hb3
  refine ⟨hB, g2, ge2, ?_, hb3⟩
  rw [take88, take48, show (s.drop 12).length = 52 by rw [List.length_drop, hs]]
theorem open_y {w : World} {s : List UInt8} {e i : Nat} (hs : s.length = 64) (he : e < 18446744073709551616) (hi4 : i < 4294967296) (hq : getN (s.take 8) = e ∧ getN ((s.drop 8).take 4) = i) :
    Runs Tryd.prog 88 #[.agg (fl encB s).toArray, .int .u64 (e : Int), .int .i64 (i : Int)] w (fun v w' => w.grownBy w' none ∧ ∃ g, w.heap.size ≤ g ∧ v = .tuple #[.slice (some ⟨g, 0, none⟩) (s.drop 12).length 52, .bool true] ∧ Blk w' g 5 (fl encB (s.drop 12))) := by
 have hB := gb_refl w none
 refine enter Tryd.func88 Tryd.ntmps88 rfl rfl ?_
 refine C_seq (C_reg rfl ?_)
 refine L_box (cs := fl encB s) rfl rfl rfl ?_
 intro g1 w1 eg1 hb1 hs1 hz1
 replace hB := gb_tr hB hs1
 refine Las rfl rfl (Las rfl rfl (L_nil (N_then (C_seq (C_reg rfl (L_run (R_loadA (vs := fl encB s) rfl agg50 (hb1.at_ 0) (flB_lenE hs)) rfl ?_))))))
 have ge2 : w.heap.size ≤ w1.heap.size := hB.size
 refine L_call rfl cb106 (read_ok (s := s) hs) rfl ?_
 rintro _ w2 ⟨hs2, g2, hg1, rfl, hb2⟩
 have lb1 : g1 < w1.heap.size := hb1.lt
 replace hB := gb_tr hB hs2
 refine Lmv rfl rfl (L_run (R_extract rfl rfl) rfl (L_run (R_extract rfl rfl) rfl (L_run (R_extract rfl rfl) rfl (Las rfl rfl (Las rfl rfl (Las rfl rfl (L_nil (N_then (C_seq (C_seq (C_reg rfl (Lmv rfl rfl (Lmv rfl rfl (L_run (R_neq rfl rfl) rfl (Lmv rfl rfl (L_yes rfl rfl rfl (decide_eq_false (by omega)) (Lmv rfl rfl (L_yes rfl rfl rfl (decide_eq_false (by omega)) (Lmv rfl rfl ?_)))))))))))))))))))
 refine L_yes rfl rfl rfl (decide_eq_false (by omega)) ?_
 refine L_run (R_eqv (R_conv rfl any3 int75) (v' := .int .u32 (i : Int)) (congrArg _ (by rw [IntKind.wrap_u32]; omega))) rfl ?_
 refine L_yes rfl rfl rfl (decide_eq_false (by omega)) (L_run (R_eqv (R_conv rfl any75 int3) (v' := .int .i64 (i : Int)) (conv3 hi4)) rfl (L_yes rfl rfl rfl (decide_eq_false (by omega)) (L_run (R_neq rfl rfl) rfl ?_)))
 refine L_run (R_pickF rfl (decide_eq_false (by omega)) rfl) rfl ?_
 refine L_nil (N_then (C_condF rfl (decide_eq_false (by omega)) (C_skip (N_then (C_seq (C_reg rfl (Lmv rfl rfl (Las rfl rfl (Las rfl rfl (L_nil (N_then (C_ret ?_))))))))))))
 refine ret2 Tryd.results88 rfl rfl ?_
 exact ⟨hB, g2, (Nat.le_trans ge2 hg1), rfl, hb2⟩
theorem open_n {w : World} {s : List UInt8} {e i : Nat} (hs : s.length = 64) (he : e < 18446744073709551616) (hi4 : i < 4294967296) (hq : ¬ (getN (s.take 8) = e ∧ getN ((s.drop 8).take 4) = i)) :
    Runs Tryd.prog 88 #[.agg (fl encB s).toArray, .int .u64 (e : Int), .int .i64 (i : Int)] w (fun v w' => w.grownBy w' none ∧ v = .tuple #[.slice none 0 0, .bool false]) := by
 have hB := gb_refl w none
 refine enter Tryd.func88 Tryd.ntmps88 rfl rfl ?_
 refine C_seq (C_reg rfl ?_)
 refine L_box (cs := fl encB s) rfl rfl rfl ?_
 intro g1 w1 eg1 hb1 hs1 hz1
 replace hB := gb_tr hB hs1
 refine Las rfl rfl (Las rfl rfl (L_nil (N_then (C_seq (C_reg rfl (L_run (R_loadA (vs := fl encB s) rfl agg50 (hb1.at_ 0) (flB_lenE hs)) rfl ?_))))))
 refine L_call rfl cb106 (read_ok (s := s) hs) rfl ?_
 rintro _ w2 ⟨hs2, g2, hg1, rfl, hb2⟩
 have lb1 : g1 < w1.heap.size := hb1.lt
 replace hB := gb_tr hB hs2
 refine Lmv rfl rfl (L_run (R_extract rfl rfl) rfl (L_run (R_extract rfl rfl) rfl (L_run (R_extract rfl rfl) rfl (Las rfl rfl (Las rfl rfl (Las rfl rfl (L_nil (N_then (C_seq (C_seq (C_reg rfl (Lmv rfl rfl (Lmv rfl rfl (L_run (R_neq rfl rfl) rfl (Lmv rfl rfl ?_)))))))))))))))
 refine L_splitD (p := ((getN (s.take 8) : Nat) : Int) ≠ (e : Int)) (fun h1 => ?_) (fun h1 => ?_)
 ·refine L_no rfl rfl rfl (decide_eq_true h1) rfl (L_no rfl rfl rfl (decide_eq_true h1) rfl (L_no rfl rfl rfl (decide_eq_true h1) rfl (L_no rfl rfl rfl (decide_eq_true h1) rfl (L_no rfl rfl rfl (decide_eq_true h1) rfl (L_run (R_pickT rfl (decide_eq_true h1) rfl) rfl (L_nil (N_then (C_condT rfl rfl (C_seq (C_reg rfl (Las rfl rfl (Las rfl rfl (L_nil (N_then (C_ret (R_then ?_))))))))))))))))
  refine ret2 Tryd.results88 rfl rfl ?_
  exact ⟨hB, rfl⟩
 ·refine L_yes rfl rfl rfl (decide_eq_false h1) (Lmv rfl rfl (L_yes rfl rfl rfl (decide_eq_false h1) (Lmv rfl rfl (L_yes rfl rfl rfl (decide_eq_false h1) ?_))))
  refine L_run (R_eqv (R_conv rfl any3 int75) (v' := .int .u32 (i : Int)) (congrArg _ (by rw [IntKind.wrap_u32]; omega))) rfl ?_
  refine L_yes rfl rfl rfl (decide_eq_false h1) (L_run (R_eqv (R_conv rfl any75 int3) (v' := .int .i64 (i : Int)) (conv3 hi4)) rfl (L_yes rfl rfl rfl (decide_eq_false h1) (L_run (R_neq rfl rfl) rfl (L_run (R_pickF rfl (decide_eq_false h1) rfl) rfl (L_nil (N_then (C_if rfl (fun h2 => ?_) (fun h2 => ?_))))))))
  ·refine C_seq (C_reg rfl ?_)
   refine Las rfl rfl (Las rfl rfl (L_nil (N_then (C_ret (R_then ?_)))))
   refine ret2 Tryd.results88 rfl rfl ?_
   exact ⟨hB, rfl⟩
  ·refine C_skip (N_then (C_seq (C_reg rfl ?_)))
   refine Lmv rfl rfl (Las rfl rfl (Las rfl rfl (L_nil (N_then (C_ret ?_)))))
   refine ret2 Tryd.results88 rfl rfl ?_
   exfalso; omega
end Go.Proofs.YtkjgjejkfjhcjaaDoor
namespace Go.Proofs.YtkjgjejkfjhcjaaDoor
open Go.RowKit Gw Pl
set_option linter.unusedVariables false
set_option linter.unusedSimpArgs false
theorem cb59 : callB Tryd.prog 59 = true := by kernel_rfl
theorem cb88 : callB Tryd.prog 88 = true := by kernel_rfl
theorem sz4 : szB Tryd.prog 4 1 = true := by kernel_rfl
theorem zer4 : (Tryd.prog.info? 4).bind (·.zero) = some (.bool false) := by kernel_rfl
theorem spl_mid {α : Type} {A r z : List α} {o m : Nat} (ho : o = A.length) (hm : r.length ≤ m) : spl (A ++ z) o (r.take m) = (A ++ r) ++ z.drop r.length := by
  subst ho
  unfold spl
  rw [List.take_of_length_le hm, List.take_left, List.drop_append, List.drop_of_length_le (by omega), List.nil_append, show A.length + r.length - A.length = r.length by omega]
theorem set_mid {A : List Bool} {n k : Nat} {b : Bool} (hA : A.length = k) (hk : k < n) : (A ++ List.replicate (n - k) false).set k b = (A ++ [b]) ++ List.replicate (n - (k + 1)) false := by
  subst hA
  rw [List.set_append_right _ _ (Nat.le_refl _), Nat.sub_self, show n - A.length = (n - (A.length + 1)) + 1 by omega, List.replicate_succ, List.set_cons_zero, List.append_assoc]
  rfl
def bsOf (ss : List Sx) : List (List UInt8) := ss.map (·.b)
theorem bsOf_len {ss : List Sx} : ∀ s ∈ bsOf ss, s.length = 64 := by
  intro s hs
  obtain ⟨x, _, rfl⟩ := List.mem_map.1 hs
  exact x.h
theorem room_in {ss : List Sx} {e i : Nat} (hi : i < ss.length) : roomN (bsOf ss) e i = if getN (ss[i].b.take 8) = e ∧ getN ((ss[i].b.drop 8).take 4) = i then some (ss[i].b.drop 12) else none := by
  have h : (bsOf ss)[i]? = some ss[i].b := by simp [bsOf, List.getElem?_eq_getElem hi]
  unfold roomN
  rw [h]
  rfl
theorem room_out {ss : List Sx} {e i : Nat} (hi : ss.length ≤ i) : roomN (bsOf ss) e i = none := by
  have h : (bsOf ss)[i]? = none := by simp [bsOf, hi]
  unfold roomN
  rw [h]
def flB (ss : List Sx) (e i : Nat) : List UInt8 := flatB (bsOf ss) e i ++ List.replicate (832 - 52 * i) 0
def flO (ss : List Sx) (e i : Nat) : List Bool := flatO (bsOf ss) e i ++ List.replicate (16 - i) false
theorem flB_0 {ss : List Sx} {e : Nat} : flB ss e 0 = List.replicate 832 0 := rfl
theorem flO_0 {ss : List Sx} {e : Nat} : flO ss e 0 = List.replicate 16 false := rfl
theorem flB_n {ss : List Sx} {e i : Nat} (h : i ≤ 16) : (flB ss e i).length = 832 := by
  unfold flB
  rw [List.length_append, flatB_len bsOf_len, List.length_replicate]
  omega
theorem flO_n {ss : List Sx} {e i : Nat} (h : i ≤ 16) : (flO ss e i).length = 16 := by
  unfold flO
  rw [List.length_append, flatO_len, List.length_replicate]
  omega
theorem flB_yes {ss : List Sx} {e i m : Nat} (hi : i < ss.length) (h16 : i < 16) (hq : getN (ss[i].b.take 8) = e ∧ getN ((ss[i].b.drop 8).take 4) = i) (hm : m = 52) : spl (flB ss e i) (0 + i * 52) ((ss[i].b.drop 12).take m) = flB ss e (i + 1) := by
  have hl : (ss[i].b.drop 12).length = 52 := by rw [List.length_drop, ss[i].h]
  unfold flB
  rw [spl_mid (by rw [flatB_len bsOf_len]; omega) (by omega), hl, flatB_succ, room_in hi, if_pos hq, List.drop_replicate, show 832 - 52 * i - 52 = 832 - 52 * (i + 1) by omega]
  rfl
theorem flB_no {ss : List Sx} {e i m : Nat} (hi : i < ss.length) (h16 : i < 16) (hq : ¬ (getN (ss[i].b.take 8) = e ∧ getN ((ss[i].b.drop 8).take 4) = i)) : spl (flB ss e i) (0 + i * 52) (([] : List UInt8).take m) = flB ss e (i + 1) := by
  rw [List.take_nil, spl_nil]
  unfold flB
  rw [flatB_succ, room_in hi, if_neg hq, List.append_assoc]
  simp only [Option.getD_none, List.replicate_append_replicate]
  rw [show 52 + (832 - 52 * (i + 1)) = 832 - 52 * i by omega]
theorem flO_yes {ss : List Sx} {e i : Nat} (hi : i < ss.length) (h16 : i < 16) (hq : getN (ss[i].b.take 8) = e ∧ getN ((ss[i].b.drop 8).take 4) = i) : (flO ss e i).set i true = flO ss e (i + 1) := by
  unfold flO
  rw [set_mid (flatO_len _ _ _) h16, flatO_succ, room_in hi, if_pos hq]
  rfl
theorem flO_no {ss : List Sx} {e i : Nat} (hi : i < ss.length) (h16 : i < 16) (hq : ¬ (getN (ss[i].b.take 8) = e ∧ getN ((ss[i].b.drop 8).take 4) = i)) : (flO ss e i).set i false = flO ss e (i + 1) := by
  unfold flO
  rw [set_mid (flatO_len _ _ _) h16, flatO_succ, room_in hi, if_neg hq]
  rfl
theorem flB_rest {ss : List Sx} {e i : Nat} (h : ss.length ≤ i) (h16 : i < 16) : flB ss e i = flB ss e (i + 1) := by
  unfold flB
  rw [flatB_succ, room_out h, List.append_assoc]
  simp only [Option.getD_none, List.replicate_append_replicate]
  rw [show 52 + (832 - 52 * (i + 1)) = 832 - 52 * i by omega]
theorem flO_rest {ss : List Sx} {e i : Nat} (h : ss.length ≤ i) (h16 : i < 16) : flO ss e i = flO ss e (i + 1) := by
  unfold flO
  rw [flatO_succ, room_out h, show 16 - i = (16 - (i + 1)) + 1 by omega, List.replicate_succ, List.append_assoc]
  rfl
theorem fl_end {ss : List Sx} {e i : Nat} (h : i = min ss.length 16) : flB ss e i = flB ss e 16 ∧ flO ss e i = flO ss e 16 := by
  have key : ∀ (d i : Nat), ss.length ≤ i → i + d = 16 → flB ss e i = flB ss e 16 ∧ flO ss e i = flO ss e 16 := by
    intro d
    induction d with
    | zero => intro i h1 h2; obtain rfl : i = 16 := by omega
              exact ⟨rfl, rfl⟩
    | succ d ih =>
      intro i h1 h2
      rw [flB_rest h1 (by omega), flO_rest h1 (by omega)]
      exact ih (i + 1) (by omega) (by omega)
  rcases Nat.lt_or_ge 16 ss.length with h2 | h2
  · obtain rfl : i = 16 := by omega
    exact ⟨rfl, rfl⟩
  · exact key (16 - i) i (by omega) (by omega)
theorem flB_16 {ss : List Sx} {e : Nat} : flB ss e 16 = flatB (bsOf ss) e 16 := by unfold flB; simp
theorem flO_16 {ss : List Sx} {e : Nat} : flO ss e 16 = flatO (bsOf ss) e 16 := by unfold flO; simp
theorem flat_ok {w : World} {t1 lo hi : Nat} {A : Option Addr} {c e : Nat} {ss : List Sx} (hS : Sli t1 lo hi w A (fl encX ss)) (he : e < 18446744073709551616) :
    Runs Tryd.prog 70 #[.int .u64 (e : Int), .slice A ss.length c] w (fun v w' => w.grownBy w' none ∧ ∃ g1 g2, w.heap.size ≤ g1 ∧ w.heap.size ≤ g2 ∧ v = .tuple #[.slice (some ⟨g1, 0, none⟩) (flatB (bsOf ss) e 16).length 832, .slice (some ⟨g2, 0, none⟩) (flatO (bsOf ss) e 16).length 16] ∧ Blk w' g1 5 (fl encB (flatB (bsOf ss) e 16)) ∧ Blk w' g2 4 (fl encO (flatO (bsOf ss) e 16))) := by
 have hB := gb_refl w none
 replace hS := hS.top
 refine enter Tryd.func70 Tryd.ntmps70 rfl rfl ?_
 refine C_seq (C_reg rfl ?_)
 refine Las rfl rfl (Las rfl rfl (L_nil (N_then (C_seq ?_))))
 refine C_join (fun a_ w_ => (∃ (σ_ : Nat → Value) (g1 : Nat) (g2 : Nat), a_ = Ac 48 σ_ [] [(0, .int .u64 (e : Int)), (1, .slice A ss.length c), (4, .slice none 0 0), (5, .slice none 0 0), (6, .slice (some ⟨g1, 0, none⟩) 832 832), (7, .slice (some ⟨g2, 0, none⟩) 16 16)] ∧ w.grownBy w_ none ∧ Sli t1 lo w.heap.size w_ A (fl encX ss) ∧ Blk w_ g1 5 (fl encB (List.replicate 832 (0 : UInt8))) ∧ Blk w_ g2 4 (fl encO (List.replicate 16 false)) ∧ w.heap.size ≤ g1 ∧ w.heap.size ≤ g2)) ?_ ?_
 ·refine C_draw2 rfl mix ?_
  intro w1 hs1 hz1
  replace hB := gb_tr hB hs1; replace hS := hS.gb hs1
  refine ⟨fun W_ => True, [2, 3], ?_⟩
  refine T_all (rs := [0, 1]) (by kernel_rfl) rfl (all2 (O_one rfl ?_) (O_one rfl ?_))
  ·refine L_make (enc := encB) (m := 832) (x0 := (0 : UInt8)) slc34 zer5 rfl rfl rfl EncB (by omega) (by omega) rfl ?_
   intro g1 w2 eg1 hb1 hs2 hz2
   have ge1 : w.heap.size ≤ g1 := eg_ge hB eg1
   replace hB := gb_tr hB hs2; replace hS := hS.gb hs2
   refine L_nil (N_then ⟨fun hN_ => trivial, ?_⟩)
   refine T_tk (i := 2) rfl (Y_of (fun _ _ => R_assign rfl)) trivial rfl ?_
   refine T_all (rs := [1]) (by kernel_rfl) rfl (all1 (O_one rfl ?_))
   refine L_make (enc := encO) (m := 16) (x0 := false) slc79 zer4 rfl rfl rfl EncO (by omega) (by omega) rfl ?_
   intro g2 w3 eg2 hb2 hs3 hz3
   have ge2 : w.heap.size ≤ g2 := eg_ge hB eg2
   replace hB := gb_tr hB hs3; replace hS := hS.gb hs3; replace hb1 := hb1.gb hs3
   refine L_nil (N_then ⟨fun hN_ => trivial, ?_⟩)
   refine T_tk (i := 3) rfl (Y_of (fun _ _ => R_assign rfl)) trivial rfl ?_
   refine T_done (by kernel_rfl) (CalmE.normal ?_)
   exact ⟨rfl, ⟨_, g1, g2, Ac_frg ⟨rfl, rfl, rfl, rfl, rfl, rfl, trivial⟩, hB, hS, hb1, hb2, ge1, ge2⟩⟩
  ·refine L_make (enc := encO) (m := 16) (x0 := false) slc79 zer4 rfl rfl rfl EncO (by omega) (by omega) rfl ?_
   intro g3 w4 eg3 hb3 hs4 hz4
   have ge3 : w.heap.size ≤ g3 := eg_ge hB eg3
   replace hB := gb_tr hB hs4; replace hS := hS.gb hs4
   refine L_nil (N_then ⟨fun hN_ => trivial, ?_⟩)
   refine T_all (rs := [0]) (by kernel_rfl) rfl (all1 (O_one rfl ?_))
   refine L_make (enc := encB) (m := 832) (x0 := (0 : UInt8)) slc34 zer5 rfl rfl rfl EncB (by omega) (by omega) rfl ?_
   intro g4 w5 eg4 hb4 hs5 hz5
   have ge4 : w.heap.size ≤ g4 := eg_ge hB eg4
   replace hB := gb_tr hB hs5; replace hS := hS.gb hs5; replace hb3 := hb3.gb hs5
   refine L_nil (N_then ⟨fun hN_ => trivial, ?_⟩)
   refine T_tk (i := 2) rfl (Y_of (fun _ _ => R_assign rfl)) trivial rfl ?_
   refine T_tk (i := 3) rfl (Y_of (fun _ _ => R_assign rfl)) trivial rfl ?_
   refine T_done (by kernel_rfl) (CalmE.normal ?_)
   exact ⟨rfl, ⟨_, g4, g3, Ac_frg ⟨rfl, rfl, rfl, rfl, rfl, rfl, trivial⟩, hB, hS, hb4, hb3, ge4, ge3⟩⟩
 ·clear hB
  clear hS
  rintro a_ w6 ⟨σ_, g1, g2, rfl, hB, hS, hj1, hj2, ge5, ge6⟩
  refine N_then (C_seq (C_seq (C_reg rfl ?_)))
  refine Lmv rfl rfl (L_run (R_lenSl rfl slc26) rfl (L_run (R_min2 rfl rfl) rfl (Lmv rfl rfl (L_nil (N_then (C_block ?_))))))
  skip
  refine C_loop (fun m_ a_ w_ => ∃ (σ_ : Nat → Value) (i : Nat), a_ = Ac 48 σ_ [] [(0, .int .u64 (e : Int)), (1, .slice A ss.length c), (6, .slice (some ⟨g1, 0, none⟩) 832 832), (7, .slice (some ⟨g2, 0, none⟩) 16 16), (15, .int .i64 (min (ss.length : Int) 16)), (16, .int .i64 (i : Int))] ∧ w.grownBy w_ none ∧ Sli t1 lo w.heap.size w_ A (fl encX ss) ∧ Blk w_ g1 5 (fl encB (flB ss e i)) ∧ Blk w_ g2 4 (fl encO (flO ss e i)) ∧ (i ≤ ss.length ∧ i ≤ 16) ∧ 16 - i = m_) (16 - 0) ?_ ?_
  ·exact ⟨_, 0, Ac_frg ⟨rfl, rfl, rfl, rfl, rfl, (agx rfl), trivial⟩, hB, hS, (by rw [flB_0]; exact hj1), (by rw [flO_0]; exact hj2), (by omega), rfl⟩
  ·clear hB
   clear hS hj1 hj2
   rintro m_ a_ w7 ⟨σ_, i, rfl, hB, hS, hbB, hbO, hi, rfl⟩
   refine C_seq (C_reg rfl ?_)
   refine L_run (R_lss rfl rfl) rfl ?_
   refine L_nil (N_then (C_seq (C_if rfl (fun h1 => ?_) (fun h1 => ?_))))
   ·refine C_skip (N_then (C_seq (C_block (C_seq (C_reg rfl ?_)))))
    refine Lmv rfl rfl (Las rfl rfl (L_nil (N_then (C_seq (C_reg rfl (Lmv rfl rfl (Lmv rfl rfl ?_)))))))
    have hl1 : i < ss.length := by first | omega | (simp; omega)
    refine T_index (xs := ss) (i := i) EncX rfl rfl (by first | rfl | omega) slc26 hl1 hS rfl ?_
    intro g5 o1 ha1
    replace ha1 : At w7 g5 o1 (fl encB ss[i].b) := ha1
    refine L_run (R_loadA (vs := fl encB (ss[i].b)) rfl agg50 ha1 (flB_lenE ss[i].h)) rfl (Lmv rfl rfl (Lmv rfl rfl ?_))
    by_cases h2 : getN ((ss[i].b).take 8) = e ∧ getN (((ss[i].b).drop 8).take 4) = i
    ·refine L_call rfl cb88 (open_y (s := ss[i].b) (e := e) (i := i) ss[i].h he (by omega)  h2) rfl ?_
     rintro _ w8 ⟨hs6, g6, hg1, rfl, hb5⟩
     have lt4 : g2 < g6 := Nat.lt_of_lt_of_le hbO.lt hg1
     have lb1 : g1 < w7.heap.size := hbB.lt
     have lb2 : g2 < w7.heap.size := hbO.lt
     replace hB := gb_tr hB hs6; replace hS := hS.gb hs6; replace hbB := hbB.gb hs6; replace hbO := hbO.gb hs6
     refine Lmv rfl rfl (L_run (R_extract rfl rfl) rfl (L_run (R_extract rfl rfl) rfl (Las rfl rfl (Las rfl rfl (L_nil (N_then (C_seq (C_reg rfl (Lmv rfl rfl (Lmv rfl rfl (Lmv rfl rfl ?_)))))))))))
     refine L_run (R_indexE (i := i) (m := 16) (r := i) rfl rfl (by first | rfl | omega) slc79 (by omega) rfl (by omega)) rfl ?_
     refine L_st1v (v := .bool true) rfl rfl rfl sz4 hbO (by rw [fl_len EncO, Nat.mul_one, (flO_n (by omega))]; omega) ?_
     intro w9 hb6 hs7 hz6
     rw [fl_set1 EncO (b := true) rfl (by rw [(flO_n (by omega))]; omega)] at hb6
     replace hB := gb_trg hB hs7 ge6; replace hS := hS.old hs7 ge6; replace hbB := hbB.grown hs7 (ne_ty hbB hbO rfl); replace hb5 := hb5.grown hs7 (ne_gt lt4)
     refine L_nil (N_then (C_reg rfl (Lmv rfl rfl (Lmv rfl rfl ?_))))
     refine L_run (R_eqv (R_mul64 rfl rfl (by omega)) (v' := .int .i64 ((i * 52 : Nat) : Int)) (congrArg _ (by omega))) rfl ?_
     refine Lmv rfl rfl ?_
     refine L_run (R_add64 rfl rfl (by omega)) rfl ?_
     refine L_run (R_eqv (R_mul64 rfl rfl (by omega)) (v' := .int .i64 (((i + 1) * 52 : Nat) : Int)) (congrArg _ (by omega))) rfl ?_
     refine Lmv rfl rfl ?_
     refine L_run (R_add64 rfl rfl (by omega)) rfl ?_
     refine L_run (R_eqv (R_mul64 rfl rfl (by omega)) (v' := .int .i64 (((i + 1) * 52 : Nat) : Int)) (congrArg _ (by omega))) rfl ?_
     refine T_slB (o := 0) (m := 832) (i := (i * 52)) (j := ((i + 1) * 52)) (r := ((i + 1) * 52)) EncB slc34 rfl hbB (by rw [(flB_n (by omega))]; omega) (by first | omega | (simp; omega)) (by first | omega | (simp; omega)) (by first | omega | (simp; omega)) (by first | omega | (simp; omega)) rfl ⟨_, rfl⟩ ⟨_, rfl⟩ ⟨rfl, _, rfl⟩ ?_
     intro A_1 hA1 hS_1
     refine Lmv rfl rfl ?_
     refine T_copy (xs := (flB ss e i)) (ys := (ss[i].b).drop 12) (o := (0 + (i * 52))) (m := (((flB ss e i).drop (0 + (i * 52))).take (((i + 1) * 52) - (i * 52))).length) EncB slc34 rfl rfl hbB (fun _ => hA1 (by omega)) (by rw [List.length_take, List.length_drop, flB_n (by omega)]; omega) (Blk.sli (m := 0) hb5) rfl ?_
     intro w10 hb7 hs8 hz7
     replace hB := gb_trg hB hs8 ge5; replace hS := hS.old hs8 ge5; replace hb6 := hb6.grown hs8 (ne_ty hb6 hbB rfl)
     refine L_nil (N_in (N_then (C_reg rfl ?_)))
     refine L_run (R_add64 rfl rfl (by omega)) rfl ?_
     refine Lmv rfl rfl (L_nil (N_then ?_))
     exact ⟨16 - (i + 1), by omega, _, (i + 1), Ac_frg ⟨rfl, rfl, rfl, rfl, rfl, (agx rfl), trivial⟩, hB, hS, (by rw [← flB_yes (by omega) (by omega) h2 (m := (((flB ss e i).drop (0 + (i * 52))).take ((i + 1) * 52 - i * 52)).length) (by rw [List.length_take, List.length_drop, flB_n (by omega)]; omega)]; exact hb7), (by rw [← flO_yes (by omega) (by omega) h2]; exact hb6), (by omega), rfl⟩
    ·refine L_call rfl cb88 (open_n (s := ss[i].b) (e := e) (i := i) ss[i].h he (by omega)  h2) rfl ?_
     rintro _ w11 ⟨hs9, rfl⟩
     replace hB := gb_tr hB hs9; replace hS := hS.gb hs9; replace hbB := hbB.gb hs9; replace hbO := hbO.gb hs9
     refine Lmv rfl rfl (L_run (R_extract rfl rfl) rfl (L_run (R_extract rfl rfl) rfl (Las rfl rfl (Las rfl rfl (L_nil (N_then (C_seq (C_reg rfl (Lmv rfl rfl (Lmv rfl rfl (Lmv rfl rfl ?_)))))))))))
     refine L_run (R_indexE (i := i) (m := 16) (r := i) rfl rfl (by first | rfl | omega) slc79 (by omega) rfl (by omega)) rfl ?_
     refine L_st1v (v := .bool false) rfl rfl rfl sz4 hbO (by rw [fl_len EncO, Nat.mul_one, (flO_n (by omega))]; omega) ?_
     intro w12 hb8 hs10 hz8
     rw [fl_set1 EncO (b := false) rfl (by rw [(flO_n (by omega))]; omega)] at hb8
     replace hB := gb_trg hB hs10 ge6; replace hS := hS.old hs10 ge6; replace hbB := hbB.grown hs10 (ne_ty hbB hbO rfl)
     refine L_nil (N_then (C_reg rfl (Lmv rfl rfl (Lmv rfl rfl ?_))))
     refine L_run (R_eqv (R_mul64 rfl rfl (by omega)) (v' := .int .i64 ((i * 52 : Nat) : Int)) (congrArg _ (by omega))) rfl ?_
     refine Lmv rfl rfl ?_
     refine L_run (R_add64 rfl rfl (by omega)) rfl ?_
     refine L_run (R_eqv (R_mul64 rfl rfl (by omega)) (v' := .int .i64 (((i + 1) * 52 : Nat) : Int)) (congrArg _ (by omega))) rfl ?_
     refine Lmv rfl rfl ?_
     refine L_run (R_add64 rfl rfl (by omega)) rfl ?_
     refine L_run (R_eqv (R_mul64 rfl rfl (by omega)) (v' := .int .i64 (((i + 1) * 52 : Nat) : Int)) (congrArg _ (by omega))) rfl ?_
     refine T_slB (o := 0) (m := 832) (i := (i * 52)) (j := ((i + 1) * 52)) (r := ((i + 1) * 52)) EncB slc34 rfl hbB (by rw [(flB_n (by omega))]; omega) (by first | omega | (simp; omega)) (by first | omega | (simp; omega)) (by first | omega | (simp; omega)) (by first | omega | (simp; omega)) rfl ⟨_, rfl⟩ ⟨_, rfl⟩ ⟨rfl, _, rfl⟩ ?_
     intro A_2 hA2 hS_2
     refine Lmv rfl rfl ?_
     refine T_copy (xs := (flB ss e i)) (ys := []) (o := (0 + (i * 52))) (m := (((flB ss e i).drop (0 + (i * 52))).take (((i + 1) * 52) - (i * 52))).length) EncB slc34 rfl rfl hbB (fun _ => hA2 (by omega)) (by rw [List.length_take, List.length_drop, flB_n (by omega)]; omega) (Sli.nil (t := 0) (lo := 0) (hi := 0)) rfl ?_
     intro w13 hb9 hs11 hz9
     replace hB := gb_trg hB hs11 ge5; replace hS := hS.old hs11 ge5; replace hb8 := hb8.grown hs11 (ne_ty hb8 hbB rfl)
     refine L_nil (N_in (N_then (C_reg rfl ?_)))
     refine L_run (R_add64 rfl rfl (by omega)) rfl ?_
     refine Lmv rfl rfl (L_nil (N_then ?_))
     exact ⟨16 - (i + 1), by omega, _, (i + 1), Ac_frg ⟨rfl, rfl, rfl, rfl, rfl, (agx rfl), trivial⟩, hB, hS, (by rw [← flB_no (by omega) (by omega) h2 (m := (((flB ss e i).drop (0 + (i * 52))).take ((i + 1) * 52 - i * 52)).length)]; exact hb9), (by rw [← flO_no (by omega) (by omega) h2]; exact hb8), (by omega), rfl⟩
   ·refine C_exit (X_then (X_then (X_hit (N_then (C_seq (C_reg rfl ?_))))))
    refine Lmv rfl rfl (Lmv rfl rfl (Las rfl rfl (Las rfl rfl (L_nil (N_then (C_ret ?_))))))
    refine ret2 Tryd.results70 rfl rfl ?_
    obtain ⟨e1_, e2_⟩ := fl_end (ss := ss) (e := e) (i := i) (by omega)
    rw [e1_, flB_16] at hbB; rw [e2_, flO_16] at hbO
    exact ⟨hB, g1, g2, ge5, ge6, by rw [flatB_len bsOf_len, flatO_len], hbB, hbO⟩
theorem rB_yes {ss : List Sx} {e i : Nat} (hi : i < ss.length) (hq : getN (ss[i].b.take 8) = e ∧ getN ((ss[i].b.drop 8).take 4) = i) : flatB (bsOf ss) e i ++ ss[i].b.drop 12 = flatB (bsOf ss) e (i + 1) := by
  rw [flatB_succ, room_in hi, if_pos hq]; rfl
theorem rB_no {ss : List Sx} {e i : Nat} (hq : roomN (bsOf ss) e i = none) : flatB (bsOf ss) e i ++ List.replicate 52 (0 : UInt8) = flatB (bsOf ss) e (i + 1) := by
  rw [flatB_succ, hq]; rfl
theorem rO_yes {ss : List Sx} {e i : Nat} (hi : i < ss.length) (hq : getN (ss[i].b.take 8) = e ∧ getN ((ss[i].b.drop 8).take 4) = i) : flatO (bsOf ss) e i ++ [true] = flatO (bsOf ss) e (i + 1) := by
  rw [flatO_succ, room_in hi, if_pos hq]; rfl
theorem rO_no {ss : List Sx} {e i : Nat} (hq : roomN (bsOf ss) e i = none) : flatO (bsOf ss) e i ++ [false] = flatO (bsOf ss) e (i + 1) := by
  rw [flatO_succ, hq]; rfl
theorem room_miss {ss : List Sx} {e i : Nat} (hi : i < ss.length) (hq : ¬ (getN (ss[i].b.take 8) = e ∧ getN ((ss[i].b.drop 8).take 4) = i)) : roomN (bsOf ss) e i = none := by rw [room_in hi, if_neg hq]
theorem flat16 {w : World} {t1 lo hi : Nat} {A : Option Addr} {c e : Nat} {ss : List Sx} (hS : Sli t1 lo hi w A (fl encX ss)) (he : e < 18446744073709551616) :
    Runs Tryd.prog 39 #[.int .u64 (e : Int), .slice A ss.length c] w (fun v w' => w.grownBy w' none ∧ ∃ A1 c1 A2 c2, v = .tuple #[.slice A1 (flatB (bsOf ss) e 16).length c1, .slice A2 (flatO (bsOf ss) e 16).length c2] ∧ World.ownsRow w' w.heap.size 5 1 (.slice A1 (flatB (bsOf ss) e 16).length c1) (flatB (bsOf ss) e 16).length (fl encB (flatB (bsOf ss) e 16)) ∧ World.ownsRow w' w.heap.size 4 1 (.slice A2 (flatO (bsOf ss) e 16).length c2) (flatO (bsOf ss) e 16).length (fl encO (flatO (bsOf ss) e 16))) := by
 have hB := gb_refl w none
 replace hS := hS.top
 refine enter Tryd.func39 Tryd.ntmps39 rfl rfl ?_
 refine C_seq (C_reg rfl ?_)
 refine Las rfl rfl (Las rfl rfl (L_nil (N_then (C_seq (C_reg rfl (Las rfl rfl (L_nil (N_then (C_seq (C_reg rfl (Las rfl rfl (L_nil (N_then (C_seq (C_seq (C_reg rfl (Las rfl rfl (L_nil (N_then (C_block ?_))))))))))))))))))))
 refine C_loop (fun m_ a_ w_ => ∃ (σ_ : Nat → Value) (A1 : Option Addr) (c1 : Nat) (A2 : Option Addr) (c2 : Nat) (i : Nat), a_ = Ac 43 σ_ [] [(0, .int .u64 (e : Int)), (1, .slice A ss.length c), (6, .slice A1 ((flatB (bsOf ss) e i).length) c1), (7, .slice A2 ((flatO (bsOf ss) e i).length) c2), (8, .int .i64 (i : Int))] ∧ w.grownBy w_ none ∧ Sli t1 lo w.heap.size w_ A (fl encX ss) ∧ World.ownsRow w_ w.heap.size 5 1 (.slice A1 (flatB (bsOf ss) e i).length c1) (flatB (bsOf ss) e i).length (fl encB (flatB (bsOf ss) e i)) ∧ World.ownsRow w_ w.heap.size 4 1 (.slice A2 (flatO (bsOf ss) e i).length c2) (flatO (bsOf ss) e i).length (fl encO (flatO (bsOf ss) e i)) ∧ (i ≤ 16) ∧ 16 - i = m_) (16 - 0) ?_ ?_
 ·exact ⟨_, none, 0, none, 0, 0, Ac_frg ⟨rfl, rfl, (agx rfl), (agx rfl), (agx rfl), trivial⟩, hB, hS, (own_nil _ _ _ _), (own_nil _ _ _ _), (by omega), rfl⟩
 ·clear hB
  clear hS
  rintro m_ a_ w1 ⟨σ_, A1, c1, A2, c2, i, rfl, hB, hS, hoB, hoO, hi, rfl⟩
  refine C_seq (C_seq (C_reg rfl ?_))
  refine Lmv rfl rfl (L_run (R_lss rfl rfl) rfl (L_nil (N_then (C_if rfl (fun h1 => ?_) (fun h1 => ?_)))))
  ·refine C_skip (N_then (C_seq (C_block (C_seq (C_reg rfl ?_)))))
   refine L_make (enc := encB) (m := 52) (x0 := (0 : UInt8)) slc34 zer5 rfl rfl rfl EncB (by omega) (by omega) rfl ?_
   intro g1 w2 eg1 hb1 hs1 hz1
   have hap1 : ∀ k_, (Value.slice A1 (flatB (bsOf ss) e i).length c1).ownBlock = some k_ → k_ ≠ g1 := fun k_ hk => by have h_ := (World.ownsRow.lt hoB k_ hk).2; omega
   replace hB := gb_tr hB hs1; replace hS := hS.gb hs1; replace hoB := own_gb hoB hs1; replace hoO := own_gb hoO hs1
   refine Las rfl rfl (L_nil (N_then (C_seq (C_reg rfl (Las rfl rfl (L_nil (N_then (C_seq (C_seq (C_reg rfl (Lmv rfl rfl (Lmv rfl rfl (L_run (R_lenSl rfl slc26) rfl (L_run (R_lss rfl rfl) rfl (L_nil (N_then (C_if rfl (fun h2 => ?_) (fun h2 => ?_))))))))))))))))))
   ·refine C_seq (C_reg rfl ?_)
    refine Lmv rfl rfl (Lmv rfl rfl ?_)
    have hl1 : i < ss.length := by first | omega | (simp; omega)
    refine T_index (xs := ss) (i := i) EncX rfl rfl (by first | rfl | omega) slc26 hl1 hS rfl ?_
    intro g2 o1 ha1
    replace ha1 : At w2 g2 o1 (fl encB ss[i].b) := ha1
    refine L_run (R_loadA (vs := fl encB (ss[i].b)) rfl agg50 ha1 (flB_lenE ss[i].h)) rfl (Lmv rfl rfl (Lmv rfl rfl ?_))
    by_cases h3 : getN ((ss[i].b).take 8) = e ∧ getN (((ss[i].b).drop 8).take 4) = i
    ·refine L_call rfl cb59 (open6_y (s := ss[i].b) (e := e) (i := i) ss[i].h he (by omega)  h3) rfl ?_
     rintro _ w3 ⟨hs2, A_1, c_1, rfl, ho1⟩
     have lb1 : g1 < w2.heap.size := hb1.lt
     replace hB := gb_tr hB hs2; replace hS := hS.gb hs2; replace hoB := own_gb hoB hs2; replace hoO := own_gb hoO hs2; replace hb1 := hb1.gb hs2
     have hap2 : ∀ k_, (Value.slice A_1 ((ss[i].b).drop 12).length c_1).ownBlock = some k_ → k_ ≠ g1 := fun k_ hk => by have h_ := (World.ownsRow.lt ho1 k_ hk).1; omega
     have hlo1 : w2.heap.size ≤ w3.heap.size := hs2.size
     refine Lmv rfl rfl (L_run (R_extract rfl rfl) rfl (L_run (R_extract rfl rfl) rfl (Las rfl rfl (Las rfl rfl (L_nil (N_then (C_seq (C_reg rfl (Lmv rfl rfl (L_nil (N_then (C_condT rfl rfl (C_seq (C_reg rfl (Lmv rfl rfl (Las rfl rfl (L_nil (N_then (C_reg rfl (Las rfl rfl (L_nil (N_then (C_seq (C_reg rfl (Lmv rfl rfl (Lmv rfl rfl ?_))))))))))))))))))))))))))
     refine T_append (xs := flatB (bsOf ss) e i) (ys := (ss[i].b).drop 12) EncB slc34 rfl rfl hoB (own_of ho1).2.2 (by first | (rw [List.length_append, flatB_len bsOf_len, List.length_drop, Sx.h]; omega) | (rw [List.length_append, flatB_len bsOf_len, List.length_replicate]; omega) | (rw [flatB_len bsOf_len, List.length_drop, Sx.h]; omega) | (rw [flatB_len bsOf_len, List.length_replicate]; omega) | (rw [flatB_len bsOf_len]; omega)) (by have := hB.size; omega) rfl ?_
     intro A_2 c_2 w4 ho2 hs3 hat1
     have lt1 := hb1.lt
     replace hB := gb_tro hB hoB hs3 (Nat.le_refl _); replace hS := hS.grown hs3 (fun k hk => .inr (Nat.le_trans (Nat.le_refl _) (World.ownsRow.lt hoB k hk).1)); replace hoO := hoO.kept hs3 (own_type_ne' hoO hoB rfl)
     have hap3 : ∀ k_, (Value.slice A_2 ((flatB (bsOf ss) e i) ++ ((ss[i].b).drop 12)).length c_2).ownBlock = some k_ → k_ ≠ g1 := fun k_ hk => by rcases hat1 with h_ | h_ <;> rw [h_] at hk <;> first | exact hap1 k_ hk | (injection hk with hk; omega)
     refine Las rfl rfl (L_nil (N_then (C_reg rfl (Lmv rfl rfl (Lmv rfl rfl ?_)))))
     refine L_buildSlice (pv := [(0, .bool true)]) (cs := [.bool true]) slc79 zer4 rfl rfl (by kernel_rfl) rfl ?_
     intro g3 w5 eg2 hb2 hs4 hz2
     have hap4 : ∀ k_, (Value.slice A2 (flatO (bsOf ss) e i).length c2).ownBlock = some k_ → k_ ≠ g3 := fun k_ hk => by have h_ := (World.ownsRow.lt hoO k_ hk).2; omega
     replace hB := gb_tr hB hs4; replace hS := hS.gb hs4; replace hoO := own_gb hoO hs4; replace ho2 := own_gb ho2 hs4
     refine T_append (xs := flatO (bsOf ss) e i) (ys := [true]) EncO slc79 rfl rfl hoO (Blk.sli (m := 0) hb2) (by first | (rw [List.length_append, flatO_len]; simp; omega) | (rw [flatO_len]; simp; omega) | (rw [flatO_len]; omega)) (by have := hB.size; omega) rfl ?_
     intro A_3 c_3 w6 ho3 hs5 hat2
     replace hB := gb_tro hB hoO hs5 (Nat.le_refl _); replace hS := hS.grown hs5 (fun k hk => .inr (Nat.le_trans (Nat.le_refl _) (World.ownsRow.lt hoO k hk).1)); replace ho2 := ho2.kept hs5 (own_type_ne' ho2 hoO rfl)
     refine Las rfl rfl ?_
     refine L_nil (N_in (N_then (C_reg rfl ?_)))
     refine Lmv rfl rfl ?_
     refine L_run (R_add64 rfl rfl (by omega)) rfl ?_
     refine Las rfl rfl (L_nil (N_then ?_))
     have e1_ := rB_yes (ss := ss) (e := e) (i := i) (by omega) h3
     have e2_ := rO_yes (ss := ss) (e := e) (i := i) (by omega) h3
     exact ⟨16 - (i + 1), by omega, _, A_2, c_2, A_3, c_3, (i + 1), Ac_frg ⟨rfl, rfl, (agr rfl (by rw [← e1_])), (agr rfl (by rw [← e2_])), (agx rfl), trivial⟩, hB, hS, (by rw [← e1_]; exact ho2), (by rw [← e2_]; exact ho3), (by omega), rfl⟩
    ·refine L_call rfl cb59 (open6_n (s := ss[i].b) (e := e) (i := i) ss[i].h he (by omega)  h3) rfl ?_
     rintro _ w7 ⟨hs6, rfl⟩
     replace hB := gb_tr hB hs6; replace hS := hS.gb hs6; replace hoB := own_gb hoB hs6; replace hoO := own_gb hoO hs6; replace hb1 := hb1.gb hs6
     refine Lmv rfl rfl (L_run (R_extract rfl rfl) rfl (L_run (R_extract rfl rfl) rfl (Las rfl rfl (Las rfl rfl (L_nil (N_then (C_seq (C_reg rfl (Lmv rfl rfl (L_nil (N_then (C_condF rfl rfl (C_skip (N_then (C_seq (C_reg rfl (Lmv rfl rfl (Lmv rfl rfl ?_))))))))))))))))))
     refine T_append (xs := flatB (bsOf ss) e i) (ys := (List.replicate 52 (0 : UInt8))) EncB slc34 rfl rfl hoB (Blk.sli (m := 0) hb1) (by first | (rw [List.length_append, flatB_len bsOf_len, List.length_drop, Sx.h]; omega) | (rw [List.length_append, flatB_len bsOf_len, List.length_replicate]; omega) | (rw [flatB_len bsOf_len, List.length_drop, Sx.h]; omega) | (rw [flatB_len bsOf_len, List.length_replicate]; omega) | (rw [flatB_len bsOf_len]; omega)) (by have := hB.size; omega) rfl ?_
     intro A_4 c_4 w8 ho4 hs7 hat3
     replace hB := gb_tro hB hoB hs7 (Nat.le_refl _); replace hS := hS.grown hs7 (fun k hk => .inr (Nat.le_trans (Nat.le_refl _) (World.ownsRow.lt hoB k hk).1)); replace hoO := hoO.kept hs7 (own_type_ne' hoO hoB rfl)
     refine Las rfl rfl (L_nil (N_then (C_reg rfl (Lmv rfl rfl (Lmv rfl rfl ?_)))))
     refine L_buildSlice (pv := [(0, .bool false)]) (cs := [.bool false]) slc79 zer4 rfl rfl (by kernel_rfl) rfl ?_
     intro g4 w9 eg3 hb3 hs8 hz3
     have hap5 : ∀ k_, (Value.slice A2 (flatO (bsOf ss) e i).length c2).ownBlock = some k_ → k_ ≠ g4 := fun k_ hk => by have h_ := (World.ownsRow.lt hoO k_ hk).2; omega
     replace hB := gb_tr hB hs8; replace hS := hS.gb hs8; replace hoO := own_gb hoO hs8; replace ho4 := own_gb ho4 hs8
     refine T_append (xs := flatO (bsOf ss) e i) (ys := [false]) EncO slc79 rfl rfl hoO (Blk.sli (m := 0) hb3) (by first | (rw [List.length_append, flatO_len]; simp; omega) | (rw [flatO_len]; simp; omega) | (rw [flatO_len]; omega)) (by have := hB.size; omega) rfl ?_
     intro A_5 c_5 w10 ho5 hs9 hat4
     replace hB := gb_tro hB hoO hs9 (Nat.le_refl _); replace hS := hS.grown hs9 (fun k hk => .inr (Nat.le_trans (Nat.le_refl _) (World.ownsRow.lt hoO k hk).1)); replace ho4 := ho4.kept hs9 (own_type_ne' ho4 hoO rfl)
     refine Las rfl rfl ?_
     refine L_nil (N_in (N_then (C_reg rfl ?_)))
     refine Lmv rfl rfl ?_
     refine L_run (R_add64 rfl rfl (by omega)) rfl ?_
     refine Las rfl rfl (L_nil (N_then ?_))
     have e1_ := rB_no (room_miss (by omega) h3)
     have e2_ := rO_no (room_miss (by omega) h3)
     exact ⟨16 - (i + 1), by omega, _, A_4, c_4, A_5, c_5, (i + 1), Ac_frg ⟨rfl, rfl, (agr rfl (by rw [← e1_])), (agr rfl (by rw [← e2_])), (agx rfl), trivial⟩, hB, hS, (by rw [← e1_]; exact ho4), (by rw [← e2_]; exact ho5), (by omega), rfl⟩
   ·refine C_skip (N_then (C_seq (C_reg rfl ?_)))
    refine Lmv rfl rfl (Lmv rfl rfl ?_)
    refine T_append (xs := flatB (bsOf ss) e i) (ys := (List.replicate 52 (0 : UInt8))) EncB slc34 rfl rfl hoB (Blk.sli (m := 0) hb1) (by first | (rw [List.length_append, flatB_len bsOf_len, List.length_drop, Sx.h]; omega) | (rw [List.length_append, flatB_len bsOf_len, List.length_replicate]; omega) | (rw [flatB_len bsOf_len, List.length_drop, Sx.h]; omega) | (rw [flatB_len bsOf_len, List.length_replicate]; omega) | (rw [flatB_len bsOf_len]; omega)) (by have := hB.size; omega) rfl ?_
    intro A_6 c_6 w11 ho6 hs10 hat5
    replace hB := gb_tro hB hoB hs10 (Nat.le_refl _); replace hS := hS.grown hs10 (fun k hk => .inr (Nat.le_trans (Nat.le_refl _) (World.ownsRow.lt hoB k hk).1)); replace hoO := hoO.kept hs10 (own_type_ne' hoO hoB rfl)
    refine Las rfl rfl (L_nil (N_then (C_reg rfl (Lmv rfl rfl (Lmv rfl rfl ?_)))))
    refine L_buildSlice (pv := [(0, .bool false)]) (cs := [.bool false]) slc79 zer4 rfl rfl (by kernel_rfl) rfl ?_
    intro g5 w12 eg4 hb4 hs11 hz4
    have hap6 : ∀ k_, (Value.slice A2 (flatO (bsOf ss) e i).length c2).ownBlock = some k_ → k_ ≠ g5 := fun k_ hk => by have h_ := (World.ownsRow.lt hoO k_ hk).2; omega
    replace hB := gb_tr hB hs11; replace hS := hS.gb hs11; replace hoO := own_gb hoO hs11; replace ho6 := own_gb ho6 hs11
    refine T_append (xs := flatO (bsOf ss) e i) (ys := [false]) EncO slc79 rfl rfl hoO (Blk.sli (m := 0) hb4) (by first | (rw [List.length_append, flatO_len]; simp; omega) | (rw [flatO_len]; simp; omega) | (rw [flatO_len]; omega)) (by have := hB.size; omega) rfl ?_
    intro A_7 c_7 w13 ho7 hs12 hat6
    replace hB := gb_tro hB hoO hs12 (Nat.le_refl _); replace hS := hS.grown hs12 (fun k hk => .inr (Nat.le_trans (Nat.le_refl _) (World.ownsRow.lt hoO k hk).1)); replace ho6 := ho6.kept hs12 (own_type_ne' ho6 hoO rfl)
    refine Las rfl rfl ?_
    refine L_nil (N_in (N_then (C_reg rfl ?_)))
    refine Lmv rfl rfl ?_
    refine L_run (R_add64 rfl rfl (by omega)) rfl ?_
    refine Las rfl rfl (L_nil (N_then ?_))
    have e1_ := rB_no (ss := ss) (e := e) (i := i) (room_out (by omega))
    have e2_ := rO_no (ss := ss) (e := e) (i := i) (room_out (by omega))
    exact ⟨16 - (i + 1), by omega, _, A_6, c_6, A_7, c_7, (i + 1), Ac_frg ⟨rfl, rfl, (agr rfl (by rw [← e1_])), (agr rfl (by rw [← e2_])), (agx rfl), trivial⟩, hB, hS, (by rw [← e1_]; exact ho6), (by rw [← e2_]; exact ho7), (by omega), rfl⟩
  ·refine C_exit (X_then (X_then (X_hit (N_then (C_seq (C_reg rfl ?_))))))
   refine Lmv rfl rfl (Lmv rfl rfl (Las rfl rfl (Las rfl rfl (L_nil (N_then (C_ret ?_))))))
   refine ret2 Tryd.results39 rfl rfl ?_
   obtain rfl : i = 16 := by omega
   exact ⟨hB, _, _, _, _, rfl, hoB, hoO⟩
end Go.Proofs.YtkjgjejkfjhcjaaDoor
namespace Go.Proofs.YtkjgjejkfjhcjaaDoor
open Go.RowKit Gw Pl
set_option linter.unusedVariables false
set_option linter.unusedSimpArgs false
theorem arr155 : arrB Tryd.prog 155 75 16 1 = true := by kernel_rfl
theorem cb105 : callB Tryd.prog 105 = true := by kernel_rfl
theorem cb115 : callB Tryd.prog 115 = true := by kernel_rfl
theorem cb58 : callB Tryd.prog 58 = true := by kernel_rfl
theorem cb81 : callB Tryd.prog 81 = true := by kernel_rfl
theorem scl75 : sclB Tryd.prog 75 = true := by kernel_rfl
/-! ### the sum: one step, four steps, eight -/
def st1 (x : Nat) : Nat := if x % 2 = 1 then Nat.xor (x / 2) 2197175160 else x / 2
def stk : Nat → Nat → Nat
  | 0, x => x
  | k + 1, x => st1 (stk k x)
theorem st1_lt {x : Nat} (h : x < 4294967296) : st1 x < 4294967296 := by
  unfold st1
  split
  · exact xor_lt (by omega) (by decide)
  · omega
theorem stk_lt {x : Nat} (h : x < 4294967296) : ∀ k, stk k x < 4294967296
  | 0 => h
  | k + 1 => st1_lt (stk_lt h k)
theorem xmod2 (a b : Nat) : Nat.xor a b % 2 = (a % 2 + b % 2) % 2 := by
  have e : Nat.xor a b = a ^^^ b := rfl
  have h := Nat.xor_mod_two_pow (a := a) (b := b) (n := 1)
  rw [e, show (2 : Nat) = 2 ^ 1 from rfl, h]
  simp only [Nat.pow_one]
  rcases Nat.mod_two_eq_zero_or_one a with ha | ha <;> rcases Nat.mod_two_eq_zero_or_one b with hb | hb <;> rw [ha, hb] <;> rfl
theorem xdiv2 (a b : Nat) : Nat.xor a b / 2 = Nat.xor (a / 2) (b / 2) := Nat.xor_div_two
theorem xassoc (a b c : Nat) : Nat.xor (Nat.xor a b) c = Nat.xor a (Nat.xor b c) := Nat.xor_assoc a b c
theorem xcomm (a b : Nat) : Nat.xor a b = Nat.xor b a := Nat.xor_comm a b
theorem xself (a : Nat) : Nat.xor a a = 0 := Nat.xor_self a
theorem xzero (a : Nat) : Nat.xor a 0 = a := Nat.xor_zero a
theorem st1_xor (a b : Nat) : st1 (Nat.xor a b) = Nat.xor (st1 a) (st1 b) := by
  unfold st1
  rw [xmod2, xdiv2]
  rcases Nat.mod_two_eq_zero_or_one a with ha | ha <;> rcases Nat.mod_two_eq_zero_or_one b with hb | hb
  · rw [if_neg (by omega), if_neg (by omega), if_neg (by omega)]
  · rw [if_pos (by omega), if_neg (by omega), if_pos (by omega), xassoc]
  · rw [if_pos (by omega), if_pos (by omega), if_neg (by omega), xassoc, xassoc, xcomm (b / 2)]
  · rw [if_neg (by omega), if_pos (by omega), if_pos (by omega), xassoc (a / 2), xcomm 2197175160, xassoc (b / 2), xself, xzero]
theorem four_eq (x : Nat) : st1 (st1 (st1 (st1 x))) = fourN x := by
  have e : x = Nat.xor (16 * (x / 16)) (x % 16) := by
    have h := Nat.two_pow_add_eq_or_of_lt (i := 4) (b := x % 16) (by omega) (x / 16)
    have h2 : Nat.xor (16 * (x / 16)) (x % 16) = (16 * (x / 16)) ||| (x % 16) := by
      apply Nat.eq_of_testBit_eq
      intro j
      have e1 : Nat.xor (16 * (x / 16)) (x % 16) = (16 * (x / 16)) ^^^ (x % 16) := rfl
      rw [e1, Nat.testBit_xor, Nat.testBit_or]
      rcases Nat.lt_or_ge j 4 with hj | hj
      · have : (16 * (x / 16)).testBit j = false := by
          rw [show 16 * (x / 16) = 2 ^ 4 * (x / 16) from rfl, Nat.testBit_two_pow_mul]
          simp; omega
        rw [this]; simp
      · have : (x % 16).testBit j = false := by
          rw [show 16 = 2 ^ 4 from rfl, Nat.testBit_mod_two_pow]
          simp; omega
        rw [this]; simp
    rw [h2, show 16 * (x / 16) = 2 ^ 4 * (x / 16) from rfl, ← h]
    omega
  have even : ∀ q, st1 (2 * q) = q := by
    intro q
    unfold st1
    rw [if_neg (by omega)]
    omega
  have low : ∀ r : Fin 16, st1 (st1 (st1 (st1 r.val))) = hf r.val := by decide +kernel
  conv => lhs; rw [e]
  rw [st1_xor, st1_xor, st1_xor, st1_xor, low ⟨x % 16, by omega⟩, show 16 * (x / 16) = 2 * (2 * (2 * (2 * (x / 16)))) by omega, even, even, even, even, xcomm]
  rfl
theorem eight_eq (x : Nat) : stk 8 x = fourN (fourN x) := by
  rw [← four_eq, ← four_eq]; rfl
theorem sub32 {x : Nat} (h : x < 4294967296) : Value.int .u32 (IntKind.u32.wrap (4294967295 - (x : Int))) = .int .u32 ((Nat.xor 4294967295 x : Nat) : Int) := by
  have e : Nat.xor 4294967295 x = 4294967295 - x := by
    have h1 : 4294967295 ^^^ x = 4294967295 - x := by
      apply Nat.eq_of_testBit_eq
      intro j
      rw [Nat.testBit_xor, show (4294967295 : Nat) = 2 ^ 32 - 1 from rfl, Nat.testBit_two_pow_sub_one, show 2 ^ 32 - 1 - x = 2 ^ 32 - (x + 1) by omega, Nat.testBit_two_pow_sub_succ h]
      rcases Nat.lt_or_ge j 32 with hj | hj
      · simp [hj]
      · have h3 : x.testBit j = false := Nat.testBit_lt_two_pow (Nat.lt_of_lt_of_le (show x < 2 ^ 32 from h) (Nat.pow_le_pow_right (n := 2) (by decide) hj))
        simp [h3, show ¬ j < 32 by omega]
    exact h1
  rw [e, IntKind.wrap_u32]
  refine congrArg (Value.int .u32) ?_
  omega
theorem shr15 (x : Nat) : Value.int .u32 ((x : Int).fdiv (2 ^ (min (15 : Int).toNat (IntKind.bits .u32)))) = .int .u32 ((x / 32768 : Nat) : Int) := by
  refine congrArg (Value.int .u32) ?_
  have : (2 : Int) ^ (min (15 : Int).toNat (IntKind.bits .u32)) = 32768 := by rfl
  rw [this, Int.fdiv_eq_ediv_of_nonneg _ (by omega)]
  omega
theorem shl17 (x : Nat) : Value.int .u32 (IntKind.u32.wrap ((x : Int) * 2 ^ (min (17 : Int).toNat (IntKind.bits .u32)))) = .int .u32 ((x % 32768 * 131072 : Nat) : Int) := by
  refine congrArg (Value.int .u32) ?_
  have : (2 : Int) ^ (min (17 : Int).toNat (IntKind.bits .u32)) = 131072 := by rfl
  rw [this, IntKind.wrap_u32]
  omega
theorem or17 {a b : Nat} (ha : a < 131072) (hb : b < 32768) : Value.int .u32 (bitsI .or .u32 (a : Int) ((b * 131072 : Nat) : Int)) = .int .u32 ((a + b * 131072 : Nat) : Int) := by
  refine congrArg (Value.int .u32) ?_
  change IntKind.u32.wrap (((BitVec.ofInt 32 (a : Int)) ||| (BitVec.ofInt 32 ((b * 131072 : Nat) : Int))).toNat : Int) = _
  rw [BitVec.toNat_or, ofi32 (by omega), ofi32 (by omega), IntKind.wrap_u32]
  have h := Nat.two_pow_add_eq_or_of_lt (i := 17) (b := a) (by omega) b
  rw [Nat.or_comm, show b * 131072 = 2 ^ 17 * b by omega, ← h]
  omega
theorem add32 {a c : Nat} : Value.int .u32 (IntKind.u32.wrap ((a : Int) + (c : Int))) = .int .u32 (((a + c) % 4294967296 : Nat) : Int) := by
  refine congrArg (Value.int .u32) ?_
  rw [IntKind.wrap_u32]
  omega
theorem quo32 {a c : Nat} (h : a < 4294967296) : Value.int .u32 (IntKind.u32.wrap (Int.tdiv (a : Int) (c : Int))) = .int .u32 ((a / c : Nat) : Int) := by
  have h2 : a / c ≤ a := Nat.div_le_self _ _
  rw [tdivn, IntKind.wrap_u32]
  refine congrArg (Value.int .u32) ?_
  generalize a / c = q at *
  omega
theorem mul32 {a c : Nat} (h : a * c < 4294967296) : Value.int .u32 (IntKind.u32.wrap ((a : Int) * (c : Int))) = .int .u32 ((a * c : Nat) : Int) := by
  rw [← Int.natCast_mul, IntKind.wrap_u32]
  refine congrArg (Value.int .u32) ?_
  generalize a * c = q at *
  omega
theorem rem32 {n k : Nat} : Value.int .u32 (Int.tmod (n : Int) (k : Int)) = .int .u32 ((n % k : Nat) : Int) := rfl
theorem moreN_lt (s : Nat) (bs : List UInt8) (h : s < 4294967296) : moreN s bs < 4294967296 := xor_lt (by decide) (crcN_lt _ (xor_lt (by decide) h))
theorem crc_four {w : World} {x : Nat} (hb : Tbw w) (hx : x < 4294967296) :
    Runs Tryd.prog 115 #[.int .u32 (x : Int)] w (fun v w' => w.grownBy w' none ∧ v = .int .u32 (fourN x : Int)) := by
 have hB := gb_refl w none
 refine enter Tryd.func115 Tryd.ntmps115 rfl rfl ?_
 refine C_seq (C_reg rfl ?_)
 refine Las rfl rfl (L_nil (N_then (C_seq (C_reg rfl (Lmv rfl rfl (L_run (R_eqv (R_and rfl rfl) (v' := .int .u32 ((x % 16 : Nat) : Int)) (and15 x hx)) rfl ?_))))))
 have hl1 : (x % 16) < 16 := by omega
 refine L_run (R_indexArr (sz := 1) (o := 0) (a := ((x % 16 : Nat) : Int)) (i := (x % 16)) (r := (0 + (x % 16))) rfl rfl (by first | rfl | omega) arr155 hl1 (by first | omega | rfl | simp)) rfl ?_
 refine L_run (R_load1 rfl scl75 (hb.cell (tbl_at hl1))) rfl (Lmv rfl rfl ?_)
 refine L_run (R_eqv (R_shr rfl rfl (by first | decide | omega)) (v' := .int .u32 ((x / 16 : Nat) : Int)) (shr4 x)) rfl ?_
 refine L_run (R_eqv (R_xor rfl rfl) (v' := .int .u32 (fourN x : Int)) (xor32 (hf_lt _) (by omega))) rfl ?_
 refine Las rfl rfl (L_nil (N_then (C_ret ?_)))
 refine ret1 Tryd.results115 rfl ?_
 exact ⟨hB, rfl⟩
theorem crc_more {w : World} (hb : Tbw w) {t1 lo hi : Nat} {A : Option Addr} {c s : Nat} {bs : List UInt8} (hs : s < 4294967296) (hS : Sli t1 lo hi w A (fl encB bs)) (hlb : bs.length ≤ 1000000) :
    Runs Tryd.prog 105 #[.int .u32 (s : Int), .slice A bs.length c] w (fun v w' => w.grownBy w' none ∧ v = .int .u32 (moreN s bs : Int)) := by
 have hB := gb_refl w none
 replace hS := hS.top
 refine enter Tryd.func105 Tryd.ntmps105 rfl rfl ?_
 refine C_seq (C_reg rfl ?_)
 refine Las rfl rfl (L_nil (N_then (C_seq (C_reg rfl (Lmv rfl rfl ?_)))))
 refine L_run (R_eqv (R_inv rfl) (v' := .int .u32 ((Nat.xor 4294967295 s) : Int)) (xor32 (by decide) hs)) rfl ?_
 refine Las rfl rfl (L_nil (N_then (C_seq (C_seq (C_reg rfl (Lmv rfl rfl (L_run (R_lenSl rfl slc34) rfl (Lmv rfl rfl (L_nil (N_then (C_block ?_)))))))))))
 refine C_loop (fun m_ a_ w_ => ∃ (σ_ : Nat → Value) (k : Nat), a_ = Ac 25 σ_ [] [(5, .int .u32 (crcN (Nat.xor 4294967295 s) (bs.take k) : Int)), (10, .slice A bs.length c), (11, .int .i64 (bs.length : Int)), (12, .int .i64 (k : Int))] ∧ w.grownBy w_ none ∧ Tbw w_ ∧ Sli t1 lo w.heap.size w_ A (fl encB bs) ∧ (k ≤ bs.length) ∧ bs.length - k = m_) (bs.length - 0) ?_ ?_
 ·exact ⟨_, 0, Ac_frg ⟨(agx rfl), rfl, rfl, (agx rfl), trivial⟩, hB, hb, hS, (Nat.zero_le _), rfl⟩
 ·clear hB
  clear hb hS
  rintro m_ a_ w1 ⟨σ_, k, rfl, hB, hb, hS, hk, rfl⟩
  refine C_seq (C_reg rfl ?_)
  refine L_run (R_lss rfl rfl) rfl ?_
  refine L_nil (N_then (C_seq (C_if rfl (fun h1 => ?_) (fun h1 => ?_))))
  ·refine C_skip (N_then (C_seq (C_block (C_seq (C_reg rfl ?_)))))
   have hl1 : k < bs.length := by first | omega | (simp; omega)
   refine T_index (xs := bs) (i := k) EncB rfl rfl (by first | rfl | omega) slc34 hl1 hS rfl ?_
   intro g1 o1 ha1
   refine L_run (R_load1 rfl scl5 (ha1 0 _ rfl)) rfl (Las rfl rfl (L_nil (N_then (C_reg rfl (Lmv rfl rfl (Lmv rfl rfl (L_run (R_eqv (R_conv rfl any5 int75) (v' := .int .u32 (bs[k].toNat : Int)) (w32c _)) rfl ?_)))))))
   refine L_run (R_eqv (R_xor rfl rfl) (v' := .int .u32 (Nat.xor (crcN (Nat.xor 4294967295 s) (bs.take k)) bs[k].toNat : Int)) (xor32 (crcN_lt _ (xor_lt (by decide) hs)) (by have := (bs[k]).toNat_lt; omega))) rfl ?_
   refine L_call rfl cb115 (crc_four (x := Nat.xor (crcN (Nat.xor 4294967295 s) (bs.take k)) bs[k].toNat) hb (xc_lt (crcN_lt _ (xor_lt (by decide) hs)) _)) rfl ?_
   rintro _ w2 ⟨hs1, rfl⟩
   replace hB := gb_tr hB hs1; replace hb := hb.gb hs1; replace hS := hS.gb hs1
   refine L_call rfl cb115 (crc_four (x := fourN (Nat.xor (crcN (Nat.xor 4294967295 s) (bs.take k)) bs[k].toNat)) hb (fourN_lt (xc_lt (crcN_lt _ (xor_lt (by decide) hs)) _))) rfl ?_
   rintro _ w3 ⟨hs2, rfl⟩
   replace hB := gb_tr hB hs2; replace hb := hb.gb hs2; replace hS := hS.gb hs2
   refine Las rfl rfl ?_
   refine L_nil (N_in (N_then (C_reg rfl ?_)))
   refine L_run (R_add64 rfl rfl (by omega)) rfl ?_
   refine Lmv rfl rfl (L_nil (N_then ?_))
   have e_ : fourN (fourN (Nat.xor (crcN (Nat.xor 4294967295 s) (bs.take k)) bs[k].toNat)) = crcN (Nat.xor 4294967295 s) (bs.take (k + 1)) := crc_succ (by omega)
   rw [e_]
   exact ⟨bs.length - (k + 1), by omega, _, (k + 1), Ac_frg ⟨rfl, rfl, rfl, (agx rfl), trivial⟩, hB, hb, hS, (by omega), rfl⟩
  ·refine C_exit (X_then (X_then (X_hit (N_then (C_seq (C_reg rfl ?_))))))
   refine Lmv rfl rfl ?_
   refine L_run (R_eqv (R_inv rfl) (v' := .int .u32 (Nat.xor 4294967295 (crcN (Nat.xor 4294967295 s) (bs.take k)) : Int)) (xor32 (by decide) (crcN_lt _ (xor_lt (by decide) hs)))) rfl ?_
   refine Las rfl rfl (L_nil (N_then (C_ret ?_)))
   refine ret1 Tryd.results105 rfl ?_
   have e_ : bs.take k = bs := List.take_of_length_le (by omega)
   rw [e_]; exact ⟨hB, rfl⟩
theorem mask_ok {w : World} {s : Nat} (hs : s < 4294967296) :
    Runs Tryd.prog 86 #[.int .u32 (s : Int)] w (fun v w' => w.grownBy w' none ∧ v = .int .u32 ((maskN s : Nat) : Int)) := by
 have hB := gb_refl w none
 refine enter Tryd.func86 Tryd.ntmps86 rfl rfl ?_
 refine C_seq (C_reg rfl ?_)
 refine Las rfl rfl (L_nil (N_then (C_seq (C_reg rfl (Lmv rfl rfl ?_)))))
 refine L_run (R_eqv (R_shr rfl rfl (by first | decide | omega)) (v' := .int .u32 ((s / 32768 : Nat) : Int)) (shr15 s)) rfl ?_
 refine Lmv rfl rfl ?_
 refine L_run (R_eqv (R_shl rfl rfl (by first | decide | omega)) (v' := .int .u32 ((s % 32768 * 131072 : Nat) : Int)) (shl17 s)) rfl ?_
 refine L_run (R_eqv (R_or rfl rfl) (v' := .int .u32 ((s / 32768 + s % 32768 * 131072 : Nat) : Int)) (or17 (by omega) (by omega))) rfl ?_
 refine L_run (R_eqv (R_add rfl rfl) (v' := .int .u32 (((s / 32768 + s % 32768 * 131072 + 2726488792) % 4294967296 : Nat) : Int)) (add32 (c := 2726488792))) rfl ?_
 refine Las rfl rfl (L_nil (N_then (C_ret ?_)))
 refine ret1 Tryd.results86 rfl ?_
 first
   | (exfalso; omega)
   | (exact ⟨hB, rfl⟩)
theorem mask3 {w : World} {s : Nat} (hs : s < 4294967296) :
    Runs Tryd.prog 36 #[.int .u32 (s : Int)] w (fun v w' => w.grownBy w' none ∧ v = .int .u32 ((maskN s : Nat) : Int)) := by
 have hB := gb_refl w none
 refine enter Tryd.func36 Tryd.ntmps36 rfl rfl ?_
 refine C_seq (C_reg rfl ?_)
 refine Las rfl rfl (L_nil (N_then (C_seq (C_reg rfl (Lmv rfl rfl ?_)))))
 refine L_run (R_eqv (R_quo rfl rfl (by first | decide | omega)) (v' := .int .u32 ((s / 32768 : Nat) : Int)) (quo32 (c := 32768) hs)) rfl ?_
 refine Lmv rfl rfl ?_
 refine L_run (R_eqv (R_rem rfl rfl (by first | decide | omega)) (v' := .int .u32 ((s % 32768 : Nat) : Int)) (rem32 (k := 32768))) rfl ?_
 refine L_run (R_eqv (R_mul rfl rfl) (v' := .int .u32 ((s % 32768 * 131072 : Nat) : Int)) (mul32 (c := 131072) (by omega))) rfl ?_
 refine L_run (R_eqv (R_add rfl rfl) (v' := .int .u32 ((s / 32768 + s % 32768 * 131072 : Nat) : Int)) ((add32 (a := s / 32768) (c := s % 32768 * 131072)).trans (congrArg (fun q : Nat => Value.int .u32 (q : Int)) (by omega)))) rfl ?_
 refine L_run (R_eqv (R_add rfl rfl) (v' := .int .u32 (((s / 32768 + s % 32768 * 131072 + 2726488792) % 4294967296 : Nat) : Int)) (add32 (c := 2726488792))) rfl ?_
 refine Las rfl rfl (L_nil (N_then (C_ret ?_)))
 refine ret1 Tryd.results36 rfl ?_
 first
   | (exfalso; omega)
   | (exact ⟨hB, rfl⟩)
theorem of_ok {w : World} {t1 lo hi : Nat} {A : Option Addr} {c : Nat} {bs : List UInt8} (hS : Sli t1 lo hi w A (fl encB bs)) (hb : bs.length ≤ 1000000) (hT : Tbw w) :
    Runs Tryd.prog 87 #[.slice A bs.length c] w (fun v w' => w.grownBy w' none ∧ v = .int .u32 ((moreN 0 bs : Nat) : Int)) := by
 have hB := gb_refl w none
 replace hS := hS.top
 refine enter Tryd.func87 Tryd.ntmps87 rfl rfl ?_
 refine C_seq (C_reg rfl ?_)
 refine Las rfl rfl (L_nil (N_then (C_seq (C_reg rfl (Lmv rfl rfl ?_)))))
 refine L_call rfl cb105 (crc_more (s := 0) (bs := bs) (hT.gb hB) (by decide) hS hb) rfl ?_
 rintro _ w1 ⟨hs1, rfl⟩
 replace hB := gb_tr hB hs1
 refine Las rfl rfl (L_nil (N_then (C_ret ?_)))
 refine ret1 Tryd.results87 rfl ?_
 first
   | (exfalso; omega)
   | (exact ⟨hB, rfl⟩)
theorem step3 {w : World} {x : Nat} (hx : x < 4294967296) :
    Runs Tryd.prog 81 #[.int .u32 (x : Int)] w (fun v w' => w.grownBy w' none ∧ v = .int .u32 ((st1 x : Nat) : Int)) := by
 have hB := gb_refl w none
 refine enter Tryd.func81 Tryd.ntmps81 rfl rfl ?_
 refine C_seq (C_reg rfl ?_)
 refine Las rfl rfl (L_nil (N_then (C_seq (C_seq (C_reg rfl (Lmv rfl rfl ?_))))))
 refine L_run (R_eqv (R_rem rfl rfl (by first | decide | omega)) (v' := .int .u32 ((x % 2 : Nat) : Int)) (rem32 (k := 2))) rfl ?_
 refine L_run (R_eql rfl rfl) rfl ?_
 refine L_nil (N_then (C_if rfl (fun h1 => ?_) (fun h1 => ?_)))
 ·refine C_seq (C_reg rfl ?_)
  refine Lmv rfl rfl ?_
  refine L_run (R_eqv (R_quo rfl rfl (by first | decide | omega)) (v' := .int .u32 ((x / 2 : Nat) : Int)) (quo32 (c := 2) hx)) rfl ?_
  refine L_run (R_eqv (R_xor rfl rfl) (v' := .int .u32 ((Nat.xor (x / 2) 2197175160 : Nat) : Int)) (xor32 (b := 2197175160) (by omega) (by decide))) rfl ?_
  refine Las rfl rfl (L_nil (N_then (C_ret (R_then ?_))))
  refine ret1 Tryd.results81 rfl ?_
  first
    | (exfalso; omega)
    | (refine ⟨hB, congrArg (fun q : Nat => Value.int .u32 (q : Int)) ?_⟩
       unfold st1
       first | rw [if_pos (by omega)] | rw [if_neg (by omega)])
 ·refine C_skip (N_then (C_seq (C_reg rfl ?_)))
  refine Lmv rfl rfl ?_
  refine L_run (R_eqv (R_quo rfl rfl (by first | decide | omega)) (v' := .int .u32 ((x / 2 : Nat) : Int)) (quo32 (c := 2) hx)) rfl ?_
  refine Las rfl rfl (L_nil (N_then (C_ret ?_)))
  refine ret1 Tryd.results81 rfl ?_
  first
    | (exfalso; omega)
    | (refine ⟨hB, congrArg (fun q : Nat => Value.int .u32 (q : Int)) ?_⟩
       unfold st1
       first | rw [if_pos (by omega)] | rw [if_neg (by omega)])
theorem more3 {w : World} {t1 lo hi : Nat} {A : Option Addr} {c : Nat} {bs : List UInt8} (hS : Sli t1 lo hi w A (fl encB bs)) (hb : bs.length ≤ 1000000) {s : Nat} (hs : s < 4294967296) :
    Runs Tryd.prog 58 #[.int .u32 (s : Int), .slice A bs.length c] w (fun v w' => w.grownBy w' none ∧ v = .int .u32 ((moreN s bs : Nat) : Int)) := by
 have hB := gb_refl w none
 replace hS := hS.top
 refine enter Tryd.func58 Tryd.ntmps58 rfl rfl ?_
 refine C_seq (C_reg rfl ?_)
 refine Las rfl rfl (L_nil (N_then (C_seq (C_reg rfl (Lmv rfl rfl (L_run (R_eqv (R_sub rfl rfl) (v' := .int .u32 ((Nat.xor 4294967295 s : Nat) : Int)) (sub32 hs)) rfl (Las rfl rfl (L_nil (N_then (C_seq (C_seq (C_reg rfl (Las rfl rfl (L_nil (N_then (C_block ?_))))))))))))))))
 refine C_loop (fun m_ a_ w_ => ∃ (σ_ : Nat → Value) (i : Nat), a_ = Ac 31 σ_ [] [(1, .slice A bs.length c), (5, .int .u32 ((crcN (Nat.xor 4294967295 s) (bs.take i) : Nat) : Int)), (6, .int .i64 (i : Int))] ∧ w.grownBy w_ none ∧ Sli t1 lo w.heap.size w_ A (fl encB bs) ∧ (i ≤ bs.length) ∧ bs.length - i = m_) (bs.length - 0) ?_ ?_
 ·exact ⟨_, 0, Ac_frg ⟨rfl, (agx rfl), (agx rfl), trivial⟩, hB, hS, (by omega), rfl⟩
 ·clear hB
  clear hS
  rintro m_ a_ w1 ⟨σ_, i, rfl, hB, hS, hi, rfl⟩
  refine C_seq (C_seq (C_reg rfl ?_))
  refine Lmv rfl rfl (Lmv rfl rfl (L_run (R_lenSl rfl slc34) rfl (L_run (R_lss rfl rfl) rfl (L_nil (N_then (C_if rfl (fun h1 => ?_) (fun h1 => ?_)))))))
  ·refine C_skip (N_then (C_seq (C_block (C_seq (C_reg rfl ?_)))))
   refine Lmv rfl rfl (Lmv rfl rfl (Lmv rfl rfl ?_))
   have hl1 : i < bs.length := by first | omega | (simp; omega)
   refine T_index (xs := bs) (i := i) EncB rfl rfl (by first | rfl | omega) slc34 hl1 hS rfl ?_
   intro g1 o1 ha1
   refine L_run (R_load1 rfl scl5 (ha1 0 _ rfl)) rfl (L_run (R_eqv (R_conv rfl any5 int75) (v' := .int .u32 (bs[i].toNat : Int)) (w32c _)) rfl ?_)
   refine L_run (R_eqv (R_xor rfl rfl) (v' := .int .u32 ((Nat.xor (crcN (Nat.xor 4294967295 s) (bs.take i)) bs[i].toNat : Nat) : Int)) (xor32 (crcN_lt _ (xor_lt (by decide) hs)) (by have := (bs[i]).toNat_lt; omega))) rfl ?_
   refine Las rfl rfl (L_nil (N_then (C_seq (C_reg rfl (Las rfl rfl (L_nil (N_then (C_block ?_))))))))
   refine C_loop (fun m_ a_ w_ => ∃ (σ_ : Nat → Value) (k : Nat), a_ = Ac 31 σ_ [] [(1, .slice A bs.length c), (5, .int .u32 ((stk k (Nat.xor (crcN (Nat.xor 4294967295 s) (bs.take i)) bs[i].toNat) : Nat) : Int)), (6, .int .i64 (i : Int)), (7, .int .i64 (k : Int))] ∧ w.grownBy w_ none ∧ Sli t1 lo w.heap.size w_ A (fl encB bs) ∧ (k ≤ 8) ∧ 8 - k = m_) (8 - 0) ?_ ?_
   ·exact ⟨_, 0, Ac_frg ⟨rfl, (agx rfl), rfl, (agx rfl), trivial⟩, hB, hS, (by omega), rfl⟩
   ·clear hB
    clear hS ha1
    rintro m_ a_ w2 ⟨σ_, k, rfl, hB, hS, hk, rfl⟩
    refine C_seq (C_seq (C_reg rfl ?_))
    refine Lmv rfl rfl (L_run (R_lss rfl rfl) rfl (L_nil (N_then (C_if rfl (fun h2 => ?_) (fun h2 => ?_)))))
    ·refine C_skip (N_then (C_seq (C_block (C_reg rfl ?_))))
     refine Lmv rfl rfl ?_
     refine L_call rfl cb81 (step3 (x := (stk k (Nat.xor (crcN (Nat.xor 4294967295 s) (bs.take i)) bs[i].toNat))) (stk_lt (xc_lt (crcN_lt _ (xor_lt (by decide) hs)) _) _)) rfl ?_
     rintro _ w3 ⟨hs1, rfl⟩
     replace hB := gb_tr hB hs1; replace hS := hS.gb hs1
     refine Las rfl rfl ?_
     refine L_nil (N_in (N_then (C_reg rfl ?_)))
     refine Lmv rfl rfl ?_
     refine L_run (R_add64 rfl rfl (by omega)) rfl ?_
     refine Las rfl rfl (L_nil (N_then ?_))
     exact ⟨8 - (k + 1), by omega, _, (k + 1), Ac_frg ⟨rfl, (agx rfl), rfl, (agx rfl), trivial⟩, hB, hS, (by omega), rfl⟩
    ·refine C_exit (X_then (X_then (X_hit (N_in (N_then (C_reg rfl ?_))))))
     refine Lmv rfl rfl ?_
     refine L_run (R_add64 rfl rfl (by omega)) rfl ?_
     refine Las rfl rfl (L_nil (N_then ?_))
     obtain rfl : k = 8 := by omega
     exact ⟨bs.length - (i + 1), by omega, _, (i + 1), Ac_frg ⟨rfl, (agr rfl (by rw [eight_eq, crc_succ (by omega)])), (agx rfl), trivial⟩, hB, hS, (by omega), rfl⟩
  ·refine C_exit (X_then (X_then (X_hit (N_then (C_seq (C_reg rfl ?_))))))
   refine Lmv rfl rfl ?_
   refine L_run (R_eqv (R_sub rfl rfl) (v' := .int .u32 ((Nat.xor 4294967295 (crcN (Nat.xor 4294967295 s) (bs.take i)) : Nat) : Int)) (sub32 (crcN_lt _ (xor_lt (by decide) hs)))) rfl ?_
   refine Las rfl rfl (L_nil (N_then (C_ret ?_)))
   refine ret1 Tryd.results58 rfl ?_
   obtain rfl : i = bs.length := by omega
   have e_ : bs.take bs.length = bs := List.take_of_length_le (by omega)
   rw [e_]; exact ⟨hB, rfl⟩
theorem of3 {w : World} {t1 lo hi : Nat} {A : Option Addr} {c : Nat} {bs : List UInt8} (hS : Sli t1 lo hi w A (fl encB bs)) (hb : bs.length ≤ 1000000) :
    Runs Tryd.prog 37 #[.slice A bs.length c] w (fun v w' => w.grownBy w' none ∧ v = .int .u32 ((moreN 0 bs : Nat) : Int)) := by
 have hB := gb_refl w none
 replace hS := hS.top
 refine enter Tryd.func37 Tryd.ntmps37 rfl rfl ?_
 refine C_seq (C_reg rfl ?_)
 refine Las rfl rfl (L_nil (N_then (C_seq (C_reg rfl (Lmv rfl rfl ?_)))))
 refine L_call rfl cb58 (more3 (s := 0) (bs := bs) hS hb (by decide)) rfl ?_
 rintro _ w1 ⟨hs1, rfl⟩
 replace hB := gb_tr hB hs1
 refine Las rfl rfl (L_nil (N_then (C_ret ?_)))
 refine ret1 Tryd.results37 rfl ?_
 first
   | (exfalso; omega)
   | (exact ⟨hB, rfl⟩)
end Go.Proofs.YtkjgjejkfjhcjaaDoor
namespace Go.Proofs.YtkjgjejkfjhcjaaDoor
open Go.RowKit Gw Pl
set_option linter.unusedVariables false
set_option linter.unusedSimpArgs false
theorem agg147 : aggB Tryd.prog 147 11 = true := by kernel_rfl
theorem agg86 : aggB Tryd.prog 86 3 = true := by kernel_rfl
theorem arr147 : arrB Tryd.prog 147 5 11 1 = true := by kernel_rfl
theorem cb109 : callB Tryd.prog 109 = true := by kernel_rfl
theorem cb86 : callB Tryd.prog 86 = true := by kernel_rfl
theorem cb87 : callB Tryd.prog 87 = true := by kernel_rfl
theorem eqg147 : Tryd.prog.eqGuardType Tryd.prog.depth 147 = false := by kernel_rfl
theorem fld86_0 : fldB Tryd.prog 86 0 0 = true := by kernel_rfl
theorem fld86_1 : fldB Tryd.prog 86 1 1 = true := by kernel_rfl
theorem fld86_2 : fldB Tryd.prog 86 2 2 = true := by kernel_rfl
theorem sz147 : szB Tryd.prog 147 11 = true := by kernel_rfl
theorem sz34 : szB Tryd.prog 34 1 = true := by kernel_rfl
theorem sz86 : szB Tryd.prog 86 3 = true := by kernel_rfl
theorem zer147 : (Tryd.prog.info? 147).bind (·.zero) = some (.agg #[.int .u8 0, .int .u8 0, .int .u8 0, .int .u8 0, .int .u8 0, .int .u8 0, .int .u8 0, .int .u8 0, .int .u8 0, .int .u8 0, .int .u8 0]) := by kernel_rfl
theorem zer86 : (Tryd.prog.info? 86).bind (·.zero) = some (.agg #[.int .i64 0, .int .u32 0, .slice none 0 0]) := by kernel_rfl
theorem fright {w : World} {k ep : Int} {A : Option Addr} {n c : Nat} :
    Runs Tryd.prog 109 #[.agg #[.int .i64 k, .int .u32 ep, .slice A n c]] w (fun v w' => w.grownBy w' none ∧ v = .bool (decide (1 ≤ k ∧ k ≤ 4 ∧ n ≤ 197))) := by
 have hB := gb_refl w none
 refine enter Tryd.func109 Tryd.ntmps109 rfl rfl ?_
 refine C_seq (C_reg rfl ?_)
 refine L_box (cs := [.int .i64 k, .int .u32 ep, .slice A n c]) rfl rfl rfl ?_
 intro g1 w1 eg1 hb1 hs1 hz1
 replace hB := gb_tr hB hs1
 refine Las rfl rfl (L_nil (N_then (C_seq (C_reg rfl (L_run (R_field (r := 0) rfl fld86_0 rfl) rfl (L_run (R_load1 rfl scl3 (hb1.cell (i := 0) rfl)) rfl (L_run (R_geq rfl rfl) rfl (Lmv rfl rfl ?_))))))))
 refine L_splitD (p := 1 ≤ k) (fun h1 => ?_) (fun h1 => ?_)
 ·refine L_yes rfl rfl rfl (decide_eq_true h1) (L_run (R_field (r := 0) rfl fld86_0 rfl) rfl (L_yes rfl rfl rfl (decide_eq_true h1) (L_run (R_load1 rfl scl3 (hb1.cell (i := 0) rfl)) rfl (L_yes rfl rfl rfl (decide_eq_true h1) (L_run (R_leq rfl rfl) rfl (L_run (R_pickT rfl (decide_eq_true h1) rfl) rfl (Lmv rfl rfl ?_)))))))
  refine L_splitD (p := k ≤ 4) (fun h2 => ?_) (fun h2 => ?_)
  ·refine L_yes rfl rfl rfl (decide_eq_true h2) (L_run (R_field (r := 2) rfl fld86_2 rfl) rfl (L_yes rfl rfl rfl (decide_eq_true h2) (L_run (R_load1 rfl scl34 (hb1.cell (i := 2) rfl)) rfl (L_yes rfl rfl rfl (decide_eq_true h2) (L_run (R_lenSl rfl slc34) rfl (L_yes rfl rfl rfl (decide_eq_true h2) (L_run (R_leq rfl rfl) rfl (L_run (R_pickT rfl (decide_eq_true h2) rfl) rfl (Las rfl rfl (L_nil (N_then (C_ret ?_))))))))))))
   refine ret1 Tryd.results109 rfl ?_
   first
     | (exfalso; omega)
     | (exact ⟨hB, by first | (rw [bF' (by omega)]) | (rw [bT' (by omega)]) | exact bD (by omega)⟩)
  ·refine L_no rfl rfl rfl (decide_eq_false h2) rfl (L_no rfl rfl rfl (decide_eq_false h2) rfl (L_no rfl rfl rfl (decide_eq_false h2) rfl (L_no rfl rfl rfl (decide_eq_false h2) rfl (L_run (R_pickF rfl (decide_eq_false h2) rfl) rfl (Las rfl rfl (L_nil (N_then (C_ret ?_))))))))
   refine ret1 Tryd.results109 rfl ?_
   first
     | (exfalso; omega)
     | (exact ⟨hB, by first | (rw [bF' (by omega)]) | (rw [bT' (by omega)]) | exact bD (by omega)⟩)
 ·refine L_no rfl rfl rfl (decide_eq_false h1) rfl (L_no rfl rfl rfl (decide_eq_false h1) rfl (L_no rfl rfl rfl (decide_eq_false h1) rfl (L_run (R_pickF rfl (decide_eq_false h1) rfl) rfl (Lmv rfl rfl (L_no rfl rfl rfl rfl rfl (L_no rfl rfl rfl rfl rfl (L_no rfl rfl rfl rfl rfl (L_no rfl rfl rfl rfl rfl (L_run (R_pickF rfl rfl rfl) rfl (Las rfl rfl (L_nil (N_then (C_ret ?_)))))))))))))
  refine ret1 Tryd.results109 rfl ?_
  first
    | (exfalso; omega)
    | (exact ⟨hB, by first | (rw [bF' (by omega)]) | (rw [bT' (by omega)]) | exact bD (by omega)⟩)
theorem hd_len {bs : List UInt8} : (((bs.take 11).drop 4).take 2).take 8 = (bs.drop 4).take 2 := by simp [List.drop_take, List.take_take]
theorem hd_ep {bs : List UInt8} : ((bs.take 11).drop 7).take 8 = (bs.drop 7).take 4 := by simp [List.drop_take, List.take_take]
theorem hd_sum {bs : List UInt8} : ((bs.take 11).take 4).take 8 = bs.take 4 := by simp [List.take_take]
theorem get_lt2 {bs : List UInt8} {k : Nat} : getN (bs.take k) < 256 ^ k := by
  have h := getN_lt (bs.take k)
  have h2 : (bs.take k).length ≤ k := by rw [List.length_take]; omega
  exact Nat.lt_of_lt_of_le h (Nat.pow_le_pow_right (by decide) h2)
theorem cv_len {bs : List UInt8} : Value.int .i64 (IntKind.i64.wrap ((getN ((((bs.take 11).drop 4).take 2).take 8) : Nat) : Int)) = .int .i64 ((getN ((bs.drop 4).take 2) : Nat) : Int) := by
  rw [hd_len]
  have h := get_lt2 (bs := bs.drop 4) (k := 2)
  exact conv3 (by omega)
theorem cv_ep {bs : List UInt8} : Value.int .u32 (IntKind.u32.wrap ((getN (((bs.take 11).drop 7).take 8) : Nat) : Int)) = .int .u32 ((getN ((bs.drop 7).take 4) : Nat) : Int) := by
  rw [hd_ep]
  have h := get_lt2 (bs := bs.drop 7) (k := 4)
  refine congrArg (Value.int .u32) ?_
  rw [IntKind.wrap_u32]
  omega
theorem cv_sum {bs : List UInt8} : Value.int .u32 (IntKind.u32.wrap ((getN (((bs.take 11).take 4).take 8) : Nat) : Int)) = .int .u32 ((getN (bs.take 4) : Nat) : Int) := by
  rw [hd_sum]
  have h := get_lt2 (bs := bs) (k := 4)
  refine congrArg (Value.int .u32) ?_
  rw [IntKind.wrap_u32]
  omega
theorem cv_kind {bs : List UInt8} (h : 6 < (bs.take 11).length) : Value.int .i64 (IntKind.i64.wrap (((bs.take 11)[6]).toNat : Int)) = .int .i64 (((bs.getD 6 0).toNat : Nat) : Int) := by
  have e : (bs.take 11)[6] = bs.getD 6 0 := by
    rw [List.getElem_take, List.getD_eq_getElem?_getD, List.getElem?_eq_getElem (by rw [List.length_take] at h; omega)]; rfl
  rw [e]
  exact conv3 (by have := (bs.getD 6 0).toNat_lt; omega)
section
variable {bs : List UInt8} {ep : Nat}
theorem fd_short (h : bs.length < 11) : fdec bs ep = ((0, []), 0, 1) := by unfold fdec; rw [if_pos h]
theorem fd_none (h1 : ¬ bs.length < 11) (h2 : bs.take 11 = List.replicate 11 0) : fdec bs ep = ((0, []), 0, 7) := by unfold fdec; rw [if_neg h1, if_pos h2]
theorem fd_form (h1 : ¬ bs.length < 11) (h2 : ¬ bs.take 11 = List.replicate 11 0) (h3 : (bs.getD 6 0).toNat < 1 ∨ 4 < (bs.getD 6 0).toNat ∨ 197 < getN ((bs.drop 4).take 2) ∨ getN ((bs.drop 7).take 4) ≠ ep) : fdec bs ep = ((0, []), 0, 2) := by
  unfold fdec; rw [if_neg h1, if_neg h2, if_pos h3]
theorem fd_cut (h1 : ¬ bs.length < 11) (h2 : ¬ bs.take 11 = List.replicate 11 0) (h3 : ¬ ((bs.getD 6 0).toNat < 1 ∨ 4 < (bs.getD 6 0).toNat ∨ 197 < getN ((bs.drop 4).take 2) ∨ getN ((bs.drop 7).take 4) ≠ ep)) (h4 : bs.length < 11 + getN ((bs.drop 4).take 2)) : fdec bs ep = ((0, []), 0, 1) := by
  unfold fdec; rw [if_neg h1, if_neg h2, if_neg h3, if_pos h4]
theorem fd_sum (h1 : ¬ bs.length < 11) (h2 : ¬ bs.take 11 = List.replicate 11 0) (h3 : ¬ ((bs.getD 6 0).toNat < 1 ∨ 4 < (bs.getD 6 0).toNat ∨ 197 < getN ((bs.drop 4).take 2) ∨ getN ((bs.drop 7).take 4) ≠ ep)) (h4 : ¬ bs.length < 11 + getN ((bs.drop 4).take 2))
    (h5 : getN (bs.take 4) ≠ maskN (moreN 0 ((bs.drop 4).take (11 + getN ((bs.drop 4).take 2) - 4)))) : fdec bs ep = ((0, []), 0, 3) := by
  unfold fdec; rw [if_neg h1, if_neg h2, if_neg h3, if_neg h4, List.drop_take, if_pos h5]
theorem fd_ok (h1 : ¬ bs.length < 11) (h2 : ¬ bs.take 11 = List.replicate 11 0) (h3 : ¬ ((bs.getD 6 0).toNat < 1 ∨ 4 < (bs.getD 6 0).toNat ∨ 197 < getN ((bs.drop 4).take 2) ∨ getN ((bs.drop 7).take 4) ≠ ep)) (h4 : ¬ bs.length < 11 + getN ((bs.drop 4).take 2))
    (h5 : getN (bs.take 4) = maskN (moreN 0 ((bs.drop 4).take (11 + getN ((bs.drop 4).take 2) - 4)))) : fdec bs ep = (((bs.getD 6 0).toNat, (bs.drop 11).take (11 + getN ((bs.drop 4).take 2) - 11)), 11 + getN ((bs.drop 4).take 2), 0) := by
  unfold fdec; rw [if_neg h1, if_neg h2, if_neg h3, if_neg h4, List.drop_take, if_neg (by rw [h5]; simp), List.drop_take]
end
theorem dec_ok {w : World} {t1 lo hi : Nat} {A : Option Addr} {c ep : Nat} {bs : List UInt8} (hS : Sli t1 lo hi w A (fl encB bs)) (hb : bs.length ≤ 1000000) (hc : bs.length ≤ c) (hT : Tbw w) (hep : ep < 4294967296) :
    Runs Tryd.prog 91 #[.slice A bs.length c, .int .u32 (ep : Int)] w (fun v w' => w.grownBy w' none ∧ (((fdec bs ep).2.2 = 0 ∧ ∃ A' c', v = .tuple #[.agg #[.int .i64 (((fdec bs ep).1.1 : Nat) : Int), .int .u32 (ep : Int), .slice A' (fdec bs ep).1.2.length c'], .int .i64 (((fdec bs ep).2.1 : Nat) : Int), .int .i64 0] ∧ World.ownsRow w' w.heap.size 5 1 (.slice A' (fdec bs ep).1.2.length c') (fdec bs ep).1.2.length (fl encB (fdec bs ep).1.2)) ∨ ((fdec bs ep).2.2 ≠ 0 ∧ v = .tuple #[.agg #[.int .i64 0, .int .u32 0, .slice none 0 0], .int .i64 0, .int .i64 (fdec bs ep).2.2]))) := by
 have hB := gb_refl w none
 have hn2 := get_lt2 (bs := bs.drop 4) (k := 2)
 replace hS := hS.top
 refine enter Tryd.func91 Tryd.ntmps91 rfl rfl ?_
 refine C_seq (C_reg rfl ?_)
 refine L_alloc (cs := [.int .i64 0, .int .u32 0, .slice none 0 0]) zer86 rfl rfl ?_
 intro g1 w1 eg1 hb1 hs1 hz1
 have ge1 : w.heap.size ≤ g1 := eg_ge hB eg1
 replace hB := gb_tr hB hs1; replace hS := hS.gb hs1
 refine Las rfl rfl (Las rfl rfl (L_nil (N_then (C_seq (C_seq (C_reg rfl (Lmv rfl rfl (L_run (R_lenSl rfl slc34) rfl (L_run (R_lss rfl rfl) rfl (L_nil (N_then (C_if rfl (fun h1 => ?_) (fun h1 => ?_)))))))))))))
 ·refine C_seq (C_reg rfl ?_)
  refine L_run (R_build (pv := []) (cs := [.int .i64 0, .int .u32 0, .slice none 0 0]) rfl (by kernel_rfl)) rfl ?_
  refine L_stA (vs := [.int .i64 0, .int .u32 0, .slice none 0 0]) rfl rfl rfl sz86 rfl hb1 rfl ?_
  intro w2 hb2 hs2 hz2
  replace hB := gb_trg hB hs2 ge1
  refine Las rfl rfl (Las rfl rfl (L_nil (N_then (C_ret (R_then ?_)))))
  refine retC2 (vs := [.int .i64 0, .int .u32 0, .slice none 0 0]) Tryd.results91 rfl agg86 (At.pre (hb2.at_ 0) rfl) rfl rfl rfl ?_
  first
    | (exfalso; omega)
    | (have hf : fdec bs ep = ((0, []), 0, 1) := by first | exact fd_short (by omega) | exact fd_cut (by omega) (by assumption) (by omega) (by omega)
       exact ⟨hB, .inr ⟨by rw [hf]; decide, by rw [hf]⟩⟩)
 ·refine C_skip (N_then (C_seq (C_reg rfl ?_)))
  refine Lmv rfl rfl ?_
  refine T_slH (xs := bs) (j := 11) EncB rfl rfl (by first | rfl | omega) slc34 (by first | omega | (simp; done) | (simp; omega)) (by first | omega | (simp; done) | (simp; omega)) hS rfl ?_
  intro A_1 hS_1
  have hn1 : (bs.take 11).length = 11 := (by rw [List.length_take]; omega)
  refine T_s2arr (X := bs.take 11) rfl arr147 hS_1 hn1 rfl rfl ?_
  intro g2 o1 ha1
  refine L_run (R_loadA (vs := fl encB (bs.take 11)) rfl agg147 ha1 (flB_lenE hn1)) rfl (L_alloc (cs := [.int .u8 0, .int .u8 0, .int .u8 0, .int .u8 0, .int .u8 0, .int .u8 0, .int .u8 0, .int .u8 0, .int .u8 0, .int .u8 0, .int .u8 0]) zer147 rfl rfl ?_)
  intro g3 w3 eg2 hb3 hs3 hz3
  have ge2 : w.heap.size ≤ g3 := eg_ge hB eg2
  have lt1 : g1 < g3 := lt_of_eg hb1.lt eg2
  replace hB := gb_tr hB hs3; replace hS := hS.gb hs3; replace hb1 := hb1.gb hs3; replace hS_1 := hS_1.gb hs3; replace hb3 : Blk w3 g3 147 (fl encB (List.replicate 11 (0 : UInt8))) := hb3
  refine L_stA (vs := fl encB (bs.take 11)) rfl rfl (flB_one _) sz147 (flB_lenE hn1) hb3 (flB_lenE List.length_replicate) ?_
  intro w4 hb4 hs4 hz4
  replace hB := gb_trg hB hs4 ge2; replace hS := hS.old hs4 ge2; replace hb1 := hb1.grown hs4 (ne_lt lt1); replace hS_1 := hS_1.old hs4 ge2
  refine L_nil (N_then (C_seq (C_seq (C_reg rfl (L_run (R_loadA (vs := fl encB (bs.take 11)) rfl agg147 (hb4.at_ 0) (flB_lenE hn1)) rfl ?_)))))
  refine L_run (R_build (pv := []) (cs := fl encB (List.replicate 11 (0 : UInt8))) rfl (by kernel_rfl)) rfl ?_
  refine L_run (R_eqlA rfl rfl eqg147 (eqs_bytes arr147 int5 scl5 hn1 List.length_replicate)) rfl ?_
  refine L_nil (N_then (C_if rfl (fun h2 => ?_) (fun h2 => ?_)))
  ·refine C_seq (C_reg rfl ?_)
   refine L_run (R_build (pv := []) (cs := [.int .i64 0, .int .u32 0, .slice none 0 0]) rfl (by kernel_rfl)) rfl ?_
   refine L_stA (vs := [.int .i64 0, .int .u32 0, .slice none 0 0]) rfl rfl rfl sz86 rfl hb1 rfl ?_
   intro w5 hb5 hs5 hz5
   replace hB := gb_trg hB hs5 ge1
   refine Las rfl rfl (Las rfl rfl (L_nil (N_then (C_ret (R_then ?_)))))
   refine retC2 (vs := [.int .i64 0, .int .u32 0, .slice none 0 0]) Tryd.results91 rfl agg86 (At.pre (hb5.at_ 0) rfl) rfl rfl rfl ?_
   first
     | (exfalso; omega)
     | (have hf : fdec bs ep = ((0, []), 0, 7) := by first | exact fd_none (by omega) (by assumption)
        exact ⟨hB, .inr ⟨by rw [hf]; decide, by rw [hf]⟩⟩)
  ·refine C_skip (N_then (C_seq (C_reg rfl ?_)))
   refine T_slArrG (bs := bs.take 11) (i := 4) (j := 6) (k := .i64) (k' := .i64) (a := 0) (b := 0) EncB arr147 rfl hb4 hn1 (by omega) (by omega) rfl ⟨_, rfl⟩ ⟨_, rfl⟩ ?_
   intro A_2 hS_2
   have e_ : ((bs.take 11).drop 4).take (6 - 4) = ((bs.take 11).drop 4).take 2 := rfl
   rw [e_] at hS_2 ⊢; clear e_
   refine L_call rfl cb68 (word_get (bs := ((bs.take 11).drop 4).take 2) hS_2 (by first | omega | (simp; done) | (simp; omega))) rfl ?_
   rintro _ w6 ⟨hs6, rfl⟩
   replace hB := gb_tr hB hs6; replace hS := hS.gb hs6; replace hb1 := hb1.gb hs6; replace hS_1 := hS_1.gb hs6; replace hb4 := hb4.gb hs6; replace hS_2 := hS_2.gb hs6
   refine L_run (R_eqv (R_conv rfl any30 int3) (v' := .int .i64 ((getN ((bs.drop 4).take 2) : Nat) : Int)) (cv_len)) rfl ?_
   refine Las rfl rfl (L_nil (N_then (C_seq ?_)))
   refine C_join (fun a_ w_ => (∃ (σ_ : Nat → Value) (g4 : Nat), a_ = Ac 75 σ_ [] [(0, .slice A bs.length c), (1, .int .u32 (ep : Int)), (4, .pointer (some ⟨g1, 0, none⟩)), (5, .int .i64 0), (6, .int .i64 0), (7, .pointer (some ⟨g3, 0, none⟩)), (8, .int .i64 ((getN ((bs.drop 4).take 2) : Nat) : Int)), (9, .pointer (some ⟨g4, 0, none⟩)), (13, .bool (decide ((bs.length : Int) < 11))), (21, .bool (decide (bs.take 11 = (List.replicate 11 (0 : UInt8)))))] ∧ w.grownBy w_ none ∧ Sli t1 lo w.heap.size w_ A (fl encB bs) ∧ Blk w_ g1 86 [.int .i64 0, .int .u32 0, .slice none 0 0] ∧ Sli t1 lo w.heap.size w_ A_1 (fl encB (bs.take 11)) ∧ Blk w_ g3 147 (fl encB (bs.take 11)) ∧ Sli 0 g3 (g3 + 1) w_ A_2 (fl encB (((bs.take 11).drop 4).take 2)) ∧ Blk w_ g4 86 [.int .i64 (((bs.getD 6 0).toNat : Nat) : Int), .int .u32 ((getN ((bs.drop 7).take 4) : Nat) : Int), .slice none 0 0] ∧ w.heap.size ≤ g4 ∧ g1 < g4 ∧ g3 < g4)) ?_ ?_
   ·refine C_draw2 rfl mix ?_
    intro w7 hs7 hz6
    replace hB := gb_tr hB hs7; replace hS := hS.gb hs7; replace hb1 := hb1.gb hs7; replace hS_1 := hS_1.gb hs7; replace hb4 := hb4.gb hs7; replace hS_2 := hS_2.gb hs7
    refine ⟨fun W_ => Blk W_ g3 147 (fl encB (bs.take 11)) ∧ True, [0, 1, 2, 5, 6], ?_⟩
    refine T_tk (i := 0) rfl (Y_of (fun _ _ => R_indexArr (i := 6) (r := 6) rfl rfl (by first | rfl | omega) arr147 (by omega) (by omega))) ⟨hb4, trivial⟩ rfl ?_
    have hl1 : 6 < (bs.take 11).length := by rw [hn1]; omega
    refine T_tk (i := 1) rfl (Y_of (fun _ ⟨hb4, _⟩ => R_load1 rfl scl5 (hb4.cell (fl_atB hl1)))) ⟨hb4, trivial⟩ rfl ?_
    refine T_tk (i := 2) rfl (Y_of (fun _ _ => R_eqv (R_conv rfl any5 int3) (v' := .int .i64 (((bs.getD 6 0).toNat : Nat) : Int)) (cv_kind _))) ⟨hb4, trivial⟩ rfl ?_
    refine T_all (rs := [3, 7]) (by kernel_rfl) rfl (all2 (O_one rfl ?_) (O_one rfl ?_))
    ·refine T_slArr (bs := bs.take 11) (i := 7) rfl rfl (by first | rfl | omega) arr147 (by omega) hb4 (by first | omega | (simp; omega)) rfl ?_
     intro A_3 hS_3
     refine L_nil (N_then ⟨fun hN_ => ⟨hb4, trivial⟩, ?_⟩)
     refine T_all (rs := [4, 7]) (by kernel_rfl) rfl (all2 (O_one rfl ?_) (O_one rfl ?_))
     ·refine L_call rfl cb68 (word_get (bs := (bs.take 11).drop 7) hS_3 (by first | omega | (simp; done) | (simp; omega))) rfl ?_
      rintro _ w8 ⟨hs8, rfl⟩
      replace hB := gb_tr hB hs8; replace hS := hS.gb hs8; replace hb1 := hb1.gb hs8; replace hS_1 := hS_1.gb hs8; replace hb4 := hb4.gb hs8; replace hS_2 := hS_2.gb hs8
      refine L_nil (N_then ⟨fun hN_ => ⟨hb4, trivial⟩, ?_⟩)
      refine T_tk (i := 5) rfl (Y_of (fun _ _ => R_eqv (R_conv rfl any30 int75) (v' := .int .u32 ((getN ((bs.drop 7).take 4) : Nat) : Int)) (cv_ep))) ⟨hb4, trivial⟩ rfl ?_
      refine T_tk (i := 6) rfl (Y_of (fun _ _ => R_build (pv := [(0, .int .i64 (((bs.getD 6 0).toNat : Nat) : Int)), (1, .int .u32 ((getN ((bs.drop 7).take 4) : Nat) : Int))]) (cs := [.int .i64 (((bs.getD 6 0).toNat : Nat) : Int), .int .u32 ((getN ((bs.drop 7).take 4) : Nat) : Int), .slice none 0 0]) rfl (by kernel_rfl))) ⟨hb4, trivial⟩ rfl ?_
      refine T_all (rs := [7]) (by kernel_rfl) rfl (all1 (O_one rfl ?_))
      refine L_alloc (cs := [.int .i64 0, .int .u32 0, .slice none 0 0]) zer86 rfl rfl ?_
      intro g4 w9 eg3 hb6 hs9 hz7
      have ge3 : w.heap.size ≤ g4 := eg_ge hB eg3
      have lt2 : g1 < g4 := lt_of_eg hb1.lt eg3
      have lt3 : g3 < g4 := lt_of_eg hb4.lt eg3
      replace hB := gb_tr hB hs9; replace hS := hS.gb hs9; replace hb1 := hb1.gb hs9; replace hS_1 := hS_1.gb hs9; replace hb4 := hb4.gb hs9; replace hS_2 := hS_2.gb hs9
      refine L_nil (N_then ⟨fun hN_ => ⟨hb4, trivial⟩, ?_⟩)
      refine T_all (rs := [8]) (by kernel_rfl) rfl (all1 (O_one rfl ?_))
      refine L_stA (vs := [.int .i64 (((bs.getD 6 0).toNat : Nat) : Int), .int .u32 ((getN ((bs.drop 7).take 4) : Nat) : Int), .slice none 0 0]) rfl rfl rfl sz86 rfl hb6 rfl ?_
      intro w10 hb7 hs10 hz8
      replace hB := gb_trg hB hs10 ge3; replace hS := hS.old hs10 ge3; replace hb1 := hb1.grown hs10 (ne_lt lt2); replace hS_1 := hS_1.old hs10 ge3; replace hb4 := hb4.grown hs10 (ne_lt lt3); replace hS_2 := hS_2.grown hs10 (by rintro _ ⟨rfl⟩; omega)
      refine L_nil (N_then ⟨fun hN_ => ⟨hb4, trivial⟩, ?_⟩)
      refine T_done (by kernel_rfl) (CalmE.normal ?_)
      exact ⟨rfl, ⟨_, g4, Ac_frg ⟨rfl, rfl, rfl, rfl, rfl, rfl, rfl, rfl, rfl, rfl, trivial⟩, hB, hS, hb1, hS_1, hb4, hS_2, hb7, ge3, lt2, lt3⟩⟩
     ·refine L_alloc (cs := [.int .i64 0, .int .u32 0, .slice none 0 0]) zer86 rfl rfl ?_
      intro g5 w11 eg4 hb8 hs11 hz9
      have ge4 : w.heap.size ≤ g5 := eg_ge hB eg4
      have lt4 : g1 < g5 := lt_of_eg hb1.lt eg4
      have lt5 : g3 < g5 := lt_of_eg hb4.lt eg4
      replace hB := gb_tr hB hs11; replace hS := hS.gb hs11; replace hb1 := hb1.gb hs11; replace hS_1 := hS_1.gb hs11; replace hb4 := hb4.gb hs11; replace hS_2 := hS_2.gb hs11; replace hS_3 := hS_3.gb hs11
      refine L_nil (N_then ⟨fun hN_ => ⟨hb4, trivial⟩, ?_⟩)
      refine T_all (rs := [4]) (by kernel_rfl) rfl (all1 (O_one rfl ?_))
      refine L_call rfl cb68 (word_get (bs := (bs.take 11).drop 7) hS_3 (by first | omega | (simp; done) | (simp; omega))) rfl ?_
      rintro _ w12 ⟨hs12, rfl⟩
      replace hB := gb_tr hB hs12; replace hS := hS.gb hs12; replace hb1 := hb1.gb hs12; replace hS_1 := hS_1.gb hs12; replace hb4 := hb4.gb hs12; replace hS_2 := hS_2.gb hs12; replace hb8 := hb8.gb hs12
      refine L_nil (N_then ⟨fun hN_ => ⟨hb4, trivial⟩, ?_⟩)
      refine T_tk (i := 5) rfl (Y_of (fun _ _ => R_eqv (R_conv rfl any30 int75) (v' := .int .u32 ((getN ((bs.drop 7).take 4) : Nat) : Int)) (cv_ep))) ⟨hb4, trivial⟩ rfl ?_
      refine T_tk (i := 6) rfl (Y_of (fun _ _ => R_build (pv := [(0, .int .i64 (((bs.getD 6 0).toNat : Nat) : Int)), (1, .int .u32 ((getN ((bs.drop 7).take 4) : Nat) : Int))]) (cs := [.int .i64 (((bs.getD 6 0).toNat : Nat) : Int), .int .u32 ((getN ((bs.drop 7).take 4) : Nat) : Int), .slice none 0 0]) rfl (by kernel_rfl))) ⟨hb4, trivial⟩ rfl ?_
      refine T_all (rs := [8]) (by kernel_rfl) rfl (all1 (O_one rfl ?_))
      refine L_stA (vs := [.int .i64 (((bs.getD 6 0).toNat : Nat) : Int), .int .u32 ((getN ((bs.drop 7).take 4) : Nat) : Int), .slice none 0 0]) rfl rfl rfl sz86 rfl hb8 rfl ?_
      intro w13 hb9 hs13 hz10
      replace hB := gb_trg hB hs13 ge4; replace hS := hS.old hs13 ge4; replace hb1 := hb1.grown hs13 (ne_lt lt4); replace hS_1 := hS_1.old hs13 ge4; replace hb4 := hb4.grown hs13 (ne_lt lt5); replace hS_2 := hS_2.grown hs13 (by rintro _ ⟨rfl⟩; omega)
      refine L_nil (N_then ⟨fun hN_ => ⟨hb4, trivial⟩, ?_⟩)
      refine T_done (by kernel_rfl) (CalmE.normal ?_)
      exact ⟨rfl, ⟨_, g5, Ac_frg ⟨rfl, rfl, rfl, rfl, rfl, rfl, rfl, rfl, rfl, rfl, trivial⟩, hB, hS, hb1, hS_1, hb4, hS_2, hb9, ge4, lt4, lt5⟩⟩
    ·refine L_alloc (cs := [.int .i64 0, .int .u32 0, .slice none 0 0]) zer86 rfl rfl ?_
     intro g6 w14 eg5 hb10 hs14 hz11
     have ge5 : w.heap.size ≤ g6 := eg_ge hB eg5
     have lt6 : g1 < g6 := lt_of_eg hb1.lt eg5
     have lt7 : g3 < g6 := lt_of_eg hb4.lt eg5
     replace hB := gb_tr hB hs14; replace hS := hS.gb hs14; replace hb1 := hb1.gb hs14; replace hS_1 := hS_1.gb hs14; replace hb4 := hb4.gb hs14; replace hS_2 := hS_2.gb hs14
     refine L_nil (N_then ⟨fun hN_ => ⟨hb4, trivial⟩, ?_⟩)
     refine T_all (rs := [3]) (by kernel_rfl) rfl (all1 (O_one rfl ?_))
     refine T_slArr (bs := bs.take 11) (i := 7) rfl rfl (by first | rfl | omega) arr147 (by omega) hb4 (by first | omega | (simp; omega)) rfl ?_
     intro A_4 hS_4
     refine L_nil (N_then ⟨fun hN_ => ⟨hb4, trivial⟩, ?_⟩)
     refine T_all (rs := [4]) (by kernel_rfl) rfl (all1 (O_one rfl ?_))
     refine L_call rfl cb68 (word_get (bs := (bs.take 11).drop 7) hS_4 (by first | omega | (simp; done) | (simp; omega))) rfl ?_
     rintro _ w15 ⟨hs15, rfl⟩
     replace hB := gb_tr hB hs15; replace hS := hS.gb hs15; replace hb1 := hb1.gb hs15; replace hS_1 := hS_1.gb hs15; replace hb4 := hb4.gb hs15; replace hS_2 := hS_2.gb hs15; replace hb10 := hb10.gb hs15
     refine L_nil (N_then ⟨fun hN_ => ⟨hb4, trivial⟩, ?_⟩)
     refine T_tk (i := 5) rfl (Y_of (fun _ _ => R_eqv (R_conv rfl any30 int75) (v' := .int .u32 ((getN ((bs.drop 7).take 4) : Nat) : Int)) (cv_ep))) ⟨hb4, trivial⟩ rfl ?_
     refine T_tk (i := 6) rfl (Y_of (fun _ _ => R_build (pv := [(0, .int .i64 (((bs.getD 6 0).toNat : Nat) : Int)), (1, .int .u32 ((getN ((bs.drop 7).take 4) : Nat) : Int))]) (cs := [.int .i64 (((bs.getD 6 0).toNat : Nat) : Int), .int .u32 ((getN ((bs.drop 7).take 4) : Nat) : Int), .slice none 0 0]) rfl (by kernel_rfl))) ⟨hb4, trivial⟩ rfl ?_
     refine T_all (rs := [8]) (by kernel_rfl) rfl (all1 (O_one rfl ?_))
     refine L_stA (vs := [.int .i64 (((bs.getD 6 0).toNat : Nat) : Int), .int .u32 ((getN ((bs.drop 7).take 4) : Nat) : Int), .slice none 0 0]) rfl rfl rfl sz86 rfl hb10 rfl ?_
     intro w16 hb11 hs16 hz12
     replace hB := gb_trg hB hs16 ge5; replace hS := hS.old hs16 ge5; replace hb1 := hb1.grown hs16 (ne_lt lt6); replace hS_1 := hS_1.old hs16 ge5; replace hb4 := hb4.grown hs16 (ne_lt lt7); replace hS_2 := hS_2.grown hs16 (by rintro _ ⟨rfl⟩; omega)
     refine L_nil (N_then ⟨fun hN_ => ⟨hb4, trivial⟩, ?_⟩)
     refine T_done (by kernel_rfl) (CalmE.normal ?_)
     exact ⟨rfl, ⟨_, g6, Ac_frg ⟨rfl, rfl, rfl, rfl, rfl, rfl, rfl, rfl, rfl, rfl, trivial⟩, hB, hS, hb1, hS_1, hb4, hS_2, hb11, ge5, lt6, lt7⟩⟩
   ·clear hB
    clear hS hb1 hS_1 hb4 hS_2
    rintro a_ w17 ⟨σ_, g4, rfl, hB, hS, hb1, hS_1, hb4, hS_2, hj1, ge6, lt8, lt9⟩
    refine N_then (C_seq (C_reg rfl ?_))
    refine Lmv rfl rfl ?_
    refine L_run (R_eqv (R_add64 rfl rfl (by omega)) (v' := .int .i64 ((11 + getN ((bs.drop 4).take 2) : Nat) : Int)) (congrArg _ (by omega))) rfl ?_
    refine Las rfl rfl (L_nil (N_then (C_block (C_seq (C_reg rfl (L_run (R_loadA (vs := [.int .i64 (((bs.getD 6 0).toNat : Nat) : Int), .int .u32 ((getN ((bs.drop 7).take 4) : Nat) : Int), .slice none 0 0]) rfl agg86 (At.pre (hj1.at_ 0) rfl) rfl) rfl ?_))))))
    refine L_call rfl cb109 (fright) rfl ?_
    rintro _ w18 ⟨hs17, rfl⟩
    replace hB := gb_tr hB hs17; replace hS := hS.gb hs17; replace hb1 := hb1.gb hs17; replace hS_1 := hS_1.gb hs17; replace hb4 := hb4.gb hs17; replace hS_2 := hS_2.gb hs17; replace hj1 := hj1.gb hs17
    refine L_run (R_notD rfl) rfl ?_
    refine Lmv rfl rfl ?_
    refine L_splitN (p := 1 ≤ (((bs.getD 6 0).toNat : Nat) : Int) ∧ (((bs.getD 6 0).toNat : Nat) : Int) ≤ 4 ∧ 0 ≤ 197) (fun h3 => ?_) (fun h3 => ?_)
    ·refine L_no rfl rfl rfl (decide_eq_true h3) rfl (L_no rfl rfl rfl (decide_eq_true h3) rfl (L_run (R_pickT rfl (decide_eq_true h3) rfl) rfl (Lmv rfl rfl (L_no rfl rfl rfl rfl rfl (L_no rfl rfl rfl rfl rfl (L_no rfl rfl rfl rfl rfl (L_no rfl rfl rfl rfl rfl (L_run (R_pickT rfl rfl rfl) rfl (Las rfl rfl (L_nil (N_then (C_condT rfl rfl (C_seq (C_reg rfl ?_))))))))))))))
     refine L_run (R_build (pv := []) (cs := [.int .i64 0, .int .u32 0, .slice none 0 0]) rfl (by kernel_rfl)) rfl ?_
     refine L_stA (vs := [.int .i64 0, .int .u32 0, .slice none 0 0]) rfl rfl rfl sz86 rfl hb1 rfl ?_
     intro w19 hb12 hs18 hz13
     replace hB := gb_trg hB hs18 ge1
     refine Las rfl rfl (Las rfl rfl (L_nil (N_then (C_ret (R_in ?_)))))
     refine retC2 (vs := [.int .i64 0, .int .u32 0, .slice none 0 0]) Tryd.results91 rfl agg86 (At.pre (hb12.at_ 0) rfl) rfl rfl rfl ?_
     first
       | (exfalso; omega)
       | (have hf : fdec bs ep = ((0, []), 0, 2) := by first | exact fd_form (by omega) (by assumption) (by omega)
          exact ⟨hB, .inr ⟨by rw [hf]; decide, by rw [hf]⟩⟩)
    ·refine L_yes rfl rfl rfl (decide_eq_false (fun hn => hn h3)) (Lmv rfl rfl (L_yes rfl rfl rfl (decide_eq_false (fun hn => hn h3)) (L_run (R_gtr rfl rfl) rfl (L_run (R_pickF rfl (decide_eq_false (fun hn => hn h3)) rfl) rfl (Lmv rfl rfl ?_)))))
     refine L_splitD (p := 197 < ((getN ((bs.drop 4).take 2) : Nat) : Int)) (fun h4 => ?_) (fun h4 => ?_)
     ·refine L_no rfl rfl rfl (decide_eq_true h4) rfl (L_no rfl rfl rfl (decide_eq_true h4) rfl (L_no rfl rfl rfl (decide_eq_true h4) rfl (L_no rfl rfl rfl (decide_eq_true h4) rfl (L_run (R_pickT rfl (decide_eq_true h4) rfl) rfl (Las rfl rfl (L_nil (N_then (C_condT rfl rfl (C_seq (C_reg rfl ?_))))))))))
      refine L_run (R_build (pv := []) (cs := [.int .i64 0, .int .u32 0, .slice none 0 0]) rfl (by kernel_rfl)) rfl ?_
      refine L_stA (vs := [.int .i64 0, .int .u32 0, .slice none 0 0]) rfl rfl rfl sz86 rfl hb1 rfl ?_
      intro w20 hb13 hs19 hz14
      replace hB := gb_trg hB hs19 ge1
      refine Las rfl rfl (Las rfl rfl (L_nil (N_then (C_ret (R_in ?_)))))
      refine retC2 (vs := [.int .i64 0, .int .u32 0, .slice none 0 0]) Tryd.results91 rfl agg86 (At.pre (hb13.at_ 0) rfl) rfl rfl rfl ?_
      first
        | (exfalso; omega)
        | (have hf : fdec bs ep = ((0, []), 0, 2) := by first | exact fd_form (by omega) (by assumption) (by omega)
           exact ⟨hB, .inr ⟨by rw [hf]; decide, by rw [hf]⟩⟩)
     ·refine L_yes rfl rfl rfl (decide_eq_false h4) (L_run (R_field (r := 1) rfl fld86_1 rfl) rfl (L_yes rfl rfl rfl (decide_eq_false h4) (L_run (R_load1 rfl scl75 (hj1.cell (i := 1) rfl)) rfl (L_yes rfl rfl rfl (decide_eq_false h4) (Lmv rfl rfl (L_yes rfl rfl rfl (decide_eq_false h4) (L_run (R_neq rfl rfl) rfl (L_run (R_pickF rfl (decide_eq_false h4) rfl) rfl (Las rfl rfl (L_nil (N_then ?_)))))))))))
      refine C_if rfl (fun h5 => ?_) (fun h5 => ?_)
      ·refine C_seq (C_reg rfl ?_)
       refine L_run (R_build (pv := []) (cs := [.int .i64 0, .int .u32 0, .slice none 0 0]) rfl (by kernel_rfl)) rfl ?_
       refine L_stA (vs := [.int .i64 0, .int .u32 0, .slice none 0 0]) rfl rfl rfl sz86 rfl hb1 rfl ?_
       intro w21 hb14 hs20 hz15
       replace hB := gb_trg hB hs20 ge1
       refine Las rfl rfl (Las rfl rfl (L_nil (N_then (C_ret (R_in ?_)))))
       refine retC2 (vs := [.int .i64 0, .int .u32 0, .slice none 0 0]) Tryd.results91 rfl agg86 (At.pre (hb14.at_ 0) rfl) rfl rfl rfl ?_
       first
         | (exfalso; omega)
         | (have hf : fdec bs ep = ((0, []), 0, 2) := by first | exact fd_form (by omega) (by assumption) (by omega)
            exact ⟨hB, .inr ⟨by rw [hf]; decide, by rw [hf]⟩⟩)
      ·refine C_seq (C_reg rfl ?_)
       refine Lmv rfl rfl (Lmv rfl rfl (L_run (R_lenSl rfl slc34) rfl (L_run (R_gtr rfl rfl) rfl (Las rfl rfl (L_nil (N_then (C_if rfl (fun h6 => ?_) (fun h6 => ?_))))))))
       ·refine C_seq (C_reg rfl ?_)
        refine L_run (R_build (pv := []) (cs := [.int .i64 0, .int .u32 0, .slice none 0 0]) rfl (by kernel_rfl)) rfl ?_
        refine L_stA (vs := [.int .i64 0, .int .u32 0, .slice none 0 0]) rfl rfl rfl sz86 rfl hb1 rfl ?_
        intro w22 hb15 hs21 hz16
        replace hB := gb_trg hB hs21 ge1
        refine Las rfl rfl (Las rfl rfl (L_nil (N_then (C_ret (R_in ?_)))))
        refine retC2 (vs := [.int .i64 0, .int .u32 0, .slice none 0 0]) Tryd.results91 rfl agg86 (At.pre (hb15.at_ 0) rfl) rfl rfl rfl ?_
        first
          | (exfalso; omega)
          | (have hf : fdec bs ep = ((0, []), 0, 1) := by first | exact fd_short (by omega) | exact fd_cut (by omega) (by assumption) (by omega) (by omega)
             exact ⟨hB, .inr ⟨by rw [hf]; decide, by rw [hf]⟩⟩)
       ·refine C_seq ?_
        refine C_join (fun a_ w_ => (∃ (σ_ : Nat → Value), a_ = Ac 75 σ_ [] [(0, .slice A bs.length c), (1, .int .u32 (ep : Int)), (4, .pointer (some ⟨g1, 0, none⟩)), (5, .int .i64 0), (6, .int .i64 0), (7, .pointer (some ⟨g3, 0, none⟩)), (8, .int .i64 ((getN ((bs.drop 4).take 2) : Nat) : Int)), (9, .pointer (some ⟨g4, 0, none⟩)), (10, .int .i64 ((11 + getN ((bs.drop 4).take 2) : Nat) : Int)), (13, .bool (decide ((bs.length : Int) < 11))), (21, .bool (decide (bs.take 11 = (List.replicate 11 (0 : UInt8))))), (43, .bool (decide (((getN ((bs.drop 7).take 4) : Nat) : Int) ≠ (ep : Int)))), (58, .bool (decide ((bs.length : Int) < ((11 + getN ((bs.drop 4).take 2) : Nat) : Int)))), (64, .bool (decide (((getN (bs.take 4) : Nat) : Int) ≠ ((maskN (moreN 0 ((bs.drop 4).take ((11 + getN ((bs.drop 4).take 2)) - 4))) : Nat) : Int))))] ∧ w.grownBy w_ none ∧ Sli t1 lo w.heap.size w_ A (fl encB bs) ∧ Blk w_ g1 86 [.int .i64 0, .int .u32 0, .slice none 0 0] ∧ Sli t1 lo w.heap.size w_ A_1 (fl encB (bs.take 11)) ∧ Blk w_ g3 147 (fl encB (bs.take 11)) ∧ Sli 0 g3 (g3 + 1) w_ A_2 (fl encB (((bs.take 11).drop 4).take 2)) ∧ Blk w_ g4 86 [.int .i64 (((bs.getD 6 0).toNat : Nat) : Int), .int .u32 ((getN ((bs.drop 7).take 4) : Nat) : Int), .slice none 0 0])) ?_ ?_
        ·refine C_draw2 rfl mix ?_
         intro w23 hs22 hz17
         replace hB := gb_tr hB hs22; replace hS := hS.gb hs22; replace hb1 := hb1.gb hs22; replace hS_1 := hS_1.gb hs22; replace hb4 := hb4.gb hs22; replace hS_2 := hS_2.gb hs22; replace hj1 := hj1.gb hs22
         refine ⟨fun W_ => True, [2, 3, 4, 8, 9], ?_⟩
         refine T_tk (i := 3) rfl (Y_of (fun _ _ => R_move rfl)) trivial rfl ?_
         refine T_tk (i := 4) rfl (Y_of (fun _ _ => R_move rfl)) trivial rfl ?_
         refine T_all (rs := [0, 5]) (by kernel_rfl) rfl (all2 (O_one rfl ?_) (O_one rfl ?_))
         ·refine T_slArrG (bs := bs.take 11) (i := 0) (j := 4) (k := .i64) (k' := .i64) (a := 0) (b := 0) EncB arr147 rfl hb4 hn1 (by omega) (by omega) rfl rfl ⟨_, rfl⟩ ?_
          intro A_5 hS_5
          have e_ : ((bs.take 11).drop 0).take (4 - 0) = (bs.take 11).take 4 := rfl
          rw [e_] at hS_5 ⊢; clear e_
          refine L_nil (N_then ⟨fun hN_ => trivial, ?_⟩)
          refine T_all (rs := [1, 5]) (by kernel_rfl) rfl (all2 (O_one rfl ?_) (O_one rfl ?_))
          ·refine L_call rfl cb68 (word_get (bs := (bs.take 11).take 4) hS_5 (by first | omega | (simp; done) | (simp; omega))) rfl ?_
           rintro _ w24 ⟨hs23, rfl⟩
           replace hB := gb_tr hB hs23; replace hS := hS.gb hs23; replace hb1 := hb1.gb hs23; replace hS_1 := hS_1.gb hs23; replace hb4 := hb4.gb hs23; replace hS_2 := hS_2.gb hs23; replace hj1 := hj1.gb hs23
           refine L_nil (N_then ⟨fun hN_ => trivial, ?_⟩)
           refine T_tk (i := 2) rfl (Y_of (fun _ _ => R_eqv (R_conv rfl any30 int75) (v' := .int .u32 ((getN (bs.take 4) : Nat) : Int)) (cv_sum))) trivial rfl ?_
           refine T_all (rs := [5]) (by kernel_rfl) rfl (all1 (O_one rfl ?_))
           refine T_slLH (xs := bs) (i := 4) (j := (11 + getN ((bs.drop 4).take 2))) EncB rfl rfl rfl (by first | rfl | omega) (by first | rfl | omega) slc34 (by first | omega | (simp; done) | (simp; omega)) (by first | omega | (simp; done) | (simp; omega)) (by first | omega | (simp; done) | (simp; omega)) hS rfl ?_
           intro A_6 hS_6
           refine L_nil (N_then ⟨fun hN_ => trivial, ?_⟩)
           refine T_all (rs := [6]) (by kernel_rfl) rfl (all1 (O_one rfl ?_))
           refine L_call rfl cb87 (of_ok (bs := (bs.drop 4).take ((11 + getN ((bs.drop 4).take 2)) - 4)) hS_6 (by first | omega | (simp; done) | (simp; omega)) (hT.gb hB)) rfl ?_
           rintro _ w25 ⟨hs24, rfl⟩
           replace hB := gb_tr hB hs24; replace hS := hS.gb hs24; replace hb1 := hb1.gb hs24; replace hS_1 := hS_1.gb hs24; replace hb4 := hb4.gb hs24; replace hS_2 := hS_2.gb hs24; replace hj1 := hj1.gb hs24
           refine L_nil (N_then ⟨fun hN_ => trivial, ?_⟩)
           refine T_all (rs := [7]) (by kernel_rfl) rfl (all1 (O_one rfl ?_))
           refine L_call rfl cb86 (mask_ok (s := (moreN 0 ((bs.drop 4).take ((11 + getN ((bs.drop 4).take 2)) - 4)))) (moreN_lt _ _ (by decide))) rfl ?_
           rintro _ w26 ⟨hs25, rfl⟩
           replace hB := gb_tr hB hs25; replace hS := hS.gb hs25; replace hb1 := hb1.gb hs25; replace hS_1 := hS_1.gb hs25; replace hb4 := hb4.gb hs25; replace hS_2 := hS_2.gb hs25; replace hj1 := hj1.gb hs25
           refine L_nil (N_then ⟨fun hN_ => trivial, ?_⟩)
           refine T_tk (i := 8) rfl (Y_of (fun _ _ => R_neq rfl rfl)) trivial rfl ?_
           refine T_tk (i := 9) rfl (Y_of (fun _ _ => R_assign rfl)) trivial rfl ?_
           refine T_done (by kernel_rfl) (CalmE.normal ?_)
           exact ⟨rfl, ⟨_, Ac_frg ⟨rfl, rfl, rfl, rfl, rfl, rfl, rfl, rfl, rfl, rfl, rfl, rfl, rfl, rfl, trivial⟩, hB, hS, hb1, hS_1, hb4, hS_2, hj1⟩⟩
          ·refine T_slLH (xs := bs) (i := 4) (j := (11 + getN ((bs.drop 4).take 2))) EncB rfl rfl rfl (by first | rfl | omega) (by first | rfl | omega) slc34 (by first | omega | (simp; done) | (simp; omega)) (by first | omega | (simp; done) | (simp; omega)) (by first | omega | (simp; done) | (simp; omega)) hS rfl ?_
           intro A_7 hS_7
           refine L_nil (N_then ⟨fun hN_ => trivial, ?_⟩)
           refine T_all (rs := [1]) (by kernel_rfl) rfl (all1 (O_one rfl ?_))
           refine L_call rfl cb68 (word_get (bs := (bs.take 11).take 4) hS_5 (by first | omega | (simp; done) | (simp; omega))) rfl ?_
           rintro _ w27 ⟨hs26, rfl⟩
           replace hB := gb_tr hB hs26; replace hS := hS.gb hs26; replace hb1 := hb1.gb hs26; replace hS_1 := hS_1.gb hs26; replace hb4 := hb4.gb hs26; replace hS_2 := hS_2.gb hs26; replace hj1 := hj1.gb hs26; replace hS_7 := hS_7.gb hs26
           refine L_nil (N_then ⟨fun hN_ => trivial, ?_⟩)
           refine T_tk (i := 2) rfl (Y_of (fun _ _ => R_eqv (R_conv rfl any30 int75) (v' := .int .u32 ((getN (bs.take 4) : Nat) : Int)) (cv_sum))) trivial rfl ?_
           refine T_all (rs := [6]) (by kernel_rfl) rfl (all1 (O_one rfl ?_))
           refine L_call rfl cb87 (of_ok (bs := (bs.drop 4).take ((11 + getN ((bs.drop 4).take 2)) - 4)) hS_7 (by first | omega | (simp; done) | (simp; omega)) (hT.gb hB)) rfl ?_
           rintro _ w28 ⟨hs27, rfl⟩
           replace hB := gb_tr hB hs27; replace hS := hS.gb hs27; replace hb1 := hb1.gb hs27; replace hS_1 := hS_1.gb hs27; replace hb4 := hb4.gb hs27; replace hS_2 := hS_2.gb hs27; replace hj1 := hj1.gb hs27
           refine L_nil (N_then ⟨fun hN_ => trivial, ?_⟩)
           refine T_all (rs := [7]) (by kernel_rfl) rfl (all1 (O_one rfl ?_))
           refine L_call rfl cb86 (mask_ok (s := (moreN 0 ((bs.drop 4).take ((11 + getN ((bs.drop 4).take 2)) - 4)))) (moreN_lt _ _ (by decide))) rfl ?_
           rintro _ w29 ⟨hs28, rfl⟩
           replace hB := gb_tr hB hs28; replace hS := hS.gb hs28; replace hb1 := hb1.gb hs28; replace hS_1 := hS_1.gb hs28; replace hb4 := hb4.gb hs28; replace hS_2 := hS_2.gb hs28; replace hj1 := hj1.gb hs28
           refine L_nil (N_then ⟨fun hN_ => trivial, ?_⟩)
           refine T_tk (i := 8) rfl (Y_of (fun _ _ => R_neq rfl rfl)) trivial rfl ?_
           refine T_tk (i := 9) rfl (Y_of (fun _ _ => R_assign rfl)) trivial rfl ?_
           refine T_done (by kernel_rfl) (CalmE.normal ?_)
           exact ⟨rfl, ⟨_, Ac_frg ⟨rfl, rfl, rfl, rfl, rfl, rfl, rfl, rfl, rfl, rfl, rfl, rfl, rfl, rfl, trivial⟩, hB, hS, hb1, hS_1, hb4, hS_2, hj1⟩⟩
         ·refine T_slLH (xs := bs) (i := 4) (j := (11 + getN ((bs.drop 4).take 2))) EncB rfl rfl rfl (by first | rfl | omega) (by first | rfl | omega) slc34 (by first | omega | (simp; done) | (simp; omega)) (by first | omega | (simp; done) | (simp; omega)) (by first | omega | (simp; done) | (simp; omega)) hS rfl ?_
          intro A_8 hS_8
          refine L_nil (N_then ⟨fun hN_ => trivial, ?_⟩)
          refine T_all (rs := [0]) (by kernel_rfl) rfl (all1 (O_one rfl ?_))
          refine T_slArrG (bs := bs.take 11) (i := 0) (j := 4) (k := .i64) (k' := .i64) (a := 0) (b := 0) EncB arr147 rfl hb4 hn1 (by omega) (by omega) rfl rfl ⟨_, rfl⟩ ?_
          intro A_9 hS_9
          have e_ : ((bs.take 11).drop 0).take (4 - 0) = (bs.take 11).take 4 := rfl
          rw [e_] at hS_9 ⊢; clear e_
          refine L_nil (N_then ⟨fun hN_ => trivial, ?_⟩)
          refine T_all (rs := [1]) (by kernel_rfl) rfl (all1 (O_one rfl ?_))
          refine L_call rfl cb68 (word_get (bs := (bs.take 11).take 4) hS_9 (by first | omega | (simp; done) | (simp; omega))) rfl ?_
          rintro _ w30 ⟨hs29, rfl⟩
          replace hB := gb_tr hB hs29; replace hS := hS.gb hs29; replace hb1 := hb1.gb hs29; replace hS_1 := hS_1.gb hs29; replace hb4 := hb4.gb hs29; replace hS_2 := hS_2.gb hs29; replace hj1 := hj1.gb hs29; replace hS_8 := hS_8.gb hs29
          refine L_nil (N_then ⟨fun hN_ => trivial, ?_⟩)
          refine T_tk (i := 2) rfl (Y_of (fun _ _ => R_eqv (R_conv rfl any30 int75) (v' := .int .u32 ((getN (bs.take 4) : Nat) : Int)) (cv_sum))) trivial rfl ?_
          refine T_all (rs := [6]) (by kernel_rfl) rfl (all1 (O_one rfl ?_))
          refine L_call rfl cb87 (of_ok (bs := (bs.drop 4).take ((11 + getN ((bs.drop 4).take 2)) - 4)) hS_8 (by first | omega | (simp; done) | (simp; omega)) (hT.gb hB)) rfl ?_
          rintro _ w31 ⟨hs30, rfl⟩
          replace hB := gb_tr hB hs30; replace hS := hS.gb hs30; replace hb1 := hb1.gb hs30; replace hS_1 := hS_1.gb hs30; replace hb4 := hb4.gb hs30; replace hS_2 := hS_2.gb hs30; replace hj1 := hj1.gb hs30
          refine L_nil (N_then ⟨fun hN_ => trivial, ?_⟩)
          refine T_all (rs := [7]) (by kernel_rfl) rfl (all1 (O_one rfl ?_))
          refine L_call rfl cb86 (mask_ok (s := (moreN 0 ((bs.drop 4).take ((11 + getN ((bs.drop 4).take 2)) - 4)))) (moreN_lt _ _ (by decide))) rfl ?_
          rintro _ w32 ⟨hs31, rfl⟩
          replace hB := gb_tr hB hs31; replace hS := hS.gb hs31; replace hb1 := hb1.gb hs31; replace hS_1 := hS_1.gb hs31; replace hb4 := hb4.gb hs31; replace hS_2 := hS_2.gb hs31; replace hj1 := hj1.gb hs31
          refine L_nil (N_then ⟨fun hN_ => trivial, ?_⟩)
          refine T_tk (i := 8) rfl (Y_of (fun _ _ => R_neq rfl rfl)) trivial rfl ?_
          refine T_tk (i := 9) rfl (Y_of (fun _ _ => R_assign rfl)) trivial rfl ?_
          refine T_done (by kernel_rfl) (CalmE.normal ?_)
          exact ⟨rfl, ⟨_, Ac_frg ⟨rfl, rfl, rfl, rfl, rfl, rfl, rfl, rfl, rfl, rfl, rfl, rfl, rfl, rfl, trivial⟩, hB, hS, hb1, hS_1, hb4, hS_2, hj1⟩⟩
        ·clear hB
         clear hS hb1 hS_1 hb4 hS_2 hj1
         rintro a_ w33 ⟨σ_, rfl, hB, hS, hb1, hS_1, hb4, hS_2, hj1⟩
         refine N_then ?_
         refine C_if rfl (fun h7 => ?_) (fun h7 => ?_)
         ·refine C_seq (C_reg rfl ?_)
          refine L_run (R_build (pv := []) (cs := [.int .i64 0, .int .u32 0, .slice none 0 0]) rfl (by kernel_rfl)) rfl ?_
          refine L_stA (vs := [.int .i64 0, .int .u32 0, .slice none 0 0]) rfl rfl rfl sz86 rfl hb1 rfl ?_
          intro w34 hb16 hs32 hz18
          replace hB := gb_trg hB hs32 ge1
          refine Las rfl rfl (Las rfl rfl (L_nil (N_then (C_ret (R_in ?_)))))
          refine retC2 (vs := [.int .i64 0, .int .u32 0, .slice none 0 0]) Tryd.results91 rfl agg86 (At.pre (hb16.at_ 0) rfl) rfl rfl rfl ?_
          first
            | (exfalso; omega)
            | (have hf : fdec bs ep = ((0, []), 0, 3) := by first | exact fd_sum (by omega) (by assumption) (by omega) (by omega) (by omega)
               exact ⟨hB, .inr ⟨by rw [hf]; decide, by rw [hf]⟩⟩)
         ·refine C_seq (C_reg rfl ?_)
          refine L_buildSlice (pv := []) (cs := []) slc34 zer5 rfl rfl (by kernel_rfl) rfl ?_
          intro g7 w35 eg6 hb17 hs33 hz19
          have ge7 : w.heap.size ≤ g7 := eg_ge hB eg6
          replace hB := gb_tr hB hs33; replace hS := hS.gb hs33; replace hb1 := hb1.gb hs33; replace hj1 := hj1.gb hs33
          refine Lmv rfl rfl (Lmv rfl rfl ?_)
          refine T_slLH (xs := bs) (i := 11) (j := (11 + getN ((bs.drop 4).take 2))) EncB rfl rfl rfl (by first | rfl | omega) (by first | rfl | omega) slc34 (by first | omega | (simp; done) | (simp; omega)) (by first | omega | (simp; done) | (simp; omega)) (by first | omega | (simp; done) | (simp; omega)) hS rfl ?_
          intro A_10 hS_10
          have hlo1 : g7 ≤ w35.heap.size := Nat.le_of_lt hb17.lt
          have ho1 : World.ownsRow w35 g7 5 1 (.slice (some ⟨g7, 0, none⟩) ([] : List UInt8).length 0) ([] : List UInt8).length (fl encB []) := Blk.own (sz := 1) (m := 0) hb17 (by decide) rfl (Nat.le_refl _)
          refine T_append (xs := []) (ys := (bs.drop 11).take ((11 + getN ((bs.drop 4).take 2)) - 11)) EncB slc34 rfl rfl ho1 hS_10 (by first | omega | (simp; done) | (simp; omega)) hlo1 rfl ?_
          intro A_11 c_1 w36 ho2 hs34 hat1
          replace hB := gb_tro hB ho1 hs34 ge7; replace hb1 := blk_own hb1 ho1 rfl hs34; replace hj1 := blk_own hj1 ho1 rfl hs34
          simp only [List.nil_append] at ho2 ⊢
          refine L_run (R_field (r := 2) rfl fld86_2 rfl) rfl ?_
          refine L_st1 rfl rfl rfl sz34 hj1 rfl ?_
          intro w37 hb18 hs35 hz20
          replace hB := gb_trg hB hs35 ge6; replace hb1 := hb1.grown hs35 (ne_lt lt8); replace ho2 := own_other ho2 hj1 rfl hs35
          refine L_nil (N_then (C_seq (C_reg rfl (L_run (R_loadA (vs := [.int .i64 (((bs.getD 6 0).toNat : Nat) : Int), .int .u32 ((getN ((bs.drop 7).take 4) : Nat) : Int), .slice A_11 (((bs.drop 11).take ((11 + getN ((bs.drop 4).take 2)) - 11)).length) c_1]) rfl agg86 (At.pre (hb18.at_ 0) rfl) rfl) rfl (Lmv rfl rfl ?_)))))
          refine L_stA (vs := [.int .i64 (((bs.getD 6 0).toNat : Nat) : Int), .int .u32 ((getN ((bs.drop 7).take 4) : Nat) : Int), .slice A_11 (((bs.drop 11).take ((11 + getN ((bs.drop 4).take 2)) - 11)).length) c_1]) rfl rfl rfl sz86 rfl hb1 rfl ?_
          intro w38 hb19 hs36 hz21
          replace hB := gb_trg hB hs36 ge1; replace ho2 := own_other ho2 hb1 rfl hs36
          refine Las rfl rfl (Las rfl rfl (L_nil (N_then (C_ret (R_in ?_)))))
          refine retC2 (vs := [.int .i64 (((bs.getD 6 0).toNat : Nat) : Int), .int .u32 ((getN ((bs.drop 7).take 4) : Nat) : Int), .slice A_11 (((bs.drop 11).take ((11 + getN ((bs.drop 4).take 2)) - 11)).length) c_1]) Tryd.results91 rfl agg86 (At.pre (hb19.at_ 0) rfl) rfl rfl rfl ?_
          have he_ : getN ((bs.drop 7).take 4) = ep := by omega
          have hf := fd_ok (bs := bs) (ep := ep) (by omega) (by assumption) (by omega) (by omega) (by omega)
          exact ⟨hB, .inl ⟨by rw [hf], _, _, by rw [hf, he_], by rw [hf]; exact (own_lo ho2 ge7)⟩⟩
theorem dec_y {w : World} {t1 lo hi : Nat} {A : Option Addr} {c ep : Nat} {bs : List UInt8} (hS : Sli t1 lo hi w A (fl encB bs)) (hb : bs.length ≤ 1000000) (hc : bs.length ≤ c) (hT : Tbw w) (hep : ep < 4294967296) (hq : (fdec bs ep).2.2 = 0) : Runs Tryd.prog 91 #[.slice A bs.length c, .int .u32 (ep : Int)] w (fun v w' => w.grownBy w' none ∧ ∃ A' c', v = .tuple #[.agg #[.int .i64 (((fdec bs ep).1.1 : Nat) : Int), .int .u32 (ep : Int), .slice A' (fdec bs ep).1.2.length c'], .int .i64 (((fdec bs ep).2.1 : Nat) : Int), .int .i64 0] ∧ World.ownsRow w' w.heap.size 5 1 (.slice A' (fdec bs ep).1.2.length c') (fdec bs ep).1.2.length (fl encB (fdec bs ep).1.2)) := (dec_ok hS hb hc hT hep).mono fun v w' h => by
  obtain ⟨h1, h2 | h2⟩ := h
  · exact ⟨h1, h2.2⟩
  · exact absurd hq h2.1
theorem dec_n {w : World} {t1 lo hi : Nat} {A : Option Addr} {c ep : Nat} {bs : List UInt8} (hS : Sli t1 lo hi w A (fl encB bs)) (hb : bs.length ≤ 1000000) (hc : bs.length ≤ c) (hT : Tbw w) (hep : ep < 4294967296) (hq : ¬ (fdec bs ep).2.2 = 0) : Runs Tryd.prog 91 #[.slice A bs.length c, .int .u32 (ep : Int)] w (fun v w' => w.grownBy w' none ∧ v = .tuple #[.agg #[.int .i64 0, .int .u32 0, .slice none 0 0], .int .i64 0, .int .i64 (fdec bs ep).2.2]) := (dec_ok hS hb hc hT hep).mono fun v w' h => by
  obtain ⟨h1, h2 | h2⟩ := h
  · exact absurd h2.1 hq
  · exact ⟨h1, h2.2⟩
end Go.Proofs.YtkjgjejkfjhcjaaDoor
