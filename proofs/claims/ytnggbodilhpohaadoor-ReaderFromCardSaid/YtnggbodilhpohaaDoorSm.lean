/-
  Contracts of the package join and of its reference.
-/
import Derived.Test.YtnggbodilhpohaaDoorSl
namespace Go.Proofs.YtnggbodilhpohaaDoor
open Go.RowKit Gw Pl
set_option linter.unusedVariables false
set_option linter.unusedSimpArgs false
theorem agg51 : aggB Tryd.prog 51 2 = true := by kernel_rfl
theorem agg62 : aggB Tryd.prog 62 2 = true := by kernel_rfl
theorem boo4 : Tryd.prog.underlying 4 = some .bool := by kernel_rfl
theorem fld51_0 : fldB Tryd.prog 51 0 0 = true := by kernel_rfl
theorem fld51_1 : fldB Tryd.prog 51 1 1 = true := by kernel_rfl
theorem fld62_0 : fldB Tryd.prog 62 0 0 = true := by kernel_rfl
theorem fld62_1 : fldB Tryd.prog 62 1 1 = true := by kernel_rfl
theorem sz51 : szB Tryd.prog 51 2 = true := by kernel_rfl
theorem sz62 : szB Tryd.prog 62 2 = true := by kernel_rfl
theorem zer51 : (Tryd.prog.info? 51).bind (·.zero) = some (.agg #[.bool false, .slice none 0 0]) := by kernel_rfl
theorem zer62 : (Tryd.prog.info? 62).bind (·.zero) = some (.agg #[.bool false, .slice none 0 0]) := by kernel_rfl
theorem fee_form {o : Bool} {k : Nat} {bs d : List UInt8} (h : ¬ (if o then k = 3 ∨ k = 4 else k = 1 ∨ k = 2)) : feedN o bs k d = ((false, []), [], false, 2) := by unfold feedN; rw [if_neg h]
theorem fee_long {o : Bool} {k : Nat} {bs d : List UInt8} (h : if o then k = 3 ∨ k = 4 else k = 1 ∨ k = 2) (h2 : 512 < bs.length + d.length) : feedN o bs k d = ((false, []), [], false, 5) := by unfold feedN; rw [if_pos h, if_pos h2]
theorem fee_done {o : Bool} {k : Nat} {bs d : List UInt8} (h : if o then k = 3 ∨ k = 4 else k = 1 ∨ k = 2) (h2 : ¬ 512 < bs.length + d.length) (h3 : k = 1 ∨ k = 4) : feedN o bs k d = ((false, []), bs ++ d, true, 0) := by unfold feedN; rw [if_pos h, if_neg h2, if_pos h3]
theorem fee_on {o : Bool} {k : Nat} {bs d : List UInt8} (h : if o then k = 3 ∨ k = 4 else k = 1 ∨ k = 2) (h2 : ¬ 512 < bs.length + d.length) (h3 : ¬ (k = 1 ∨ k = 4)) : feedN o bs k d = ((true, bs ++ d), [], false, 0) := by unfold feedN; rw [if_pos h, if_neg h2, if_neg h3]
theorem feedN_len {o : Bool} {k : Nat} {bs d : List UInt8} : (feedN o bs k d).1.2.length ≤ 512 ∧ (feedN o bs k d).2.1.length ≤ 512 := by
  unfold feedN
  repeat' split
  all_goals simp
  all_goals omega
theorem feedN_go {o : Bool} {k : Nat} {bs d : List UInt8} (h : (feedN o bs k d).2.2.2 = 0) (h2 : (feedN o bs k d).2.2.1 = false) : (feedN o bs k d).1.1 = true := by
  unfold feedN at *
  repeat' split at *
  all_goals simp_all
theorem new_ok {w : World} :
    Runs Tryd.prog 9 #[] w (fun v w' => w.grownBy w' none ∧ ∃ g, w.heap.size ≤ g ∧ v = .pointer (some ⟨g, 0, none⟩) ∧ Blk w' g 62 [.bool false, .slice none 0 0]) := by
  have hB := gb_refl w none
  refine enter Tryd.func9 Tryd.ntmps9 rfl rfl ?_
  refine C_seq (C_reg rfl ?_)
  refine L_run (R_assign rfl) rfl ?_
  refine L_nil (N_then (C_seq (C_reg rfl ?_)))
  refine L_run (R_build (pv := []) (cs := [.bool false, .slice none 0 0]) rfl (by kernel_rfl)) rfl ?_
  refine L_box (cs := [.bool false, .slice none 0 0]) rfl rfl rfl ?_
  intro g1 w1 eg1 hb1 hs1 hz1
  have ge1 : w.heap.size ≤ g1 := eg_ge hB eg1
  replace hB := gb_tr hB hs1
  refine L_run (R_assign rfl) rfl ?_
  refine L_nil (N_then (C_ret ?_))
  refine ret1 Tryd.results9 rfl ?_
  exact ⟨hB, g1, ge1, rfl, hb1⟩

theorem feed_t {w : World} {g : Nat} {lo hi lo2 hi2 : Nat} {A A2 : Option Addr} {c c2 k : Nat} {ep : Int} {bs d : List UInt8} (hb : Blk w g 62 [.bool true, .slice A bs.length c]) (hS : Sli 5 lo hi w A (fl encB bs)) (hD : Sli 5 lo2 hi2 w A2 (fl encB d)) (hl : bs.length ≤ 1000000) (hd : d.length ≤ 1000000) :
    Runs Tryd.prog 11 #[.pointer (some ⟨g, 0, none⟩), .agg #[.int .i64 ((k : Nat) : Int), .int .u32 ep, .slice A2 d.length c2]] w (fun v w' => w.grownBy w' (some g) ∧ ∃ A' c' A3 c3, v = .tuple #[.slice A3 (feedN true bs k d).2.1.length c3, .bool (feedN true bs k d).2.2.1, .int .i64 (feedN true bs k d).2.2.2] ∧ Blk w' g 62 [.bool (feedN true bs k d).1.1, .slice A' (feedN true bs k d).1.2.length c'] ∧ World.ownsRow w' w.heap.size 5 1 (.slice A' ((feedN true bs k d).1.2).length c') ((feedN true bs k d).1.2).length (fl encB ((feedN true bs k d).1.2)) ∧ World.ownsRow w' w.heap.size 5 1 (.slice A3 ((feedN true bs k d).2.1).length c3) ((feedN true bs k d).2.1).length (fl encB ((feedN true bs k d).2.1))) := by
  have hB := gb_refl w (some g)
  replace hS := hS.top
  replace hD := hD.top
  refine enter Tryd.func11 Tryd.ntmps11 rfl rfl ?_
  refine C_seq (C_reg rfl ?_)
  refine L_box (cs := [.int .i64 ((k : Nat) : Int), .int .u32 ep, .slice A2 d.length c2]) rfl rfl rfl ?_
  intro g1 w1 eg1 hb1 hs1 hz1
  have ge1 : w.heap.size ≤ g1 := eg_ge hB eg1
  have lt1 : g < g1 := lt_of_eg hb.lt eg1
  replace hB := gb_tr hB hs1
  replace hb := hb.gb hs1
  replace hS := hS.gb hs1
  replace hD := hD.gb hs1
  refine L_run (R_assign rfl) rfl ?_
  refine L_run (R_assign rfl) rfl ?_
  refine L_run (R_assign rfl) rfl ?_
  refine L_nil (N_then (C_seq (C_seq (C_reg rfl ?_))))
  refine L_run (R_move rfl) rfl ?_
  refine L_run (R_eqlpPN rfl rfl Tryd.underlying36) rfl ?_
  refine L_nil (N_then (C_condF rfl rfl (C_skip (N_then (C_seq (C_reg rfl ?_))))))
  refine L_run (R_move rfl) rfl ?_
  refine L_run (R_nilck rfl) rfl ?_
  refine L_run (R_loadA (vs := [.bool true, .slice A bs.length c]) rfl agg62 (At.pre (hb.at_ 0) rfl) rfl) rfl ?_
  refine L_alloc (cs := [.bool false, .slice none 0 0]) zer62 rfl rfl ?_
  intro g2 w2 eg2 hb2 hs2 hz2
  have ge2 : w.heap.size ≤ g2 := eg_ge hB eg2
  have lt2 : g < g2 := lt_of_eg hb.lt eg2
  have lt3 : g1 < g2 := lt_of_eg hb1.lt eg2
  replace hB := gb_tr hB hs2
  replace hb := hb.gb hs2
  replace hS := hS.gb hs2
  replace hD := hD.gb hs2
  replace hb1 := hb1.gb hs2
  refine L_stA (vs := [.bool true, .slice A bs.length c]) rfl rfl rfl sz62 rfl hb2 rfl ?_
  intro w3 hb3 hs3 hz3
  replace hB := gb_trg hB hs3 ge2
  replace hb := hb.grown hs3 (ne_lt lt2)
  replace hS := hS.other hb2 rfl rfl hs3
  replace hD := hD.other hb2 rfl rfl hs3
  replace hb1 := hb1.grown hs3 (ne_lt lt3)
  refine L_nil (N_then (C_seq (C_reg rfl ?_)))
  refine L_run (R_move rfl) rfl ?_
  refine L_run (R_build (pv := []) (cs := [.bool false, .slice none 0 0]) rfl (by kernel_rfl)) rfl ?_
  refine L_run (R_nilck rfl) rfl ?_
  refine L_stA (vs := [.bool false, .slice none 0 0]) rfl rfl rfl sz62 rfl hb rfl ?_
  intro w4 hb4 hs4 hz4
  replace hB := gb_trans hB hs4
  replace hS := hS.other hb rfl rfl hs4
  replace hD := hD.other hb rfl rfl hs4
  replace hb1 := hb1.grown hs4 (ne_gt lt1)
  replace hb3 := hb3.grown hs4 (ne_gt lt2)
  refine L_nil (N_then (C_seq (C_reg rfl ?_)))
  refine L_run (R_field (r := 0) rfl fld43_0 rfl) rfl ?_
  refine L_run (R_load1 rfl scl3 (hb1.cell (i := 0) rfl)) rfl ?_
  refine L_run (R_eql rfl rfl) rfl ?_
  refine L_run (R_move rfl) rfl ?_
  refine L_splitD (p := ((k : Nat) : Int) = 1) (fun h1 => ?_) (fun h1 => ?_)
  · refine L_no rfl rfl rfl (decide_eq_true h1) rfl ?_
    refine L_no rfl rfl rfl (decide_eq_true h1) rfl ?_
    refine L_no rfl rfl rfl (decide_eq_true h1) rfl ?_
    refine L_run (R_pickT rfl (decide_eq_true h1) rfl) rfl ?_
    refine L_run (R_assign rfl) rfl ?_
    refine L_nil (N_then (C_seq (C_reg rfl ?_)))
    refine L_run (R_field (r := 0) rfl fld43_0 rfl) rfl ?_
    refine L_run (R_load1 rfl scl3 (hb1.cell (i := 0) rfl)) rfl ?_
    refine L_run (R_eql rfl rfl) rfl ?_
    refine L_run (R_move rfl) rfl ?_
    refine L_splitD (p := ((k : Nat) : Int) = 3) (fun h2 => ?_) (fun h2 => ?_)
    · refine L_no rfl rfl rfl (decide_eq_true h2) rfl ?_
      refine L_no rfl rfl rfl (decide_eq_true h2) rfl ?_
      refine L_no rfl rfl rfl (decide_eq_true h2) rfl ?_
      refine L_run (R_pickT rfl (decide_eq_true h2) rfl) rfl ?_
      refine L_run (R_assign rfl) rfl ?_
      refine L_nil (N_then (C_seq (C_block (C_seq (C_reg rfl ?_)))))
      refine L_run (R_field (r := 0) rfl fld62_0 rfl) rfl ?_
      refine L_run (R_load1 rfl scl4 (hb3.cell (i := 0) rfl)) rfl ?_
      refine L_run (R_move rfl) rfl ?_
      refine L_run (R_eqv (R_neqB rfl rfl boo4) (v' := .bool false) (by simp)) rfl ?_
      refine L_run (R_move rfl) rfl ?_
      refine L_yes rfl rfl rfl rfl ?_
      refine L_run (R_field (r := 0) rfl fld62_0 rfl) rfl ?_
      refine L_yes rfl rfl rfl rfl ?_
      refine L_run (R_load1 rfl scl4 (hb3.cell (i := 0) rfl)) rfl ?_
      refine L_yes rfl rfl rfl rfl ?_
      refine L_run (R_move rfl) rfl ?_
      refine L_yes rfl rfl rfl rfl ?_
      refine L_run (R_eqv (R_eqlB rfl rfl boo4) (v' := .bool true) (by simp)) rfl ?_
      refine L_run (R_pickF rfl rfl rfl) rfl ?_
      refine L_run (R_assign rfl) rfl ?_
      refine L_nil (N_then (C_condT rfl rfl (C_seq (C_reg rfl ?_))))
      refine L_run (R_assign rfl) rfl ?_
      refine L_run (R_assign rfl) rfl ?_
      refine L_run (R_assign rfl) rfl ?_
      refine L_nil (N_then (C_ret (R_in (R_then ?_))))
      refine ret3 Tryd.results11 rfl rfl rfl ?_
      have hf : feedN true bs k d = _ := fee_form (by first | (show k = 3 ∨ k = 4; omega) | (show k = 1 ∨ k = 2; omega) | (show ¬ (k = 3 ∨ k = 4); omega) | (show ¬ (k = 1 ∨ k = 2); omega))
      exact ⟨hB, none, 0, none, 0, by first | (rw [hf]; done) | (rw [hf]; rfl), by rw [hf]; exact hb4, by rw [hf]; exact (own_nil _ _ _ _), by rw [hf]; exact (own_nil _ _ _ _)⟩
    · refine L_yes rfl rfl rfl (decide_eq_false h2) ?_
      refine L_run (R_field (r := 0) rfl fld43_0 rfl) rfl ?_
      refine L_yes rfl rfl rfl (decide_eq_false h2) ?_
      refine L_run (R_load1 rfl scl3 (hb1.cell (i := 0) rfl)) rfl ?_
      refine L_yes rfl rfl rfl (decide_eq_false h2) ?_
      refine L_run (R_eql rfl rfl) rfl ?_
      refine L_run (R_pickF rfl (decide_eq_false h2) rfl) rfl ?_
      refine L_run (R_assign rfl) rfl ?_
      refine L_nil (N_then (C_seq (C_block (C_seq (C_reg rfl ?_)))))
      refine L_run (R_field (r := 0) rfl fld62_0 rfl) rfl ?_
      refine L_run (R_load1 rfl scl4 (hb3.cell (i := 0) rfl)) rfl ?_
      refine L_run (R_move rfl) rfl ?_
      refine L_run (R_eqv (R_neqB rfl rfl boo4) (v' := .bool (decide (¬ (((k : Nat) : Int) = 4)))) (congrArg _ (by simp))) rfl ?_
      refine L_run (R_move rfl) rfl ?_
      refine L_splitN (p := ((k : Nat) : Int) = 4) (fun h3 => ?_) (fun h3 => ?_)
      · refine L_no rfl rfl rfl (decide_eq_true h3) rfl ?_
        refine L_no rfl rfl rfl (decide_eq_true h3) rfl ?_
        refine L_no rfl rfl rfl (decide_eq_true h3) rfl ?_
        refine L_no rfl rfl rfl (decide_eq_true h3) rfl ?_
        refine L_run (R_pickT rfl (decide_eq_true h3) rfl) rfl ?_
        refine L_run (R_assign rfl) rfl ?_
        refine L_nil (N_then (C_condT rfl rfl (C_seq (C_reg rfl ?_))))
        refine L_run (R_assign rfl) rfl ?_
        refine L_run (R_assign rfl) rfl ?_
        refine L_run (R_assign rfl) rfl ?_
        refine L_nil (N_then (C_ret (R_in (R_then ?_))))
        refine ret3 Tryd.results11 rfl rfl rfl ?_
        have hf : feedN true bs k d = _ := fee_form (by first | (show k = 3 ∨ k = 4; omega) | (show k = 1 ∨ k = 2; omega) | (show ¬ (k = 3 ∨ k = 4); omega) | (show ¬ (k = 1 ∨ k = 2); omega))
        exact ⟨hB, none, 0, none, 0, by first | (rw [hf]; done) | (rw [hf]; rfl), by rw [hf]; exact hb4, by rw [hf]; exact (own_nil _ _ _ _), by rw [hf]; exact (own_nil _ _ _ _)⟩
      · refine L_yes rfl rfl rfl (decide_eq_false (fun hn => hn h3)) ?_
        refine L_run (R_field (r := 0) rfl fld62_0 rfl) rfl ?_
        refine L_yes rfl rfl rfl (decide_eq_false (fun hn => hn h3)) ?_
        refine L_run (R_load1 rfl scl4 (hb3.cell (i := 0) rfl)) rfl ?_
        refine L_yes rfl rfl rfl (decide_eq_false (fun hn => hn h3)) ?_
        refine L_run (R_move rfl) rfl ?_
        refine L_yes rfl rfl rfl (decide_eq_false (fun hn => hn h3)) ?_
        refine L_run (R_eqv (R_eqlB rfl rfl boo4) (v' := .bool true) (by simp)) rfl ?_
        refine L_run (R_pickF rfl (decide_eq_false (fun hn => hn h3)) rfl) rfl ?_
        refine L_run (R_assign rfl) rfl ?_
        refine L_nil (N_then (C_condT rfl rfl (C_seq (C_reg rfl ?_))))
        refine L_run (R_assign rfl) rfl ?_
        refine L_run (R_assign rfl) rfl ?_
        refine L_run (R_assign rfl) rfl ?_
        refine L_nil (N_then (C_ret (R_in (R_then ?_))))
        refine ret3 Tryd.results11 rfl rfl rfl ?_
        have hf : feedN true bs k d = _ := fee_form (by first | (show k = 3 ∨ k = 4; omega) | (show k = 1 ∨ k = 2; omega) | (show ¬ (k = 3 ∨ k = 4); omega) | (show ¬ (k = 1 ∨ k = 2); omega))
        exact ⟨hB, none, 0, none, 0, by first | (rw [hf]; done) | (rw [hf]; rfl), by rw [hf]; exact hb4, by rw [hf]; exact (own_nil _ _ _ _), by rw [hf]; exact (own_nil _ _ _ _)⟩
  · refine L_yes rfl rfl rfl (decide_eq_false h1) ?_
    refine L_run (R_field (r := 0) rfl fld43_0 rfl) rfl ?_
    refine L_yes rfl rfl rfl (decide_eq_false h1) ?_
    refine L_run (R_load1 rfl scl3 (hb1.cell (i := 0) rfl)) rfl ?_
    refine L_yes rfl rfl rfl (decide_eq_false h1) ?_
    refine L_run (R_eql rfl rfl) rfl ?_
    refine L_run (R_pickF rfl (decide_eq_false h1) rfl) rfl ?_
    refine L_run (R_assign rfl) rfl ?_
    refine L_nil (N_then (C_seq (C_reg rfl ?_)))
    refine L_run (R_field (r := 0) rfl fld43_0 rfl) rfl ?_
    refine L_run (R_load1 rfl scl3 (hb1.cell (i := 0) rfl)) rfl ?_
    refine L_run (R_eql rfl rfl) rfl ?_
    refine L_run (R_move rfl) rfl ?_
    refine L_splitD (p := ((k : Nat) : Int) = 3) (fun h4 => ?_) (fun h4 => ?_)
    · refine L_no rfl rfl rfl (decide_eq_true h4) rfl ?_
      refine L_no rfl rfl rfl (decide_eq_true h4) rfl ?_
      refine L_no rfl rfl rfl (decide_eq_true h4) rfl ?_
      refine L_run (R_pickT rfl (decide_eq_true h4) rfl) rfl ?_
      refine L_run (R_assign rfl) rfl ?_
      refine L_nil (N_then (C_seq (C_block (C_seq (C_reg rfl ?_)))))
      refine L_run (R_field (r := 0) rfl fld62_0 rfl) rfl ?_
      refine L_run (R_load1 rfl scl4 (hb3.cell (i := 0) rfl)) rfl ?_
      refine L_run (R_move rfl) rfl ?_
      refine L_run (R_eqv (R_neqB rfl rfl boo4) (v' := .bool false) (by simp)) rfl ?_
      refine L_run (R_move rfl) rfl ?_
      refine L_yes rfl rfl rfl rfl ?_
      refine L_run (R_field (r := 0) rfl fld62_0 rfl) rfl ?_
      refine L_yes rfl rfl rfl rfl ?_
      refine L_run (R_load1 rfl scl4 (hb3.cell (i := 0) rfl)) rfl ?_
      refine L_yes rfl rfl rfl rfl ?_
      refine L_run (R_move rfl) rfl ?_
      refine L_yes rfl rfl rfl rfl ?_
      refine L_run (R_eqv (R_eqlB rfl rfl boo4) (v' := .bool (decide (((k : Nat) : Int) = 2))) (congrArg _ (by simp))) rfl ?_
      refine L_run (R_pickF rfl rfl rfl) rfl ?_
      refine L_run (R_assign rfl) rfl ?_
      refine L_nil (N_then ?_)
      refine C_if rfl (fun h5 => ?_) (fun h5 => ?_)
      · refine C_seq (C_reg rfl ?_)
        refine L_run (R_assign rfl) rfl ?_
        refine L_run (R_assign rfl) rfl ?_
        refine L_run (R_assign rfl) rfl ?_
        refine L_nil (N_then (C_ret (R_in (R_then ?_))))
        refine ret3 Tryd.results11 rfl rfl rfl ?_
        have hf : feedN true bs k d = _ := fee_form (by first | (show k = 3 ∨ k = 4; omega) | (show k = 1 ∨ k = 2; omega) | (show ¬ (k = 3 ∨ k = 4); omega) | (show ¬ (k = 1 ∨ k = 2); omega))
        exact ⟨hB, none, 0, none, 0, by first | (rw [hf]; done) | (rw [hf]; rfl), by rw [hf]; exact hb4, by rw [hf]; exact (own_nil _ _ _ _), by rw [hf]; exact (own_nil _ _ _ _)⟩
      · refine C_seq (C_reg rfl ?_)
        refine L_run (R_field (r := 1) rfl fld62_1 rfl) rfl ?_
        refine L_run (R_load1 rfl scl25 (hb3.cell (i := 1) rfl)) rfl ?_
        refine L_run (R_lenSl rfl slc25) rfl ?_
        refine L_run (R_field (r := 2) rfl fld43_2 rfl) rfl ?_
        refine L_run (R_load1 rfl scl25 (hb1.cell (i := 2) rfl)) rfl ?_
        refine L_run (R_lenSl rfl slc25) rfl ?_
        refine L_run (R_add64 rfl rfl (by omega)) rfl ?_
        refine L_run (R_gtr rfl rfl) rfl ?_
        refine L_run (R_assign rfl) rfl ?_
        refine L_nil (N_then ?_)
        refine C_if rfl (fun h6 => ?_) (fun h6 => ?_)
        · refine C_seq (C_reg rfl ?_)
          refine L_run (R_assign rfl) rfl ?_
          refine L_run (R_assign rfl) rfl ?_
          refine L_run (R_assign rfl) rfl ?_
          refine L_nil (N_then (C_ret (R_in (R_then ?_))))
          refine ret3 Tryd.results11 rfl rfl rfl ?_
          have hf : feedN true bs k d = _ := fee_long (by first | (show k = 3 ∨ k = 4; omega) | (show k = 1 ∨ k = 2; omega) | (show ¬ (k = 3 ∨ k = 4); omega) | (show ¬ (k = 1 ∨ k = 2); omega)) (by first | omega | (simp only [List.length_append] at *; omega))
          exact ⟨hB, none, 0, none, 0, by first | (rw [hf]; done) | (rw [hf]; rfl), by rw [hf]; exact hb4, by rw [hf]; exact (own_nil _ _ _ _), by rw [hf]; exact (own_nil _ _ _ _)⟩
        · refine C_skip (N_in (N_then (C_seq ?_)))
          refine C_draw2 rfl mix ?_
          intro w5 hs5 hz5
          replace hB := gb_tr hB hs5
          replace hb4 := hb4.gb hs5
          replace hS := hS.gb hs5
          replace hD := hD.gb hs5
          replace hb1 := hb1.gb hs5
          replace hb3 := hb3.gb hs5
          refine ⟨fun W_ => Blk W_ g1 43 [.int .i64 ((k : Nat) : Int), .int .u32 ep, .slice A2 d.length c2] ∧ Blk W_ g2 62 [.bool true, .slice A bs.length c] ∧ True, [1, 2, 4, 5, 7], ?_⟩
          refine T_takeA (i := 1) rfl rfl (by kernel_rfl) (by kernel_rfl) (by kernel_rfl) (Y_of (fun _ ⟨hb1, hb3, _⟩ => R_field (r := 1) rfl fld62_1 rfl)) ⟨hb1, hb3, trivial⟩ rfl ?_
          refine T_takeA (i := 2) rfl rfl (by kernel_rfl) (by kernel_rfl) (by kernel_rfl) (Y_of (fun _ ⟨hb1, hb3, _⟩ => R_load1 rfl scl25 (hb3.cell (i := 1) rfl))) ⟨hb1, hb3, trivial⟩ rfl ?_
          refine T_takeA (i := 4) rfl rfl (by kernel_rfl) (by kernel_rfl) (by kernel_rfl) (Y_of (fun _ ⟨hb1, hb3, _⟩ => R_field (r := 2) rfl fld43_2 rfl)) ⟨hb1, hb3, trivial⟩ rfl ?_
          refine T_takeA (i := 5) rfl rfl (by kernel_rfl) (by kernel_rfl) (by kernel_rfl) (Y_of (fun _ ⟨hb1, hb3, _⟩ => R_load1 rfl scl25 (hb1.cell (i := 2) rfl))) ⟨hb1, hb3, trivial⟩ rfl ?_
          refine T_all (rs := [0]) (by kernel_rfl) rfl (all1 (O_one rfl ?_))
          refine L_buildSlice (pv := []) (cs := []) slc25 zer5 rfl rfl (by kernel_rfl) rfl ?_
          intro g3 w6 eg3 hb5 hs6 hz6
          have ge3 : w.heap.size ≤ g3 := eg_ge hB eg3
          have lt4 : g < g3 := lt_of_eg hb4.lt eg3
          have lt5 : g1 < g3 := lt_of_eg hb1.lt eg3
          have lt6 : g2 < g3 := lt_of_eg hb3.lt eg3
          replace hB := gb_tr hB hs6
          replace hb4 := hb4.gb hs6
          replace hS := hS.gb hs6
          replace hD := hD.gb hs6
          replace hb1 := hb1.gb hs6
          replace hb3 := hb3.gb hs6
          refine L_nil (N_then ⟨fun hN_ => ⟨hb1, hb3, trivial⟩, ?_⟩)
          refine T_all (rs := [3]) (by kernel_rfl) rfl (all1 (O_one rfl ?_))
          have hlo1 : g3 ≤ w6.heap.size := Nat.le_of_lt hb5.lt
          have ho1 : World.ownsRow w6 g3 5 1 (.slice (some ⟨g3, 0, none⟩) ([] : List UInt8).length 0) ([] : List UInt8).length (fl encB []) := Blk.own (sz := 1) (m := 0) hb5 (by decide) rfl (Nat.le_refl _)
          refine T_append (xs := []) (ys := bs) EncB slc25 rfl rfl ho1 hS (by first | omega | (simp; done) | (simp; omega)) hlo1 rfl ?_
          intro A_1 c_1 w7 ho2 hs7 hat1
          replace hB := gb_tro hB ho1 hs7 ge3
          replace hb4 := blk_own hb4 ho1 rfl hs7
          replace hS := hS.grown hs7 (fun k hk => .inr (Nat.le_trans ge3 (World.ownsRow.lt ho1 k hk).1))
          replace hD := hD.grown hs7 (fun k hk => .inr (Nat.le_trans ge3 (World.ownsRow.lt ho1 k hk).1))
          replace hb1 := blk_own hb1 ho1 rfl hs7
          replace hb3 := blk_own hb3 ho1 rfl hs7
          replace hlo1 := Nat.le_trans hlo1 hs7.size
          simp only [List.nil_append] at ho2 ⊢
          refine L_nil (N_then ⟨fun hN_ => ⟨hb1, hb3, trivial⟩, ?_⟩)
          refine T_all (rs := [6]) (by kernel_rfl) rfl (all1 (O_one rfl ?_))
          refine T_append (xs := bs) (ys := d) EncB slc25 rfl rfl ho2 hD (by first | omega | (simp; done) | (simp; omega)) hlo1 rfl ?_
          intro A_2 c_2 w8 ho3 hs8 hat2
          replace hB := gb_tro hB ho2 hs8 ge3
          replace hb4 := blk_own hb4 ho2 rfl hs8
          replace hS := hS.grown hs8 (fun k hk => .inr (Nat.le_trans ge3 (World.ownsRow.lt ho2 k hk).1))
          replace hD := hD.grown hs8 (fun k hk => .inr (Nat.le_trans ge3 (World.ownsRow.lt ho2 k hk).1))
          replace hb1 := blk_own hb1 ho2 rfl hs8
          replace hb3 := blk_own hb3 ho2 rfl hs8
          replace hlo1 := Nat.le_trans hlo1 hs8.size
          refine L_nil (N_then ⟨fun hN_ => ⟨hb1, hb3, trivial⟩, ?_⟩)
          refine T_takeA (i := 7) rfl rfl (by kernel_rfl) (by kernel_rfl) (by kernel_rfl) (Y_of (fun _ ⟨hb1, hb3, _⟩ => R_assign rfl)) ⟨hb1, hb3, trivial⟩ rfl ?_
          refine T_done (by kernel_rfl) (CalmE.normal ?_)
          refine N_then (C_seq (C_seq (C_reg rfl ?_)))
          refine L_run (R_field (r := 0) rfl fld43_0 rfl) rfl ?_
          refine L_run (R_load1 rfl scl3 (hb1.cell (i := 0) rfl)) rfl ?_
          refine L_run (R_eql rfl rfl) rfl ?_
          refine L_run (R_move rfl) rfl ?_
          refine L_yes rfl rfl rfl (decide_eq_false h1) ?_
          refine L_run (R_field (r := 0) rfl fld43_0 rfl) rfl ?_
          refine L_yes rfl rfl rfl (decide_eq_false h1) ?_
          refine L_run (R_load1 rfl scl3 (hb1.cell (i := 0) rfl)) rfl ?_
          refine L_yes rfl rfl rfl (decide_eq_false h1) ?_
          refine L_run (R_eql rfl rfl) rfl ?_
          refine L_run (R_pickF rfl (decide_eq_false h1) rfl) rfl ?_
          refine L_nil (N_then ?_)
          refine C_if rfl (fun h7 => ?_) (fun h7 => ?_)
          · refine C_seq (C_reg rfl ?_)
            refine L_run (R_move rfl) rfl ?_
            refine L_run (R_assign rfl) rfl ?_
            refine L_run (R_assign rfl) rfl ?_
            refine L_run (R_assign rfl) rfl ?_
            refine L_nil (N_then (C_ret (R_then ?_)))
            refine ret3 Tryd.results11 rfl rfl rfl ?_
            have hf : feedN true bs k d = _ := fee_done (by first | (show k = 3 ∨ k = 4; omega) | (show k = 1 ∨ k = 2; omega) | (show ¬ (k = 3 ∨ k = 4); omega) | (show ¬ (k = 1 ∨ k = 2); omega)) (by first | omega | (simp only [List.length_append] at *; omega)) (by omega)
            exact ⟨hB, none, 0, A_2, c_2, by first | (rw [hf]; done) | (rw [hf]; rfl), by rw [hf]; exact hb4, by rw [hf]; exact (own_nil _ _ _ _), by rw [hf]; exact (own_lo ho3 ge3)⟩
          · refine C_skip (N_then (C_seq (C_reg rfl ?_)))
            refine L_run (R_move rfl) rfl ?_
            refine L_run (R_move rfl) rfl ?_
            refine L_run (R_build (pv := [(0, .bool true), (1, .slice A_2 ((bs ++ d).length) c_2)]) (cs := [.bool true, .slice A_2 ((bs ++ d).length) c_2]) rfl (by kernel_rfl)) rfl ?_
            refine L_run (R_nilck rfl) rfl ?_
            refine L_stA (vs := [.bool true, .slice A_2 ((bs ++ d).length) c_2]) rfl rfl rfl sz62 rfl hb4 rfl ?_
            intro w9 hb6 hs9 hz7
            replace hB := gb_trans hB hs9
            replace hS := hS.other hb4 rfl rfl hs9
            replace hD := hD.other hb4 rfl rfl hs9
            replace hb1 := hb1.grown hs9 (ne_gt lt1)
            replace hb3 := hb3.grown hs9 (ne_gt lt2)
            replace hlo1 := Nat.le_trans hlo1 hs9.size
            replace ho3 := own_other ho3 hb4 rfl hs9
            refine L_nil (N_then (C_seq (C_reg rfl ?_)))
            refine L_run (R_assign rfl) rfl ?_
            refine L_run (R_assign rfl) rfl ?_
            refine L_run (R_assign rfl) rfl ?_
            refine L_nil (N_then (C_ret ?_))
            refine ret3 Tryd.results11 rfl rfl rfl ?_
            have hf : feedN true bs k d = _ := fee_on (by first | (show k = 3 ∨ k = 4; omega) | (show k = 1 ∨ k = 2; omega) | (show ¬ (k = 3 ∨ k = 4); omega) | (show ¬ (k = 1 ∨ k = 2); omega)) (by first | omega | (simp only [List.length_append] at *; omega)) (by omega)
            exact ⟨hB, A_2, c_2, none, 0, by first | (rw [hf]; done) | (rw [hf]; rfl), by rw [hf]; exact hb6, by rw [hf]; exact (own_lo ho3 ge3), by rw [hf]; exact (own_nil _ _ _ _)⟩
    · refine L_yes rfl rfl rfl (decide_eq_false h4) ?_
      refine L_run (R_field (r := 0) rfl fld43_0 rfl) rfl ?_
      refine L_yes rfl rfl rfl (decide_eq_false h4) ?_
      refine L_run (R_load1 rfl scl3 (hb1.cell (i := 0) rfl)) rfl ?_
      refine L_yes rfl rfl rfl (decide_eq_false h4) ?_
      refine L_run (R_eql rfl rfl) rfl ?_
      refine L_run (R_pickF rfl (decide_eq_false h4) rfl) rfl ?_
      refine L_run (R_assign rfl) rfl ?_
      refine L_nil (N_then (C_seq (C_block (C_seq (C_reg rfl ?_)))))
      refine L_run (R_field (r := 0) rfl fld62_0 rfl) rfl ?_
      refine L_run (R_load1 rfl scl4 (hb3.cell (i := 0) rfl)) rfl ?_
      refine L_run (R_move rfl) rfl ?_
      refine L_run (R_eqv (R_neqB rfl rfl boo4) (v' := .bool (decide (¬ (((k : Nat) : Int) = 4)))) (congrArg _ (by simp))) rfl ?_
      refine L_run (R_move rfl) rfl ?_
      refine L_splitN (p := ((k : Nat) : Int) = 4) (fun h8 => ?_) (fun h8 => ?_)
      · refine L_no rfl rfl rfl (decide_eq_true h8) rfl ?_
        refine L_no rfl rfl rfl (decide_eq_true h8) rfl ?_
        refine L_no rfl rfl rfl (decide_eq_true h8) rfl ?_
        refine L_no rfl rfl rfl (decide_eq_true h8) rfl ?_
        refine L_run (R_pickT rfl (decide_eq_true h8) rfl) rfl ?_
        refine L_run (R_assign rfl) rfl ?_
        refine L_nil (N_then (C_condT rfl rfl (C_seq (C_reg rfl ?_))))
        refine L_run (R_assign rfl) rfl ?_
        refine L_run (R_assign rfl) rfl ?_
        refine L_run (R_assign rfl) rfl ?_
        refine L_nil (N_then (C_ret (R_in (R_then ?_))))
        refine ret3 Tryd.results11 rfl rfl rfl ?_
        have hf : feedN true bs k d = _ := fee_form (by first | (show k = 3 ∨ k = 4; omega) | (show k = 1 ∨ k = 2; omega) | (show ¬ (k = 3 ∨ k = 4); omega) | (show ¬ (k = 1 ∨ k = 2); omega))
        exact ⟨hB, none, 0, none, 0, by first | (rw [hf]; done) | (rw [hf]; rfl), by rw [hf]; exact hb4, by rw [hf]; exact (own_nil _ _ _ _), by rw [hf]; exact (own_nil _ _ _ _)⟩
      · refine L_yes rfl rfl rfl (decide_eq_false (fun hn => hn h8)) ?_
        refine L_run (R_field (r := 0) rfl fld62_0 rfl) rfl ?_
        refine L_yes rfl rfl rfl (decide_eq_false (fun hn => hn h8)) ?_
        refine L_run (R_load1 rfl scl4 (hb3.cell (i := 0) rfl)) rfl ?_
        refine L_yes rfl rfl rfl (decide_eq_false (fun hn => hn h8)) ?_
        refine L_run (R_move rfl) rfl ?_
        refine L_yes rfl rfl rfl (decide_eq_false (fun hn => hn h8)) ?_
        refine L_run (R_eqv (R_eqlB rfl rfl boo4) (v' := .bool (decide (((k : Nat) : Int) = 2))) (congrArg _ (by simp))) rfl ?_
        refine L_run (R_pickF rfl (decide_eq_false (fun hn => hn h8)) rfl) rfl ?_
        refine L_run (R_assign rfl) rfl ?_
        refine L_nil (N_then ?_)
        refine C_if rfl (fun h9 => ?_) (fun h9 => ?_)
        · refine C_seq (C_reg rfl ?_)
          refine L_run (R_assign rfl) rfl ?_
          refine L_run (R_assign rfl) rfl ?_
          refine L_run (R_assign rfl) rfl ?_
          refine L_nil (N_then (C_ret (R_in (R_then ?_))))
          refine ret3 Tryd.results11 rfl rfl rfl ?_
          have hf : feedN true bs k d = _ := fee_form (by first | (show k = 3 ∨ k = 4; omega) | (show k = 1 ∨ k = 2; omega) | (show ¬ (k = 3 ∨ k = 4); omega) | (show ¬ (k = 1 ∨ k = 2); omega))
          exact ⟨hB, none, 0, none, 0, by first | (rw [hf]; done) | (rw [hf]; rfl), by rw [hf]; exact hb4, by rw [hf]; exact (own_nil _ _ _ _), by rw [hf]; exact (own_nil _ _ _ _)⟩
        · refine C_seq (C_reg rfl ?_)
          refine L_run (R_field (r := 1) rfl fld62_1 rfl) rfl ?_
          refine L_run (R_load1 rfl scl25 (hb3.cell (i := 1) rfl)) rfl ?_
          refine L_run (R_lenSl rfl slc25) rfl ?_
          refine L_run (R_field (r := 2) rfl fld43_2 rfl) rfl ?_
          refine L_run (R_load1 rfl scl25 (hb1.cell (i := 2) rfl)) rfl ?_
          refine L_run (R_lenSl rfl slc25) rfl ?_
          refine L_run (R_add64 rfl rfl (by omega)) rfl ?_
          refine L_run (R_gtr rfl rfl) rfl ?_
          refine L_run (R_assign rfl) rfl ?_
          refine L_nil (N_then ?_)
          refine C_if rfl (fun h10 => ?_) (fun h10 => ?_)
          · refine C_seq (C_reg rfl ?_)
            refine L_run (R_assign rfl) rfl ?_
            refine L_run (R_assign rfl) rfl ?_
            refine L_run (R_assign rfl) rfl ?_
            refine L_nil (N_then (C_ret (R_in (R_then ?_))))
            refine ret3 Tryd.results11 rfl rfl rfl ?_
            have hf : feedN true bs k d = _ := fee_long (by first | (show k = 3 ∨ k = 4; omega) | (show k = 1 ∨ k = 2; omega) | (show ¬ (k = 3 ∨ k = 4); omega) | (show ¬ (k = 1 ∨ k = 2); omega)) (by first | omega | (simp only [List.length_append] at *; omega))
            exact ⟨hB, none, 0, none, 0, by first | (rw [hf]; done) | (rw [hf]; rfl), by rw [hf]; exact hb4, by rw [hf]; exact (own_nil _ _ _ _), by rw [hf]; exact (own_nil _ _ _ _)⟩
          · refine C_skip (N_in (N_then (C_seq ?_)))
            refine C_draw2 rfl mix ?_
            intro w10 hs10 hz8
            replace hB := gb_tr hB hs10
            replace hb4 := hb4.gb hs10
            replace hS := hS.gb hs10
            replace hD := hD.gb hs10
            replace hb1 := hb1.gb hs10
            replace hb3 := hb3.gb hs10
            refine ⟨fun W_ => Blk W_ g1 43 [.int .i64 ((k : Nat) : Int), .int .u32 ep, .slice A2 d.length c2] ∧ Blk W_ g2 62 [.bool true, .slice A bs.length c] ∧ True, [1, 2, 4, 5, 7], ?_⟩
            refine T_takeA (i := 1) rfl rfl (by kernel_rfl) (by kernel_rfl) (by kernel_rfl) (Y_of (fun _ ⟨hb1, hb3, _⟩ => R_field (r := 1) rfl fld62_1 rfl)) ⟨hb1, hb3, trivial⟩ rfl ?_
            refine T_takeA (i := 2) rfl rfl (by kernel_rfl) (by kernel_rfl) (by kernel_rfl) (Y_of (fun _ ⟨hb1, hb3, _⟩ => R_load1 rfl scl25 (hb3.cell (i := 1) rfl))) ⟨hb1, hb3, trivial⟩ rfl ?_
            refine T_takeA (i := 4) rfl rfl (by kernel_rfl) (by kernel_rfl) (by kernel_rfl) (Y_of (fun _ ⟨hb1, hb3, _⟩ => R_field (r := 2) rfl fld43_2 rfl)) ⟨hb1, hb3, trivial⟩ rfl ?_
            refine T_takeA (i := 5) rfl rfl (by kernel_rfl) (by kernel_rfl) (by kernel_rfl) (Y_of (fun _ ⟨hb1, hb3, _⟩ => R_load1 rfl scl25 (hb1.cell (i := 2) rfl))) ⟨hb1, hb3, trivial⟩ rfl ?_
            refine T_all (rs := [0]) (by kernel_rfl) rfl (all1 (O_one rfl ?_))
            refine L_buildSlice (pv := []) (cs := []) slc25 zer5 rfl rfl (by kernel_rfl) rfl ?_
            intro g4 w11 eg4 hb7 hs11 hz9
            have ge4 : w.heap.size ≤ g4 := eg_ge hB eg4
            have lt7 : g < g4 := lt_of_eg hb4.lt eg4
            have lt8 : g1 < g4 := lt_of_eg hb1.lt eg4
            have lt9 : g2 < g4 := lt_of_eg hb3.lt eg4
            replace hB := gb_tr hB hs11
            replace hb4 := hb4.gb hs11
            replace hS := hS.gb hs11
            replace hD := hD.gb hs11
            replace hb1 := hb1.gb hs11
            replace hb3 := hb3.gb hs11
            refine L_nil (N_then ⟨fun hN_ => ⟨hb1, hb3, trivial⟩, ?_⟩)
            refine T_all (rs := [3]) (by kernel_rfl) rfl (all1 (O_one rfl ?_))
            have hlo2 : g4 ≤ w11.heap.size := Nat.le_of_lt hb7.lt
            have ho4 : World.ownsRow w11 g4 5 1 (.slice (some ⟨g4, 0, none⟩) ([] : List UInt8).length 0) ([] : List UInt8).length (fl encB []) := Blk.own (sz := 1) (m := 0) hb7 (by decide) rfl (Nat.le_refl _)
            refine T_append (xs := []) (ys := bs) EncB slc25 rfl rfl ho4 hS (by first | omega | (simp; done) | (simp; omega)) hlo2 rfl ?_
            intro A_3 c_3 w12 ho5 hs12 hat3
            replace hB := gb_tro hB ho4 hs12 ge4
            replace hb4 := blk_own hb4 ho4 rfl hs12
            replace hS := hS.grown hs12 (fun k hk => .inr (Nat.le_trans ge4 (World.ownsRow.lt ho4 k hk).1))
            replace hD := hD.grown hs12 (fun k hk => .inr (Nat.le_trans ge4 (World.ownsRow.lt ho4 k hk).1))
            replace hb1 := blk_own hb1 ho4 rfl hs12
            replace hb3 := blk_own hb3 ho4 rfl hs12
            replace hlo2 := Nat.le_trans hlo2 hs12.size
            simp only [List.nil_append] at ho5 ⊢
            refine L_nil (N_then ⟨fun hN_ => ⟨hb1, hb3, trivial⟩, ?_⟩)
            refine T_all (rs := [6]) (by kernel_rfl) rfl (all1 (O_one rfl ?_))
            refine T_append (xs := bs) (ys := d) EncB slc25 rfl rfl ho5 hD (by first | omega | (simp; done) | (simp; omega)) hlo2 rfl ?_
            intro A_4 c_4 w13 ho6 hs13 hat4
            replace hB := gb_tro hB ho5 hs13 ge4
            replace hb4 := blk_own hb4 ho5 rfl hs13
            replace hS := hS.grown hs13 (fun k hk => .inr (Nat.le_trans ge4 (World.ownsRow.lt ho5 k hk).1))
            replace hD := hD.grown hs13 (fun k hk => .inr (Nat.le_trans ge4 (World.ownsRow.lt ho5 k hk).1))
            replace hb1 := blk_own hb1 ho5 rfl hs13
            replace hb3 := blk_own hb3 ho5 rfl hs13
            replace hlo2 := Nat.le_trans hlo2 hs13.size
            refine L_nil (N_then ⟨fun hN_ => ⟨hb1, hb3, trivial⟩, ?_⟩)
            refine T_takeA (i := 7) rfl rfl (by kernel_rfl) (by kernel_rfl) (by kernel_rfl) (Y_of (fun _ ⟨hb1, hb3, _⟩ => R_assign rfl)) ⟨hb1, hb3, trivial⟩ rfl ?_
            refine T_done (by kernel_rfl) (CalmE.normal ?_)
            refine N_then (C_seq (C_seq (C_reg rfl ?_)))
            refine L_run (R_field (r := 0) rfl fld43_0 rfl) rfl ?_
            refine L_run (R_load1 rfl scl3 (hb1.cell (i := 0) rfl)) rfl ?_
            refine L_run (R_eql rfl rfl) rfl ?_
            refine L_run (R_move rfl) rfl ?_
            refine L_yes rfl rfl rfl (decide_eq_false h1) ?_
            refine L_run (R_field (r := 0) rfl fld43_0 rfl) rfl ?_
            refine L_yes rfl rfl rfl (decide_eq_false h1) ?_
            refine L_run (R_load1 rfl scl3 (hb1.cell (i := 0) rfl)) rfl ?_
            refine L_yes rfl rfl rfl (decide_eq_false h1) ?_
            refine L_run (R_eql rfl rfl) rfl ?_
            refine L_run (R_pickF rfl (decide_eq_false h1) rfl) rfl ?_
            refine L_nil (N_then (C_condT rfl (decide_eq_true h8) (C_seq (C_reg rfl ?_))))
            refine L_run (R_move rfl) rfl ?_
            refine L_run (R_assign rfl) rfl ?_
            refine L_run (R_assign rfl) rfl ?_
            refine L_run (R_assign rfl) rfl ?_
            refine L_nil (N_then (C_ret (R_then ?_)))
            refine ret3 Tryd.results11 rfl rfl rfl ?_
            have hf : feedN true bs k d = _ := fee_done (by first | (show k = 3 ∨ k = 4; omega) | (show k = 1 ∨ k = 2; omega) | (show ¬ (k = 3 ∨ k = 4); omega) | (show ¬ (k = 1 ∨ k = 2); omega)) (by first | omega | (simp only [List.length_append] at *; omega)) (by omega)
            exact ⟨hB, none, 0, A_4, c_4, by first | (rw [hf]; done) | (rw [hf]; rfl), by rw [hf]; exact hb4, by rw [hf]; exact (own_nil _ _ _ _), by rw [hf]; exact (own_lo ho6 ge4)⟩

theorem feed_f {w : World} {g : Nat} {lo hi lo2 hi2 : Nat} {A A2 : Option Addr} {c c2 k : Nat} {ep : Int} {bs d : List UInt8} (hb : Blk w g 62 [.bool false, .slice A bs.length c]) (hS : Sli 5 lo hi w A (fl encB bs)) (hD : Sli 5 lo2 hi2 w A2 (fl encB d)) (hl : bs.length ≤ 1000000) (hd : d.length ≤ 1000000) :
    Runs Tryd.prog 11 #[.pointer (some ⟨g, 0, none⟩), .agg #[.int .i64 ((k : Nat) : Int), .int .u32 ep, .slice A2 d.length c2]] w (fun v w' => w.grownBy w' (some g) ∧ ∃ A' c' A3 c3, v = .tuple #[.slice A3 (feedN false bs k d).2.1.length c3, .bool (feedN false bs k d).2.2.1, .int .i64 (feedN false bs k d).2.2.2] ∧ Blk w' g 62 [.bool (feedN false bs k d).1.1, .slice A' (feedN false bs k d).1.2.length c'] ∧ World.ownsRow w' w.heap.size 5 1 (.slice A' ((feedN false bs k d).1.2).length c') ((feedN false bs k d).1.2).length (fl encB ((feedN false bs k d).1.2)) ∧ World.ownsRow w' w.heap.size 5 1 (.slice A3 ((feedN false bs k d).2.1).length c3) ((feedN false bs k d).2.1).length (fl encB ((feedN false bs k d).2.1))) := by
  have hB := gb_refl w (some g)
  replace hS := hS.top
  replace hD := hD.top
  refine enter Tryd.func11 Tryd.ntmps11 rfl rfl ?_
  refine C_seq (C_reg rfl ?_)
  refine L_box (cs := [.int .i64 ((k : Nat) : Int), .int .u32 ep, .slice A2 d.length c2]) rfl rfl rfl ?_
  intro g1 w1 eg1 hb1 hs1 hz1
  have ge1 : w.heap.size ≤ g1 := eg_ge hB eg1
  have lt1 : g < g1 := lt_of_eg hb.lt eg1
  replace hB := gb_tr hB hs1
  replace hb := hb.gb hs1
  replace hS := hS.gb hs1
  replace hD := hD.gb hs1
  refine L_run (R_assign rfl) rfl ?_
  refine L_run (R_assign rfl) rfl ?_
  refine L_run (R_assign rfl) rfl ?_
  refine L_nil (N_then (C_seq (C_seq (C_reg rfl ?_))))
  refine L_run (R_move rfl) rfl ?_
  refine L_run (R_eqlpPN rfl rfl Tryd.underlying36) rfl ?_
  refine L_nil (N_then (C_condF rfl rfl (C_skip (N_then (C_seq (C_reg rfl ?_))))))
  refine L_run (R_move rfl) rfl ?_
  refine L_run (R_nilck rfl) rfl ?_
  refine L_run (R_loadA (vs := [.bool false, .slice A bs.length c]) rfl agg62 (At.pre (hb.at_ 0) rfl) rfl) rfl ?_
  refine L_alloc (cs := [.bool false, .slice none 0 0]) zer62 rfl rfl ?_
  intro g2 w2 eg2 hb2 hs2 hz2
  have ge2 : w.heap.size ≤ g2 := eg_ge hB eg2
  have lt2 : g < g2 := lt_of_eg hb.lt eg2
  have lt3 : g1 < g2 := lt_of_eg hb1.lt eg2
  replace hB := gb_tr hB hs2
  replace hb := hb.gb hs2
  replace hS := hS.gb hs2
  replace hD := hD.gb hs2
  replace hb1 := hb1.gb hs2
  refine L_stA (vs := [.bool false, .slice A bs.length c]) rfl rfl rfl sz62 rfl hb2 rfl ?_
  intro w3 hb3 hs3 hz3
  replace hB := gb_trg hB hs3 ge2
  replace hb := hb.grown hs3 (ne_lt lt2)
  replace hS := hS.other hb2 rfl rfl hs3
  replace hD := hD.other hb2 rfl rfl hs3
  replace hb1 := hb1.grown hs3 (ne_lt lt3)
  refine L_nil (N_then (C_seq (C_reg rfl ?_)))
  refine L_run (R_move rfl) rfl ?_
  refine L_run (R_build (pv := []) (cs := [.bool false, .slice none 0 0]) rfl (by kernel_rfl)) rfl ?_
  refine L_run (R_nilck rfl) rfl ?_
  refine L_stA (vs := [.bool false, .slice none 0 0]) rfl rfl rfl sz62 rfl hb rfl ?_
  intro w4 hb4 hs4 hz4
  replace hB := gb_trans hB hs4
  replace hS := hS.other hb rfl rfl hs4
  replace hD := hD.other hb rfl rfl hs4
  replace hb1 := hb1.grown hs4 (ne_gt lt1)
  replace hb3 := hb3.grown hs4 (ne_gt lt2)
  refine L_nil (N_then (C_seq (C_reg rfl ?_)))
  refine L_run (R_field (r := 0) rfl fld43_0 rfl) rfl ?_
  refine L_run (R_load1 rfl scl3 (hb1.cell (i := 0) rfl)) rfl ?_
  refine L_run (R_eql rfl rfl) rfl ?_
  refine L_run (R_move rfl) rfl ?_
  refine L_splitD (p := ((k : Nat) : Int) = 1) (fun h1 => ?_) (fun h1 => ?_)
  · refine L_no rfl rfl rfl (decide_eq_true h1) rfl ?_
    refine L_no rfl rfl rfl (decide_eq_true h1) rfl ?_
    refine L_no rfl rfl rfl (decide_eq_true h1) rfl ?_
    refine L_run (R_pickT rfl (decide_eq_true h1) rfl) rfl ?_
    refine L_run (R_assign rfl) rfl ?_
    refine L_nil (N_then (C_seq (C_reg rfl ?_)))
    refine L_run (R_field (r := 0) rfl fld43_0 rfl) rfl ?_
    refine L_run (R_load1 rfl scl3 (hb1.cell (i := 0) rfl)) rfl ?_
    refine L_run (R_eql rfl rfl) rfl ?_
    refine L_run (R_move rfl) rfl ?_
    refine L_splitD (p := ((k : Nat) : Int) = 3) (fun h2 => ?_) (fun h2 => ?_)
    · refine L_no rfl rfl rfl (decide_eq_true h2) rfl ?_
      refine L_no rfl rfl rfl (decide_eq_true h2) rfl ?_
      refine L_no rfl rfl rfl (decide_eq_true h2) rfl ?_
      refine L_run (R_pickT rfl (decide_eq_true h2) rfl) rfl ?_
      refine L_run (R_assign rfl) rfl ?_
      refine L_nil (N_then (C_seq (C_block (C_seq (C_reg rfl ?_)))))
      refine L_run (R_field (r := 0) rfl fld62_0 rfl) rfl ?_
      refine L_run (R_load1 rfl scl4 (hb3.cell (i := 0) rfl)) rfl ?_
      refine L_run (R_move rfl) rfl ?_
      refine L_run (R_eqv (R_neqB rfl rfl boo4) (v' := .bool true) (by rfl)) rfl ?_
      refine L_run (R_move rfl) rfl ?_
      refine L_no rfl rfl rfl rfl rfl ?_
      refine L_no rfl rfl rfl rfl rfl ?_
      refine L_no rfl rfl rfl rfl rfl ?_
      refine L_no rfl rfl rfl rfl rfl ?_
      refine L_run (R_pickT rfl rfl rfl) rfl ?_
      refine L_run (R_assign rfl) rfl ?_
      refine L_nil (N_then (C_condT rfl rfl (C_seq (C_reg rfl ?_))))
      refine L_run (R_assign rfl) rfl ?_
      refine L_run (R_assign rfl) rfl ?_
      refine L_run (R_assign rfl) rfl ?_
      refine L_nil (N_then (C_ret (R_in (R_then ?_))))
      refine ret3 Tryd.results11 rfl rfl rfl ?_
      have hf : feedN false bs k d = _ := fee_form (by first | (show k = 3 ∨ k = 4; omega) | (show k = 1 ∨ k = 2; omega) | (show ¬ (k = 3 ∨ k = 4); omega) | (show ¬ (k = 1 ∨ k = 2); omega))
      exact ⟨hB, none, 0, none, 0, by first | (rw [hf]; done) | (rw [hf]; rfl), by rw [hf]; exact hb4, by rw [hf]; exact (own_nil _ _ _ _), by rw [hf]; exact (own_nil _ _ _ _)⟩
    · refine L_yes rfl rfl rfl (decide_eq_false h2) ?_
      refine L_run (R_field (r := 0) rfl fld43_0 rfl) rfl ?_
      refine L_yes rfl rfl rfl (decide_eq_false h2) ?_
      refine L_run (R_load1 rfl scl3 (hb1.cell (i := 0) rfl)) rfl ?_
      refine L_yes rfl rfl rfl (decide_eq_false h2) ?_
      refine L_run (R_eql rfl rfl) rfl ?_
      refine L_run (R_pickF rfl (decide_eq_false h2) rfl) rfl ?_
      refine L_run (R_assign rfl) rfl ?_
      refine L_nil (N_then (C_seq (C_block (C_seq (C_reg rfl ?_)))))
      refine L_run (R_field (r := 0) rfl fld62_0 rfl) rfl ?_
      refine L_run (R_load1 rfl scl4 (hb3.cell (i := 0) rfl)) rfl ?_
      refine L_run (R_move rfl) rfl ?_
      refine L_run (R_eqv (R_neqB rfl rfl boo4) (v' := .bool (decide (((k : Nat) : Int) = 4))) (congrArg _ (by simp))) rfl ?_
      refine L_run (R_move rfl) rfl ?_
      refine L_splitD (p := ((k : Nat) : Int) = 4) (fun h3 => ?_) (fun h3 => ?_)
      · refine L_no rfl rfl rfl (decide_eq_true h3) rfl ?_
        refine L_no rfl rfl rfl (decide_eq_true h3) rfl ?_
        refine L_no rfl rfl rfl (decide_eq_true h3) rfl ?_
        refine L_no rfl rfl rfl (decide_eq_true h3) rfl ?_
        refine L_run (R_pickT rfl (decide_eq_true h3) rfl) rfl ?_
        refine L_run (R_assign rfl) rfl ?_
        refine L_nil (N_then (C_condT rfl rfl (C_seq (C_reg rfl ?_))))
        refine L_run (R_assign rfl) rfl ?_
        refine L_run (R_assign rfl) rfl ?_
        refine L_run (R_assign rfl) rfl ?_
        refine L_nil (N_then (C_ret (R_in (R_then ?_))))
        refine ret3 Tryd.results11 rfl rfl rfl ?_
        have hf : feedN false bs k d = _ := fee_form (by first | (show k = 3 ∨ k = 4; omega) | (show k = 1 ∨ k = 2; omega) | (show ¬ (k = 3 ∨ k = 4); omega) | (show ¬ (k = 1 ∨ k = 2); omega))
        exact ⟨hB, none, 0, none, 0, by first | (rw [hf]; done) | (rw [hf]; rfl), by rw [hf]; exact hb4, by rw [hf]; exact (own_nil _ _ _ _), by rw [hf]; exact (own_nil _ _ _ _)⟩
      · refine L_yes rfl rfl rfl (decide_eq_false h3) ?_
        refine L_run (R_field (r := 0) rfl fld62_0 rfl) rfl ?_
        refine L_yes rfl rfl rfl (decide_eq_false h3) ?_
        refine L_run (R_load1 rfl scl4 (hb3.cell (i := 0) rfl)) rfl ?_
        refine L_yes rfl rfl rfl (decide_eq_false h3) ?_
        refine L_run (R_move rfl) rfl ?_
        refine L_yes rfl rfl rfl (decide_eq_false h3) ?_
        refine L_run (R_eqv (R_eqlB rfl rfl boo4) (v' := .bool false) (by rfl)) rfl ?_
        refine L_run (R_pickF rfl (decide_eq_false h3) rfl) rfl ?_
        refine L_run (R_assign rfl) rfl ?_
        refine L_nil (N_then (C_condF rfl rfl (C_seq (C_reg rfl ?_))))
        refine L_run (R_field (r := 1) rfl fld62_1 rfl) rfl ?_
        refine L_run (R_load1 rfl scl25 (hb3.cell (i := 1) rfl)) rfl ?_
        refine L_run (R_lenSl rfl slc25) rfl ?_
        refine L_run (R_field (r := 2) rfl fld43_2 rfl) rfl ?_
        refine L_run (R_load1 rfl scl25 (hb1.cell (i := 2) rfl)) rfl ?_
        refine L_run (R_lenSl rfl slc25) rfl ?_
        refine L_run (R_add64 rfl rfl (by omega)) rfl ?_
        refine L_run (R_gtr rfl rfl) rfl ?_
        refine L_run (R_assign rfl) rfl ?_
        refine L_nil (N_then ?_)
        refine C_if rfl (fun h4 => ?_) (fun h4 => ?_)
        · refine C_seq (C_reg rfl ?_)
          refine L_run (R_assign rfl) rfl ?_
          refine L_run (R_assign rfl) rfl ?_
          refine L_run (R_assign rfl) rfl ?_
          refine L_nil (N_then (C_ret (R_in (R_then ?_))))
          refine ret3 Tryd.results11 rfl rfl rfl ?_
          have hf : feedN false bs k d = _ := fee_long (by first | (show k = 3 ∨ k = 4; omega) | (show k = 1 ∨ k = 2; omega) | (show ¬ (k = 3 ∨ k = 4); omega) | (show ¬ (k = 1 ∨ k = 2); omega)) (by first | omega | (simp only [List.length_append] at *; omega))
          exact ⟨hB, none, 0, none, 0, by first | (rw [hf]; done) | (rw [hf]; rfl), by rw [hf]; exact hb4, by rw [hf]; exact (own_nil _ _ _ _), by rw [hf]; exact (own_nil _ _ _ _)⟩
        · refine C_skip (N_in (N_then (C_seq ?_)))
          refine C_draw2 rfl mix ?_
          intro w5 hs5 hz5
          replace hB := gb_tr hB hs5
          replace hb4 := hb4.gb hs5
          replace hS := hS.gb hs5
          replace hD := hD.gb hs5
          replace hb1 := hb1.gb hs5
          replace hb3 := hb3.gb hs5
          refine ⟨fun W_ => Blk W_ g1 43 [.int .i64 ((k : Nat) : Int), .int .u32 ep, .slice A2 d.length c2] ∧ Blk W_ g2 62 [.bool false, .slice A bs.length c] ∧ True, [1, 2, 4, 5, 7], ?_⟩
          refine T_takeA (i := 1) rfl rfl (by kernel_rfl) (by kernel_rfl) (by kernel_rfl) (Y_of (fun _ ⟨hb1, hb3, _⟩ => R_field (r := 1) rfl fld62_1 rfl)) ⟨hb1, hb3, trivial⟩ rfl ?_
          refine T_takeA (i := 2) rfl rfl (by kernel_rfl) (by kernel_rfl) (by kernel_rfl) (Y_of (fun _ ⟨hb1, hb3, _⟩ => R_load1 rfl scl25 (hb3.cell (i := 1) rfl))) ⟨hb1, hb3, trivial⟩ rfl ?_
          refine T_takeA (i := 4) rfl rfl (by kernel_rfl) (by kernel_rfl) (by kernel_rfl) (Y_of (fun _ ⟨hb1, hb3, _⟩ => R_field (r := 2) rfl fld43_2 rfl)) ⟨hb1, hb3, trivial⟩ rfl ?_
          refine T_takeA (i := 5) rfl rfl (by kernel_rfl) (by kernel_rfl) (by kernel_rfl) (Y_of (fun _ ⟨hb1, hb3, _⟩ => R_load1 rfl scl25 (hb1.cell (i := 2) rfl))) ⟨hb1, hb3, trivial⟩ rfl ?_
          refine T_all (rs := [0]) (by kernel_rfl) rfl (all1 (O_one rfl ?_))
          refine L_buildSlice (pv := []) (cs := []) slc25 zer5 rfl rfl (by kernel_rfl) rfl ?_
          intro g3 w6 eg3 hb5 hs6 hz6
          have ge3 : w.heap.size ≤ g3 := eg_ge hB eg3
          have lt4 : g < g3 := lt_of_eg hb4.lt eg3
          have lt5 : g1 < g3 := lt_of_eg hb1.lt eg3
          have lt6 : g2 < g3 := lt_of_eg hb3.lt eg3
          replace hB := gb_tr hB hs6
          replace hb4 := hb4.gb hs6
          replace hS := hS.gb hs6
          replace hD := hD.gb hs6
          replace hb1 := hb1.gb hs6
          replace hb3 := hb3.gb hs6
          refine L_nil (N_then ⟨fun hN_ => ⟨hb1, hb3, trivial⟩, ?_⟩)
          refine T_all (rs := [3]) (by kernel_rfl) rfl (all1 (O_one rfl ?_))
          have hlo1 : g3 ≤ w6.heap.size := Nat.le_of_lt hb5.lt
          have ho1 : World.ownsRow w6 g3 5 1 (.slice (some ⟨g3, 0, none⟩) ([] : List UInt8).length 0) ([] : List UInt8).length (fl encB []) := Blk.own (sz := 1) (m := 0) hb5 (by decide) rfl (Nat.le_refl _)
          refine T_append (xs := []) (ys := bs) EncB slc25 rfl rfl ho1 hS (by first | omega | (simp; done) | (simp; omega)) hlo1 rfl ?_
          intro A_1 c_1 w7 ho2 hs7 hat1
          replace hB := gb_tro hB ho1 hs7 ge3
          replace hb4 := blk_own hb4 ho1 rfl hs7
          replace hS := hS.grown hs7 (fun k hk => .inr (Nat.le_trans ge3 (World.ownsRow.lt ho1 k hk).1))
          replace hD := hD.grown hs7 (fun k hk => .inr (Nat.le_trans ge3 (World.ownsRow.lt ho1 k hk).1))
          replace hb1 := blk_own hb1 ho1 rfl hs7
          replace hb3 := blk_own hb3 ho1 rfl hs7
          replace hlo1 := Nat.le_trans hlo1 hs7.size
          simp only [List.nil_append] at ho2 ⊢
          refine L_nil (N_then ⟨fun hN_ => ⟨hb1, hb3, trivial⟩, ?_⟩)
          refine T_all (rs := [6]) (by kernel_rfl) rfl (all1 (O_one rfl ?_))
          refine T_append (xs := bs) (ys := d) EncB slc25 rfl rfl ho2 hD (by first | omega | (simp; done) | (simp; omega)) hlo1 rfl ?_
          intro A_2 c_2 w8 ho3 hs8 hat2
          replace hB := gb_tro hB ho2 hs8 ge3
          replace hb4 := blk_own hb4 ho2 rfl hs8
          replace hS := hS.grown hs8 (fun k hk => .inr (Nat.le_trans ge3 (World.ownsRow.lt ho2 k hk).1))
          replace hD := hD.grown hs8 (fun k hk => .inr (Nat.le_trans ge3 (World.ownsRow.lt ho2 k hk).1))
          replace hb1 := blk_own hb1 ho2 rfl hs8
          replace hb3 := blk_own hb3 ho2 rfl hs8
          replace hlo1 := Nat.le_trans hlo1 hs8.size
          refine L_nil (N_then ⟨fun hN_ => ⟨hb1, hb3, trivial⟩, ?_⟩)
          refine T_takeA (i := 7) rfl rfl (by kernel_rfl) (by kernel_rfl) (by kernel_rfl) (Y_of (fun _ ⟨hb1, hb3, _⟩ => R_assign rfl)) ⟨hb1, hb3, trivial⟩ rfl ?_
          refine T_done (by kernel_rfl) (CalmE.normal ?_)
          refine N_then (C_seq (C_seq (C_reg rfl ?_)))
          refine L_run (R_field (r := 0) rfl fld43_0 rfl) rfl ?_
          refine L_run (R_load1 rfl scl3 (hb1.cell (i := 0) rfl)) rfl ?_
          refine L_run (R_eql rfl rfl) rfl ?_
          refine L_run (R_move rfl) rfl ?_
          refine L_no rfl rfl rfl (decide_eq_true h1) rfl ?_
          refine L_no rfl rfl rfl (decide_eq_true h1) rfl ?_
          refine L_no rfl rfl rfl (decide_eq_true h1) rfl ?_
          refine L_run (R_pickT rfl (decide_eq_true h1) rfl) rfl ?_
          refine L_nil (N_then (C_condT rfl rfl (C_seq (C_reg rfl ?_))))
          refine L_run (R_move rfl) rfl ?_
          refine L_run (R_assign rfl) rfl ?_
          refine L_run (R_assign rfl) rfl ?_
          refine L_run (R_assign rfl) rfl ?_
          refine L_nil (N_then (C_ret (R_then ?_)))
          refine ret3 Tryd.results11 rfl rfl rfl ?_
          have hf : feedN false bs k d = _ := fee_done (by first | (show k = 3 ∨ k = 4; omega) | (show k = 1 ∨ k = 2; omega) | (show ¬ (k = 3 ∨ k = 4); omega) | (show ¬ (k = 1 ∨ k = 2); omega)) (by first | omega | (simp only [List.length_append] at *; omega)) (by omega)
          exact ⟨hB, none, 0, A_2, c_2, by first | (rw [hf]; done) | (rw [hf]; rfl), by rw [hf]; exact hb4, by rw [hf]; exact (own_nil _ _ _ _), by rw [hf]; exact (own_lo ho3 ge3)⟩
  · refine L_yes rfl rfl rfl (decide_eq_false h1) ?_
    refine L_run (R_field (r := 0) rfl fld43_0 rfl) rfl ?_
    refine L_yes rfl rfl rfl (decide_eq_false h1) ?_
    refine L_run (R_load1 rfl scl3 (hb1.cell (i := 0) rfl)) rfl ?_
    refine L_yes rfl rfl rfl (decide_eq_false h1) ?_
    refine L_run (R_eql rfl rfl) rfl ?_
    refine L_run (R_pickF rfl (decide_eq_false h1) rfl) rfl ?_
    refine L_run (R_assign rfl) rfl ?_
    refine L_nil (N_then (C_seq (C_reg rfl ?_)))
    refine L_run (R_field (r := 0) rfl fld43_0 rfl) rfl ?_
    refine L_run (R_load1 rfl scl3 (hb1.cell (i := 0) rfl)) rfl ?_
    refine L_run (R_eql rfl rfl) rfl ?_
    refine L_run (R_move rfl) rfl ?_
    refine L_splitD (p := ((k : Nat) : Int) = 3) (fun h5 => ?_) (fun h5 => ?_)
    · refine L_no rfl rfl rfl (decide_eq_true h5) rfl ?_
      refine L_no rfl rfl rfl (decide_eq_true h5) rfl ?_
      refine L_no rfl rfl rfl (decide_eq_true h5) rfl ?_
      refine L_run (R_pickT rfl (decide_eq_true h5) rfl) rfl ?_
      refine L_run (R_assign rfl) rfl ?_
      refine L_nil (N_then (C_seq (C_block (C_seq (C_reg rfl ?_)))))
      refine L_run (R_field (r := 0) rfl fld62_0 rfl) rfl ?_
      refine L_run (R_load1 rfl scl4 (hb3.cell (i := 0) rfl)) rfl ?_
      refine L_run (R_move rfl) rfl ?_
      refine L_run (R_eqv (R_neqB rfl rfl boo4) (v' := .bool true) (by rfl)) rfl ?_
      refine L_run (R_move rfl) rfl ?_
      refine L_no rfl rfl rfl rfl rfl ?_
      refine L_no rfl rfl rfl rfl rfl ?_
      refine L_no rfl rfl rfl rfl rfl ?_
      refine L_no rfl rfl rfl rfl rfl ?_
      refine L_run (R_pickT rfl rfl rfl) rfl ?_
      refine L_run (R_assign rfl) rfl ?_
      refine L_nil (N_then (C_condT rfl rfl (C_seq (C_reg rfl ?_))))
      refine L_run (R_assign rfl) rfl ?_
      refine L_run (R_assign rfl) rfl ?_
      refine L_run (R_assign rfl) rfl ?_
      refine L_nil (N_then (C_ret (R_in (R_then ?_))))
      refine ret3 Tryd.results11 rfl rfl rfl ?_
      have hf : feedN false bs k d = _ := fee_form (by first | (show k = 3 ∨ k = 4; omega) | (show k = 1 ∨ k = 2; omega) | (show ¬ (k = 3 ∨ k = 4); omega) | (show ¬ (k = 1 ∨ k = 2); omega))
      exact ⟨hB, none, 0, none, 0, by first | (rw [hf]; done) | (rw [hf]; rfl), by rw [hf]; exact hb4, by rw [hf]; exact (own_nil _ _ _ _), by rw [hf]; exact (own_nil _ _ _ _)⟩
    · refine L_yes rfl rfl rfl (decide_eq_false h5) ?_
      refine L_run (R_field (r := 0) rfl fld43_0 rfl) rfl ?_
      refine L_yes rfl rfl rfl (decide_eq_false h5) ?_
      refine L_run (R_load1 rfl scl3 (hb1.cell (i := 0) rfl)) rfl ?_
      refine L_yes rfl rfl rfl (decide_eq_false h5) ?_
      refine L_run (R_eql rfl rfl) rfl ?_
      refine L_run (R_pickF rfl (decide_eq_false h5) rfl) rfl ?_
      refine L_run (R_assign rfl) rfl ?_
      refine L_nil (N_then (C_seq (C_block (C_seq (C_reg rfl ?_)))))
      refine L_run (R_field (r := 0) rfl fld62_0 rfl) rfl ?_
      refine L_run (R_load1 rfl scl4 (hb3.cell (i := 0) rfl)) rfl ?_
      refine L_run (R_move rfl) rfl ?_
      refine L_run (R_eqv (R_neqB rfl rfl boo4) (v' := .bool (decide (((k : Nat) : Int) = 4))) (congrArg _ (by simp))) rfl ?_
      refine L_run (R_move rfl) rfl ?_
      refine L_splitD (p := ((k : Nat) : Int) = 4) (fun h6 => ?_) (fun h6 => ?_)
      · refine L_no rfl rfl rfl (decide_eq_true h6) rfl ?_
        refine L_no rfl rfl rfl (decide_eq_true h6) rfl ?_
        refine L_no rfl rfl rfl (decide_eq_true h6) rfl ?_
        refine L_no rfl rfl rfl (decide_eq_true h6) rfl ?_
        refine L_run (R_pickT rfl (decide_eq_true h6) rfl) rfl ?_
        refine L_run (R_assign rfl) rfl ?_
        refine L_nil (N_then (C_condT rfl rfl (C_seq (C_reg rfl ?_))))
        refine L_run (R_assign rfl) rfl ?_
        refine L_run (R_assign rfl) rfl ?_
        refine L_run (R_assign rfl) rfl ?_
        refine L_nil (N_then (C_ret (R_in (R_then ?_))))
        refine ret3 Tryd.results11 rfl rfl rfl ?_
        have hf : feedN false bs k d = _ := fee_form (by first | (show k = 3 ∨ k = 4; omega) | (show k = 1 ∨ k = 2; omega) | (show ¬ (k = 3 ∨ k = 4); omega) | (show ¬ (k = 1 ∨ k = 2); omega))
        exact ⟨hB, none, 0, none, 0, by first | (rw [hf]; done) | (rw [hf]; rfl), by rw [hf]; exact hb4, by rw [hf]; exact (own_nil _ _ _ _), by rw [hf]; exact (own_nil _ _ _ _)⟩
      · refine L_yes rfl rfl rfl (decide_eq_false h6) ?_
        refine L_run (R_field (r := 0) rfl fld62_0 rfl) rfl ?_
        refine L_yes rfl rfl rfl (decide_eq_false h6) ?_
        refine L_run (R_load1 rfl scl4 (hb3.cell (i := 0) rfl)) rfl ?_
        refine L_yes rfl rfl rfl (decide_eq_false h6) ?_
        refine L_run (R_move rfl) rfl ?_
        refine L_yes rfl rfl rfl (decide_eq_false h6) ?_
        refine L_run (R_eqv (R_eqlB rfl rfl boo4) (v' := .bool (decide (¬ (((k : Nat) : Int) = 2)))) (congrArg _ (by simp))) rfl ?_
        refine L_run (R_pickF rfl (decide_eq_false h6) rfl) rfl ?_
        refine L_run (R_assign rfl) rfl ?_
        refine L_nil (N_then ?_)
        refine C_ifN rfl (fun h7 => ?_) (fun h7 => ?_)
        · refine C_seq (C_reg rfl ?_)
          refine L_run (R_assign rfl) rfl ?_
          refine L_run (R_assign rfl) rfl ?_
          refine L_run (R_assign rfl) rfl ?_
          refine L_nil (N_then (C_ret (R_in (R_then ?_))))
          refine ret3 Tryd.results11 rfl rfl rfl ?_
          have hf : feedN false bs k d = _ := fee_form (by first | (show k = 3 ∨ k = 4; omega) | (show k = 1 ∨ k = 2; omega) | (show ¬ (k = 3 ∨ k = 4); omega) | (show ¬ (k = 1 ∨ k = 2); omega))
          exact ⟨hB, none, 0, none, 0, by first | (rw [hf]; done) | (rw [hf]; rfl), by rw [hf]; exact hb4, by rw [hf]; exact (own_nil _ _ _ _), by rw [hf]; exact (own_nil _ _ _ _)⟩
        · refine C_seq (C_reg rfl ?_)
          refine L_run (R_field (r := 1) rfl fld62_1 rfl) rfl ?_
          refine L_run (R_load1 rfl scl25 (hb3.cell (i := 1) rfl)) rfl ?_
          refine L_run (R_lenSl rfl slc25) rfl ?_
          refine L_run (R_field (r := 2) rfl fld43_2 rfl) rfl ?_
          refine L_run (R_load1 rfl scl25 (hb1.cell (i := 2) rfl)) rfl ?_
          refine L_run (R_lenSl rfl slc25) rfl ?_
          refine L_run (R_add64 rfl rfl (by omega)) rfl ?_
          refine L_run (R_gtr rfl rfl) rfl ?_
          refine L_run (R_assign rfl) rfl ?_
          refine L_nil (N_then ?_)
          refine C_if rfl (fun h8 => ?_) (fun h8 => ?_)
          · refine C_seq (C_reg rfl ?_)
            refine L_run (R_assign rfl) rfl ?_
            refine L_run (R_assign rfl) rfl ?_
            refine L_run (R_assign rfl) rfl ?_
            refine L_nil (N_then (C_ret (R_in (R_then ?_))))
            refine ret3 Tryd.results11 rfl rfl rfl ?_
            have hf : feedN false bs k d = _ := fee_long (by first | (show k = 3 ∨ k = 4; omega) | (show k = 1 ∨ k = 2; omega) | (show ¬ (k = 3 ∨ k = 4); omega) | (show ¬ (k = 1 ∨ k = 2); omega)) (by first | omega | (simp only [List.length_append] at *; omega))
            exact ⟨hB, none, 0, none, 0, by first | (rw [hf]; done) | (rw [hf]; rfl), by rw [hf]; exact hb4, by rw [hf]; exact (own_nil _ _ _ _), by rw [hf]; exact (own_nil _ _ _ _)⟩
          · refine C_skip (N_in (N_then (C_seq ?_)))
            refine C_draw2 rfl mix ?_
            intro w9 hs9 hz7
            replace hB := gb_tr hB hs9
            replace hb4 := hb4.gb hs9
            replace hS := hS.gb hs9
            replace hD := hD.gb hs9
            replace hb1 := hb1.gb hs9
            replace hb3 := hb3.gb hs9
            refine ⟨fun W_ => Blk W_ g1 43 [.int .i64 ((k : Nat) : Int), .int .u32 ep, .slice A2 d.length c2] ∧ Blk W_ g2 62 [.bool false, .slice A bs.length c] ∧ True, [1, 2, 4, 5, 7], ?_⟩
            refine T_takeA (i := 1) rfl rfl (by kernel_rfl) (by kernel_rfl) (by kernel_rfl) (Y_of (fun _ ⟨hb1, hb3, _⟩ => R_field (r := 1) rfl fld62_1 rfl)) ⟨hb1, hb3, trivial⟩ rfl ?_
            refine T_takeA (i := 2) rfl rfl (by kernel_rfl) (by kernel_rfl) (by kernel_rfl) (Y_of (fun _ ⟨hb1, hb3, _⟩ => R_load1 rfl scl25 (hb3.cell (i := 1) rfl))) ⟨hb1, hb3, trivial⟩ rfl ?_
            refine T_takeA (i := 4) rfl rfl (by kernel_rfl) (by kernel_rfl) (by kernel_rfl) (Y_of (fun _ ⟨hb1, hb3, _⟩ => R_field (r := 2) rfl fld43_2 rfl)) ⟨hb1, hb3, trivial⟩ rfl ?_
            refine T_takeA (i := 5) rfl rfl (by kernel_rfl) (by kernel_rfl) (by kernel_rfl) (Y_of (fun _ ⟨hb1, hb3, _⟩ => R_load1 rfl scl25 (hb1.cell (i := 2) rfl))) ⟨hb1, hb3, trivial⟩ rfl ?_
            refine T_all (rs := [0]) (by kernel_rfl) rfl (all1 (O_one rfl ?_))
            refine L_buildSlice (pv := []) (cs := []) slc25 zer5 rfl rfl (by kernel_rfl) rfl ?_
            intro g4 w10 eg4 hb6 hs10 hz8
            have ge4 : w.heap.size ≤ g4 := eg_ge hB eg4
            have lt7 : g < g4 := lt_of_eg hb4.lt eg4
            have lt8 : g1 < g4 := lt_of_eg hb1.lt eg4
            have lt9 : g2 < g4 := lt_of_eg hb3.lt eg4
            replace hB := gb_tr hB hs10
            replace hb4 := hb4.gb hs10
            replace hS := hS.gb hs10
            replace hD := hD.gb hs10
            replace hb1 := hb1.gb hs10
            replace hb3 := hb3.gb hs10
            refine L_nil (N_then ⟨fun hN_ => ⟨hb1, hb3, trivial⟩, ?_⟩)
            refine T_all (rs := [3]) (by kernel_rfl) rfl (all1 (O_one rfl ?_))
            have hlo2 : g4 ≤ w10.heap.size := Nat.le_of_lt hb6.lt
            have ho4 : World.ownsRow w10 g4 5 1 (.slice (some ⟨g4, 0, none⟩) ([] : List UInt8).length 0) ([] : List UInt8).length (fl encB []) := Blk.own (sz := 1) (m := 0) hb6 (by decide) rfl (Nat.le_refl _)
            refine T_append (xs := []) (ys := bs) EncB slc25 rfl rfl ho4 hS (by first | omega | (simp; done) | (simp; omega)) hlo2 rfl ?_
            intro A_3 c_3 w11 ho5 hs11 hat3
            replace hB := gb_tro hB ho4 hs11 ge4
            replace hb4 := blk_own hb4 ho4 rfl hs11
            replace hS := hS.grown hs11 (fun k hk => .inr (Nat.le_trans ge4 (World.ownsRow.lt ho4 k hk).1))
            replace hD := hD.grown hs11 (fun k hk => .inr (Nat.le_trans ge4 (World.ownsRow.lt ho4 k hk).1))
            replace hb1 := blk_own hb1 ho4 rfl hs11
            replace hb3 := blk_own hb3 ho4 rfl hs11
            replace hlo2 := Nat.le_trans hlo2 hs11.size
            simp only [List.nil_append] at ho5 ⊢
            refine L_nil (N_then ⟨fun hN_ => ⟨hb1, hb3, trivial⟩, ?_⟩)
            refine T_all (rs := [6]) (by kernel_rfl) rfl (all1 (O_one rfl ?_))
            refine T_append (xs := bs) (ys := d) EncB slc25 rfl rfl ho5 hD (by first | omega | (simp; done) | (simp; omega)) hlo2 rfl ?_
            intro A_4 c_4 w12 ho6 hs12 hat4
            replace hB := gb_tro hB ho5 hs12 ge4
            replace hb4 := blk_own hb4 ho5 rfl hs12
            replace hS := hS.grown hs12 (fun k hk => .inr (Nat.le_trans ge4 (World.ownsRow.lt ho5 k hk).1))
            replace hD := hD.grown hs12 (fun k hk => .inr (Nat.le_trans ge4 (World.ownsRow.lt ho5 k hk).1))
            replace hb1 := blk_own hb1 ho5 rfl hs12
            replace hb3 := blk_own hb3 ho5 rfl hs12
            replace hlo2 := Nat.le_trans hlo2 hs12.size
            refine L_nil (N_then ⟨fun hN_ => ⟨hb1, hb3, trivial⟩, ?_⟩)
            refine T_takeA (i := 7) rfl rfl (by kernel_rfl) (by kernel_rfl) (by kernel_rfl) (Y_of (fun _ ⟨hb1, hb3, _⟩ => R_assign rfl)) ⟨hb1, hb3, trivial⟩ rfl ?_
            refine T_done (by kernel_rfl) (CalmE.normal ?_)
            refine N_then (C_seq (C_seq (C_reg rfl ?_)))
            refine L_run (R_field (r := 0) rfl fld43_0 rfl) rfl ?_
            refine L_run (R_load1 rfl scl3 (hb1.cell (i := 0) rfl)) rfl ?_
            refine L_run (R_eql rfl rfl) rfl ?_
            refine L_run (R_move rfl) rfl ?_
            refine L_yes rfl rfl rfl (decide_eq_false h1) ?_
            refine L_run (R_field (r := 0) rfl fld43_0 rfl) rfl ?_
            refine L_yes rfl rfl rfl (decide_eq_false h1) ?_
            refine L_run (R_load1 rfl scl3 (hb1.cell (i := 0) rfl)) rfl ?_
            refine L_yes rfl rfl rfl (decide_eq_false h1) ?_
            refine L_run (R_eql rfl rfl) rfl ?_
            refine L_run (R_pickF rfl (decide_eq_false h1) rfl) rfl ?_
            refine L_nil (N_then (C_condF rfl (decide_eq_false h6) (C_skip (N_then (C_seq (C_reg rfl ?_))))))
            refine L_run (R_move rfl) rfl ?_
            refine L_run (R_move rfl) rfl ?_
            refine L_run (R_build (pv := [(0, .bool true), (1, .slice A_4 ((bs ++ d).length) c_4)]) (cs := [.bool true, .slice A_4 ((bs ++ d).length) c_4]) rfl (by kernel_rfl)) rfl ?_
            refine L_run (R_nilck rfl) rfl ?_
            refine L_stA (vs := [.bool true, .slice A_4 ((bs ++ d).length) c_4]) rfl rfl rfl sz62 rfl hb4 rfl ?_
            intro w13 hb7 hs13 hz9
            replace hB := gb_trans hB hs13
            replace hS := hS.other hb4 rfl rfl hs13
            replace hD := hD.other hb4 rfl rfl hs13
            replace hb1 := hb1.grown hs13 (ne_gt lt1)
            replace hb3 := hb3.grown hs13 (ne_gt lt2)
            replace hlo2 := Nat.le_trans hlo2 hs13.size
            replace ho6 := own_other ho6 hb4 rfl hs13
            refine L_nil (N_then (C_seq (C_reg rfl ?_)))
            refine L_run (R_assign rfl) rfl ?_
            refine L_run (R_assign rfl) rfl ?_
            refine L_run (R_assign rfl) rfl ?_
            refine L_nil (N_then (C_ret ?_))
            refine ret3 Tryd.results11 rfl rfl rfl ?_
            have hf : feedN false bs k d = _ := fee_on (by first | (show k = 3 ∨ k = 4; omega) | (show k = 1 ∨ k = 2; omega) | (show ¬ (k = 3 ∨ k = 4); omega) | (show ¬ (k = 1 ∨ k = 2); omega)) (by first | omega | (simp only [List.length_append] at *; omega)) (by omega)
            exact ⟨hB, A_4, c_4, none, 0, by first | (rw [hf]; done) | (rw [hf]; rfl), by rw [hf]; exact hb7, by rw [hf]; exact (own_lo ho6 ge4), by rw [hf]; exact (own_nil _ _ _ _)⟩

theorem feed_ok {w : World} {g : Nat} {o : Bool} {lo hi lo2 hi2 : Nat} {A A2 : Option Addr} {c c2 k : Nat} {ep : Int} {bs d : List UInt8} (hb : Blk w g 62 [.bool o, .slice A bs.length c]) (hS : Sli 5 lo hi w A (fl encB bs)) (hD : Sli 5 lo2 hi2 w A2 (fl encB d)) (hl : bs.length ≤ 1000000) (hd : d.length ≤ 1000000) :
    Runs Tryd.prog 11 #[.pointer (some ⟨g, 0, none⟩), .agg #[.int .i64 ((k : Nat) : Int), .int .u32 ep, .slice A2 d.length c2]] w (fun v w' => w.grownBy w' (some g) ∧ ∃ A' c' A3 c3, v = .tuple #[.slice A3 (feedN o bs k d).2.1.length c3, .bool (feedN o bs k d).2.2.1, .int .i64 (feedN o bs k d).2.2.2] ∧ Blk w' g 62 [.bool (feedN o bs k d).1.1, .slice A' (feedN o bs k d).1.2.length c'] ∧ World.ownsRow w' w.heap.size 5 1 (.slice A' ((feedN o bs k d).1.2).length c') ((feedN o bs k d).1.2).length (fl encB ((feedN o bs k d).1.2)) ∧ World.ownsRow w' w.heap.size 5 1 (.slice A3 ((feedN o bs k d).2.1).length c3) ((feedN o bs k d).2.1).length (fl encB ((feedN o bs k d).2.1))) := by
  cases o
  · exact feed_f hb hS hD hl hd
  · exact feed_t hb hS hD hl hd
theorem feed15_t {w : World} {lo hi lo2 hi2 : Nat} {A A2 : Option Addr} {c c2 k : Nat} {ep : Int} {bs d : List UInt8} (hS : Sli 5 lo hi w A (fl encB bs)) (hD : Sli 5 lo2 hi2 w A2 (fl encB d)) (hl : bs.length ≤ 1000000) (hd : d.length ≤ 1000000) :
    Runs Tryd.prog 14 #[.agg #[.bool true, .slice A bs.length c], .agg #[.int .i64 ((k : Nat) : Int), .int .u32 ep, .slice A2 d.length c2]] w (fun v w' => w.grownBy w' none ∧ ∃ A' c' A3 c3, v = .tuple #[.agg #[.bool (feedN true bs k d).1.1, .slice A' (feedN true bs k d).1.2.length c'], .slice A3 (feedN true bs k d).2.1.length c3, .bool (feedN true bs k d).2.2.1, .int .i64 (feedN true bs k d).2.2.2] ∧ World.ownsRow w' w.heap.size 5 1 (.slice A' ((feedN true bs k d).1.2).length c') ((feedN true bs k d).1.2).length (fl encB ((feedN true bs k d).1.2)) ∧ World.ownsRow w' w.heap.size 5 1 (.slice A3 ((feedN true bs k d).2.1).length c3) ((feedN true bs k d).2.1).length (fl encB ((feedN true bs k d).2.1))) := by
  have hB := gb_refl w none
  replace hS := hS.top
  replace hD := hD.top
  refine enter Tryd.func14 Tryd.ntmps14 rfl rfl ?_
  refine C_seq (C_reg rfl ?_)
  refine L_box (cs := [.bool true, .slice A bs.length c]) rfl rfl rfl ?_
  intro g1 w1 eg1 hb1 hs1 hz1
  have ge1 : w.heap.size ≤ g1 := eg_ge hB eg1
  replace hB := gb_tr hB hs1
  replace hS := hS.gb hs1
  replace hD := hD.gb hs1
  refine L_box (cs := [.int .i64 ((k : Nat) : Int), .int .u32 ep, .slice A2 d.length c2]) rfl rfl rfl ?_
  intro g2 w2 eg2 hb2 hs2 hz2
  have ge2 : w.heap.size ≤ g2 := eg_ge hB eg2
  have lt1 : g1 < g2 := lt_of_eg hb1.lt eg2
  replace hB := gb_tr hB hs2
  replace hS := hS.gb hs2
  replace hD := hD.gb hs2
  replace hb1 := hb1.gb hs2
  refine L_alloc (cs := [.bool false, .slice none 0 0]) zer51 rfl rfl ?_
  intro g3 w3 eg3 hb3 hs3 hz3
  have ge3 : w.heap.size ≤ g3 := eg_ge hB eg3
  have lt2 : g1 < g3 := lt_of_eg hb1.lt eg3
  have lt3 : g2 < g3 := lt_of_eg hb2.lt eg3
  replace hB := gb_tr hB hs3
  replace hS := hS.gb hs3
  replace hD := hD.gb hs3
  replace hb1 := hb1.gb hs3
  replace hb2 := hb2.gb hs3
  refine L_run (R_assign rfl) rfl ?_
  refine L_run (R_assign rfl) rfl ?_
  refine L_run (R_assign rfl) rfl ?_
  refine L_nil (N_then (C_seq (C_seq (C_reg rfl ?_))))
  refine L_run (R_field (r := 0) rfl fld51_0 rfl) rfl ?_
  refine L_run (R_load1 rfl scl4 (hb1.cell (i := 0) rfl)) rfl ?_
  refine L_run (R_move rfl) rfl ?_
  refine L_yes rfl rfl rfl rfl ?_
  refine L_run (R_field (r := 0) rfl fld43_0 rfl) rfl ?_
  refine L_yes rfl rfl rfl rfl ?_
  refine L_run (R_load1 rfl scl3 (hb2.cell (i := 0) rfl)) rfl ?_
  refine L_yes rfl rfl rfl rfl ?_
  refine L_run (R_neq rfl rfl) rfl ?_
  refine L_run (R_pickT rfl rfl rfl) rfl ?_
  refine L_run (R_move rfl) rfl ?_
  refine L_splitD (p := ((k : Nat) : Int) ≠ 3) (fun h1 => ?_) (fun h1 => ?_)
  · refine L_yes rfl rfl rfl (decide_eq_true h1) ?_
    refine L_run (R_field (r := 0) rfl fld43_0 rfl) rfl ?_
    refine L_yes rfl rfl rfl (decide_eq_true h1) ?_
    refine L_run (R_load1 rfl scl3 (hb2.cell (i := 0) rfl)) rfl ?_
    refine L_yes rfl rfl rfl (decide_eq_true h1) ?_
    refine L_run (R_neq rfl rfl) rfl ?_
    refine L_run (R_pickT rfl (decide_eq_true h1) rfl) rfl ?_
    refine L_run (R_move rfl) rfl ?_
    refine L_splitD (p := ((k : Nat) : Int) ≠ 4) (fun h2 => ?_) (fun h2 => ?_)
    · refine L_no rfl rfl rfl (decide_eq_true h2) rfl ?_
      refine L_no rfl rfl rfl (decide_eq_true h2) rfl ?_
      refine L_no rfl rfl rfl (decide_eq_true h2) rfl ?_
      refine L_no rfl rfl rfl (decide_eq_true h2) rfl ?_
      refine L_noU rfl rfl rfl rfl ?_
      refine L_noU rfl rfl rfl rfl ?_
      refine L_noU rfl rfl rfl rfl ?_
      refine L_no rfl rfl rfl (decide_eq_true h2) rfl ?_
      refine L_no rfl rfl rfl (decide_eq_true h2) rfl ?_
      refine L_noU rfl rfl rfl rfl ?_
      refine L_noU rfl rfl rfl rfl ?_
      refine L_noU rfl rfl rfl rfl ?_
      refine L_no rfl rfl rfl (decide_eq_true h2) rfl ?_
      refine L_run (R_pickT rfl (decide_eq_true h2) rfl) rfl ?_
      refine L_nil (N_then (C_condT rfl rfl (C_seq (C_reg rfl ?_))))
      refine L_run (R_build (pv := []) (cs := [.bool false, .slice none 0 0]) rfl (by kernel_rfl)) rfl ?_
      refine L_stA (vs := [.bool false, .slice none 0 0]) rfl rfl rfl sz51 rfl hb3 rfl ?_
      intro w4 hb4 hs4 hz4
      replace hB := gb_trg hB hs4 ge3
      replace hS := hS.other hb3 rfl rfl hs4
      replace hD := hD.other hb3 rfl rfl hs4
      replace hb1 := hb1.grown hs4 (ne_lt lt2)
      replace hb2 := hb2.grown hs4 (ne_lt lt3)
      refine L_run (R_assign rfl) rfl ?_
      refine L_run (R_assign rfl) rfl ?_
      refine L_run (R_assign rfl) rfl ?_
      refine L_nil (N_then (C_ret (R_then ?_)))
      refine rv4 (.inr rfl) Tryd.results14 (rvA (vs := [.bool false, .slice none 0 0]) rfl agg51 (At.pre (hb4.at_ 0) rfl) rfl) (rvT rfl) (rvT rfl) (rvT rfl) ?_
      have hf : feedN true bs k d = _ := fee_form (by first | (show k = 3 ∨ k = 4; omega) | (show k = 1 ∨ k = 2; omega) | (show ¬ (k = 3 ∨ k = 4); omega) | (show ¬ (k = 1 ∨ k = 2); omega))
      exact ⟨hB, none, 0, none, 0, by first | (rw [hf]; done) | (rw [hf]; rfl), by rw [hf]; exact (own_nil _ _ _ _), by rw [hf]; exact (own_nil _ _ _ _)⟩
    · refine L_yes rfl rfl rfl (decide_eq_false h2) ?_
      refine L_run (R_field (r := 0) rfl fld51_0 rfl) rfl ?_
      refine L_yes rfl rfl rfl (decide_eq_false h2) ?_
      refine L_run (R_load1 rfl scl4 (hb1.cell (i := 0) rfl)) rfl ?_
      refine L_yes rfl rfl rfl (decide_eq_false h2) ?_
      refine L_run (R_not rfl) rfl ?_
      refine L_yes rfl rfl rfl (decide_eq_false h2) ?_
      refine L_run (R_move rfl) rfl ?_
      refine L_no rfl rfl rfl rfl rfl ?_
      refine L_no rfl rfl rfl rfl rfl ?_
      refine L_no rfl rfl rfl rfl rfl ?_
      refine L_yes rfl rfl rfl (decide_eq_false h2) ?_
      refine L_run (R_pickF rfl rfl rfl) rfl ?_
      refine L_yes rfl rfl rfl (decide_eq_false h2) ?_
      refine L_run (R_move rfl) rfl ?_
      refine L_no rfl rfl rfl rfl rfl ?_
      refine L_no rfl rfl rfl rfl rfl ?_
      refine L_no rfl rfl rfl rfl rfl ?_
      refine L_yes rfl rfl rfl (decide_eq_false h2) ?_
      refine L_run (R_pickF rfl rfl rfl) rfl ?_
      refine L_run (R_pickF rfl (decide_eq_false h2) rfl) rfl ?_
      refine L_nil (N_then (C_condF rfl rfl (C_skip (N_then (C_seq ?_)))))
      refine C_draw2 rfl mix ?_
      intro w5 hs5 hz5
      replace hB := gb_tr hB hs5
      replace hS := hS.gb hs5
      replace hD := hD.gb hs5
      replace hb1 := hb1.gb hs5
      replace hb2 := hb2.gb hs5
      replace hb3 := hb3.gb hs5
      refine ⟨fun W_ => Blk W_ g1 51 [.bool true, .slice A bs.length c] ∧ Blk W_ g2 43 [.int .i64 ((k : Nat) : Int), .int .u32 ep, .slice A2 d.length c2] ∧ True, [1, 2, 4, 5, 7], ?_⟩
      refine T_takeA (i := 1) rfl rfl (by kernel_rfl) (by kernel_rfl) (by kernel_rfl) (Y_of (fun _ ⟨hb1, hb2, _⟩ => R_field (r := 1) rfl fld51_1 rfl)) ⟨hb1, hb2, trivial⟩ rfl ?_
      refine T_takeA (i := 2) rfl rfl (by kernel_rfl) (by kernel_rfl) (by kernel_rfl) (Y_of (fun _ ⟨hb1, hb2, _⟩ => R_load1 rfl scl25 (hb1.cell (i := 1) rfl))) ⟨hb1, hb2, trivial⟩ rfl ?_
      refine T_takeA (i := 4) rfl rfl (by kernel_rfl) (by kernel_rfl) (by kernel_rfl) (Y_of (fun _ ⟨hb1, hb2, _⟩ => R_field (r := 2) rfl fld43_2 rfl)) ⟨hb1, hb2, trivial⟩ rfl ?_
      refine T_takeA (i := 5) rfl rfl (by kernel_rfl) (by kernel_rfl) (by kernel_rfl) (Y_of (fun _ ⟨hb1, hb2, _⟩ => R_load1 rfl scl25 (hb2.cell (i := 2) rfl))) ⟨hb1, hb2, trivial⟩ rfl ?_
      refine T_all (rs := [0]) (by kernel_rfl) rfl (all1 (O_one rfl ?_))
      refine L_buildSlice (pv := []) (cs := []) slc25 zer5 rfl rfl (by kernel_rfl) rfl ?_
      intro g4 w6 eg4 hb5 hs6 hz6
      have ge4 : w.heap.size ≤ g4 := eg_ge hB eg4
      have lt4 : g1 < g4 := lt_of_eg hb1.lt eg4
      have lt5 : g2 < g4 := lt_of_eg hb2.lt eg4
      have lt6 : g3 < g4 := lt_of_eg hb3.lt eg4
      replace hB := gb_tr hB hs6
      replace hS := hS.gb hs6
      replace hD := hD.gb hs6
      replace hb1 := hb1.gb hs6
      replace hb2 := hb2.gb hs6
      replace hb3 := hb3.gb hs6
      refine L_nil (N_then ⟨fun hN_ => ⟨hb1, hb2, trivial⟩, ?_⟩)
      refine T_all (rs := [3]) (by kernel_rfl) rfl (all1 (O_one rfl ?_))
      have hlo1 : g4 ≤ w6.heap.size := Nat.le_of_lt hb5.lt
      have ho1 : World.ownsRow w6 g4 5 1 (.slice (some ⟨g4, 0, none⟩) ([] : List UInt8).length 0) ([] : List UInt8).length (fl encB []) := Blk.own (sz := 1) (m := 0) hb5 (by decide) rfl (Nat.le_refl _)
      refine T_append (xs := []) (ys := bs) EncB slc25 rfl rfl ho1 hS (by first | omega | (simp; done) | (simp; omega)) hlo1 rfl ?_
      intro A_1 c_1 w7 ho2 hs7 hat1
      replace hB := gb_tro hB ho1 hs7 ge4
      replace hS := hS.grown hs7 (fun k hk => .inr (Nat.le_trans ge4 (World.ownsRow.lt ho1 k hk).1))
      replace hD := hD.grown hs7 (fun k hk => .inr (Nat.le_trans ge4 (World.ownsRow.lt ho1 k hk).1))
      replace hb1 := blk_own hb1 ho1 rfl hs7
      replace hb2 := blk_own hb2 ho1 rfl hs7
      replace hb3 := blk_own hb3 ho1 rfl hs7
      replace hlo1 := Nat.le_trans hlo1 hs7.size
      simp only [List.nil_append] at ho2 ⊢
      refine L_nil (N_then ⟨fun hN_ => ⟨hb1, hb2, trivial⟩, ?_⟩)
      refine T_all (rs := [6]) (by kernel_rfl) rfl (all1 (O_one rfl ?_))
      refine T_append (xs := bs) (ys := d) EncB slc25 rfl rfl ho2 hD (by first | omega | (simp; done) | (simp; omega)) hlo1 rfl ?_
      intro A_2 c_2 w8 ho3 hs8 hat2
      replace hB := gb_tro hB ho2 hs8 ge4
      replace hS := hS.grown hs8 (fun k hk => .inr (Nat.le_trans ge4 (World.ownsRow.lt ho2 k hk).1))
      replace hD := hD.grown hs8 (fun k hk => .inr (Nat.le_trans ge4 (World.ownsRow.lt ho2 k hk).1))
      replace hb1 := blk_own hb1 ho2 rfl hs8
      replace hb2 := blk_own hb2 ho2 rfl hs8
      replace hb3 := blk_own hb3 ho2 rfl hs8
      replace hlo1 := Nat.le_trans hlo1 hs8.size
      refine L_nil (N_then ⟨fun hN_ => ⟨hb1, hb2, trivial⟩, ?_⟩)
      refine T_takeA (i := 7) rfl rfl (by kernel_rfl) (by kernel_rfl) (by kernel_rfl) (Y_of (fun _ ⟨hb1, hb2, _⟩ => R_assign rfl)) ⟨hb1, hb2, trivial⟩ rfl ?_
      refine T_done (by kernel_rfl) (CalmE.normal ?_)
      refine N_then (C_seq (C_seq (C_reg rfl ?_)))
      refine L_run (R_move rfl) rfl ?_
      refine L_run (R_lenSl rfl slc25) rfl ?_
      refine L_run (R_gtr rfl rfl) rfl ?_
      refine L_nil (N_then ?_)
      refine C_if rfl (fun h3 => ?_) (fun h3 => ?_)
      · refine C_seq (C_reg rfl ?_)
        refine L_run (R_build (pv := []) (cs := [.bool false, .slice none 0 0]) rfl (by kernel_rfl)) rfl ?_
        refine L_stA (vs := [.bool false, .slice none 0 0]) rfl rfl rfl sz51 rfl hb3 rfl ?_
        intro w9 hb6 hs9 hz7
        replace hB := gb_trg hB hs9 ge3
        replace hS := hS.other hb3 rfl rfl hs9
        replace hD := hD.other hb3 rfl rfl hs9
        replace hb1 := hb1.grown hs9 (ne_lt lt2)
        replace hb2 := hb2.grown hs9 (ne_lt lt3)
        replace hlo1 := Nat.le_trans hlo1 hs9.size
        replace ho3 := own_other ho3 hb3 rfl hs9
        refine L_run (R_assign rfl) rfl ?_
        refine L_run (R_assign rfl) rfl ?_
        refine L_run (R_assign rfl) rfl ?_
        refine L_nil (N_then (C_ret (R_then ?_)))
        refine rv4 (.inr rfl) Tryd.results14 (rvA (vs := [.bool false, .slice none 0 0]) rfl agg51 (At.pre (hb6.at_ 0) rfl) rfl) (rvT rfl) (rvT rfl) (rvT rfl) ?_
        have hf : feedN true bs k d = _ := fee_long (by first | (show k = 3 ∨ k = 4; omega) | (show k = 1 ∨ k = 2; omega) | (show ¬ (k = 3 ∨ k = 4); omega) | (show ¬ (k = 1 ∨ k = 2); omega)) (by first | omega | (simp only [List.length_append] at *; omega))
        exact ⟨hB, none, 0, none, 0, by first | (rw [hf]; done) | (rw [hf]; rfl), by rw [hf]; exact (own_nil _ _ _ _), by rw [hf]; exact (own_nil _ _ _ _)⟩
      · refine C_skip (N_then (C_seq (C_seq (C_reg rfl ?_))))
        refine L_run (R_field (r := 0) rfl fld43_0 rfl) rfl ?_
        refine L_run (R_load1 rfl scl3 (hb2.cell (i := 0) rfl)) rfl ?_
        refine L_run (R_eql rfl rfl) rfl ?_
        refine L_run (R_move rfl) rfl ?_
        refine L_splitD (p := ((k : Nat) : Int) = 1) (fun h4 => ?_) (fun h4 => ?_)
        · refine L_no rfl rfl rfl (decide_eq_true h4) rfl ?_
          refine L_no rfl rfl rfl (decide_eq_true h4) rfl ?_
          refine L_no rfl rfl rfl (decide_eq_true h4) rfl ?_
          refine L_run (R_pickT rfl (decide_eq_true h4) rfl) rfl ?_
          refine L_nil (N_then (C_condT rfl rfl (C_seq (C_reg rfl ?_))))
          refine L_run (R_build (pv := []) (cs := [.bool false, .slice none 0 0]) rfl (by kernel_rfl)) rfl ?_
          refine L_run (R_move rfl) rfl ?_
          refine L_stA (vs := [.bool false, .slice none 0 0]) rfl rfl rfl sz51 rfl hb3 rfl ?_
          intro w10 hb7 hs10 hz8
          replace hB := gb_trg hB hs10 ge3
          replace hS := hS.other hb3 rfl rfl hs10
          replace hD := hD.other hb3 rfl rfl hs10
          replace hb1 := hb1.grown hs10 (ne_lt lt2)
          replace hb2 := hb2.grown hs10 (ne_lt lt3)
          replace hlo1 := Nat.le_trans hlo1 hs10.size
          replace ho3 := own_other ho3 hb3 rfl hs10
          refine L_run (R_assign rfl) rfl ?_
          refine L_run (R_assign rfl) rfl ?_
          refine L_run (R_assign rfl) rfl ?_
          refine L_nil (N_then (C_ret (R_then ?_)))
          refine rv4 (.inr rfl) Tryd.results14 (rvA (vs := [.bool false, .slice none 0 0]) rfl agg51 (At.pre (hb7.at_ 0) rfl) rfl) (rvT rfl) (rvT rfl) (rvT rfl) ?_
          have hf : feedN true bs k d = _ := fee_done (by first | (show k = 3 ∨ k = 4; omega) | (show k = 1 ∨ k = 2; omega) | (show ¬ (k = 3 ∨ k = 4); omega) | (show ¬ (k = 1 ∨ k = 2); omega)) (by first | omega | (simp only [List.length_append] at *; omega)) (by omega)
          exact ⟨hB, none, 0, A_2, c_2, by first | (rw [hf]; done) | (rw [hf]; rfl), by rw [hf]; exact (own_nil _ _ _ _), by rw [hf]; exact (own_lo ho3 ge4)⟩
        · refine L_yes rfl rfl rfl (decide_eq_false h4) ?_
          refine L_run (R_field (r := 0) rfl fld43_0 rfl) rfl ?_
          refine L_yes rfl rfl rfl (decide_eq_false h4) ?_
          refine L_run (R_load1 rfl scl3 (hb2.cell (i := 0) rfl)) rfl ?_
          refine L_yes rfl rfl rfl (decide_eq_false h4) ?_
          refine L_run (R_eql rfl rfl) rfl ?_
          refine L_run (R_pickF rfl (decide_eq_false h4) rfl) rfl ?_
          refine L_nil (N_then (C_condT rfl (decide_eq_true (Decidable.not_not.1 h2)) (C_seq (C_reg rfl ?_))))
          refine L_run (R_build (pv := []) (cs := [.bool false, .slice none 0 0]) rfl (by kernel_rfl)) rfl ?_
          refine L_run (R_move rfl) rfl ?_
          refine L_stA (vs := [.bool false, .slice none 0 0]) rfl rfl rfl sz51 rfl hb3 rfl ?_
          intro w11 hb8 hs11 hz9
          replace hB := gb_trg hB hs11 ge3
          replace hS := hS.other hb3 rfl rfl hs11
          replace hD := hD.other hb3 rfl rfl hs11
          replace hb1 := hb1.grown hs11 (ne_lt lt2)
          replace hb2 := hb2.grown hs11 (ne_lt lt3)
          replace hlo1 := Nat.le_trans hlo1 hs11.size
          replace ho3 := own_other ho3 hb3 rfl hs11
          refine L_run (R_assign rfl) rfl ?_
          refine L_run (R_assign rfl) rfl ?_
          refine L_run (R_assign rfl) rfl ?_
          refine L_nil (N_then (C_ret (R_then ?_)))
          refine rv4 (.inr rfl) Tryd.results14 (rvA (vs := [.bool false, .slice none 0 0]) rfl agg51 (At.pre (hb8.at_ 0) rfl) rfl) (rvT rfl) (rvT rfl) (rvT rfl) ?_
          have hf : feedN true bs k d = _ := fee_done (by first | (show k = 3 ∨ k = 4; omega) | (show k = 1 ∨ k = 2; omega) | (show ¬ (k = 3 ∨ k = 4); omega) | (show ¬ (k = 1 ∨ k = 2); omega)) (by first | omega | (simp only [List.length_append] at *; omega)) (by omega)
          exact ⟨hB, none, 0, A_2, c_2, by first | (rw [hf]; done) | (rw [hf]; rfl), by rw [hf]; exact (own_nil _ _ _ _), by rw [hf]; exact (own_lo ho3 ge4)⟩
  · refine L_no rfl rfl rfl (decide_eq_false h1) rfl ?_
    refine L_no rfl rfl rfl (decide_eq_false h1) rfl ?_
    refine L_no rfl rfl rfl (decide_eq_false h1) rfl ?_
    refine L_run (R_pickF rfl (decide_eq_false h1) rfl) rfl ?_
    refine L_run (R_move rfl) rfl ?_
    refine L_yes rfl rfl rfl rfl ?_
    refine L_run (R_field (r := 0) rfl fld51_0 rfl) rfl ?_
    refine L_yes rfl rfl rfl rfl ?_
    refine L_run (R_load1 rfl scl4 (hb1.cell (i := 0) rfl)) rfl ?_
    refine L_yes rfl rfl rfl rfl ?_
    refine L_run (R_not rfl) rfl ?_
    refine L_yes rfl rfl rfl rfl ?_
    refine L_run (R_move rfl) rfl ?_
    refine L_no rfl rfl rfl rfl rfl ?_
    refine L_no rfl rfl rfl rfl rfl ?_
    refine L_no rfl rfl rfl rfl rfl ?_
    refine L_yes rfl rfl rfl rfl ?_
    refine L_run (R_pickF rfl rfl rfl) rfl ?_
    refine L_yes rfl rfl rfl rfl ?_
    refine L_run (R_move rfl) rfl ?_
    refine L_no rfl rfl rfl rfl rfl ?_
    refine L_no rfl rfl rfl rfl rfl ?_
    refine L_no rfl rfl rfl rfl rfl ?_
    refine L_yes rfl rfl rfl rfl ?_
    refine L_run (R_pickF rfl rfl rfl) rfl ?_
    refine L_run (R_pickF rfl rfl rfl) rfl ?_
    refine L_nil (N_then (C_condF rfl rfl (C_skip (N_then (C_seq ?_)))))
    refine C_draw2 rfl mix ?_
    intro w12 hs12 hz10
    replace hB := gb_tr hB hs12
    replace hS := hS.gb hs12
    replace hD := hD.gb hs12
    replace hb1 := hb1.gb hs12
    replace hb2 := hb2.gb hs12
    replace hb3 := hb3.gb hs12
    refine ⟨fun W_ => Blk W_ g1 51 [.bool true, .slice A bs.length c] ∧ Blk W_ g2 43 [.int .i64 ((k : Nat) : Int), .int .u32 ep, .slice A2 d.length c2] ∧ True, [1, 2, 4, 5, 7], ?_⟩
    refine T_takeA (i := 1) rfl rfl (by kernel_rfl) (by kernel_rfl) (by kernel_rfl) (Y_of (fun _ ⟨hb1, hb2, _⟩ => R_field (r := 1) rfl fld51_1 rfl)) ⟨hb1, hb2, trivial⟩ rfl ?_
    refine T_takeA (i := 2) rfl rfl (by kernel_rfl) (by kernel_rfl) (by kernel_rfl) (Y_of (fun _ ⟨hb1, hb2, _⟩ => R_load1 rfl scl25 (hb1.cell (i := 1) rfl))) ⟨hb1, hb2, trivial⟩ rfl ?_
    refine T_takeA (i := 4) rfl rfl (by kernel_rfl) (by kernel_rfl) (by kernel_rfl) (Y_of (fun _ ⟨hb1, hb2, _⟩ => R_field (r := 2) rfl fld43_2 rfl)) ⟨hb1, hb2, trivial⟩ rfl ?_
    refine T_takeA (i := 5) rfl rfl (by kernel_rfl) (by kernel_rfl) (by kernel_rfl) (Y_of (fun _ ⟨hb1, hb2, _⟩ => R_load1 rfl scl25 (hb2.cell (i := 2) rfl))) ⟨hb1, hb2, trivial⟩ rfl ?_
    refine T_all (rs := [0]) (by kernel_rfl) rfl (all1 (O_one rfl ?_))
    refine L_buildSlice (pv := []) (cs := []) slc25 zer5 rfl rfl (by kernel_rfl) rfl ?_
    intro g5 w13 eg5 hb9 hs13 hz11
    have ge5 : w.heap.size ≤ g5 := eg_ge hB eg5
    have lt7 : g1 < g5 := lt_of_eg hb1.lt eg5
    have lt8 : g2 < g5 := lt_of_eg hb2.lt eg5
    have lt9 : g3 < g5 := lt_of_eg hb3.lt eg5
    replace hB := gb_tr hB hs13
    replace hS := hS.gb hs13
    replace hD := hD.gb hs13
    replace hb1 := hb1.gb hs13
    replace hb2 := hb2.gb hs13
    replace hb3 := hb3.gb hs13
    refine L_nil (N_then ⟨fun hN_ => ⟨hb1, hb2, trivial⟩, ?_⟩)
    refine T_all (rs := [3]) (by kernel_rfl) rfl (all1 (O_one rfl ?_))
    have hlo2 : g5 ≤ w13.heap.size := Nat.le_of_lt hb9.lt
    have ho4 : World.ownsRow w13 g5 5 1 (.slice (some ⟨g5, 0, none⟩) ([] : List UInt8).length 0) ([] : List UInt8).length (fl encB []) := Blk.own (sz := 1) (m := 0) hb9 (by decide) rfl (Nat.le_refl _)
    refine T_append (xs := []) (ys := bs) EncB slc25 rfl rfl ho4 hS (by first | omega | (simp; done) | (simp; omega)) hlo2 rfl ?_
    intro A_3 c_3 w14 ho5 hs14 hat3
    replace hB := gb_tro hB ho4 hs14 ge5
    replace hS := hS.grown hs14 (fun k hk => .inr (Nat.le_trans ge5 (World.ownsRow.lt ho4 k hk).1))
    replace hD := hD.grown hs14 (fun k hk => .inr (Nat.le_trans ge5 (World.ownsRow.lt ho4 k hk).1))
    replace hb1 := blk_own hb1 ho4 rfl hs14
    replace hb2 := blk_own hb2 ho4 rfl hs14
    replace hb3 := blk_own hb3 ho4 rfl hs14
    replace hlo2 := Nat.le_trans hlo2 hs14.size
    simp only [List.nil_append] at ho5 ⊢
    refine L_nil (N_then ⟨fun hN_ => ⟨hb1, hb2, trivial⟩, ?_⟩)
    refine T_all (rs := [6]) (by kernel_rfl) rfl (all1 (O_one rfl ?_))
    refine T_append (xs := bs) (ys := d) EncB slc25 rfl rfl ho5 hD (by first | omega | (simp; done) | (simp; omega)) hlo2 rfl ?_
    intro A_4 c_4 w15 ho6 hs15 hat4
    replace hB := gb_tro hB ho5 hs15 ge5
    replace hS := hS.grown hs15 (fun k hk => .inr (Nat.le_trans ge5 (World.ownsRow.lt ho5 k hk).1))
    replace hD := hD.grown hs15 (fun k hk => .inr (Nat.le_trans ge5 (World.ownsRow.lt ho5 k hk).1))
    replace hb1 := blk_own hb1 ho5 rfl hs15
    replace hb2 := blk_own hb2 ho5 rfl hs15
    replace hb3 := blk_own hb3 ho5 rfl hs15
    replace hlo2 := Nat.le_trans hlo2 hs15.size
    refine L_nil (N_then ⟨fun hN_ => ⟨hb1, hb2, trivial⟩, ?_⟩)
    refine T_takeA (i := 7) rfl rfl (by kernel_rfl) (by kernel_rfl) (by kernel_rfl) (Y_of (fun _ ⟨hb1, hb2, _⟩ => R_assign rfl)) ⟨hb1, hb2, trivial⟩ rfl ?_
    refine T_done (by kernel_rfl) (CalmE.normal ?_)
    refine N_then (C_seq (C_seq (C_reg rfl ?_)))
    refine L_run (R_move rfl) rfl ?_
    refine L_run (R_lenSl rfl slc25) rfl ?_
    refine L_run (R_gtr rfl rfl) rfl ?_
    refine L_nil (N_then ?_)
    refine C_if rfl (fun h5 => ?_) (fun h5 => ?_)
    · refine C_seq (C_reg rfl ?_)
      refine L_run (R_build (pv := []) (cs := [.bool false, .slice none 0 0]) rfl (by kernel_rfl)) rfl ?_
      refine L_stA (vs := [.bool false, .slice none 0 0]) rfl rfl rfl sz51 rfl hb3 rfl ?_
      intro w16 hb10 hs16 hz12
      replace hB := gb_trg hB hs16 ge3
      replace hS := hS.other hb3 rfl rfl hs16
      replace hD := hD.other hb3 rfl rfl hs16
      replace hb1 := hb1.grown hs16 (ne_lt lt2)
      replace hb2 := hb2.grown hs16 (ne_lt lt3)
      replace hlo2 := Nat.le_trans hlo2 hs16.size
      replace ho6 := own_other ho6 hb3 rfl hs16
      refine L_run (R_assign rfl) rfl ?_
      refine L_run (R_assign rfl) rfl ?_
      refine L_run (R_assign rfl) rfl ?_
      refine L_nil (N_then (C_ret (R_then ?_)))
      refine rv4 (.inr rfl) Tryd.results14 (rvA (vs := [.bool false, .slice none 0 0]) rfl agg51 (At.pre (hb10.at_ 0) rfl) rfl) (rvT rfl) (rvT rfl) (rvT rfl) ?_
      have hf : feedN true bs k d = _ := fee_long (by first | (show k = 3 ∨ k = 4; omega) | (show k = 1 ∨ k = 2; omega) | (show ¬ (k = 3 ∨ k = 4); omega) | (show ¬ (k = 1 ∨ k = 2); omega)) (by first | omega | (simp only [List.length_append] at *; omega))
      exact ⟨hB, none, 0, none, 0, by first | (rw [hf]; done) | (rw [hf]; rfl), by rw [hf]; exact (own_nil _ _ _ _), by rw [hf]; exact (own_nil _ _ _ _)⟩
    · refine C_skip (N_then (C_seq (C_seq (C_reg rfl ?_))))
      refine L_run (R_field (r := 0) rfl fld43_0 rfl) rfl ?_
      refine L_run (R_load1 rfl scl3 (hb2.cell (i := 0) rfl)) rfl ?_
      refine L_run (R_eql rfl rfl) rfl ?_
      refine L_run (R_move rfl) rfl ?_
      refine L_splitD (p := ((k : Nat) : Int) = 1) (fun h6 => ?_) (fun h6 => ?_)
      · refine L_no rfl rfl rfl (decide_eq_true h6) rfl ?_
        refine L_no rfl rfl rfl (decide_eq_true h6) rfl ?_
        refine L_no rfl rfl rfl (decide_eq_true h6) rfl ?_
        refine L_run (R_pickT rfl (decide_eq_true h6) rfl) rfl ?_
        refine L_nil (N_then (C_condT rfl rfl (C_seq (C_reg rfl ?_))))
        refine L_run (R_build (pv := []) (cs := [.bool false, .slice none 0 0]) rfl (by kernel_rfl)) rfl ?_
        refine L_run (R_move rfl) rfl ?_
        refine L_stA (vs := [.bool false, .slice none 0 0]) rfl rfl rfl sz51 rfl hb3 rfl ?_
        intro w17 hb11 hs17 hz13
        replace hB := gb_trg hB hs17 ge3
        replace hS := hS.other hb3 rfl rfl hs17
        replace hD := hD.other hb3 rfl rfl hs17
        replace hb1 := hb1.grown hs17 (ne_lt lt2)
        replace hb2 := hb2.grown hs17 (ne_lt lt3)
        replace hlo2 := Nat.le_trans hlo2 hs17.size
        replace ho6 := own_other ho6 hb3 rfl hs17
        refine L_run (R_assign rfl) rfl ?_
        refine L_run (R_assign rfl) rfl ?_
        refine L_run (R_assign rfl) rfl ?_
        refine L_nil (N_then (C_ret (R_then ?_)))
        refine rv4 (.inr rfl) Tryd.results14 (rvA (vs := [.bool false, .slice none 0 0]) rfl agg51 (At.pre (hb11.at_ 0) rfl) rfl) (rvT rfl) (rvT rfl) (rvT rfl) ?_
        have hf : feedN true bs k d = _ := fee_done (by first | (show k = 3 ∨ k = 4; omega) | (show k = 1 ∨ k = 2; omega) | (show ¬ (k = 3 ∨ k = 4); omega) | (show ¬ (k = 1 ∨ k = 2); omega)) (by first | omega | (simp only [List.length_append] at *; omega)) (by omega)
        exact ⟨hB, none, 0, A_4, c_4, by first | (rw [hf]; done) | (rw [hf]; rfl), by rw [hf]; exact (own_nil _ _ _ _), by rw [hf]; exact (own_lo ho6 ge5)⟩
      · refine L_yes rfl rfl rfl (decide_eq_false h6) ?_
        refine L_run (R_field (r := 0) rfl fld43_0 rfl) rfl ?_
        refine L_yes rfl rfl rfl (decide_eq_false h6) ?_
        refine L_run (R_load1 rfl scl3 (hb2.cell (i := 0) rfl)) rfl ?_
        refine L_yes rfl rfl rfl (decide_eq_false h6) ?_
        refine L_run (R_eql rfl rfl) rfl ?_
        refine L_run (R_pickF rfl (decide_eq_false h6) rfl) rfl ?_
        refine L_nil (N_then ?_)
        refine C_if rfl (fun h7 => ?_) (fun h7 => ?_)
        · refine C_seq (C_reg rfl ?_)
          refine L_run (R_build (pv := []) (cs := [.bool false, .slice none 0 0]) rfl (by kernel_rfl)) rfl ?_
          refine L_run (R_move rfl) rfl ?_
          refine L_stA (vs := [.bool false, .slice none 0 0]) rfl rfl rfl sz51 rfl hb3 rfl ?_
          intro w18 hb12 hs18 hz14
          replace hB := gb_trg hB hs18 ge3
          replace hS := hS.other hb3 rfl rfl hs18
          replace hD := hD.other hb3 rfl rfl hs18
          replace hb1 := hb1.grown hs18 (ne_lt lt2)
          replace hb2 := hb2.grown hs18 (ne_lt lt3)
          replace hlo2 := Nat.le_trans hlo2 hs18.size
          replace ho6 := own_other ho6 hb3 rfl hs18
          refine L_run (R_assign rfl) rfl ?_
          refine L_run (R_assign rfl) rfl ?_
          refine L_run (R_assign rfl) rfl ?_
          refine L_nil (N_then (C_ret (R_then ?_)))
          refine rv4 (.inr rfl) Tryd.results14 (rvA (vs := [.bool false, .slice none 0 0]) rfl agg51 (At.pre (hb12.at_ 0) rfl) rfl) (rvT rfl) (rvT rfl) (rvT rfl) ?_
          have hf : feedN true bs k d = _ := fee_done (by first | (show k = 3 ∨ k = 4; omega) | (show k = 1 ∨ k = 2; omega) | (show ¬ (k = 3 ∨ k = 4); omega) | (show ¬ (k = 1 ∨ k = 2); omega)) (by first | omega | (simp only [List.length_append] at *; omega)) (by omega)
          exact ⟨hB, none, 0, A_4, c_4, by first | (rw [hf]; done) | (rw [hf]; rfl), by rw [hf]; exact (own_nil _ _ _ _), by rw [hf]; exact (own_lo ho6 ge5)⟩
        · refine C_skip (N_then (C_seq (C_reg rfl ?_)))
          refine L_run (R_move rfl) rfl ?_
          refine L_run (R_build (pv := [(0, .bool true), (1, .slice A_4 ((bs ++ d).length) c_4)]) (cs := [.bool true, .slice A_4 ((bs ++ d).length) c_4]) rfl (by kernel_rfl)) rfl ?_
          refine L_stA (vs := [.bool true, .slice A_4 ((bs ++ d).length) c_4]) rfl rfl rfl sz51 rfl hb3 rfl ?_
          intro w19 hb13 hs19 hz15
          replace hB := gb_trg hB hs19 ge3
          replace hS := hS.other hb3 rfl rfl hs19
          replace hD := hD.other hb3 rfl rfl hs19
          replace hb1 := hb1.grown hs19 (ne_lt lt2)
          replace hb2 := hb2.grown hs19 (ne_lt lt3)
          replace hlo2 := Nat.le_trans hlo2 hs19.size
          replace ho6 := own_other ho6 hb3 rfl hs19
          refine L_run (R_assign rfl) rfl ?_
          refine L_run (R_assign rfl) rfl ?_
          refine L_run (R_assign rfl) rfl ?_
          refine L_nil (N_then (C_ret ?_))
          refine rv4 (.inr rfl) Tryd.results14 (rvA (vs := [.bool true, .slice A_4 ((bs ++ d).length) c_4]) rfl agg51 (At.pre (hb13.at_ 0) rfl) rfl) (rvT rfl) (rvT rfl) (rvT rfl) ?_
          have hf : feedN true bs k d = _ := fee_on (by first | (show k = 3 ∨ k = 4; omega) | (show k = 1 ∨ k = 2; omega) | (show ¬ (k = 3 ∨ k = 4); omega) | (show ¬ (k = 1 ∨ k = 2); omega)) (by first | omega | (simp only [List.length_append] at *; omega)) (by omega)
          exact ⟨hB, A_4, c_4, none, 0, by first | (rw [hf]; done) | (rw [hf]; rfl), by rw [hf]; exact (own_lo ho6 ge5), by rw [hf]; exact (own_nil _ _ _ _)⟩

theorem feed15_f {w : World} {lo hi lo2 hi2 : Nat} {A A2 : Option Addr} {c c2 k : Nat} {ep : Int} {bs d : List UInt8} (hS : Sli 5 lo hi w A (fl encB bs)) (hD : Sli 5 lo2 hi2 w A2 (fl encB d)) (hl : bs.length ≤ 1000000) (hd : d.length ≤ 1000000) :
    Runs Tryd.prog 14 #[.agg #[.bool false, .slice A bs.length c], .agg #[.int .i64 ((k : Nat) : Int), .int .u32 ep, .slice A2 d.length c2]] w (fun v w' => w.grownBy w' none ∧ ∃ A' c' A3 c3, v = .tuple #[.agg #[.bool (feedN false bs k d).1.1, .slice A' (feedN false bs k d).1.2.length c'], .slice A3 (feedN false bs k d).2.1.length c3, .bool (feedN false bs k d).2.2.1, .int .i64 (feedN false bs k d).2.2.2] ∧ World.ownsRow w' w.heap.size 5 1 (.slice A' ((feedN false bs k d).1.2).length c') ((feedN false bs k d).1.2).length (fl encB ((feedN false bs k d).1.2)) ∧ World.ownsRow w' w.heap.size 5 1 (.slice A3 ((feedN false bs k d).2.1).length c3) ((feedN false bs k d).2.1).length (fl encB ((feedN false bs k d).2.1))) := by
  have hB := gb_refl w none
  replace hS := hS.top
  replace hD := hD.top
  refine enter Tryd.func14 Tryd.ntmps14 rfl rfl ?_
  refine C_seq (C_reg rfl ?_)
  refine L_box (cs := [.bool false, .slice A bs.length c]) rfl rfl rfl ?_
  intro g1 w1 eg1 hb1 hs1 hz1
  have ge1 : w.heap.size ≤ g1 := eg_ge hB eg1
  replace hB := gb_tr hB hs1
  replace hS := hS.gb hs1
  replace hD := hD.gb hs1
  refine L_box (cs := [.int .i64 ((k : Nat) : Int), .int .u32 ep, .slice A2 d.length c2]) rfl rfl rfl ?_
  intro g2 w2 eg2 hb2 hs2 hz2
  have ge2 : w.heap.size ≤ g2 := eg_ge hB eg2
  have lt1 : g1 < g2 := lt_of_eg hb1.lt eg2
  replace hB := gb_tr hB hs2
  replace hS := hS.gb hs2
  replace hD := hD.gb hs2
  replace hb1 := hb1.gb hs2
  refine L_alloc (cs := [.bool false, .slice none 0 0]) zer51 rfl rfl ?_
  intro g3 w3 eg3 hb3 hs3 hz3
  have ge3 : w.heap.size ≤ g3 := eg_ge hB eg3
  have lt2 : g1 < g3 := lt_of_eg hb1.lt eg3
  have lt3 : g2 < g3 := lt_of_eg hb2.lt eg3
  replace hB := gb_tr hB hs3
  replace hS := hS.gb hs3
  replace hD := hD.gb hs3
  replace hb1 := hb1.gb hs3
  replace hb2 := hb2.gb hs3
  refine L_run (R_assign rfl) rfl ?_
  refine L_run (R_assign rfl) rfl ?_
  refine L_run (R_assign rfl) rfl ?_
  refine L_nil (N_then (C_seq (C_seq (C_reg rfl ?_))))
  refine L_run (R_field (r := 0) rfl fld51_0 rfl) rfl ?_
  refine L_run (R_load1 rfl scl4 (hb1.cell (i := 0) rfl)) rfl ?_
  refine L_run (R_move rfl) rfl ?_
  refine L_no rfl rfl rfl rfl rfl ?_
  refine L_no rfl rfl rfl rfl rfl ?_
  refine L_no rfl rfl rfl rfl rfl ?_
  refine L_run (R_pickF rfl rfl rfl) rfl ?_
  refine L_run (R_move rfl) rfl ?_
  refine L_no rfl rfl rfl rfl rfl ?_
  refine L_no rfl rfl rfl rfl rfl ?_
  refine L_no rfl rfl rfl rfl rfl ?_
  refine L_run (R_pickF rfl rfl rfl) rfl ?_
  refine L_run (R_move rfl) rfl ?_
  refine L_yes rfl rfl rfl rfl ?_
  refine L_run (R_field (r := 0) rfl fld51_0 rfl) rfl ?_
  refine L_yes rfl rfl rfl rfl ?_
  refine L_run (R_load1 rfl scl4 (hb1.cell (i := 0) rfl)) rfl ?_
  refine L_yes rfl rfl rfl rfl ?_
  refine L_run (R_not rfl) rfl ?_
  refine L_yes rfl rfl rfl rfl ?_
  refine L_run (R_move rfl) rfl ?_
  refine L_yes rfl rfl rfl rfl ?_
  refine L_run (R_field (r := 0) rfl fld43_0 rfl) rfl ?_
  refine L_yes rfl rfl rfl rfl ?_
  refine L_run (R_load1 rfl scl3 (hb2.cell (i := 0) rfl)) rfl ?_
  refine L_yes rfl rfl rfl rfl ?_
  refine L_run (R_neq rfl rfl) rfl ?_
  refine L_yes rfl rfl rfl rfl ?_
  refine L_run (R_pickT rfl rfl rfl) rfl ?_
  refine L_yes rfl rfl rfl rfl ?_
  refine L_run (R_move rfl) rfl ?_
  refine L_splitD (p := ((k : Nat) : Int) ≠ 1) (fun h1 => ?_) (fun h1 => ?_)
  · refine L_yes rfl rfl rfl (decide_eq_true h1) ?_
    refine L_run (R_field (r := 0) rfl fld43_0 rfl) rfl ?_
    refine L_yes rfl rfl rfl (decide_eq_true h1) ?_
    refine L_run (R_load1 rfl scl3 (hb2.cell (i := 0) rfl)) rfl ?_
    refine L_yes rfl rfl rfl (decide_eq_true h1) ?_
    refine L_run (R_neq rfl rfl) rfl ?_
    refine L_yes rfl rfl rfl rfl ?_
    refine L_run (R_pickT rfl (decide_eq_true h1) rfl) rfl ?_
    refine L_run (R_pickF rfl rfl rfl) rfl ?_
    refine L_nil (N_then ?_)
    refine C_if rfl (fun h2 => ?_) (fun h2 => ?_)
    · refine C_seq (C_reg rfl ?_)
      refine L_run (R_build (pv := []) (cs := [.bool false, .slice none 0 0]) rfl (by kernel_rfl)) rfl ?_
      refine L_stA (vs := [.bool false, .slice none 0 0]) rfl rfl rfl sz51 rfl hb3 rfl ?_
      intro w4 hb4 hs4 hz4
      replace hB := gb_trg hB hs4 ge3
      replace hS := hS.other hb3 rfl rfl hs4
      replace hD := hD.other hb3 rfl rfl hs4
      replace hb1 := hb1.grown hs4 (ne_lt lt2)
      replace hb2 := hb2.grown hs4 (ne_lt lt3)
      refine L_run (R_assign rfl) rfl ?_
      refine L_run (R_assign rfl) rfl ?_
      refine L_run (R_assign rfl) rfl ?_
      refine L_nil (N_then (C_ret (R_then ?_)))
      refine rv4 (.inr rfl) Tryd.results14 (rvA (vs := [.bool false, .slice none 0 0]) rfl agg51 (At.pre (hb4.at_ 0) rfl) rfl) (rvT rfl) (rvT rfl) (rvT rfl) ?_
      have hf : feedN false bs k d = _ := fee_form (by first | (show k = 3 ∨ k = 4; omega) | (show k = 1 ∨ k = 2; omega) | (show ¬ (k = 3 ∨ k = 4); omega) | (show ¬ (k = 1 ∨ k = 2); omega))
      exact ⟨hB, none, 0, none, 0, by first | (rw [hf]; done) | (rw [hf]; rfl), by rw [hf]; exact (own_nil _ _ _ _), by rw [hf]; exact (own_nil _ _ _ _)⟩
    · refine C_skip (N_then (C_seq ?_))
      refine C_draw2 rfl mix ?_
      intro w5 hs5 hz5
      replace hB := gb_tr hB hs5
      replace hS := hS.gb hs5
      replace hD := hD.gb hs5
      replace hb1 := hb1.gb hs5
      replace hb2 := hb2.gb hs5
      replace hb3 := hb3.gb hs5
      refine ⟨fun W_ => Blk W_ g1 51 [.bool false, .slice A bs.length c] ∧ Blk W_ g2 43 [.int .i64 ((k : Nat) : Int), .int .u32 ep, .slice A2 d.length c2] ∧ True, [1, 2, 4, 5, 7], ?_⟩
      refine T_takeA (i := 1) rfl rfl (by kernel_rfl) (by kernel_rfl) (by kernel_rfl) (Y_of (fun _ ⟨hb1, hb2, _⟩ => R_field (r := 1) rfl fld51_1 rfl)) ⟨hb1, hb2, trivial⟩ rfl ?_
      refine T_takeA (i := 2) rfl rfl (by kernel_rfl) (by kernel_rfl) (by kernel_rfl) (Y_of (fun _ ⟨hb1, hb2, _⟩ => R_load1 rfl scl25 (hb1.cell (i := 1) rfl))) ⟨hb1, hb2, trivial⟩ rfl ?_
      refine T_takeA (i := 4) rfl rfl (by kernel_rfl) (by kernel_rfl) (by kernel_rfl) (Y_of (fun _ ⟨hb1, hb2, _⟩ => R_field (r := 2) rfl fld43_2 rfl)) ⟨hb1, hb2, trivial⟩ rfl ?_
      refine T_takeA (i := 5) rfl rfl (by kernel_rfl) (by kernel_rfl) (by kernel_rfl) (Y_of (fun _ ⟨hb1, hb2, _⟩ => R_load1 rfl scl25 (hb2.cell (i := 2) rfl))) ⟨hb1, hb2, trivial⟩ rfl ?_
      refine T_all (rs := [0]) (by kernel_rfl) rfl (all1 (O_one rfl ?_))
      refine L_buildSlice (pv := []) (cs := []) slc25 zer5 rfl rfl (by kernel_rfl) rfl ?_
      intro g4 w6 eg4 hb5 hs6 hz6
      have ge4 : w.heap.size ≤ g4 := eg_ge hB eg4
      have lt4 : g1 < g4 := lt_of_eg hb1.lt eg4
      have lt5 : g2 < g4 := lt_of_eg hb2.lt eg4
      have lt6 : g3 < g4 := lt_of_eg hb3.lt eg4
      replace hB := gb_tr hB hs6
      replace hS := hS.gb hs6
      replace hD := hD.gb hs6
      replace hb1 := hb1.gb hs6
      replace hb2 := hb2.gb hs6
      replace hb3 := hb3.gb hs6
      refine L_nil (N_then ⟨fun hN_ => ⟨hb1, hb2, trivial⟩, ?_⟩)
      refine T_all (rs := [3]) (by kernel_rfl) rfl (all1 (O_one rfl ?_))
      have hlo1 : g4 ≤ w6.heap.size := Nat.le_of_lt hb5.lt
      have ho1 : World.ownsRow w6 g4 5 1 (.slice (some ⟨g4, 0, none⟩) ([] : List UInt8).length 0) ([] : List UInt8).length (fl encB []) := Blk.own (sz := 1) (m := 0) hb5 (by decide) rfl (Nat.le_refl _)
      refine T_append (xs := []) (ys := bs) EncB slc25 rfl rfl ho1 hS (by first | omega | (simp; done) | (simp; omega)) hlo1 rfl ?_
      intro A_1 c_1 w7 ho2 hs7 hat1
      replace hB := gb_tro hB ho1 hs7 ge4
      replace hS := hS.grown hs7 (fun k hk => .inr (Nat.le_trans ge4 (World.ownsRow.lt ho1 k hk).1))
      replace hD := hD.grown hs7 (fun k hk => .inr (Nat.le_trans ge4 (World.ownsRow.lt ho1 k hk).1))
      replace hb1 := blk_own hb1 ho1 rfl hs7
      replace hb2 := blk_own hb2 ho1 rfl hs7
      replace hb3 := blk_own hb3 ho1 rfl hs7
      replace hlo1 := Nat.le_trans hlo1 hs7.size
      simp only [List.nil_append] at ho2 ⊢
      refine L_nil (N_then ⟨fun hN_ => ⟨hb1, hb2, trivial⟩, ?_⟩)
      refine T_all (rs := [6]) (by kernel_rfl) rfl (all1 (O_one rfl ?_))
      refine T_append (xs := bs) (ys := d) EncB slc25 rfl rfl ho2 hD (by first | omega | (simp; done) | (simp; omega)) hlo1 rfl ?_
      intro A_2 c_2 w8 ho3 hs8 hat2
      replace hB := gb_tro hB ho2 hs8 ge4
      replace hS := hS.grown hs8 (fun k hk => .inr (Nat.le_trans ge4 (World.ownsRow.lt ho2 k hk).1))
      replace hD := hD.grown hs8 (fun k hk => .inr (Nat.le_trans ge4 (World.ownsRow.lt ho2 k hk).1))
      replace hb1 := blk_own hb1 ho2 rfl hs8
      replace hb2 := blk_own hb2 ho2 rfl hs8
      replace hb3 := blk_own hb3 ho2 rfl hs8
      replace hlo1 := Nat.le_trans hlo1 hs8.size
      refine L_nil (N_then ⟨fun hN_ => ⟨hb1, hb2, trivial⟩, ?_⟩)
      refine T_takeA (i := 7) rfl rfl (by kernel_rfl) (by kernel_rfl) (by kernel_rfl) (Y_of (fun _ ⟨hb1, hb2, _⟩ => R_assign rfl)) ⟨hb1, hb2, trivial⟩ rfl ?_
      refine T_done (by kernel_rfl) (CalmE.normal ?_)
      refine N_then (C_seq (C_seq (C_reg rfl ?_)))
      refine L_run (R_move rfl) rfl ?_
      refine L_run (R_lenSl rfl slc25) rfl ?_
      refine L_run (R_gtr rfl rfl) rfl ?_
      refine L_nil (N_then ?_)
      refine C_if rfl (fun h3 => ?_) (fun h3 => ?_)
      · refine C_seq (C_reg rfl ?_)
        refine L_run (R_build (pv := []) (cs := [.bool false, .slice none 0 0]) rfl (by kernel_rfl)) rfl ?_
        refine L_stA (vs := [.bool false, .slice none 0 0]) rfl rfl rfl sz51 rfl hb3 rfl ?_
        intro w9 hb6 hs9 hz7
        replace hB := gb_trg hB hs9 ge3
        replace hS := hS.other hb3 rfl rfl hs9
        replace hD := hD.other hb3 rfl rfl hs9
        replace hb1 := hb1.grown hs9 (ne_lt lt2)
        replace hb2 := hb2.grown hs9 (ne_lt lt3)
        replace hlo1 := Nat.le_trans hlo1 hs9.size
        replace ho3 := own_other ho3 hb3 rfl hs9
        refine L_run (R_assign rfl) rfl ?_
        refine L_run (R_assign rfl) rfl ?_
        refine L_run (R_assign rfl) rfl ?_
        refine L_nil (N_then (C_ret (R_then ?_)))
        refine rv4 (.inr rfl) Tryd.results14 (rvA (vs := [.bool false, .slice none 0 0]) rfl agg51 (At.pre (hb6.at_ 0) rfl) rfl) (rvT rfl) (rvT rfl) (rvT rfl) ?_
        have hf : feedN false bs k d = _ := fee_long (by first | (show k = 3 ∨ k = 4; omega) | (show k = 1 ∨ k = 2; omega) | (show ¬ (k = 3 ∨ k = 4); omega) | (show ¬ (k = 1 ∨ k = 2); omega)) (by first | omega | (simp only [List.length_append] at *; omega))
        exact ⟨hB, none, 0, none, 0, by first | (rw [hf]; done) | (rw [hf]; rfl), by rw [hf]; exact (own_nil _ _ _ _), by rw [hf]; exact (own_nil _ _ _ _)⟩
      · refine C_skip (N_then (C_seq (C_seq (C_reg rfl ?_))))
        refine L_run (R_field (r := 0) rfl fld43_0 rfl) rfl ?_
        refine L_run (R_load1 rfl scl3 (hb2.cell (i := 0) rfl)) rfl ?_
        refine L_run (R_eql rfl rfl) rfl ?_
        refine L_run (R_move rfl) rfl ?_
        refine L_yes rfl rfl rfl (decide_eq_false h1) ?_
        refine L_run (R_field (r := 0) rfl fld43_0 rfl) rfl ?_
        refine L_yes rfl rfl rfl (decide_eq_false h1) ?_
        refine L_run (R_load1 rfl scl3 (hb2.cell (i := 0) rfl)) rfl ?_
        refine L_yes rfl rfl rfl (decide_eq_false h1) ?_
        refine L_run (R_eql rfl rfl) rfl ?_
        refine L_run (R_pickF rfl (decide_eq_false h1) rfl) rfl ?_
        refine L_nil (N_then ?_)
        refine C_if rfl (fun h4 => ?_) (fun h4 => ?_)
        · refine C_seq (C_reg rfl ?_)
          refine L_run (R_build (pv := []) (cs := [.bool false, .slice none 0 0]) rfl (by kernel_rfl)) rfl ?_
          refine L_run (R_move rfl) rfl ?_
          refine L_stA (vs := [.bool false, .slice none 0 0]) rfl rfl rfl sz51 rfl hb3 rfl ?_
          intro w10 hb7 hs10 hz8
          replace hB := gb_trg hB hs10 ge3
          replace hS := hS.other hb3 rfl rfl hs10
          replace hD := hD.other hb3 rfl rfl hs10
          replace hb1 := hb1.grown hs10 (ne_lt lt2)
          replace hb2 := hb2.grown hs10 (ne_lt lt3)
          replace hlo1 := Nat.le_trans hlo1 hs10.size
          replace ho3 := own_other ho3 hb3 rfl hs10
          refine L_run (R_assign rfl) rfl ?_
          refine L_run (R_assign rfl) rfl ?_
          refine L_run (R_assign rfl) rfl ?_
          refine L_nil (N_then (C_ret (R_then ?_)))
          refine rv4 (.inr rfl) Tryd.results14 (rvA (vs := [.bool false, .slice none 0 0]) rfl agg51 (At.pre (hb7.at_ 0) rfl) rfl) (rvT rfl) (rvT rfl) (rvT rfl) ?_
          have hf : feedN false bs k d = _ := fee_done (by first | (show k = 3 ∨ k = 4; omega) | (show k = 1 ∨ k = 2; omega) | (show ¬ (k = 3 ∨ k = 4); omega) | (show ¬ (k = 1 ∨ k = 2); omega)) (by first | omega | (simp only [List.length_append] at *; omega)) (by omega)
          exact ⟨hB, none, 0, A_2, c_2, by first | (rw [hf]; done) | (rw [hf]; rfl), by rw [hf]; exact (own_nil _ _ _ _), by rw [hf]; exact (own_lo ho3 ge4)⟩
        · refine C_skip (N_then (C_seq (C_reg rfl ?_)))
          refine L_run (R_move rfl) rfl ?_
          refine L_run (R_build (pv := [(0, .bool true), (1, .slice A_2 ((bs ++ d).length) c_2)]) (cs := [.bool true, .slice A_2 ((bs ++ d).length) c_2]) rfl (by kernel_rfl)) rfl ?_
          refine L_stA (vs := [.bool true, .slice A_2 ((bs ++ d).length) c_2]) rfl rfl rfl sz51 rfl hb3 rfl ?_
          intro w11 hb8 hs11 hz9
          replace hB := gb_trg hB hs11 ge3
          replace hS := hS.other hb3 rfl rfl hs11
          replace hD := hD.other hb3 rfl rfl hs11
          replace hb1 := hb1.grown hs11 (ne_lt lt2)
          replace hb2 := hb2.grown hs11 (ne_lt lt3)
          replace hlo1 := Nat.le_trans hlo1 hs11.size
          replace ho3 := own_other ho3 hb3 rfl hs11
          refine L_run (R_assign rfl) rfl ?_
          refine L_run (R_assign rfl) rfl ?_
          refine L_run (R_assign rfl) rfl ?_
          refine L_nil (N_then (C_ret ?_))
          refine rv4 (.inr rfl) Tryd.results14 (rvA (vs := [.bool true, .slice A_2 ((bs ++ d).length) c_2]) rfl agg51 (At.pre (hb8.at_ 0) rfl) rfl) (rvT rfl) (rvT rfl) (rvT rfl) ?_
          have hf : feedN false bs k d = _ := fee_on (by first | (show k = 3 ∨ k = 4; omega) | (show k = 1 ∨ k = 2; omega) | (show ¬ (k = 3 ∨ k = 4); omega) | (show ¬ (k = 1 ∨ k = 2); omega)) (by first | omega | (simp only [List.length_append] at *; omega)) (by omega)
          exact ⟨hB, A_2, c_2, none, 0, by first | (rw [hf]; done) | (rw [hf]; rfl), by rw [hf]; exact (own_lo ho3 ge4), by rw [hf]; exact (own_nil _ _ _ _)⟩
  · refine L_no rfl rfl rfl (decide_eq_false h1) rfl ?_
    refine L_no rfl rfl rfl (decide_eq_false h1) rfl ?_
    refine L_no rfl rfl rfl (decide_eq_false h1) rfl ?_
    refine L_yes rfl rfl rfl rfl ?_
    refine L_run (R_pickF rfl (decide_eq_false h1) rfl) rfl ?_
    refine L_run (R_pickF rfl rfl rfl) rfl ?_
    refine L_nil (N_then (C_condF rfl rfl (C_skip (N_then (C_seq ?_)))))
    refine C_draw2 rfl mix ?_
    intro w12 hs12 hz10
    replace hB := gb_tr hB hs12
    replace hS := hS.gb hs12
    replace hD := hD.gb hs12
    replace hb1 := hb1.gb hs12
    replace hb2 := hb2.gb hs12
    replace hb3 := hb3.gb hs12
    refine ⟨fun W_ => Blk W_ g1 51 [.bool false, .slice A bs.length c] ∧ Blk W_ g2 43 [.int .i64 ((k : Nat) : Int), .int .u32 ep, .slice A2 d.length c2] ∧ True, [1, 2, 4, 5, 7], ?_⟩
    refine T_takeA (i := 1) rfl rfl (by kernel_rfl) (by kernel_rfl) (by kernel_rfl) (Y_of (fun _ ⟨hb1, hb2, _⟩ => R_field (r := 1) rfl fld51_1 rfl)) ⟨hb1, hb2, trivial⟩ rfl ?_
    refine T_takeA (i := 2) rfl rfl (by kernel_rfl) (by kernel_rfl) (by kernel_rfl) (Y_of (fun _ ⟨hb1, hb2, _⟩ => R_load1 rfl scl25 (hb1.cell (i := 1) rfl))) ⟨hb1, hb2, trivial⟩ rfl ?_
    refine T_takeA (i := 4) rfl rfl (by kernel_rfl) (by kernel_rfl) (by kernel_rfl) (Y_of (fun _ ⟨hb1, hb2, _⟩ => R_field (r := 2) rfl fld43_2 rfl)) ⟨hb1, hb2, trivial⟩ rfl ?_
    refine T_takeA (i := 5) rfl rfl (by kernel_rfl) (by kernel_rfl) (by kernel_rfl) (Y_of (fun _ ⟨hb1, hb2, _⟩ => R_load1 rfl scl25 (hb2.cell (i := 2) rfl))) ⟨hb1, hb2, trivial⟩ rfl ?_
    refine T_all (rs := [0]) (by kernel_rfl) rfl (all1 (O_one rfl ?_))
    refine L_buildSlice (pv := []) (cs := []) slc25 zer5 rfl rfl (by kernel_rfl) rfl ?_
    intro g5 w13 eg5 hb9 hs13 hz11
    have ge5 : w.heap.size ≤ g5 := eg_ge hB eg5
    have lt7 : g1 < g5 := lt_of_eg hb1.lt eg5
    have lt8 : g2 < g5 := lt_of_eg hb2.lt eg5
    have lt9 : g3 < g5 := lt_of_eg hb3.lt eg5
    replace hB := gb_tr hB hs13
    replace hS := hS.gb hs13
    replace hD := hD.gb hs13
    replace hb1 := hb1.gb hs13
    replace hb2 := hb2.gb hs13
    replace hb3 := hb3.gb hs13
    refine L_nil (N_then ⟨fun hN_ => ⟨hb1, hb2, trivial⟩, ?_⟩)
    refine T_all (rs := [3]) (by kernel_rfl) rfl (all1 (O_one rfl ?_))
    have hlo2 : g5 ≤ w13.heap.size := Nat.le_of_lt hb9.lt
    have ho4 : World.ownsRow w13 g5 5 1 (.slice (some ⟨g5, 0, none⟩) ([] : List UInt8).length 0) ([] : List UInt8).length (fl encB []) := Blk.own (sz := 1) (m := 0) hb9 (by decide) rfl (Nat.le_refl _)
    refine T_append (xs := []) (ys := bs) EncB slc25 rfl rfl ho4 hS (by first | omega | (simp; done) | (simp; omega)) hlo2 rfl ?_
    intro A_3 c_3 w14 ho5 hs14 hat3
    replace hB := gb_tro hB ho4 hs14 ge5
    replace hS := hS.grown hs14 (fun k hk => .inr (Nat.le_trans ge5 (World.ownsRow.lt ho4 k hk).1))
    replace hD := hD.grown hs14 (fun k hk => .inr (Nat.le_trans ge5 (World.ownsRow.lt ho4 k hk).1))
    replace hb1 := blk_own hb1 ho4 rfl hs14
    replace hb2 := blk_own hb2 ho4 rfl hs14
    replace hb3 := blk_own hb3 ho4 rfl hs14
    replace hlo2 := Nat.le_trans hlo2 hs14.size
    simp only [List.nil_append] at ho5 ⊢
    refine L_nil (N_then ⟨fun hN_ => ⟨hb1, hb2, trivial⟩, ?_⟩)
    refine T_all (rs := [6]) (by kernel_rfl) rfl (all1 (O_one rfl ?_))
    refine T_append (xs := bs) (ys := d) EncB slc25 rfl rfl ho5 hD (by first | omega | (simp; done) | (simp; omega)) hlo2 rfl ?_
    intro A_4 c_4 w15 ho6 hs15 hat4
    replace hB := gb_tro hB ho5 hs15 ge5
    replace hS := hS.grown hs15 (fun k hk => .inr (Nat.le_trans ge5 (World.ownsRow.lt ho5 k hk).1))
    replace hD := hD.grown hs15 (fun k hk => .inr (Nat.le_trans ge5 (World.ownsRow.lt ho5 k hk).1))
    replace hb1 := blk_own hb1 ho5 rfl hs15
    replace hb2 := blk_own hb2 ho5 rfl hs15
    replace hb3 := blk_own hb3 ho5 rfl hs15
    replace hlo2 := Nat.le_trans hlo2 hs15.size
    refine L_nil (N_then ⟨fun hN_ => ⟨hb1, hb2, trivial⟩, ?_⟩)
    refine T_takeA (i := 7) rfl rfl (by kernel_rfl) (by kernel_rfl) (by kernel_rfl) (Y_of (fun _ ⟨hb1, hb2, _⟩ => R_assign rfl)) ⟨hb1, hb2, trivial⟩ rfl ?_
    refine T_done (by kernel_rfl) (CalmE.normal ?_)
    refine N_then (C_seq (C_seq (C_reg rfl ?_)))
    refine L_run (R_move rfl) rfl ?_
    refine L_run (R_lenSl rfl slc25) rfl ?_
    refine L_run (R_gtr rfl rfl) rfl ?_
    refine L_nil (N_then ?_)
    refine C_if rfl (fun h5 => ?_) (fun h5 => ?_)
    · refine C_seq (C_reg rfl ?_)
      refine L_run (R_build (pv := []) (cs := [.bool false, .slice none 0 0]) rfl (by kernel_rfl)) rfl ?_
      refine L_stA (vs := [.bool false, .slice none 0 0]) rfl rfl rfl sz51 rfl hb3 rfl ?_
      intro w16 hb10 hs16 hz12
      replace hB := gb_trg hB hs16 ge3
      replace hS := hS.other hb3 rfl rfl hs16
      replace hD := hD.other hb3 rfl rfl hs16
      replace hb1 := hb1.grown hs16 (ne_lt lt2)
      replace hb2 := hb2.grown hs16 (ne_lt lt3)
      replace hlo2 := Nat.le_trans hlo2 hs16.size
      replace ho6 := own_other ho6 hb3 rfl hs16
      refine L_run (R_assign rfl) rfl ?_
      refine L_run (R_assign rfl) rfl ?_
      refine L_run (R_assign rfl) rfl ?_
      refine L_nil (N_then (C_ret (R_then ?_)))
      refine rv4 (.inr rfl) Tryd.results14 (rvA (vs := [.bool false, .slice none 0 0]) rfl agg51 (At.pre (hb10.at_ 0) rfl) rfl) (rvT rfl) (rvT rfl) (rvT rfl) ?_
      have hf : feedN false bs k d = _ := fee_long (by first | (show k = 3 ∨ k = 4; omega) | (show k = 1 ∨ k = 2; omega) | (show ¬ (k = 3 ∨ k = 4); omega) | (show ¬ (k = 1 ∨ k = 2); omega)) (by first | omega | (simp only [List.length_append] at *; omega))
      exact ⟨hB, none, 0, none, 0, by first | (rw [hf]; done) | (rw [hf]; rfl), by rw [hf]; exact (own_nil _ _ _ _), by rw [hf]; exact (own_nil _ _ _ _)⟩
    · refine C_skip (N_then (C_seq (C_seq (C_reg rfl ?_))))
      refine L_run (R_field (r := 0) rfl fld43_0 rfl) rfl ?_
      refine L_run (R_load1 rfl scl3 (hb2.cell (i := 0) rfl)) rfl ?_
      refine L_run (R_eql rfl rfl) rfl ?_
      refine L_run (R_move rfl) rfl ?_
      refine L_no rfl rfl rfl (decide_eq_true (Decidable.not_not.1 h1)) rfl ?_
      refine L_no rfl rfl rfl (decide_eq_true (Decidable.not_not.1 h1)) rfl ?_
      refine L_no rfl rfl rfl (decide_eq_true (Decidable.not_not.1 h1)) rfl ?_
      refine L_run (R_pickT rfl (decide_eq_true (Decidable.not_not.1 h1)) rfl) rfl ?_
      refine L_nil (N_then (C_condT rfl rfl (C_seq (C_reg rfl ?_))))
      refine L_run (R_build (pv := []) (cs := [.bool false, .slice none 0 0]) rfl (by kernel_rfl)) rfl ?_
      refine L_run (R_move rfl) rfl ?_
      refine L_stA (vs := [.bool false, .slice none 0 0]) rfl rfl rfl sz51 rfl hb3 rfl ?_
      intro w17 hb11 hs17 hz13
      replace hB := gb_trg hB hs17 ge3
      replace hS := hS.other hb3 rfl rfl hs17
      replace hD := hD.other hb3 rfl rfl hs17
      replace hb1 := hb1.grown hs17 (ne_lt lt2)
      replace hb2 := hb2.grown hs17 (ne_lt lt3)
      replace hlo2 := Nat.le_trans hlo2 hs17.size
      replace ho6 := own_other ho6 hb3 rfl hs17
      refine L_run (R_assign rfl) rfl ?_
      refine L_run (R_assign rfl) rfl ?_
      refine L_run (R_assign rfl) rfl ?_
      refine L_nil (N_then (C_ret (R_then ?_)))
      refine rv4 (.inr rfl) Tryd.results14 (rvA (vs := [.bool false, .slice none 0 0]) rfl agg51 (At.pre (hb11.at_ 0) rfl) rfl) (rvT rfl) (rvT rfl) (rvT rfl) ?_
      have hf : feedN false bs k d = _ := fee_done (by first | (show k = 3 ∨ k = 4; omega) | (show k = 1 ∨ k = 2; omega) | (show ¬ (k = 3 ∨ k = 4); omega) | (show ¬ (k = 1 ∨ k = 2); omega)) (by first | omega | (simp only [List.length_append] at *; omega)) (by omega)
      exact ⟨hB, none, 0, A_4, c_4, by first | (rw [hf]; done) | (rw [hf]; rfl), by rw [hf]; exact (own_nil _ _ _ _), by rw [hf]; exact (own_lo ho6 ge5)⟩

theorem feed15_ok {w : World} {o : Bool} {lo hi lo2 hi2 : Nat} {A A2 : Option Addr} {c c2 k : Nat} {ep : Int} {bs d : List UInt8} (hS : Sli 5 lo hi w A (fl encB bs)) (hD : Sli 5 lo2 hi2 w A2 (fl encB d)) (hl : bs.length ≤ 1000000) (hd : d.length ≤ 1000000) :
    Runs Tryd.prog 14 #[.agg #[.bool o, .slice A bs.length c], .agg #[.int .i64 ((k : Nat) : Int), .int .u32 ep, .slice A2 d.length c2]] w (fun v w' => w.grownBy w' none ∧ ∃ A' c' A3 c3, v = .tuple #[.agg #[.bool (feedN o bs k d).1.1, .slice A' (feedN o bs k d).1.2.length c'], .slice A3 (feedN o bs k d).2.1.length c3, .bool (feedN o bs k d).2.2.1, .int .i64 (feedN o bs k d).2.2.2] ∧ World.ownsRow w' w.heap.size 5 1 (.slice A' ((feedN o bs k d).1.2).length c') ((feedN o bs k d).1.2).length (fl encB ((feedN o bs k d).1.2)) ∧ World.ownsRow w' w.heap.size 5 1 (.slice A3 ((feedN o bs k d).2.1).length c3) ((feedN o bs k d).2.1).length (fl encB ((feedN o bs k d).2.1))) := by
  cases o
  · exact feed15_f hS hD hl hd
  · exact feed15_t hS hD hl hd
end Go.Proofs.YtnggbodilhpohaaDoor
