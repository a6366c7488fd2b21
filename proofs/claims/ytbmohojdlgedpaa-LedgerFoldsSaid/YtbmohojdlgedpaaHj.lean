/-
  Contracts of the reference 47: what transactions come to, and whether they fit.
-/
import Derived.Test.YtbmohojdlgedpaaHi
namespace Go.Proofs.Ytbmohojdlgedpaa
open Go.RowKit Gw Pl
set_option linter.unusedVariables false
set_option linter.unusedSimpArgs false
theorem cb26 : callB Try.prog 26 = true := by kernel_rfl
theorem cb27 : callB Try.prog 27 = true := by kernel_rfl
theorem cb28 : callB Try.prog 28 = true := by kernel_rfl
theorem fld27_2 : fldB Try.prog 27 2 2 = true := by kernel_rfl
theorem fld34_5 : fldB Try.prog 34 5 5 = true := by kernel_rfl
theorem slc22 : slcB Try.prog 22 27 3 40 = true := by kernel_rfl
theorem apC_put {c : Chg} {s : List Kv} (h : c.is = true) (ho : OkOp 1 c.key c.new) : apK s (opC c) = putK s c.key c.new := by
  unfold opC; rw [if_pos h]; exact apK_put ho rfl
theorem apC_put_no {c : Chg} {s : List Kv} (h : c.is = true) (ho : ¬ OkOp 1 c.key c.new) : apK s (opC c) = s := by
  unfold opC; rw [if_pos h]; exact apK_no ho
theorem apC_del {c : Chg} {s : List Kv} (h : ¬ c.is = true) (ho : OkOp 2 c.key ⟨#[]⟩) : apK s (opC c) = delK s c.key := by
  unfold opC; rw [if_neg h]; exact apK_del ho (show ¬ (2 : Int) = 1 by decide)
theorem apC_del_no {c : Chg} {s : List Kv} (h : ¬ c.is = true) (ho : ¬ OkOp 2 c.key ⟨#[]⟩) : apK s (opC c) = s := by
  unfold opC; rw [if_neg h]; exact apK_no ho
theorem kvb_b {l : List Ent} {i j : Nat} (h : i < l.length) (hb : (chs l).length ≤ 3600) : (kvF (chs (l.take i) ++ (l[i]).ch.take j) []).length ≤ 1000000 := by
  have h1 := kv_len (l := chs (l.take i) ++ (l[i]).ch.take j) (s := [])
  have h2 := pre_len (j := j) h
  simp only [List.length_nil] at h1
  omega
theorem right42_ok {w : World} {c : Chg} :
    Runs Try.prog 8 #[.agg #[.string c.key, .bool c.was, .bool c.is, .string c.old, .string c.new, .int .i64 c.next]] w (fun v_ w' => w.grownBy w' none ∧ ∃ b : Bool, v_ = .bool b) := by
  have hB := gb_refl w none
  refine enter Try.func8 Try.ntmps8 rfl rfl ?_
  refine C_seq (C_reg rfl ?_)
  refine L_box (cs := [.string c.key, .bool c.was, .bool c.is, .string c.old, .string c.new, .int .i64 c.next]) rfl rfl rfl ?_
  intro g1 w1 eg1 hb1 hs1 hz1
  have ge1 : w.heap.size ≤ g1 := eg_ge hB eg1
  replace hB := gb_tr hB hs1
  refine L_run (R_assign rfl) rfl ?_
  refine L_nil (N_then (C_seq (C_reg rfl ?_)))
  refine L_run (R_field (r := 0) rfl fld34_0 rfl) rfl ?_
  refine L_run (R_load1 rfl scl9 (hb1.cell (i := 0) rfl)) rfl ?_
  refine L_run (R_neqS rfl rfl) rfl ?_
  refine L_run (R_move rfl) rfl ?_
  refine L_splitD (p := c.key ≠ ⟨#[]⟩) (fun h1 => ?_) (fun h1 => ?_)
  · refine L_yes rfl rfl rfl (decide_eq_true h1) ?_
    refine L_run (R_field (r := 0) rfl fld34_0 rfl) rfl ?_
    refine L_yes rfl rfl rfl (decide_eq_true h1) ?_
    refine L_run (R_load1 rfl scl9 (hb1.cell (i := 0) rfl)) rfl ?_
    refine L_yes rfl rfl rfl (decide_eq_true h1) ?_
    refine L_run (R_lenS rfl str9) rfl ?_
    refine L_yes rfl rfl rfl (decide_eq_true h1) ?_
    refine L_run (R_leq rfl rfl) rfl ?_
    refine L_run (R_pickT rfl (decide_eq_true h1) rfl) rfl ?_
    refine L_run (R_move rfl) rfl ?_
    refine L_splitD (p := (c.key.size : Int) ≤ 24) (fun h2 => ?_) (fun h2 => ?_)
    · refine L_yes rfl rfl rfl (decide_eq_true h2) ?_
      refine L_run (R_field (r := 3) rfl fld34_3 rfl) rfl ?_
      refine L_yes rfl rfl rfl (decide_eq_true h2) ?_
      refine L_run (R_load1 rfl scl9 (hb1.cell (i := 3) rfl)) rfl ?_
      refine L_yes rfl rfl rfl (decide_eq_true h2) ?_
      refine L_run (R_lenS rfl str9) rfl ?_
      refine L_yes rfl rfl rfl (decide_eq_true h2) ?_
      refine L_run (R_leq rfl rfl) rfl ?_
      refine L_run (R_pickT rfl (decide_eq_true h2) rfl) rfl ?_
      refine L_run (R_move rfl) rfl ?_
      refine L_splitD (p := (c.old.size : Int) ≤ 128) (fun h3 => ?_) (fun h3 => ?_)
      · refine L_yes rfl rfl rfl (decide_eq_true h3) ?_
        refine L_run (R_field (r := 4) rfl fld34_4 rfl) rfl ?_
        refine L_yes rfl rfl rfl (decide_eq_true h3) ?_
        refine L_run (R_load1 rfl scl9 (hb1.cell (i := 4) rfl)) rfl ?_
        refine L_yes rfl rfl rfl (decide_eq_true h3) ?_
        refine L_run (R_lenS rfl str9) rfl ?_
        refine L_yes rfl rfl rfl (decide_eq_true h3) ?_
        refine L_run (R_leq rfl rfl) rfl ?_
        refine L_run (R_pickT rfl (decide_eq_true h3) rfl) rfl ?_
        refine L_run (R_move rfl) rfl ?_
        refine L_splitD (p := (c.new.size : Int) ≤ 128) (fun h4 => ?_) (fun h4 => ?_)
        · refine L_yes rfl rfl rfl (decide_eq_true h4) ?_
          refine L_run (R_field (r := 5) rfl fld34_5 rfl) rfl ?_
          refine L_yes rfl rfl rfl (decide_eq_true h4) ?_
          refine L_run (R_load1 rfl scl3 (hb1.cell (i := 5) rfl)) rfl ?_
          refine L_yes rfl rfl rfl (decide_eq_true h4) ?_
          refine L_run (R_geq rfl rfl) rfl ?_
          refine L_run (R_pickT rfl (decide_eq_true h4) rfl) rfl ?_
          refine L_run (R_move rfl) rfl ?_
          refine L_splitD (p := 0 ≤ c.next) (fun h5 => ?_) (fun h5 => ?_)
          · refine L_yes rfl rfl rfl (decide_eq_true h5) ?_
            refine L_run (R_field (r := 5) rfl fld34_5 rfl) rfl ?_
            refine L_yes rfl rfl rfl (decide_eq_true h5) ?_
            refine L_run (R_load1 rfl scl3 (hb1.cell (i := 5) rfl)) rfl ?_
            refine L_yes rfl rfl rfl (decide_eq_true h5) ?_
            refine L_run (R_leq rfl rfl) rfl ?_
            refine L_run (R_pickT rfl (decide_eq_true h5) rfl) rfl ?_
            refine L_run (R_assign rfl) rfl ?_
            refine L_nil (N_then (C_seq (C_reg rfl ?_)))
            refine L_run (R_move rfl) rfl ?_
            refine L_run (R_move rfl) rfl ?_
            refine L_splitD (p := c.next ≤ 2147483647) (fun h6 => ?_) (fun h6 => ?_)
            · refine L_yes rfl rfl rfl (decide_eq_true h6) ?_
              refine L_run (R_field (r := 1) rfl fld34_1 rfl) rfl ?_
              refine L_yes rfl rfl rfl (decide_eq_true h6) ?_
              refine L_run (R_load1 rfl scl4 (hb1.cell (i := 1) rfl)) rfl ?_
              refine L_yes rfl rfl rfl (decide_eq_true h6) ?_
              refine L_run (R_move rfl) rfl ?_
              refine L_split c.was (fun h7 => ?_) (fun h7 => ?_)
              · refine L_no rfl rfl rfl h7 rfl ?_
                refine L_no rfl rfl rfl h7 rfl ?_
                refine L_no rfl rfl rfl h7 rfl ?_
                refine L_yes rfl rfl rfl (decide_eq_true h6) ?_
                refine L_run (R_pickT rfl h7 rfl) rfl ?_
                refine L_run (R_pickT rfl (decide_eq_true h6) rfl) rfl ?_
                refine L_run (R_move rfl) rfl ?_
                refine L_yes rfl rfl rfl rfl ?_
                refine L_run (R_field (r := 2) rfl fld34_2 rfl) rfl ?_
                refine L_yes rfl rfl rfl rfl ?_
                refine L_run (R_load1 rfl scl4 (hb1.cell (i := 2) rfl)) rfl ?_
                refine L_yes rfl rfl rfl rfl ?_
                refine L_run (R_move rfl) rfl ?_
                refine L_split c.is (fun h8 => ?_) (fun h8 => ?_)
                · refine L_no rfl rfl rfl h8 rfl ?_
                  refine L_no rfl rfl rfl h8 rfl ?_
                  refine L_no rfl rfl rfl h8 rfl ?_
                  refine L_yes rfl rfl rfl rfl ?_
                  refine L_run (R_pickT rfl h8 rfl) rfl ?_
                  refine L_run (R_pickT rfl rfl rfl) rfl ?_
                  refine L_run (R_assign rfl) rfl ?_
                  refine L_nil (N_then (C_ret ?_))
                  refine ret1 Try.results8 rfl ?_
                  exact ⟨hB, _, rfl⟩
                · refine L_yes rfl rfl rfl h8 ?_
                  refine L_run (R_field (r := 4) rfl fld34_4 rfl) rfl ?_
                  refine L_yes rfl rfl rfl h8 ?_
                  refine L_run (R_load1 rfl scl9 (hb1.cell (i := 4) rfl)) rfl ?_
                  refine L_yes rfl rfl rfl h8 ?_
                  refine L_run (R_eqlS rfl rfl) rfl ?_
                  refine L_yes rfl rfl rfl rfl ?_
                  refine L_run (R_pickF rfl h8 rfl) rfl ?_
                  refine L_run (R_pickT rfl rfl rfl) rfl ?_
                  refine L_run (R_assign rfl) rfl ?_
                  refine L_nil (N_then (C_ret ?_))
                  refine ret1 Try.results8 rfl ?_
                  exact ⟨hB, _, rfl⟩
              · refine L_yes rfl rfl rfl h7 ?_
                refine L_run (R_field (r := 3) rfl fld34_3 rfl) rfl ?_
                refine L_yes rfl rfl rfl h7 ?_
                refine L_run (R_load1 rfl scl9 (hb1.cell (i := 3) rfl)) rfl ?_
                refine L_yes rfl rfl rfl h7 ?_
                refine L_run (R_eqlS rfl rfl) rfl ?_
                refine L_yes rfl rfl rfl (decide_eq_true h6) ?_
                refine L_run (R_pickF rfl h7 rfl) rfl ?_
                refine L_run (R_pickT rfl (decide_eq_true h6) rfl) rfl ?_
                refine L_run (R_move rfl) rfl ?_
                refine L_splitD (p := c.old = ⟨#[]⟩) (fun h9 => ?_) (fun h9 => ?_)
                · refine L_yes rfl rfl rfl (decide_eq_true h9) ?_
                  refine L_run (R_field (r := 2) rfl fld34_2 rfl) rfl ?_
                  refine L_yes rfl rfl rfl (decide_eq_true h9) ?_
                  refine L_run (R_load1 rfl scl4 (hb1.cell (i := 2) rfl)) rfl ?_
                  refine L_yes rfl rfl rfl (decide_eq_true h9) ?_
                  refine L_run (R_move rfl) rfl ?_
                  refine L_split c.is (fun h10 => ?_) (fun h10 => ?_)
                  · refine L_no rfl rfl rfl h10 rfl ?_
                    refine L_no rfl rfl rfl h10 rfl ?_
                    refine L_no rfl rfl rfl h10 rfl ?_
                    refine L_yes rfl rfl rfl (decide_eq_true h9) ?_
                    refine L_run (R_pickT rfl h10 rfl) rfl ?_
                    refine L_run (R_pickT rfl (decide_eq_true h9) rfl) rfl ?_
                    refine L_run (R_assign rfl) rfl ?_
                    refine L_nil (N_then (C_ret ?_))
                    refine ret1 Try.results8 rfl ?_
                    exact ⟨hB, _, rfl⟩
                  · refine L_yes rfl rfl rfl h10 ?_
                    refine L_run (R_field (r := 4) rfl fld34_4 rfl) rfl ?_
                    refine L_yes rfl rfl rfl h10 ?_
                    refine L_run (R_load1 rfl scl9 (hb1.cell (i := 4) rfl)) rfl ?_
                    refine L_yes rfl rfl rfl h10 ?_
                    refine L_run (R_eqlS rfl rfl) rfl ?_
                    refine L_yes rfl rfl rfl (decide_eq_true h9) ?_
                    refine L_run (R_pickF rfl h10 rfl) rfl ?_
                    refine L_run (R_pickT rfl (decide_eq_true h9) rfl) rfl ?_
                    refine L_run (R_assign rfl) rfl ?_
                    refine L_nil (N_then (C_ret ?_))
                    refine ret1 Try.results8 rfl ?_
                    exact ⟨hB, _, rfl⟩
                · refine L_no rfl rfl rfl (decide_eq_false h9) rfl ?_
                  refine L_no rfl rfl rfl (decide_eq_false h9) rfl ?_
                  refine L_no rfl rfl rfl (decide_eq_false h9) rfl ?_
                  refine L_noU rfl rfl rfl rfl ?_
                  refine L_noU rfl rfl rfl rfl ?_
                  refine L_noU rfl rfl rfl rfl ?_
                  refine L_no rfl rfl rfl (decide_eq_false h9) rfl ?_
                  refine L_run (R_pickF rfl (decide_eq_false h9) rfl) rfl ?_
                  refine L_run (R_assign rfl) rfl ?_
                  refine L_nil (N_then (C_ret ?_))
                  refine ret1 Try.results8 rfl ?_
                  exact ⟨hB, _, rfl⟩
            · refine L_no rfl rfl rfl (decide_eq_false h6) rfl ?_
              refine L_no rfl rfl rfl (decide_eq_false h6) rfl ?_
              refine L_no rfl rfl rfl (decide_eq_false h6) rfl ?_
              refine L_noU rfl rfl rfl rfl ?_
              refine L_noU rfl rfl rfl rfl ?_
              refine L_noU rfl rfl rfl rfl ?_
              refine L_no rfl rfl rfl (decide_eq_false h6) rfl ?_
              refine L_run (R_pickF rfl (decide_eq_false h6) rfl) rfl ?_
              refine L_run (R_move rfl) rfl ?_
              refine L_no rfl rfl rfl rfl rfl ?_
              refine L_no rfl rfl rfl rfl rfl ?_
              refine L_no rfl rfl rfl rfl rfl ?_
              refine L_noU rfl rfl rfl rfl ?_
              refine L_noU rfl rfl rfl rfl ?_
              refine L_noU rfl rfl rfl rfl ?_
              refine L_no rfl rfl rfl rfl rfl ?_
              refine L_run (R_pickF rfl rfl rfl) rfl ?_
              refine L_run (R_assign rfl) rfl ?_
              refine L_nil (N_then (C_ret ?_))
              refine ret1 Try.results8 rfl ?_
              exact ⟨hB, _, rfl⟩
          · refine L_no rfl rfl rfl (decide_eq_false h5) rfl ?_
            refine L_no rfl rfl rfl (decide_eq_false h5) rfl ?_
            refine L_no rfl rfl rfl (decide_eq_false h5) rfl ?_
            refine L_run (R_pickF rfl (decide_eq_false h5) rfl) rfl ?_
            refine L_run (R_assign rfl) rfl ?_
            refine L_nil (N_then (C_seq (C_reg rfl ?_)))
            refine L_run (R_move rfl) rfl ?_
            refine L_run (R_move rfl) rfl ?_
            refine L_no rfl rfl rfl rfl rfl ?_
            refine L_no rfl rfl rfl rfl rfl ?_
            refine L_no rfl rfl rfl rfl rfl ?_
            refine L_noU rfl rfl rfl rfl ?_
            refine L_noU rfl rfl rfl rfl ?_
            refine L_noU rfl rfl rfl rfl ?_
            refine L_no rfl rfl rfl rfl rfl ?_
            refine L_run (R_pickF rfl rfl rfl) rfl ?_
            refine L_run (R_move rfl) rfl ?_
            refine L_no rfl rfl rfl rfl rfl ?_
            refine L_no rfl rfl rfl rfl rfl ?_
            refine L_no rfl rfl rfl rfl rfl ?_
            refine L_noU rfl rfl rfl rfl ?_
            refine L_noU rfl rfl rfl rfl ?_
            refine L_noU rfl rfl rfl rfl ?_
            refine L_no rfl rfl rfl rfl rfl ?_
            refine L_run (R_pickF rfl rfl rfl) rfl ?_
            refine L_run (R_assign rfl) rfl ?_
            refine L_nil (N_then (C_ret ?_))
            refine ret1 Try.results8 rfl ?_
            exact ⟨hB, _, rfl⟩
        · refine L_no rfl rfl rfl (decide_eq_false h4) rfl ?_
          refine L_no rfl rfl rfl (decide_eq_false h4) rfl ?_
          refine L_no rfl rfl rfl (decide_eq_false h4) rfl ?_
          refine L_run (R_pickF rfl (decide_eq_false h4) rfl) rfl ?_
          refine L_run (R_move rfl) rfl ?_
          refine L_no rfl rfl rfl rfl rfl ?_
          refine L_no rfl rfl rfl rfl rfl ?_
          refine L_no rfl rfl rfl rfl rfl ?_
          refine L_run (R_pickF rfl rfl rfl) rfl ?_
          refine L_run (R_assign rfl) rfl ?_
          refine L_nil (N_then (C_seq (C_reg rfl ?_)))
          refine L_run (R_move rfl) rfl ?_
          refine L_run (R_move rfl) rfl ?_
          refine L_no rfl rfl rfl rfl rfl ?_
          refine L_no rfl rfl rfl rfl rfl ?_
          refine L_no rfl rfl rfl rfl rfl ?_
          refine L_noU rfl rfl rfl rfl ?_
          refine L_noU rfl rfl rfl rfl ?_
          refine L_noU rfl rfl rfl rfl ?_
          refine L_no rfl rfl rfl rfl rfl ?_
          refine L_run (R_pickF rfl rfl rfl) rfl ?_
          refine L_run (R_move rfl) rfl ?_
          refine L_no rfl rfl rfl rfl rfl ?_
          refine L_no rfl rfl rfl rfl rfl ?_
          refine L_no rfl rfl rfl rfl rfl ?_
          refine L_noU rfl rfl rfl rfl ?_
          refine L_noU rfl rfl rfl rfl ?_
          refine L_noU rfl rfl rfl rfl ?_
          refine L_no rfl rfl rfl rfl rfl ?_
          refine L_run (R_pickF rfl rfl rfl) rfl ?_
          refine L_run (R_assign rfl) rfl ?_
          refine L_nil (N_then (C_ret ?_))
          refine ret1 Try.results8 rfl ?_
          exact ⟨hB, _, rfl⟩
      · refine L_no rfl rfl rfl (decide_eq_false h3) rfl ?_
        refine L_no rfl rfl rfl (decide_eq_false h3) rfl ?_
        refine L_no rfl rfl rfl (decide_eq_false h3) rfl ?_
        refine L_no rfl rfl rfl (decide_eq_false h3) rfl ?_
        refine L_run (R_pickF rfl (decide_eq_false h3) rfl) rfl ?_
        refine L_run (R_move rfl) rfl ?_
        refine L_no rfl rfl rfl rfl rfl ?_
        refine L_no rfl rfl rfl rfl rfl ?_
        refine L_no rfl rfl rfl rfl rfl ?_
        refine L_run (R_pickF rfl rfl rfl) rfl ?_
        refine L_run (R_move rfl) rfl ?_
        refine L_no rfl rfl rfl rfl rfl ?_
        refine L_no rfl rfl rfl rfl rfl ?_
        refine L_no rfl rfl rfl rfl rfl ?_
        refine L_run (R_pickF rfl rfl rfl) rfl ?_
        refine L_run (R_assign rfl) rfl ?_
        refine L_nil (N_then (C_seq (C_reg rfl ?_)))
        refine L_run (R_move rfl) rfl ?_
        refine L_run (R_move rfl) rfl ?_
        refine L_no rfl rfl rfl rfl rfl ?_
        refine L_no rfl rfl rfl rfl rfl ?_
        refine L_no rfl rfl rfl rfl rfl ?_
        refine L_noU rfl rfl rfl rfl ?_
        refine L_noU rfl rfl rfl rfl ?_
        refine L_noU rfl rfl rfl rfl ?_
        refine L_no rfl rfl rfl rfl rfl ?_
        refine L_run (R_pickF rfl rfl rfl) rfl ?_
        refine L_run (R_move rfl) rfl ?_
        refine L_no rfl rfl rfl rfl rfl ?_
        refine L_no rfl rfl rfl rfl rfl ?_
        refine L_no rfl rfl rfl rfl rfl ?_
        refine L_noU rfl rfl rfl rfl ?_
        refine L_noU rfl rfl rfl rfl ?_
        refine L_noU rfl rfl rfl rfl ?_
        refine L_no rfl rfl rfl rfl rfl ?_
        refine L_run (R_pickF rfl rfl rfl) rfl ?_
        refine L_run (R_assign rfl) rfl ?_
        refine L_nil (N_then (C_ret ?_))
        refine ret1 Try.results8 rfl ?_
        exact ⟨hB, _, rfl⟩
    · refine L_no rfl rfl rfl (decide_eq_false h2) rfl ?_
      refine L_no rfl rfl rfl (decide_eq_false h2) rfl ?_
      refine L_no rfl rfl rfl (decide_eq_false h2) rfl ?_
      refine L_no rfl rfl rfl (decide_eq_false h2) rfl ?_
      refine L_run (R_pickF rfl (decide_eq_false h2) rfl) rfl ?_
      refine L_run (R_move rfl) rfl ?_
      refine L_no rfl rfl rfl rfl rfl ?_
      refine L_no rfl rfl rfl rfl rfl ?_
      refine L_no rfl rfl rfl rfl rfl ?_
      refine L_no rfl rfl rfl rfl rfl ?_
      refine L_run (R_pickF rfl rfl rfl) rfl ?_
      refine L_run (R_move rfl) rfl ?_
      refine L_no rfl rfl rfl rfl rfl ?_
      refine L_no rfl rfl rfl rfl rfl ?_
      refine L_no rfl rfl rfl rfl rfl ?_
      refine L_run (R_pickF rfl rfl rfl) rfl ?_
      refine L_run (R_move rfl) rfl ?_
      refine L_no rfl rfl rfl rfl rfl ?_
      refine L_no rfl rfl rfl rfl rfl ?_
      refine L_no rfl rfl rfl rfl rfl ?_
      refine L_run (R_pickF rfl rfl rfl) rfl ?_
      refine L_run (R_assign rfl) rfl ?_
      refine L_nil (N_then (C_seq (C_reg rfl ?_)))
      refine L_run (R_move rfl) rfl ?_
      refine L_run (R_move rfl) rfl ?_
      refine L_no rfl rfl rfl rfl rfl ?_
      refine L_no rfl rfl rfl rfl rfl ?_
      refine L_no rfl rfl rfl rfl rfl ?_
      refine L_noU rfl rfl rfl rfl ?_
      refine L_noU rfl rfl rfl rfl ?_
      refine L_noU rfl rfl rfl rfl ?_
      refine L_no rfl rfl rfl rfl rfl ?_
      refine L_run (R_pickF rfl rfl rfl) rfl ?_
      refine L_run (R_move rfl) rfl ?_
      refine L_no rfl rfl rfl rfl rfl ?_
      refine L_no rfl rfl rfl rfl rfl ?_
      refine L_no rfl rfl rfl rfl rfl ?_
      refine L_noU rfl rfl rfl rfl ?_
      refine L_noU rfl rfl rfl rfl ?_
      refine L_noU rfl rfl rfl rfl ?_
      refine L_no rfl rfl rfl rfl rfl ?_
      refine L_run (R_pickF rfl rfl rfl) rfl ?_
      refine L_run (R_assign rfl) rfl ?_
      refine L_nil (N_then (C_ret ?_))
      refine ret1 Try.results8 rfl ?_
      exact ⟨hB, _, rfl⟩
  · refine L_no rfl rfl rfl (decide_eq_false h1) rfl ?_
    refine L_no rfl rfl rfl (decide_eq_false h1) rfl ?_
    refine L_no rfl rfl rfl (decide_eq_false h1) rfl ?_
    refine L_no rfl rfl rfl (decide_eq_false h1) rfl ?_
    refine L_run (R_pickF rfl (decide_eq_false h1) rfl) rfl ?_
    refine L_run (R_move rfl) rfl ?_
    refine L_no rfl rfl rfl rfl rfl ?_
    refine L_no rfl rfl rfl rfl rfl ?_
    refine L_no rfl rfl rfl rfl rfl ?_
    refine L_no rfl rfl rfl rfl rfl ?_
    refine L_run (R_pickF rfl rfl rfl) rfl ?_
    refine L_run (R_move rfl) rfl ?_
    refine L_no rfl rfl rfl rfl rfl ?_
    refine L_no rfl rfl rfl rfl rfl ?_
    refine L_no rfl rfl rfl rfl rfl ?_
    refine L_no rfl rfl rfl rfl rfl ?_
    refine L_run (R_pickF rfl rfl rfl) rfl ?_
    refine L_run (R_move rfl) rfl ?_
    refine L_no rfl rfl rfl rfl rfl ?_
    refine L_no rfl rfl rfl rfl rfl ?_
    refine L_no rfl rfl rfl rfl rfl ?_
    refine L_run (R_pickF rfl rfl rfl) rfl ?_
    refine L_run (R_move rfl) rfl ?_
    refine L_no rfl rfl rfl rfl rfl ?_
    refine L_no rfl rfl rfl rfl rfl ?_
    refine L_no rfl rfl rfl rfl rfl ?_
    refine L_run (R_pickF rfl rfl rfl) rfl ?_
    refine L_run (R_assign rfl) rfl ?_
    refine L_nil (N_then (C_seq (C_reg rfl ?_)))
    refine L_run (R_move rfl) rfl ?_
    refine L_run (R_move rfl) rfl ?_
    refine L_no rfl rfl rfl rfl rfl ?_
    refine L_no rfl rfl rfl rfl rfl ?_
    refine L_no rfl rfl rfl rfl rfl ?_
    refine L_noU rfl rfl rfl rfl ?_
    refine L_noU rfl rfl rfl rfl ?_
    refine L_noU rfl rfl rfl rfl ?_
    refine L_no rfl rfl rfl rfl rfl ?_
    refine L_run (R_pickF rfl rfl rfl) rfl ?_
    refine L_run (R_move rfl) rfl ?_
    refine L_no rfl rfl rfl rfl rfl ?_
    refine L_no rfl rfl rfl rfl rfl ?_
    refine L_no rfl rfl rfl rfl rfl ?_
    refine L_noU rfl rfl rfl rfl ?_
    refine L_noU rfl rfl rfl rfl ?_
    refine L_noU rfl rfl rfl rfl ?_
    refine L_no rfl rfl rfl rfl rfl ?_
    refine L_run (R_pickF rfl rfl rfl) rfl ?_
    refine L_run (R_assign rfl) rfl ?_
    refine L_nil (N_then (C_ret ?_))
    refine ret1 Try.results8 rfl ?_
    exact ⟨hB, _, rfl⟩

theorem fold47_ok {w : World} {t1 lo hi : Nat} {A : Option Addr} {c : Nat} {l : List Ent} (hS : Sli t1 lo hi w A (fl encEn l)) (hD : DeepE w.heap.size w l) (hl60 : l.length ≤ 60) (h60 : ∀ y ∈ l, y.ch.length ≤ 60) :
    Runs Try.prog 7 #[.slice A l.length c] w (fun v_ w' => w.grownBy w' none ∧ ∃ A' c', v_ = .tuple #[.slice A' (kvF (chs l) []).length c', .bool (fitsB (chs l) [])] ∧ World.ownsRow w' w.heap.size 75 2 (.slice A' (kvF (chs l) []).length c') (kvF (chs l) []).length (fl encK (kvF (chs l) []))) := by
  have hB := gb_refl w none
  have hb := chs_len hl60 h60
  replace hS := hS.top
  refine enter Try.func7 Try.ntmps7 rfl rfl ?_
  refine C_seq (C_reg rfl ?_)
  refine L_run (R_assign rfl) rfl ?_
  refine L_run (R_assign rfl) rfl ?_
  refine L_nil (N_then (C_seq (C_reg rfl ?_)))
  refine L_run (R_assign rfl) rfl ?_
  refine L_nil (N_then (C_seq (C_reg rfl ?_)))
  refine L_run (R_assign rfl) rfl ?_
  refine L_nil (N_then (C_seq (C_seq (C_reg rfl ?_))))
  refine L_run (R_assign rfl) rfl ?_
  refine L_nil (N_then (C_block ?_))
  refine C_loop (fun m_ a_ w_ => ∃ (σ_ : Nat → Value) (i : Nat) (Aj : Option Addr) (cj : Nat) (okb : Bool), a_ = Ac 86 σ_ [] [(0, .slice A l.length c), (2, .slice none 0 0), (3, .bool false), (4, .slice Aj ((kvF (chs (l.take i)) []).length) cj), (5, .bool okb), (6, .int .i64 (i : Int))] ∧ w.grownBy w_ none ∧ Sli t1 lo w.heap.size w_ A (fl encEn l) ∧ DeepE w.heap.size w_ l ∧ World.ownsRow w_ w.heap.size 75 2 (.slice Aj (kvF (chs (l.take i)) []).length cj) (kvF (chs (l.take i)) []).length (fl encK (kvF (chs (l.take i)) [])) ∧ (okb = fitsB (chs (l.take i)) []) ∧ (i ≤ l.length) ∧ l.length - i = m_) (l.length - 0) ?_ ?_
  · exact ⟨_, 0, none, 0, true, Ac_frg ⟨rfl, rfl, rfl, (agr rfl (by first | rfl | (congr 1; omega) | (congr 1; simp; done) | (congr 1; simp only [IntKind.wrap_u64, IntKind.wrap_i64, IntKind.wrap_u8]; omega) | (congr 1 <;> omega))), rfl, (agr rfl (by first | rfl | (congr 1; omega) | (congr 1; simp; done) | (congr 1; simp only [IntKind.wrap_u64, IntKind.wrap_i64, IntKind.wrap_u8]; omega) | (congr 1 <;> omega))), trivial⟩, hB, hS, hD, (own_nil _ _ _ _), rfl, (Nat.zero_le _), rfl⟩
  · clear hB
    clear hS hD
    rintro m_ a_ w1 ⟨σ_, i, Aj, cj, okb, rfl, hB, hS, hD, hoP, hok_, hi_, rfl⟩
    refine C_seq (C_seq (C_reg rfl ?_))
    refine L_run (R_move rfl) rfl ?_
    refine L_run (R_move rfl) rfl ?_
    refine L_run (R_lenSl rfl slc22) rfl ?_
    refine L_run (R_lss rfl rfl) rfl ?_
    refine L_nil (N_then ?_)
    refine C_if rfl (fun h1 => ?_) (fun h1 => ?_)
    · refine C_skip (N_then (C_seq (C_block (C_seq (C_reg rfl ?_)))))
      refine L_run (R_assign rfl) rfl ?_
      refine L_nil (N_then (C_block ?_))
      have hli : i < l.length := by omega
      have hl6 := h60 _ (List.getElem_mem hli)
      have ez_ : chs (l.take i) = (chs (l.take i) ++ (l[i]).ch.take 0) := by rw [List.take_zero, List.append_nil]
      refine C_loop (fun m_ a_ w_ => ∃ (σ_ : Nat → Value) (j : Nat) (A2 : Option Addr) (c2 : Nat) (okb2 : Bool), a_ = Ac 86 σ_ [] [(0, .slice A l.length c), (2, .slice none 0 0), (3, .bool false), (4, .slice A2 ((kvF (chs (l.take i) ++ (l[i]).ch.take j) []).length) c2), (5, .bool okb2), (6, .int .i64 (i : Int)), (7, .int .i64 (j : Int))] ∧ w.grownBy w_ none ∧ Sli t1 lo w.heap.size w_ A (fl encEn l) ∧ DeepE w.heap.size w_ l ∧ World.ownsRow w_ w.heap.size 75 2 (.slice A2 (kvF (chs (l.take i) ++ (l[i]).ch.take j) []).length c2) (kvF (chs (l.take i) ++ (l[i]).ch.take j) []).length (fl encK (kvF (chs (l.take i) ++ (l[i]).ch.take j) [])) ∧ (okb2 = fitsB (chs (l.take i) ++ (l[i]).ch.take j) []) ∧ (j ≤ (l[i]).ch.length) ∧ (l[i]).ch.length - j = m_) ((l[i]).ch.length - 0) ?_ ?_
      · exact ⟨_, 0, Aj, cj, okb, Ac_frg ⟨rfl, rfl, rfl, (agr rfl (by rw [← ez_])), rfl, rfl, (agr rfl (by first | rfl | (congr 1; omega) | (congr 1; simp; done) | (congr 1; simp only [IntKind.wrap_u64, IntKind.wrap_i64, IntKind.wrap_u8]; omega) | (congr 1 <;> omega))), trivial⟩, hB, hS, hD, (by rw [← ez_]; exact (own_lo hoP (Nat.le_refl _))), (by rw [← ez_]; exact hok_), (Nat.zero_le _), rfl⟩
      · clear hB
        clear hS hD hoP
        rintro m_ a_ w2 ⟨σ_, j, A2, c2, okb2, rfl, hB, hS, hD, hoP2, hok2, hj_, rfl⟩
        refine C_seq (C_seq (C_reg rfl ?_))
        refine L_run (R_move rfl) rfl ?_
        refine L_run (R_move rfl) rfl ?_
        refine L_run (R_move rfl) rfl ?_
        have hl1 : i < l.length := by first | omega | (simp; omega)
        refine T_index (xs := l) (i := i) EncEn rfl rfl (by first | rfl | omega) slc22 hl1 hS rfl ?_
        intro g1 o1 ha1
        refine L_run (R_field rfl fld27_2 rfl) rfl ?_
        refine L_run (R_load1 rfl scl25 (ha1 2 _ rfl)) rfl ?_
        refine L_run (R_lenSl rfl slc25) rfl ?_
        refine L_run (R_lss rfl rfl) rfl ?_
        refine L_nil (N_then ?_)
        refine C_if rfl (fun h2 => ?_) (fun h2 => ?_)
        · refine C_skip (N_then (C_seq (C_block (C_seq (C_reg rfl ?_)))))
          have hlj : j < (l[i]).ch.length := by omega
          have hkb := kvb_b (j := j) hli hb
          refine L_run (R_move rfl) rfl ?_
          refine L_run (R_move rfl) rfl ?_
          have hl2 : i < l.length := by first | omega | (simp; omega)
          refine T_index (xs := l) (i := i) EncEn rfl rfl (by first | rfl | omega) slc22 hl2 hS rfl ?_
          intro g2 o2 ha2
          refine L_run (R_field rfl fld27_2 rfl) rfl ?_
          refine L_run (R_load1 rfl scl25 (ha2 2 _ rfl)) rfl ?_
          refine L_run (R_move rfl) rfl ?_
          have hl3 : j < ((l[i]).ch).length := by first | omega | (simp; omega)
          refine T_index (xs := (l[i]).ch) (i := j) EncC rfl rfl (by first | rfl | omega) slc25 hl3 (hD.getL (i := i) (by first | assumption | omega | (simp; omega))) rfl ?_
          intro g3 o3 ha3
          refine L_run (R_loadA (vs := [.string ((((l[i]).ch)[j]).key), .bool ((((l[i]).ch)[j]).was), .bool ((((l[i]).ch)[j]).is), .string ((((l[i]).ch)[j]).old), .string ((((l[i]).ch)[j]).new), .int .i64 ((((l[i]).ch)[j]).next)]) rfl agg34 (At.pre ha3 rfl) rfl) rfl ?_
          refine L_alloc (cs := [.string (⟨#[]⟩), .bool false, .bool false, .string (⟨#[]⟩), .string (⟨#[]⟩), .int .i64 0]) zer34 rfl rfl ?_
          intro g4 w3 eg1 hb1 hs1 hz1
          have ge1 : w.heap.size ≤ g4 := eg_ge hB eg1
          replace hB := gb_tr hB hs1
          replace hS := hS.gb hs1
          replace hD := hD.gb hs1
          replace hoP2 := own_gb hoP2 hs1
          replace ha1 := At.gb ha1 hs1 (by simp)
          replace ha2 := At.gb ha2 hs1 (by simp)
          replace ha3 := At.gb ha3 hs1 (by simp)
          refine L_stA (vs := [.string ((((l[i]).ch)[j]).key), .bool ((((l[i]).ch)[j]).was), .bool ((((l[i]).ch)[j]).is), .string ((((l[i]).ch)[j]).old), .string ((((l[i]).ch)[j]).new), .int .i64 ((((l[i]).ch)[j]).next)]) rfl rfl rfl sz34 rfl hb1 rfl ?_
          intro w4 hb2 hs2 hz2
          replace hB := gb_trg hB hs2 ge1
          replace hS := hS.old hs2 ge1
          replace hD := hD.old hs2 ge1
          replace hoP2 := own_other hoP2 hb1 rfl hs2
          refine L_nil (N_then (C_seq (C_reg rfl ?_)))
          refine L_run (R_move rfl) rfl ?_
          refine L_run (R_field (r := 0) rfl fld34_0 rfl) rfl ?_
          refine L_run (R_load1 rfl scl9 (hb2.cell (i := 0) rfl)) rfl ?_
          refine L_call rfl cb26 (rget_ok (l := kvF (chs (l.take i) ++ (l[i]).ch.take j) []) (key := (((l[i]).ch)[j]).key) (own_of hoP2).2.2 hkb) rfl ?_
          rintro _ w5 ⟨hs3, rfl⟩
          replace hB := gb_tr hB hs3
          replace hS := hS.gb hs3
          replace hD := hD.gb hs3
          replace hoP2 := own_gb hoP2 hs3
          replace hb2 := hb2.gb hs3
          refine L_run (R_move rfl) rfl ?_
          refine L_run (R_extract rfl rfl) rfl ?_
          refine L_run (R_extract rfl rfl) rfl ?_
          refine L_run (R_assign rfl) rfl ?_
          refine L_run (R_assign rfl) rfl ?_
          refine L_nil (N_then (C_seq (C_reg rfl ?_)))
          refine L_run (R_move rfl) rfl ?_
          refine L_run (R_move rfl) rfl ?_
          refine L_split okb2 (fun h3 => ?_) (fun h3 => ?_)
          · refine L_yes rfl rfl rfl h3 ?_
            refine L_run (R_move rfl) rfl ?_
            refine L_yes rfl rfl rfl h3 ?_
            refine L_run (R_field (r := 1) rfl fld34_1 rfl) rfl ?_
            refine L_yes rfl rfl rfl h3 ?_
            refine L_run (R_load1 rfl scl4 (hb2.cell (i := 1) rfl)) rfl ?_
            refine L_yes rfl rfl rfl h3 ?_
            refine L_run (R_eqlB rfl rfl boo4) rfl ?_
            refine L_run (R_pickT rfl h3 rfl) rfl ?_
            refine L_run (R_move rfl) rfl ?_
            refine L_split (((getK (kvF (chs (l.take i) ++ (l[i]).ch.take j) []) ((((l[i]).ch)[j]).key)).isSome) == ((((l[i]).ch)[j]).was)) (fun h4 => ?_) (fun h4 => ?_)
            · refine L_yes rfl rfl rfl h4 ?_
              refine L_run (R_move rfl) rfl ?_
              refine L_yes rfl rfl rfl h4 ?_
              refine L_run (R_field (r := 3) rfl fld34_3 rfl) rfl ?_
              refine L_yes rfl rfl rfl h4 ?_
              refine L_run (R_load1 rfl scl9 (hb2.cell (i := 3) rfl)) rfl ?_
              refine L_yes rfl rfl rfl h4 ?_
              refine L_run (R_eqlS rfl rfl) rfl ?_
              refine L_run (R_pickT rfl h4 rfl) rfl ?_
              refine L_run (R_assign rfl) rfl ?_
              refine L_nil (N_then (C_seq (C_seq (C_reg rfl ?_))))
              refine L_run (R_field (r := 2) rfl fld34_2 rfl) rfl ?_
              refine L_run (R_load1 rfl scl4 (hb2.cell (i := 2) rfl)) rfl ?_
              refine L_run (R_move rfl) rfl ?_
              refine L_split ((((l[i]).ch)[j]).is) (fun h5 => ?_) (fun h5 => ?_)
              · refine L_yes rfl rfl rfl h5 ?_
                refine L_run (R_field (r := 0) rfl fld34_0 rfl) rfl ?_
                refine L_yes rfl rfl rfl h5 ?_
                refine L_run (R_load1 rfl scl9 (hb2.cell (i := 0) rfl)) rfl ?_
                refine L_yes rfl rfl rfl h5 ?_
                refine L_run (R_field (r := 4) rfl fld34_4 rfl) rfl ?_
                refine L_yes rfl rfl rfl h5 ?_
                refine L_run (R_load1 rfl scl9 (hb2.cell (i := 4) rfl)) rfl ?_
                refine L_yes rfl rfl rfl h5 ?_
                refine L_run (R_build (pv := [(0, .int .i64 1), (1, .string ((((l[i]).ch)[j]).key)), (2, .string ((((l[i]).ch)[j]).new))]) (cs := [.int .i64 1, .string ((((l[i]).ch)[j]).key), .string ((((l[i]).ch)[j]).new)]) rfl (by kernel_rfl)) rfl ?_
                refine L_yes rfl rfl rfl h5 ?_
                refine L_call rfl cb27 (ref10_Right) rfl ?_
                rintro _ w6 ⟨hs4, rfl⟩
                replace hB := gb_tr hB hs4
                replace hS := hS.gb hs4
                replace hD := hD.gb hs4
                replace hoP2 := own_gb hoP2 hs4
                replace hb2 := hb2.gb hs4
                refine L_run (R_pickT rfl h5 rfl) rfl ?_
                refine L_nil (N_then ?_)
                refine C_if rfl (fun h6 => ?_) (fun h6 => ?_)
                · refine C_reg rfl ?_
                  refine L_run (R_move rfl) rfl ?_
                  refine L_run (R_field (r := 0) rfl fld34_0 rfl) rfl ?_
                  refine L_run (R_load1 rfl scl9 (hb2.cell (i := 0) rfl)) rfl ?_
                  refine L_run (R_field (r := 4) rfl fld34_4 rfl) rfl ?_
                  refine L_run (R_load1 rfl scl9 (hb2.cell (i := 4) rfl)) rfl ?_
                  have ge2 : w.heap.size ≤ w6.heap.size := hB.size
                  refine L_call rfl cb28 (rput_ok (l := kvF (chs (l.take i) ++ (l[i]).ch.take j) []) (key := (((l[i]).ch)[j]).key) (x := (((l[i]).ch)[j]).new) (own_of hoP2).2.2 hkb kv_nil) rfl ?_
                  rintro _ w7 ⟨hs5, A_1, c_1, rfl, ho1⟩
                  replace hB := gb_tr hB hs5
                  replace hS := hS.gb hs5
                  replace hD := hD.gb hs5
                  replace hoP2 := own_gb hoP2 hs5
                  replace hb2 := hb2.gb hs5
                  refine L_run (R_assign rfl) rfl ?_
                  refine L_nil (N_then (C_seq (C_reg rfl ?_)))
                  refine L_run (R_field (r := 2) rfl fld34_2 rfl) rfl ?_
                  refine L_run (R_load1 rfl scl4 (hb2.cell (i := 2) rfl)) rfl ?_
                  refine L_run (R_not rfl) rfl ?_
                  refine L_run (R_move rfl) rfl ?_
                  refine L_no rfl rfl rfl (by simp only [h5, Bool.not_true, Bool.not_false]) rfl ?_
                  refine L_no rfl rfl rfl (by simp only [h5, Bool.not_true, Bool.not_false]) rfl ?_
                  refine L_no rfl rfl rfl (by simp only [h5, Bool.not_true, Bool.not_false]) rfl ?_
                  refine L_no rfl rfl rfl (by simp only [h5, Bool.not_true, Bool.not_false]) rfl ?_
                  refine L_run (R_pickF rfl (by simp only [h5, Bool.not_true, Bool.not_false]) rfl) rfl ?_
                  refine L_nil (N_then (C_condF rfl rfl (C_skip (N_in (N_then (C_reg rfl ?_))))))
                  refine L_run (R_move rfl) rfl ?_
                  refine L_run (R_add64 rfl rfl (by omega)) rfl ?_
                  refine L_run (R_assign rfl) rfl ?_
                  refine L_nil (N_then ?_)
                  have es_ : kvF (chs (l.take i) ++ (l[i]).ch.take (j + 1)) [] = (putK (kvF (chs (l.take i) ++ (l[i]).ch.take j) []) ((((l[i]).ch)[j]).key) ((((l[i]).ch)[j]).new)) := by
                    rw [pre_go hli hlj, kv_snoc, apC_put h5 h6]
                  exact ⟨(l[i]).ch.length - (j + 1), by omega, _, (j + 1), A_1, c_1, (decide (gO (getK (kvF (chs (l.take i) ++ (l[i]).ch.take j) []) ((((l[i]).ch)[j]).key)) = (((l[i]).ch)[j]).old)), Ac_frg ⟨rfl, rfl, rfl, (agr rfl (by rw [es_])), rfl, rfl, (agr rfl (by first | rfl | (congr 1; omega) | (congr 1; simp; done) | (congr 1; simp only [IntKind.wrap_u64, IntKind.wrap_i64, IntKind.wrap_u8]; omega) | (congr 1 <;> omega))), trivial⟩, hB, hS, hD, (by rw [es_]; exact (own_lo ho1 ge2)), (by rw [pre_go hli hlj, fits_snoc, ← hok2, show fit1 (kvF (chs (l.take i) ++ (l[i]).ch.take j) []) ((l[i]).ch[j]) = (_ && _) from rfl, h3, h4]; rfl), (by omega), rfl⟩
                · refine C_skip (N_then (C_seq (C_reg rfl ?_)))
                  refine L_run (R_field (r := 2) rfl fld34_2 rfl) rfl ?_
                  refine L_run (R_load1 rfl scl4 (hb2.cell (i := 2) rfl)) rfl ?_
                  refine L_run (R_not rfl) rfl ?_
                  refine L_run (R_move rfl) rfl ?_
                  refine L_no rfl rfl rfl (by simp only [h5, Bool.not_true, Bool.not_false]) rfl ?_
                  refine L_no rfl rfl rfl (by simp only [h5, Bool.not_true, Bool.not_false]) rfl ?_
                  refine L_no rfl rfl rfl (by simp only [h5, Bool.not_true, Bool.not_false]) rfl ?_
                  refine L_no rfl rfl rfl (by simp only [h5, Bool.not_true, Bool.not_false]) rfl ?_
                  refine L_run (R_pickF rfl (by simp only [h5, Bool.not_true, Bool.not_false]) rfl) rfl ?_
                  refine L_nil (N_then (C_condF rfl rfl (C_skip (N_in (N_then (C_reg rfl ?_))))))
                  refine L_run (R_move rfl) rfl ?_
                  refine L_run (R_add64 rfl rfl (by omega)) rfl ?_
                  refine L_run (R_assign rfl) rfl ?_
                  refine L_nil (N_then ?_)
                  have es_ : kvF (chs (l.take i) ++ (l[i]).ch.take (j + 1)) [] = kvF (chs (l.take i) ++ (l[i]).ch.take j) [] := by
                    rw [pre_go hli hlj, kv_snoc, apC_put_no h5 h6]
                  exact ⟨(l[i]).ch.length - (j + 1), by omega, _, (j + 1), A2, c2, (decide (gO (getK (kvF (chs (l.take i) ++ (l[i]).ch.take j) []) ((((l[i]).ch)[j]).key)) = (((l[i]).ch)[j]).old)), Ac_frg ⟨rfl, rfl, rfl, (agr rfl (by rw [es_])), rfl, rfl, (agr rfl (by first | rfl | (congr 1; omega) | (congr 1; simp; done) | (congr 1; simp only [IntKind.wrap_u64, IntKind.wrap_i64, IntKind.wrap_u8]; omega) | (congr 1 <;> omega))), trivial⟩, hB, hS, hD, (by rw [es_]; exact (own_lo hoP2 (Nat.le_refl _))), (by rw [pre_go hli hlj, fits_snoc, ← hok2, show fit1 (kvF (chs (l.take i) ++ (l[i]).ch.take j) []) ((l[i]).ch[j]) = (_ && _) from rfl, h3, h4]; rfl), (by omega), rfl⟩
              · refine L_no rfl rfl rfl h5 rfl ?_
                refine L_no rfl rfl rfl h5 rfl ?_
                refine L_no rfl rfl rfl h5 rfl ?_
                refine L_no rfl rfl rfl h5 rfl ?_
                refine L_no rfl rfl rfl h5 rfl ?_
                refine L_no rfl rfl rfl h5 rfl ?_
                refine L_run (R_pickF rfl h5 rfl) rfl ?_
                refine L_nil (N_then (C_condF rfl rfl (C_skip (N_then (C_seq (C_reg rfl ?_))))))
                refine L_run (R_field (r := 2) rfl fld34_2 rfl) rfl ?_
                refine L_run (R_load1 rfl scl4 (hb2.cell (i := 2) rfl)) rfl ?_
                refine L_run (R_not rfl) rfl ?_
                refine L_run (R_move rfl) rfl ?_
                refine L_yes rfl rfl rfl (by simp only [h5, Bool.not_true, Bool.not_false]) ?_
                refine L_run (R_field (r := 0) rfl fld34_0 rfl) rfl ?_
                refine L_yes rfl rfl rfl (by simp only [h5, Bool.not_true, Bool.not_false]) ?_
                refine L_run (R_load1 rfl scl9 (hb2.cell (i := 0) rfl)) rfl ?_
                refine L_yes rfl rfl rfl (by simp only [h5, Bool.not_true, Bool.not_false]) ?_
                refine L_run (R_build (pv := [(0, .int .i64 2), (1, .string ((((l[i]).ch)[j]).key))]) (cs := [.int .i64 2, .string ((((l[i]).ch)[j]).key), .string (⟨#[]⟩)]) rfl (by kernel_rfl)) rfl ?_
                refine L_yes rfl rfl rfl (by simp only [h5, Bool.not_true, Bool.not_false]) ?_
                refine L_call rfl cb27 (ref10_Right) rfl ?_
                rintro _ w8 ⟨hs6, rfl⟩
                replace hB := gb_tr hB hs6
                replace hS := hS.gb hs6
                replace hD := hD.gb hs6
                replace hoP2 := own_gb hoP2 hs6
                replace hb2 := hb2.gb hs6
                refine L_run (R_pickT rfl (by simp only [h5, Bool.not_true, Bool.not_false]) rfl) rfl ?_
                refine L_nil (N_then ?_)
                refine C_if rfl (fun h7 => ?_) (fun h7 => ?_)
                · refine C_reg rfl ?_
                  refine L_run (R_move rfl) rfl ?_
                  refine L_run (R_field (r := 0) rfl fld34_0 rfl) rfl ?_
                  refine L_run (R_load1 rfl scl9 (hb2.cell (i := 0) rfl)) rfl ?_
                  have ge3 : w.heap.size ≤ w8.heap.size := hB.size
                  refine L_call rfl cb29 (rdel_ok (l := kvF (chs (l.take i) ++ (l[i]).ch.take j) []) (key := (((l[i]).ch)[j]).key) (own_of hoP2).2.2 hkb) rfl ?_
                  rintro _ w9 ⟨hs7, A_2, c_2, rfl, ho2⟩
                  replace hB := gb_tr hB hs7
                  replace hS := hS.gb hs7
                  replace hD := hD.gb hs7
                  replace hoP2 := own_gb hoP2 hs7
                  replace hb2 := hb2.gb hs7
                  refine L_run (R_assign rfl) rfl ?_
                  refine L_nil (N_in (N_then (C_reg rfl ?_)))
                  refine L_run (R_move rfl) rfl ?_
                  refine L_run (R_add64 rfl rfl (by omega)) rfl ?_
                  refine L_run (R_assign rfl) rfl ?_
                  refine L_nil (N_then ?_)
                  have es_ : kvF (chs (l.take i) ++ (l[i]).ch.take (j + 1)) [] = (delK (kvF (chs (l.take i) ++ (l[i]).ch.take j) []) ((((l[i]).ch)[j]).key)) := by
                    rw [pre_go hli hlj, kv_snoc, apC_del (by rw [h5]; decide) h7]
                  exact ⟨(l[i]).ch.length - (j + 1), by omega, _, (j + 1), A_2, c_2, (decide (gO (getK (kvF (chs (l.take i) ++ (l[i]).ch.take j) []) ((((l[i]).ch)[j]).key)) = (((l[i]).ch)[j]).old)), Ac_frg ⟨rfl, rfl, rfl, (agr rfl (by rw [es_])), rfl, rfl, (agr rfl (by first | rfl | (congr 1; omega) | (congr 1; simp; done) | (congr 1; simp only [IntKind.wrap_u64, IntKind.wrap_i64, IntKind.wrap_u8]; omega) | (congr 1 <;> omega))), trivial⟩, hB, hS, hD, (by rw [es_]; exact (own_lo ho2 ge3)), (by rw [pre_go hli hlj, fits_snoc, ← hok2, show fit1 (kvF (chs (l.take i) ++ (l[i]).ch.take j) []) ((l[i]).ch[j]) = (_ && _) from rfl, h3, h4]; rfl), (by omega), rfl⟩
                · refine C_skip (N_in (N_then (C_reg rfl ?_)))
                  refine L_run (R_move rfl) rfl ?_
                  refine L_run (R_add64 rfl rfl (by omega)) rfl ?_
                  refine L_run (R_assign rfl) rfl ?_
                  refine L_nil (N_then ?_)
                  have es_ : kvF (chs (l.take i) ++ (l[i]).ch.take (j + 1)) [] = kvF (chs (l.take i) ++ (l[i]).ch.take j) [] := by
                    rw [pre_go hli hlj, kv_snoc, apC_del_no (by rw [h5]; decide) h7]
                  exact ⟨(l[i]).ch.length - (j + 1), by omega, _, (j + 1), A2, c2, (decide (gO (getK (kvF (chs (l.take i) ++ (l[i]).ch.take j) []) ((((l[i]).ch)[j]).key)) = (((l[i]).ch)[j]).old)), Ac_frg ⟨rfl, rfl, rfl, (agr rfl (by rw [es_])), rfl, rfl, (agr rfl (by first | rfl | (congr 1; omega) | (congr 1; simp; done) | (congr 1; simp only [IntKind.wrap_u64, IntKind.wrap_i64, IntKind.wrap_u8]; omega) | (congr 1 <;> omega))), trivial⟩, hB, hS, hD, (by rw [es_]; exact (own_lo hoP2 (Nat.le_refl _))), (by rw [pre_go hli hlj, fits_snoc, ← hok2, show fit1 (kvF (chs (l.take i) ++ (l[i]).ch.take j) []) ((l[i]).ch[j]) = (_ && _) from rfl, h3, h4]; rfl), (by omega), rfl⟩
            · refine L_no rfl rfl rfl h4 rfl ?_
              refine L_no rfl rfl rfl h4 rfl ?_
              refine L_no rfl rfl rfl h4 rfl ?_
              refine L_no rfl rfl rfl h4 rfl ?_
              refine L_run (R_pickF rfl h4 rfl) rfl ?_
              refine L_run (R_assign rfl) rfl ?_
              refine L_nil (N_then (C_seq (C_seq (C_reg rfl ?_))))
              refine L_run (R_field (r := 2) rfl fld34_2 rfl) rfl ?_
              refine L_run (R_load1 rfl scl4 (hb2.cell (i := 2) rfl)) rfl ?_
              refine L_run (R_move rfl) rfl ?_
              refine L_split ((((l[i]).ch)[j]).is) (fun h8 => ?_) (fun h8 => ?_)
              · refine L_yes rfl rfl rfl h8 ?_
                refine L_run (R_field (r := 0) rfl fld34_0 rfl) rfl ?_
                refine L_yes rfl rfl rfl h8 ?_
                refine L_run (R_load1 rfl scl9 (hb2.cell (i := 0) rfl)) rfl ?_
                refine L_yes rfl rfl rfl h8 ?_
                refine L_run (R_field (r := 4) rfl fld34_4 rfl) rfl ?_
                refine L_yes rfl rfl rfl h8 ?_
                refine L_run (R_load1 rfl scl9 (hb2.cell (i := 4) rfl)) rfl ?_
                refine L_yes rfl rfl rfl h8 ?_
                refine L_run (R_build (pv := [(0, .int .i64 1), (1, .string ((((l[i]).ch)[j]).key)), (2, .string ((((l[i]).ch)[j]).new))]) (cs := [.int .i64 1, .string ((((l[i]).ch)[j]).key), .string ((((l[i]).ch)[j]).new)]) rfl (by kernel_rfl)) rfl ?_
                refine L_yes rfl rfl rfl h8 ?_
                refine L_call rfl cb27 (ref10_Right) rfl ?_
                rintro _ w10 ⟨hs8, rfl⟩
                replace hB := gb_tr hB hs8
                replace hS := hS.gb hs8
                replace hD := hD.gb hs8
                replace hoP2 := own_gb hoP2 hs8
                replace hb2 := hb2.gb hs8
                refine L_run (R_pickT rfl h8 rfl) rfl ?_
                refine L_nil (N_then ?_)
                refine C_if rfl (fun h9 => ?_) (fun h9 => ?_)
                · refine C_reg rfl ?_
                  refine L_run (R_move rfl) rfl ?_
                  refine L_run (R_field (r := 0) rfl fld34_0 rfl) rfl ?_
                  refine L_run (R_load1 rfl scl9 (hb2.cell (i := 0) rfl)) rfl ?_
                  refine L_run (R_field (r := 4) rfl fld34_4 rfl) rfl ?_
                  refine L_run (R_load1 rfl scl9 (hb2.cell (i := 4) rfl)) rfl ?_
                  have ge4 : w.heap.size ≤ w10.heap.size := hB.size
                  refine L_call rfl cb28 (rput_ok (l := kvF (chs (l.take i) ++ (l[i]).ch.take j) []) (key := (((l[i]).ch)[j]).key) (x := (((l[i]).ch)[j]).new) (own_of hoP2).2.2 hkb kv_nil) rfl ?_
                  rintro _ w11 ⟨hs9, A_3, c_3, rfl, ho3⟩
                  replace hB := gb_tr hB hs9
                  replace hS := hS.gb hs9
                  replace hD := hD.gb hs9
                  replace hoP2 := own_gb hoP2 hs9
                  replace hb2 := hb2.gb hs9
                  refine L_run (R_assign rfl) rfl ?_
                  refine L_nil (N_then (C_seq (C_reg rfl ?_)))
                  refine L_run (R_field (r := 2) rfl fld34_2 rfl) rfl ?_
                  refine L_run (R_load1 rfl scl4 (hb2.cell (i := 2) rfl)) rfl ?_
                  refine L_run (R_not rfl) rfl ?_
                  refine L_run (R_move rfl) rfl ?_
                  refine L_no rfl rfl rfl (by simp only [h8, Bool.not_true, Bool.not_false]) rfl ?_
                  refine L_no rfl rfl rfl (by simp only [h8, Bool.not_true, Bool.not_false]) rfl ?_
                  refine L_no rfl rfl rfl (by simp only [h8, Bool.not_true, Bool.not_false]) rfl ?_
                  refine L_no rfl rfl rfl (by simp only [h8, Bool.not_true, Bool.not_false]) rfl ?_
                  refine L_run (R_pickF rfl (by simp only [h8, Bool.not_true, Bool.not_false]) rfl) rfl ?_
                  refine L_nil (N_then (C_condF rfl rfl (C_skip (N_in (N_then (C_reg rfl ?_))))))
                  refine L_run (R_move rfl) rfl ?_
                  refine L_run (R_add64 rfl rfl (by omega)) rfl ?_
                  refine L_run (R_assign rfl) rfl ?_
                  refine L_nil (N_then ?_)
                  have es_ : kvF (chs (l.take i) ++ (l[i]).ch.take (j + 1)) [] = (putK (kvF (chs (l.take i) ++ (l[i]).ch.take j) []) ((((l[i]).ch)[j]).key) ((((l[i]).ch)[j]).new)) := by
                    rw [pre_go hli hlj, kv_snoc, apC_put h8 h9]
                  exact ⟨(l[i]).ch.length - (j + 1), by omega, _, (j + 1), A_3, c_3, false, Ac_frg ⟨rfl, rfl, rfl, (agr rfl (by rw [es_])), rfl, rfl, (agr rfl (by first | rfl | (congr 1; omega) | (congr 1; simp; done) | (congr 1; simp only [IntKind.wrap_u64, IntKind.wrap_i64, IntKind.wrap_u8]; omega) | (congr 1 <;> omega))), trivial⟩, hB, hS, hD, (by rw [es_]; exact (own_lo ho3 ge4)), (by rw [pre_go hli hlj, fits_snoc, ← hok2, show fit1 (kvF (chs (l.take i) ++ (l[i]).ch.take j) []) ((l[i]).ch[j]) = (_ && _) from rfl, h3, h4]; rfl), (by omega), rfl⟩
                · refine C_skip (N_then (C_seq (C_reg rfl ?_)))
                  refine L_run (R_field (r := 2) rfl fld34_2 rfl) rfl ?_
                  refine L_run (R_load1 rfl scl4 (hb2.cell (i := 2) rfl)) rfl ?_
                  refine L_run (R_not rfl) rfl ?_
                  refine L_run (R_move rfl) rfl ?_
                  refine L_no rfl rfl rfl (by simp only [h8, Bool.not_true, Bool.not_false]) rfl ?_
                  refine L_no rfl rfl rfl (by simp only [h8, Bool.not_true, Bool.not_false]) rfl ?_
                  refine L_no rfl rfl rfl (by simp only [h8, Bool.not_true, Bool.not_false]) rfl ?_
                  refine L_no rfl rfl rfl (by simp only [h8, Bool.not_true, Bool.not_false]) rfl ?_
                  refine L_run (R_pickF rfl (by simp only [h8, Bool.not_true, Bool.not_false]) rfl) rfl ?_
                  refine L_nil (N_then (C_condF rfl rfl (C_skip (N_in (N_then (C_reg rfl ?_))))))
                  refine L_run (R_move rfl) rfl ?_
                  refine L_run (R_add64 rfl rfl (by omega)) rfl ?_
                  refine L_run (R_assign rfl) rfl ?_
                  refine L_nil (N_then ?_)
                  have es_ : kvF (chs (l.take i) ++ (l[i]).ch.take (j + 1)) [] = kvF (chs (l.take i) ++ (l[i]).ch.take j) [] := by
                    rw [pre_go hli hlj, kv_snoc, apC_put_no h8 h9]
                  exact ⟨(l[i]).ch.length - (j + 1), by omega, _, (j + 1), A2, c2, false, Ac_frg ⟨rfl, rfl, rfl, (agr rfl (by rw [es_])), rfl, rfl, (agr rfl (by first | rfl | (congr 1; omega) | (congr 1; simp; done) | (congr 1; simp only [IntKind.wrap_u64, IntKind.wrap_i64, IntKind.wrap_u8]; omega) | (congr 1 <;> omega))), trivial⟩, hB, hS, hD, (by rw [es_]; exact (own_lo hoP2 (Nat.le_refl _))), (by rw [pre_go hli hlj, fits_snoc, ← hok2, show fit1 (kvF (chs (l.take i) ++ (l[i]).ch.take j) []) ((l[i]).ch[j]) = (_ && _) from rfl, h3, h4]; rfl), (by omega), rfl⟩
              · refine L_no rfl rfl rfl h8 rfl ?_
                refine L_no rfl rfl rfl h8 rfl ?_
                refine L_no rfl rfl rfl h8 rfl ?_
                refine L_no rfl rfl rfl h8 rfl ?_
                refine L_no rfl rfl rfl h8 rfl ?_
                refine L_no rfl rfl rfl h8 rfl ?_
                refine L_run (R_pickF rfl h8 rfl) rfl ?_
                refine L_nil (N_then (C_condF rfl rfl (C_skip (N_then (C_seq (C_reg rfl ?_))))))
                refine L_run (R_field (r := 2) rfl fld34_2 rfl) rfl ?_
                refine L_run (R_load1 rfl scl4 (hb2.cell (i := 2) rfl)) rfl ?_
                refine L_run (R_not rfl) rfl ?_
                refine L_run (R_move rfl) rfl ?_
                refine L_yes rfl rfl rfl (by simp only [h8, Bool.not_true, Bool.not_false]) ?_
                refine L_run (R_field (r := 0) rfl fld34_0 rfl) rfl ?_
                refine L_yes rfl rfl rfl (by simp only [h8, Bool.not_true, Bool.not_false]) ?_
                refine L_run (R_load1 rfl scl9 (hb2.cell (i := 0) rfl)) rfl ?_
                refine L_yes rfl rfl rfl (by simp only [h8, Bool.not_true, Bool.not_false]) ?_
                refine L_run (R_build (pv := [(0, .int .i64 2), (1, .string ((((l[i]).ch)[j]).key))]) (cs := [.int .i64 2, .string ((((l[i]).ch)[j]).key), .string (⟨#[]⟩)]) rfl (by kernel_rfl)) rfl ?_
                refine L_yes rfl rfl rfl (by simp only [h8, Bool.not_true, Bool.not_false]) ?_
                refine L_call rfl cb27 (ref10_Right) rfl ?_
                rintro _ w12 ⟨hs10, rfl⟩
                replace hB := gb_tr hB hs10
                replace hS := hS.gb hs10
                replace hD := hD.gb hs10
                replace hoP2 := own_gb hoP2 hs10
                replace hb2 := hb2.gb hs10
                refine L_run (R_pickT rfl (by simp only [h8, Bool.not_true, Bool.not_false]) rfl) rfl ?_
                refine L_nil (N_then ?_)
                refine C_if rfl (fun h10 => ?_) (fun h10 => ?_)
                · refine C_reg rfl ?_
                  refine L_run (R_move rfl) rfl ?_
                  refine L_run (R_field (r := 0) rfl fld34_0 rfl) rfl ?_
                  refine L_run (R_load1 rfl scl9 (hb2.cell (i := 0) rfl)) rfl ?_
                  have ge5 : w.heap.size ≤ w12.heap.size := hB.size
                  refine L_call rfl cb29 (rdel_ok (l := kvF (chs (l.take i) ++ (l[i]).ch.take j) []) (key := (((l[i]).ch)[j]).key) (own_of hoP2).2.2 hkb) rfl ?_
                  rintro _ w13 ⟨hs11, A_4, c_4, rfl, ho4⟩
                  replace hB := gb_tr hB hs11
                  replace hS := hS.gb hs11
                  replace hD := hD.gb hs11
                  replace hoP2 := own_gb hoP2 hs11
                  replace hb2 := hb2.gb hs11
                  refine L_run (R_assign rfl) rfl ?_
                  refine L_nil (N_in (N_then (C_reg rfl ?_)))
                  refine L_run (R_move rfl) rfl ?_
                  refine L_run (R_add64 rfl rfl (by omega)) rfl ?_
                  refine L_run (R_assign rfl) rfl ?_
                  refine L_nil (N_then ?_)
                  have es_ : kvF (chs (l.take i) ++ (l[i]).ch.take (j + 1)) [] = (delK (kvF (chs (l.take i) ++ (l[i]).ch.take j) []) ((((l[i]).ch)[j]).key)) := by
                    rw [pre_go hli hlj, kv_snoc, apC_del (by rw [h8]; decide) h10]
                  exact ⟨(l[i]).ch.length - (j + 1), by omega, _, (j + 1), A_4, c_4, false, Ac_frg ⟨rfl, rfl, rfl, (agr rfl (by rw [es_])), rfl, rfl, (agr rfl (by first | rfl | (congr 1; omega) | (congr 1; simp; done) | (congr 1; simp only [IntKind.wrap_u64, IntKind.wrap_i64, IntKind.wrap_u8]; omega) | (congr 1 <;> omega))), trivial⟩, hB, hS, hD, (by rw [es_]; exact (own_lo ho4 ge5)), (by rw [pre_go hli hlj, fits_snoc, ← hok2, show fit1 (kvF (chs (l.take i) ++ (l[i]).ch.take j) []) ((l[i]).ch[j]) = (_ && _) from rfl, h3, h4]; rfl), (by omega), rfl⟩
                · refine C_skip (N_in (N_then (C_reg rfl ?_)))
                  refine L_run (R_move rfl) rfl ?_
                  refine L_run (R_add64 rfl rfl (by omega)) rfl ?_
                  refine L_run (R_assign rfl) rfl ?_
                  refine L_nil (N_then ?_)
                  have es_ : kvF (chs (l.take i) ++ (l[i]).ch.take (j + 1)) [] = kvF (chs (l.take i) ++ (l[i]).ch.take j) [] := by
                    rw [pre_go hli hlj, kv_snoc, apC_del_no (by rw [h8]; decide) h10]
                  exact ⟨(l[i]).ch.length - (j + 1), by omega, _, (j + 1), A2, c2, false, Ac_frg ⟨rfl, rfl, rfl, (agr rfl (by rw [es_])), rfl, rfl, (agr rfl (by first | rfl | (congr 1; omega) | (congr 1; simp; done) | (congr 1; simp only [IntKind.wrap_u64, IntKind.wrap_i64, IntKind.wrap_u8]; omega) | (congr 1 <;> omega))), trivial⟩, hB, hS, hD, (by rw [es_]; exact (own_lo hoP2 (Nat.le_refl _))), (by rw [pre_go hli hlj, fits_snoc, ← hok2, show fit1 (kvF (chs (l.take i) ++ (l[i]).ch.take j) []) ((l[i]).ch[j]) = (_ && _) from rfl, h3, h4]; rfl), (by omega), rfl⟩
          · refine L_no rfl rfl rfl h3 rfl ?_
            refine L_no rfl rfl rfl h3 rfl ?_
            refine L_no rfl rfl rfl h3 rfl ?_
            refine L_no rfl rfl rfl h3 rfl ?_
            refine L_run (R_pickF rfl h3 rfl) rfl ?_
            refine L_run (R_move rfl) rfl ?_
            refine L_no rfl rfl rfl rfl rfl ?_
            refine L_no rfl rfl rfl rfl rfl ?_
            refine L_no rfl rfl rfl rfl rfl ?_
            refine L_no rfl rfl rfl rfl rfl ?_
            refine L_run (R_pickF rfl rfl rfl) rfl ?_
            refine L_run (R_assign rfl) rfl ?_
            refine L_nil (N_then (C_seq (C_seq (C_reg rfl ?_))))
            refine L_run (R_field (r := 2) rfl fld34_2 rfl) rfl ?_
            refine L_run (R_load1 rfl scl4 (hb2.cell (i := 2) rfl)) rfl ?_
            refine L_run (R_move rfl) rfl ?_
            refine L_split ((((l[i]).ch)[j]).is) (fun h11 => ?_) (fun h11 => ?_)
            · refine L_yes rfl rfl rfl h11 ?_
              refine L_run (R_field (r := 0) rfl fld34_0 rfl) rfl ?_
              refine L_yes rfl rfl rfl h11 ?_
              refine L_run (R_load1 rfl scl9 (hb2.cell (i := 0) rfl)) rfl ?_
              refine L_yes rfl rfl rfl h11 ?_
              refine L_run (R_field (r := 4) rfl fld34_4 rfl) rfl ?_
              refine L_yes rfl rfl rfl h11 ?_
              refine L_run (R_load1 rfl scl9 (hb2.cell (i := 4) rfl)) rfl ?_
              refine L_yes rfl rfl rfl h11 ?_
              refine L_run (R_build (pv := [(0, .int .i64 1), (1, .string ((((l[i]).ch)[j]).key)), (2, .string ((((l[i]).ch)[j]).new))]) (cs := [.int .i64 1, .string ((((l[i]).ch)[j]).key), .string ((((l[i]).ch)[j]).new)]) rfl (by kernel_rfl)) rfl ?_
              refine L_yes rfl rfl rfl h11 ?_
              refine L_call rfl cb27 (ref10_Right) rfl ?_
              rintro _ w14 ⟨hs12, rfl⟩
              replace hB := gb_tr hB hs12
              replace hS := hS.gb hs12
              replace hD := hD.gb hs12
              replace hoP2 := own_gb hoP2 hs12
              replace hb2 := hb2.gb hs12
              refine L_run (R_pickT rfl h11 rfl) rfl ?_
              refine L_nil (N_then ?_)
              refine C_if rfl (fun h12 => ?_) (fun h12 => ?_)
              · refine C_reg rfl ?_
                refine L_run (R_move rfl) rfl ?_
                refine L_run (R_field (r := 0) rfl fld34_0 rfl) rfl ?_
                refine L_run (R_load1 rfl scl9 (hb2.cell (i := 0) rfl)) rfl ?_
                refine L_run (R_field (r := 4) rfl fld34_4 rfl) rfl ?_
                refine L_run (R_load1 rfl scl9 (hb2.cell (i := 4) rfl)) rfl ?_
                have ge6 : w.heap.size ≤ w14.heap.size := hB.size
                refine L_call rfl cb28 (rput_ok (l := kvF (chs (l.take i) ++ (l[i]).ch.take j) []) (key := (((l[i]).ch)[j]).key) (x := (((l[i]).ch)[j]).new) (own_of hoP2).2.2 hkb kv_nil) rfl ?_
                rintro _ w15 ⟨hs13, A_5, c_5, rfl, ho5⟩
                replace hB := gb_tr hB hs13
                replace hS := hS.gb hs13
                replace hD := hD.gb hs13
                replace hoP2 := own_gb hoP2 hs13
                replace hb2 := hb2.gb hs13
                refine L_run (R_assign rfl) rfl ?_
                refine L_nil (N_then (C_seq (C_reg rfl ?_)))
                refine L_run (R_field (r := 2) rfl fld34_2 rfl) rfl ?_
                refine L_run (R_load1 rfl scl4 (hb2.cell (i := 2) rfl)) rfl ?_
                refine L_run (R_not rfl) rfl ?_
                refine L_run (R_move rfl) rfl ?_
                refine L_no rfl rfl rfl (by simp only [h11, Bool.not_true, Bool.not_false]) rfl ?_
                refine L_no rfl rfl rfl (by simp only [h11, Bool.not_true, Bool.not_false]) rfl ?_
                refine L_no rfl rfl rfl (by simp only [h11, Bool.not_true, Bool.not_false]) rfl ?_
                refine L_no rfl rfl rfl (by simp only [h11, Bool.not_true, Bool.not_false]) rfl ?_
                refine L_run (R_pickF rfl (by simp only [h11, Bool.not_true, Bool.not_false]) rfl) rfl ?_
                refine L_nil (N_then (C_condF rfl rfl (C_skip (N_in (N_then (C_reg rfl ?_))))))
                refine L_run (R_move rfl) rfl ?_
                refine L_run (R_add64 rfl rfl (by omega)) rfl ?_
                refine L_run (R_assign rfl) rfl ?_
                refine L_nil (N_then ?_)
                have es_ : kvF (chs (l.take i) ++ (l[i]).ch.take (j + 1)) [] = (putK (kvF (chs (l.take i) ++ (l[i]).ch.take j) []) ((((l[i]).ch)[j]).key) ((((l[i]).ch)[j]).new)) := by
                  rw [pre_go hli hlj, kv_snoc, apC_put h11 h12]
                exact ⟨(l[i]).ch.length - (j + 1), by omega, _, (j + 1), A_5, c_5, false, Ac_frg ⟨rfl, rfl, rfl, (agr rfl (by rw [es_])), rfl, rfl, (agr rfl (by first | rfl | (congr 1; omega) | (congr 1; simp; done) | (congr 1; simp only [IntKind.wrap_u64, IntKind.wrap_i64, IntKind.wrap_u8]; omega) | (congr 1 <;> omega))), trivial⟩, hB, hS, hD, (by rw [es_]; exact (own_lo ho5 ge6)), (by rw [pre_go hli hlj, fits_snoc, ← hok2, show fit1 (kvF (chs (l.take i) ++ (l[i]).ch.take j) []) ((l[i]).ch[j]) = (_ && _) from rfl, h3]; rfl), (by omega), rfl⟩
              · refine C_skip (N_then (C_seq (C_reg rfl ?_)))
                refine L_run (R_field (r := 2) rfl fld34_2 rfl) rfl ?_
                refine L_run (R_load1 rfl scl4 (hb2.cell (i := 2) rfl)) rfl ?_
                refine L_run (R_not rfl) rfl ?_
                refine L_run (R_move rfl) rfl ?_
                refine L_no rfl rfl rfl (by simp only [h11, Bool.not_true, Bool.not_false]) rfl ?_
                refine L_no rfl rfl rfl (by simp only [h11, Bool.not_true, Bool.not_false]) rfl ?_
                refine L_no rfl rfl rfl (by simp only [h11, Bool.not_true, Bool.not_false]) rfl ?_
                refine L_no rfl rfl rfl (by simp only [h11, Bool.not_true, Bool.not_false]) rfl ?_
                refine L_run (R_pickF rfl (by simp only [h11, Bool.not_true, Bool.not_false]) rfl) rfl ?_
                refine L_nil (N_then (C_condF rfl rfl (C_skip (N_in (N_then (C_reg rfl ?_))))))
                refine L_run (R_move rfl) rfl ?_
                refine L_run (R_add64 rfl rfl (by omega)) rfl ?_
                refine L_run (R_assign rfl) rfl ?_
                refine L_nil (N_then ?_)
                have es_ : kvF (chs (l.take i) ++ (l[i]).ch.take (j + 1)) [] = kvF (chs (l.take i) ++ (l[i]).ch.take j) [] := by
                  rw [pre_go hli hlj, kv_snoc, apC_put_no h11 h12]
                exact ⟨(l[i]).ch.length - (j + 1), by omega, _, (j + 1), A2, c2, false, Ac_frg ⟨rfl, rfl, rfl, (agr rfl (by rw [es_])), rfl, rfl, (agr rfl (by first | rfl | (congr 1; omega) | (congr 1; simp; done) | (congr 1; simp only [IntKind.wrap_u64, IntKind.wrap_i64, IntKind.wrap_u8]; omega) | (congr 1 <;> omega))), trivial⟩, hB, hS, hD, (by rw [es_]; exact (own_lo hoP2 (Nat.le_refl _))), (by rw [pre_go hli hlj, fits_snoc, ← hok2, show fit1 (kvF (chs (l.take i) ++ (l[i]).ch.take j) []) ((l[i]).ch[j]) = (_ && _) from rfl, h3]; rfl), (by omega), rfl⟩
            · refine L_no rfl rfl rfl h11 rfl ?_
              refine L_no rfl rfl rfl h11 rfl ?_
              refine L_no rfl rfl rfl h11 rfl ?_
              refine L_no rfl rfl rfl h11 rfl ?_
              refine L_no rfl rfl rfl h11 rfl ?_
              refine L_no rfl rfl rfl h11 rfl ?_
              refine L_run (R_pickF rfl h11 rfl) rfl ?_
              refine L_nil (N_then (C_condF rfl rfl (C_skip (N_then (C_seq (C_reg rfl ?_))))))
              refine L_run (R_field (r := 2) rfl fld34_2 rfl) rfl ?_
              refine L_run (R_load1 rfl scl4 (hb2.cell (i := 2) rfl)) rfl ?_
              refine L_run (R_not rfl) rfl ?_
              refine L_run (R_move rfl) rfl ?_
              refine L_yes rfl rfl rfl (by simp only [h11, Bool.not_true, Bool.not_false]) ?_
              refine L_run (R_field (r := 0) rfl fld34_0 rfl) rfl ?_
              refine L_yes rfl rfl rfl (by simp only [h11, Bool.not_true, Bool.not_false]) ?_
              refine L_run (R_load1 rfl scl9 (hb2.cell (i := 0) rfl)) rfl ?_
              refine L_yes rfl rfl rfl (by simp only [h11, Bool.not_true, Bool.not_false]) ?_
              refine L_run (R_build (pv := [(0, .int .i64 2), (1, .string ((((l[i]).ch)[j]).key))]) (cs := [.int .i64 2, .string ((((l[i]).ch)[j]).key), .string (⟨#[]⟩)]) rfl (by kernel_rfl)) rfl ?_
              refine L_yes rfl rfl rfl (by simp only [h11, Bool.not_true, Bool.not_false]) ?_
              refine L_call rfl cb27 (ref10_Right) rfl ?_
              rintro _ w16 ⟨hs14, rfl⟩
              replace hB := gb_tr hB hs14
              replace hS := hS.gb hs14
              replace hD := hD.gb hs14
              replace hoP2 := own_gb hoP2 hs14
              replace hb2 := hb2.gb hs14
              refine L_run (R_pickT rfl (by simp only [h11, Bool.not_true, Bool.not_false]) rfl) rfl ?_
              refine L_nil (N_then ?_)
              refine C_if rfl (fun h13 => ?_) (fun h13 => ?_)
              · refine C_reg rfl ?_
                refine L_run (R_move rfl) rfl ?_
                refine L_run (R_field (r := 0) rfl fld34_0 rfl) rfl ?_
                refine L_run (R_load1 rfl scl9 (hb2.cell (i := 0) rfl)) rfl ?_
                have ge7 : w.heap.size ≤ w16.heap.size := hB.size
                refine L_call rfl cb29 (rdel_ok (l := kvF (chs (l.take i) ++ (l[i]).ch.take j) []) (key := (((l[i]).ch)[j]).key) (own_of hoP2).2.2 hkb) rfl ?_
                rintro _ w17 ⟨hs15, A_6, c_6, rfl, ho6⟩
                replace hB := gb_tr hB hs15
                replace hS := hS.gb hs15
                replace hD := hD.gb hs15
                replace hoP2 := own_gb hoP2 hs15
                replace hb2 := hb2.gb hs15
                refine L_run (R_assign rfl) rfl ?_
                refine L_nil (N_in (N_then (C_reg rfl ?_)))
                refine L_run (R_move rfl) rfl ?_
                refine L_run (R_add64 rfl rfl (by omega)) rfl ?_
                refine L_run (R_assign rfl) rfl ?_
                refine L_nil (N_then ?_)
                have es_ : kvF (chs (l.take i) ++ (l[i]).ch.take (j + 1)) [] = (delK (kvF (chs (l.take i) ++ (l[i]).ch.take j) []) ((((l[i]).ch)[j]).key)) := by
                  rw [pre_go hli hlj, kv_snoc, apC_del (by rw [h11]; decide) h13]
                exact ⟨(l[i]).ch.length - (j + 1), by omega, _, (j + 1), A_6, c_6, false, Ac_frg ⟨rfl, rfl, rfl, (agr rfl (by rw [es_])), rfl, rfl, (agr rfl (by first | rfl | (congr 1; omega) | (congr 1; simp; done) | (congr 1; simp only [IntKind.wrap_u64, IntKind.wrap_i64, IntKind.wrap_u8]; omega) | (congr 1 <;> omega))), trivial⟩, hB, hS, hD, (by rw [es_]; exact (own_lo ho6 ge7)), (by rw [pre_go hli hlj, fits_snoc, ← hok2, show fit1 (kvF (chs (l.take i) ++ (l[i]).ch.take j) []) ((l[i]).ch[j]) = (_ && _) from rfl, h3]; rfl), (by omega), rfl⟩
              · refine C_skip (N_in (N_then (C_reg rfl ?_)))
                refine L_run (R_move rfl) rfl ?_
                refine L_run (R_add64 rfl rfl (by omega)) rfl ?_
                refine L_run (R_assign rfl) rfl ?_
                refine L_nil (N_then ?_)
                have es_ : kvF (chs (l.take i) ++ (l[i]).ch.take (j + 1)) [] = kvF (chs (l.take i) ++ (l[i]).ch.take j) [] := by
                  rw [pre_go hli hlj, kv_snoc, apC_del_no (by rw [h11]; decide) h13]
                exact ⟨(l[i]).ch.length - (j + 1), by omega, _, (j + 1), A2, c2, false, Ac_frg ⟨rfl, rfl, rfl, (agr rfl (by rw [es_])), rfl, rfl, (agr rfl (by first | rfl | (congr 1; omega) | (congr 1; simp; done) | (congr 1; simp only [IntKind.wrap_u64, IntKind.wrap_i64, IntKind.wrap_u8]; omega) | (congr 1 <;> omega))), trivial⟩, hB, hS, hD, (by rw [es_]; exact (own_lo hoP2 (Nat.le_refl _))), (by rw [pre_go hli hlj, fits_snoc, ← hok2, show fit1 (kvF (chs (l.take i) ++ (l[i]).ch.take j) []) ((l[i]).ch[j]) = (_ && _) from rfl, h3]; rfl), (by omega), rfl⟩
        · refine C_exit (X_then (X_then (X_hit (N_in (N_then (C_reg rfl ?_))))))
          refine L_run (R_move rfl) rfl ?_
          refine L_run (R_add64 rfl rfl (by omega)) rfl ?_
          refine L_run (R_assign rfl) rfl ?_
          refine L_nil (N_then ?_)
          have pe_ := pre_end (l := l) (i := i) (j := j) hli (by omega)
          exact ⟨l.length - (i + 1), by omega, _, (i + 1), A2, c2, okb2, Ac_frg ⟨rfl, rfl, rfl, (agr rfl (by rw [← pe_])), rfl, (agr rfl (by first | rfl | (congr 1; omega) | (congr 1; simp; done) | (congr 1; simp only [IntKind.wrap_u64, IntKind.wrap_i64, IntKind.wrap_u8]; omega) | (congr 1 <;> omega))), trivial⟩, hB, hS, hD, (by rw [← pe_]; exact (own_lo hoP2 (Nat.le_refl _))), (by rw [← pe_]; exact hok2), (by omega), rfl⟩
    · refine C_exit (X_then (X_then (X_hit (N_then (C_seq (C_reg rfl ?_))))))
      refine L_run (R_move rfl) rfl ?_
      refine L_run (R_move rfl) rfl ?_
      refine L_run (R_assign rfl) rfl ?_
      refine L_run (R_assign rfl) rfl ?_
      refine L_nil (N_then (C_ret ?_))
      refine ret2 Try.results7 rfl rfl ?_
      have pe_ := chs_all (l := l) (i := i) (by omega)
      rw [← pe_, ← hok_]; exact ⟨hB, _, _, rfl, (own_lo hoP (Nat.le_refl _))⟩

end Go.Proofs.Ytbmohojdlgedpaa
