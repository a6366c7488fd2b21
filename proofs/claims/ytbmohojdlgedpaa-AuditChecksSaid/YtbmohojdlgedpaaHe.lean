/-
  Contracts of the package table: what a table has, and a key put.
-/
import Derived.Test.YtbmohojdlgedpaaHd
import Derived.Test.YtbmohojdlgedpaaVp
namespace Go.Proofs.Ytbmohojdlgedpaa
open Go.RowKit Gw Pl
set_option linter.unusedVariables false
set_option linter.unusedSimpArgs false
theorem cb47 : callB Try.prog 47 = true := by kernel_rfl
theorem cb51 : callB Try.prog 51 = true := by kernel_rfl
theorem cb52 : callB Try.prog 52 = true := by kernel_rfl
theorem cb53 : callB Try.prog 53 = true := by kernel_rfl
theorem cb63 : callB Try.prog 63 = true := by kernel_rfl
theorem cb65 : callB Try.prog 65 = true := by kernel_rfl
theorem cb66 : callB Try.prog 66 = true := by kernel_rfl
theorem fld120_0 : fldB Try.prog 120 0 0 = true := by kernel_rfl
theorem fld120_1 : fldB Try.prog 120 1 1 = true := by kernel_rfl
theorem fld71_0 : fldB Try.prog 71 0 0 = true := by kernel_rfl
theorem fld71_1 : fldB Try.prog 71 1 1 = true := by kernel_rfl
theorem fld71_2 : fldB Try.prog 71 2 2 = true := by kernel_rfl
theorem str9 : strB Try.prog 9 = true := by kernel_rfl
def apK (l : List Kv) (o : Opd) : List Kv := if OkOp o.kind o.key o.val then (if o.kind = 1 then putK l o.key o.val else delK l o.key) else l
theorem apK_no {l : List Kv} {o : Opd} (h : ¬ OkOp o.kind o.key o.val) : apK l o = l := if_neg h
theorem apK_put {l : List Kv} {o : Opd} (h : OkOp o.kind o.key o.val) (h1 : o.kind = 1) : apK l o = putK l o.key o.val := by unfold apK; rw [if_pos h, if_pos h1]
theorem apK_del {l : List Kv} {o : Opd} (h : OkOp o.kind o.key o.val) (h1 : ¬ o.kind = 1) : apK l o = delK l o.key := by unfold apK; rw [if_pos h, if_neg h1]
theorem apK_sort {l : List Kv} {o : Opd} (h : SortK l) : SortK (apK l o) := by
  unfold apK
  split
  · split
    · exact putK_sort h
    · exact delK_sort h
  · exact h
theorem apK_len {l : List Kv} {o : Opd} : (apK l o).length ≤ l.length + 1 := by
  unfold apK
  split
  · split
    · exact putK_le _
    · exact Nat.le_succ_of_le (delK_le _)
  · exact Nat.le_succ _
theorem apK_key {l : List Kv} {o : Opd} (h : ∀ p ∈ l, p.1.size ≤ 24) : ∀ p ∈ apK l o, p.1.size ≤ 24 := by
  unfold apK
  split
  · rename_i ho
    split
    · intro p hp
      rcases putK_mem hp with rfl | hp
      · exact ho.2.1
      · exact h p hp
    · intro p hp
      exact h p (List.mem_filter.1 hp).1
  · exact h
theorem apF_key : ∀ (os : List Opd) {l : List Kv}, (∀ p ∈ l, p.1.size ≤ 24) → ∀ p ∈ os.foldl apK l, p.1.size ≤ 24
  | [], l, h => h
  | o :: os, l, h => apF_key os (apK_key h)
theorem apF_sort : ∀ (os : List Opd) {l : List Kv}, SortK l → SortK (os.foldl apK l)
  | [], l, h => h
  | o :: os, l, h => apF_sort os (apK_sort h)
theorem apF_len : ∀ (os : List Opd) {l : List Kv}, (os.foldl apK l).length ≤ l.length + os.length
  | [], l => Nat.le_refl _
  | o :: os, l => by
    have h1 := apF_len os (l := apK l o)
    have h2 := apK_len (l := l) (o := o)
    rw [List.foldl_cons, List.length_cons]
    omega
theorem apF_go {l : List Opd} {k : List Kv} {i : Nat} (h : i < l.length) : (l.take (i + 1)).foldl apK k = apK ((l.take i).foldl apK k) l[i] := by
  rw [List.take_succ_eq_append_getElem h, List.foldl_append]
  rfl
theorem op_Right {w : World} {k : Int} {key val : ByteArray} :
    Runs Try.prog 48 #[.agg #[.int .i64 k, .string key, .string val]] w (fun v w' => w.grownBy w' none ∧ v = .bool (decide (OkOp k key val))) := by
  have hB := gb_refl w none
  refine enter Try.func48 Try.ntmps48 rfl rfl ?_
  refine C_seq (C_reg rfl ?_)
  refine L_box (cs := [.int .i64 k, .string key, .string val]) rfl rfl rfl ?_
  intro g1 w1 eg1 hb1 hs1 hz1
  have ge1 : w.heap.size ≤ g1 := eg_ge hB eg1
  replace hB := gb_tr hB hs1
  refine L_run (R_assign rfl) rfl ?_
  refine L_nil (N_then (C_seq (C_seq (C_reg rfl ?_))))
  refine L_run (R_field (r := 1) rfl fld71_1 rfl) rfl ?_
  refine L_run (R_load1 rfl scl9 (hb1.cell (i := 1) rfl)) rfl ?_
  refine L_run (R_lenS rfl str9) rfl ?_
  refine L_run (R_lss rfl rfl) rfl ?_
  refine L_run (R_move rfl) rfl ?_
  refine L_splitD (p := (key.size : Int) < 1) (fun h1 => ?_) (fun h1 => ?_)
  · refine L_no rfl rfl rfl (decide_eq_true h1) rfl ?_
    refine L_no rfl rfl rfl (decide_eq_true h1) rfl ?_
    refine L_no rfl rfl rfl (decide_eq_true h1) rfl ?_
    refine L_no rfl rfl rfl (decide_eq_true h1) rfl ?_
    refine L_run (R_pickT rfl (decide_eq_true h1) rfl) rfl ?_
    refine L_nil (N_then (C_condT rfl rfl (C_seq (C_reg rfl ?_))))
    refine L_run (R_assign rfl) rfl ?_
    refine L_nil (N_then (C_ret (R_then ?_)))
    refine ret1 Try.results48 rfl ?_
    first
      | (exfalso; omega)
      | (exact ⟨hB, bF (by unfold OkOp; first | omega | (simp only [empty_iff] at *; omega))⟩)
  · refine L_yes rfl rfl rfl (decide_eq_false h1) ?_
    refine L_run (R_field (r := 1) rfl fld71_1 rfl) rfl ?_
    refine L_yes rfl rfl rfl (decide_eq_false h1) ?_
    refine L_run (R_load1 rfl scl9 (hb1.cell (i := 1) rfl)) rfl ?_
    refine L_yes rfl rfl rfl (decide_eq_false h1) ?_
    refine L_run (R_lenS rfl str9) rfl ?_
    refine L_yes rfl rfl rfl (decide_eq_false h1) ?_
    refine L_run (R_gtr rfl rfl) rfl ?_
    refine L_run (R_pickF rfl (decide_eq_false h1) rfl) rfl ?_
    refine L_nil (N_then ?_)
    refine C_if rfl (fun h2 => ?_) (fun h2 => ?_)
    · refine C_seq (C_reg rfl ?_)
      refine L_run (R_assign rfl) rfl ?_
      refine L_nil (N_then (C_ret (R_then ?_)))
      refine ret1 Try.results48 rfl ?_
      first
        | (exfalso; omega)
        | (exact ⟨hB, bF (by unfold OkOp; first | omega | (simp only [empty_iff] at *; omega))⟩)
    · refine C_skip (N_then (C_seq (C_seq (C_reg rfl ?_))))
      refine L_run (R_field (r := 0) rfl fld71_0 rfl) rfl ?_
      refine L_run (R_load1 rfl scl3 (hb1.cell (i := 0) rfl)) rfl ?_
      refine L_nil (N_then (C_block (C_seq (C_reg rfl ?_))))
      refine L_run (R_eql rfl rfl) rfl ?_
      refine L_run (R_assign rfl) rfl ?_
      refine L_nil (N_then ?_)
      refine C_if rfl (fun h3 => ?_) (fun h3 => ?_)
      · refine C_seq (C_reg rfl ?_)
        refine L_run (R_field (r := 2) rfl fld71_2 rfl) rfl ?_
        refine L_run (R_load1 rfl scl9 (hb1.cell (i := 2) rfl)) rfl ?_
        refine L_run (R_lenS rfl str9) rfl ?_
        refine L_run (R_leq rfl rfl) rfl ?_
        refine L_run (R_assign rfl) rfl ?_
        refine L_nil (N_then (C_ret (R_in (R_then ?_))))
        refine ret1 Try.results48 rfl ?_
        first
          | (exfalso; omega)
          | (exact ⟨hB, bD (by unfold OkOp; first | omega | (simp only [empty_iff]; omega))⟩)
      · refine C_seq (C_reg rfl ?_)
        refine L_run (R_eql rfl rfl) rfl ?_
        refine L_run (R_assign rfl) rfl ?_
        refine L_nil (N_then ?_)
        refine C_if rfl (fun h4 => ?_) (fun h4 => ?_)
        · refine C_seq (C_reg rfl ?_)
          refine L_run (R_field (r := 2) rfl fld71_2 rfl) rfl ?_
          refine L_run (R_load1 rfl scl9 (hb1.cell (i := 2) rfl)) rfl ?_
          refine L_run (R_eqlS rfl rfl) rfl ?_
          refine L_run (R_assign rfl) rfl ?_
          refine L_nil (N_then (C_ret (R_in (R_then ?_))))
          refine ret1 Try.results48 rfl ?_
          first
            | (exfalso; omega)
            | (exact ⟨hB, bD (by unfold OkOp; first | omega | (simp only [empty_iff]; omega))⟩)
        · refine C_skip (N_in (N_then (C_seq (C_reg rfl ?_))))
          refine L_run (R_assign rfl) rfl ?_
          refine L_nil (N_then (C_ret ?_))
          refine ret1 Try.results48 rfl ?_
          first
            | (exfalso; omega)
            | (exact ⟨hB, bF (by unfold OkOp; first | omega | (simp only [empty_iff] at *; omega))⟩)

theorem ref10_Right {w : World} {k : Int} {key val : ByteArray} :
    Runs Try.prog 27 #[.agg #[.int .i64 k, .string key, .string val]] w (fun v w' => w.grownBy w' none ∧ v = .bool (decide (OkOp k key val))) := by
  have hB := gb_refl w none
  refine enter Try.func27 Try.ntmps27 rfl rfl ?_
  refine C_seq (C_reg rfl ?_)
  refine L_box (cs := [.int .i64 k, .string key, .string val]) rfl rfl rfl ?_
  intro g1 w1 eg1 hb1 hs1 hz1
  have ge1 : w.heap.size ≤ g1 := eg_ge hB eg1
  replace hB := gb_tr hB hs1
  refine L_run (R_assign rfl) rfl ?_
  refine L_nil (N_then (C_seq (C_seq (C_reg rfl ?_))))
  refine L_run (R_field (r := 1) rfl fld71_1 rfl) rfl ?_
  refine L_run (R_load1 rfl scl9 (hb1.cell (i := 1) rfl)) rfl ?_
  refine L_run (R_lenS rfl str9) rfl ?_
  refine L_run (R_eql rfl rfl) rfl ?_
  refine L_run (R_move rfl) rfl ?_
  refine L_splitD (p := (key.size : Int) = 0) (fun h1 => ?_) (fun h1 => ?_)
  · refine L_no rfl rfl rfl (decide_eq_true h1) rfl ?_
    refine L_no rfl rfl rfl (decide_eq_true h1) rfl ?_
    refine L_no rfl rfl rfl (decide_eq_true h1) rfl ?_
    refine L_no rfl rfl rfl (decide_eq_true h1) rfl ?_
    refine L_run (R_pickT rfl (decide_eq_true h1) rfl) rfl ?_
    refine L_run (R_move rfl) rfl ?_
    refine L_no rfl rfl rfl rfl rfl ?_
    refine L_no rfl rfl rfl rfl rfl ?_
    refine L_no rfl rfl rfl rfl rfl ?_
    refine L_no rfl rfl rfl rfl rfl ?_
    refine L_run (R_pickT rfl rfl rfl) rfl ?_
    refine L_nil (N_then (C_condT rfl rfl (C_seq (C_reg rfl ?_))))
    refine L_run (R_assign rfl) rfl ?_
    refine L_nil (N_then (C_ret (R_then ?_)))
    refine ret1 Try.results27 rfl ?_
    first
      | (exfalso; omega)
      | (exact ⟨hB, bF (by unfold OkOp; first | omega | (simp only [empty_iff] at *; omega))⟩)
  · refine L_yes rfl rfl rfl (decide_eq_false h1) ?_
    refine L_run (R_field (r := 1) rfl fld71_1 rfl) rfl ?_
    refine L_yes rfl rfl rfl (decide_eq_false h1) ?_
    refine L_run (R_load1 rfl scl9 (hb1.cell (i := 1) rfl)) rfl ?_
    refine L_yes rfl rfl rfl (decide_eq_false h1) ?_
    refine L_run (R_lenS rfl str9) rfl ?_
    refine L_yes rfl rfl rfl (decide_eq_false h1) ?_
    refine L_run (R_gtr rfl rfl) rfl ?_
    refine L_run (R_pickF rfl (decide_eq_false h1) rfl) rfl ?_
    refine L_run (R_move rfl) rfl ?_
    refine L_splitD (p := 24 < (key.size : Int)) (fun h2 => ?_) (fun h2 => ?_)
    · refine L_no rfl rfl rfl (decide_eq_true h2) rfl ?_
      refine L_no rfl rfl rfl (decide_eq_true h2) rfl ?_
      refine L_no rfl rfl rfl (decide_eq_true h2) rfl ?_
      refine L_no rfl rfl rfl (decide_eq_true h2) rfl ?_
      refine L_run (R_pickT rfl (decide_eq_true h2) rfl) rfl ?_
      refine L_nil (N_then (C_condT rfl rfl (C_seq (C_reg rfl ?_))))
      refine L_run (R_assign rfl) rfl ?_
      refine L_nil (N_then (C_ret (R_then ?_)))
      refine ret1 Try.results27 rfl ?_
      first
        | (exfalso; omega)
        | (exact ⟨hB, bF (by unfold OkOp; first | omega | (simp only [empty_iff] at *; omega))⟩)
    · refine L_yes rfl rfl rfl (decide_eq_false h2) ?_
      refine L_run (R_field (r := 2) rfl fld71_2 rfl) rfl ?_
      refine L_yes rfl rfl rfl (decide_eq_false h2) ?_
      refine L_run (R_load1 rfl scl9 (hb1.cell (i := 2) rfl)) rfl ?_
      refine L_yes rfl rfl rfl (decide_eq_false h2) ?_
      refine L_run (R_lenS rfl str9) rfl ?_
      refine L_yes rfl rfl rfl (decide_eq_false h2) ?_
      refine L_run (R_gtr rfl rfl) rfl ?_
      refine L_run (R_pickF rfl (decide_eq_false h2) rfl) rfl ?_
      refine L_nil (N_then ?_)
      refine C_if rfl (fun h3 => ?_) (fun h3 => ?_)
      · refine C_seq (C_reg rfl ?_)
        refine L_run (R_assign rfl) rfl ?_
        refine L_nil (N_then (C_ret (R_then ?_)))
        refine ret1 Try.results27 rfl ?_
        first
          | (exfalso; omega)
          | (exact ⟨hB, bF (by unfold OkOp; first | omega | (simp only [empty_iff] at *; omega))⟩)
      · refine C_skip (N_then (C_seq (C_reg rfl ?_)))
        refine L_run (R_field (r := 0) rfl fld71_0 rfl) rfl ?_
        refine L_run (R_load1 rfl scl3 (hb1.cell (i := 0) rfl)) rfl ?_
        refine L_run (R_eql rfl rfl) rfl ?_
        refine L_run (R_move rfl) rfl ?_
        refine L_splitD (p := k = 1) (fun h4 => ?_) (fun h4 => ?_)
        · refine L_no rfl rfl rfl (decide_eq_true h4) rfl ?_
          refine L_no rfl rfl rfl (decide_eq_true h4) rfl ?_
          refine L_no rfl rfl rfl (decide_eq_true h4) rfl ?_
          refine L_no rfl rfl rfl (decide_eq_true h4) rfl ?_
          refine L_noU rfl rfl rfl rfl ?_
          refine L_noU rfl rfl rfl rfl ?_
          refine L_noU rfl rfl rfl rfl ?_
          refine L_no rfl rfl rfl (decide_eq_true h4) rfl ?_
          refine L_run (R_pickT rfl (decide_eq_true h4) rfl) rfl ?_
          refine L_run (R_assign rfl) rfl ?_
          refine L_nil (N_then (C_ret ?_))
          refine ret1 Try.results27 rfl ?_
          first
            | (exfalso; omega)
            | (exact ⟨hB, bT (by unfold OkOp; first | omega | (simp only [empty_iff] at *; omega))⟩)
        · refine L_yes rfl rfl rfl (decide_eq_false h4) ?_
          refine L_run (R_field (r := 0) rfl fld71_0 rfl) rfl ?_
          refine L_yes rfl rfl rfl (decide_eq_false h4) ?_
          refine L_run (R_load1 rfl scl3 (hb1.cell (i := 0) rfl)) rfl ?_
          refine L_yes rfl rfl rfl (decide_eq_false h4) ?_
          refine L_run (R_eql rfl rfl) rfl ?_
          refine L_yes rfl rfl rfl (decide_eq_false h4) ?_
          refine L_run (R_move rfl) rfl ?_
          refine L_splitD (p := k = 2) (fun h5 => ?_) (fun h5 => ?_)
          · refine L_yes rfl rfl rfl (decide_eq_true h5) ?_
            refine L_run (R_field (r := 2) rfl fld71_2 rfl) rfl ?_
            refine L_yes rfl rfl rfl (decide_eq_true h5) ?_
            refine L_run (R_load1 rfl scl9 (hb1.cell (i := 2) rfl)) rfl ?_
            refine L_yes rfl rfl rfl (decide_eq_true h5) ?_
            refine L_run (R_eqlS rfl rfl) rfl ?_
            refine L_yes rfl rfl rfl (decide_eq_false h4) ?_
            refine L_run (R_pickT rfl (decide_eq_true h5) rfl) rfl ?_
            refine L_run (R_pickF rfl (decide_eq_false h4) rfl) rfl ?_
            refine L_run (R_assign rfl) rfl ?_
            refine L_nil (N_then (C_ret ?_))
            refine ret1 Try.results27 rfl ?_
            first
              | (exfalso; omega)
              | (exact ⟨hB, bD (by unfold OkOp; first | omega | (simp only [empty_iff]; omega))⟩)
          · refine L_no rfl rfl rfl (decide_eq_false h5) rfl ?_
            refine L_no rfl rfl rfl (decide_eq_false h5) rfl ?_
            refine L_no rfl rfl rfl (decide_eq_false h5) rfl ?_
            refine L_yes rfl rfl rfl (decide_eq_false h4) ?_
            refine L_run (R_pickF rfl (decide_eq_false h5) rfl) rfl ?_
            refine L_run (R_pickF rfl (decide_eq_false h4) rfl) rfl ?_
            refine L_run (R_assign rfl) rfl ?_
            refine L_nil (N_then (C_ret ?_))
            refine ret1 Try.results27 rfl ?_
            first
              | (exfalso; omega)
              | (exact ⟨hB, bF (by unfold OkOp; first | omega | (simp only [empty_iff] at *; omega))⟩)

theorem tabnew_ok {w : World} :
    Runs Try.prog 30 #[] w (fun v_ w' => w.grownBy w' none ∧ ∃ gT gt, w.heap.size ≤ gT ∧ w.heap.size ≤ gt ∧ v_ = .pointer (some ⟨gT, 0, none⟩) ∧ Blk w' gT 120 [.pointer (some ⟨gt, 0, none⟩), .int .i64 0] ∧ Blk w' gt 138 [.pointer (taddr .nil), .int .i64 0]) := by
  have hB := gb_refl w none
  refine enter Try.func30 Try.ntmps30 rfl rfl ?_
  refine C_seq (C_reg rfl ?_)
  refine L_run (R_assign rfl) rfl ?_
  refine L_nil (N_then (C_seq (C_reg rfl ?_)))
  have ge2 : w.heap.size ≤ w.heap.size := hB.size
  refine L_call rfl cb47 (tnew_ok) rfl ?_
  rintro _ w1 ⟨hs1, g1, ge1, rfl, hb1⟩
  replace hB := gb_tr hB hs1
  refine L_run (R_build (pv := [(0, .pointer (some ⟨g1, 0, none⟩))]) (cs := [.pointer (some ⟨g1, 0, none⟩), .int .i64 0]) rfl (by kernel_rfl)) rfl ?_
  refine L_box (cs := [.pointer (some ⟨g1, 0, none⟩), .int .i64 0]) rfl rfl rfl ?_
  intro g2 w2 eg1 hb2 hs2 hz1
  have ge3 : w.heap.size ≤ g2 := eg_ge hB eg1
  have lt1 : g1 < g2 := lt_of_eg hb1.lt eg1
  replace hB := gb_tr hB hs2
  replace hb1 := hb1.gb hs2
  refine L_run (R_assign rfl) rfl ?_
  refine L_nil (N_then (C_ret ?_))
  refine ret1 Try.results30 rfl ?_
  exact ⟨hB, g2, g1, ge3, (Nat.le_trans ge2 ge1), rfl, hb2, hb1⟩

theorem tabtree_ok {w : World} {gT gt : Nat} {p : Value} (hb : Blk w gT 120 [.pointer (some ⟨gt, 0, none⟩), p]) :
    Runs Try.prog 53 #[.pointer (some ⟨gT, 0, none⟩)] w (fun v_ w' => w.grownBy w' none ∧ v_ = .pointer (some ⟨gt, 0, none⟩)) := by
  have hB := gb_refl w none
  refine enter Try.func53 Try.ntmps53 rfl rfl ?_
  refine C_seq (C_reg rfl ?_)
  refine L_run (R_assign rfl) rfl ?_
  refine L_nil (N_then (C_seq (C_seq (C_reg rfl ?_))))
  refine L_run (R_move rfl) rfl ?_
  refine L_run (R_eqlpPN rfl rfl Try.underlying76) rfl ?_
  refine L_nil (N_then (C_condF rfl rfl (C_skip (N_then (C_seq (C_reg rfl ?_))))))
  refine L_run (R_move rfl) rfl ?_
  refine L_run (R_nilck rfl) rfl ?_
  refine L_run (R_field (r := 0) rfl fld120_0 rfl) rfl ?_
  refine L_run (R_load1 rfl scl117 (hb.cell (i := 0) rfl)) rfl ?_
  refine L_run (R_assign rfl) rfl ?_
  refine L_nil (N_then (C_ret ?_))
  refine ret1 Try.results53 rfl ?_
  exact ⟨hB, rfl⟩

theorem tabget_ok {w : World} {gT gt hi : Nat} {t : Tr} {bs : Int} {key : ByteArray} (hbT : Blk w gT 120 [.pointer (some ⟨gt, 0, none⟩), .int .i64 bs]) (hbt : Blk w gt 138 [.pointer (taddr t), .int .i64 (t.kvs.length : Int)]) (hT : TreeF 148 hi w t) (hs : SortK t.kvs) :
    Runs Try.prog 34 #[.pointer (some ⟨gT, 0, none⟩), .string key] w (fun v_ w' => w.grownBy w' none ∧ v_ = .tuple #[.string (gO (getK t.kvs key)), .bool (getK t.kvs key).isSome]) := by
  have hB := gb_refl w none
  refine enter Try.func34 Try.ntmps34 rfl rfl ?_
  refine C_seq (C_reg rfl ?_)
  refine L_run (R_assign rfl) rfl ?_
  refine L_run (R_assign rfl) rfl ?_
  refine L_nil (N_then (C_seq (C_reg rfl ?_)))
  refine L_run (R_move rfl) rfl ?_
  refine L_call rfl cb53 (tabtree_ok hbT) rfl ?_
  rintro _ w1 ⟨hs1, rfl⟩
  replace hB := gb_tr hB hs1
  replace hbT := hbT.gb hs1
  replace hbt := hbt.gb hs1
  replace hT := hT.gb hs1
  refine L_run (R_move rfl) rfl ?_
  refine L_call rfl cb54 (get_ok (t := t) (key := key) hbt hT hs) rfl ?_
  rintro _ w2 ⟨hs2, rfl⟩
  replace hB := gb_tr hB hs2
  replace hbT := hbT.gb hs2
  replace hbt := hbt.gb hs2
  replace hT := hT.gb hs2
  refine L_run (R_extract rfl rfl) rfl ?_
  refine L_run (R_extract rfl rfl) rfl ?_
  refine L_run (R_assign rfl) rfl ?_
  refine L_run (R_assign rfl) rfl ?_
  refine L_nil (N_then (C_ret ?_))
  refine ret2 Try.results34 rfl rfl ?_
  exact ⟨hB, rfl⟩

theorem tablen_ok {w : World} {gT gt : Nat} {p q : Value} {n : Int} (hbT : Blk w gT 120 [.pointer (some ⟨gt, 0, none⟩), p]) (hbt : Blk w gt 138 [q, .int .i64 n]) :
    Runs Try.prog 52 #[.pointer (some ⟨gT, 0, none⟩)] w (fun v_ w' => w.grownBy w' none ∧ v_ = .int .i64 n) := by
  have hB := gb_refl w none
  refine enter Try.func52 Try.ntmps52 rfl rfl ?_
  refine C_seq (C_reg rfl ?_)
  refine L_run (R_assign rfl) rfl ?_
  refine L_nil (N_then (C_seq (C_reg rfl ?_)))
  refine L_run (R_move rfl) rfl ?_
  refine L_call rfl cb53 (tabtree_ok hbT) rfl ?_
  rintro _ w1 ⟨hs1, rfl⟩
  replace hB := gb_tr hB hs1
  replace hbT := hbT.gb hs1
  replace hbt := hbt.gb hs1
  refine L_call rfl cb66 (tlen_ok hbt) rfl ?_
  rintro _ w2 ⟨hs2, rfl⟩
  replace hB := gb_tr hB hs2
  replace hbT := hbT.gb hs2
  replace hbt := hbt.gb hs2
  refine L_run (R_assign rfl) rfl ?_
  refine L_nil (N_then (C_ret ?_))
  refine ret1 Try.results52 rfl ?_
  exact ⟨hB, rfl⟩

theorem tabrange_ok {w : World} {gT gt hi : Nat} {t : Tr} {bs : Int} (hbT : Blk w gT 120 [.pointer (some ⟨gt, 0, none⟩), .int .i64 bs]) (hbt : Blk w gt 138 [.pointer (taddr t), .int .i64 (t.kvs.length : Int)]) (hT : TreeF 148 hi w t) (hs : SortK t.kvs) (hk : ∀ p ∈ t.kvs, p.1.size ≤ 1000000) (hc : t.kvs.length ≤ 1000000) :
    Runs Try.prog 51 #[.pointer (some ⟨gT, 0, none⟩), .string (⟨#[]⟩), .string (⟨#[]⟩), .int .i64 (t.kvs.length : Int)] w (fun v_ w' => w.grownBy w' none ∧ ∃ A' c', v_ = .slice A' t.kvs.length c' ∧ World.ownsRow w' w.heap.size 75 2 (.slice A' t.kvs.length c') t.kvs.length (fl encK t.kvs)) := by
  have hB := gb_refl w none
  refine enter Try.func51 Try.ntmps51 rfl rfl ?_
  refine C_seq (C_reg rfl ?_)
  refine L_run (R_assign rfl) rfl ?_
  refine L_nil (N_then (C_seq (C_reg rfl ?_)))
  refine L_run (R_move rfl) rfl ?_
  refine L_call rfl cb53 (tabtree_ok hbT) rfl ?_
  rintro _ w1 ⟨hs1, rfl⟩
  replace hB := gb_tr hB hs1
  replace hbT := hbT.gb hs1
  replace hbt := hbt.gb hs1
  replace hT := hT.gb hs1
  refine L_run (R_move rfl) rfl ?_
  refine L_run (R_move rfl) rfl ?_
  refine L_run (R_move rfl) rfl ?_
  have ge1 : w.heap.size ≤ w1.heap.size := hB.size
  refine L_call rfl cb65 (range_ok (t := t) hbt hT hs hk hc) rfl ?_
  rintro _ w2 ⟨hs2, A_1, c_1, rfl, ho1⟩
  replace hB := gb_tr hB hs2
  replace hbT := hbT.gb hs2
  replace hbt := hbt.gb hs2
  replace hT := hT.gb hs2
  refine L_run (R_assign rfl) rfl ?_
  refine L_nil (N_then (C_ret ?_))
  refine ret1 Try.results51 rfl ?_
  exact ⟨hB, _, _, rfl, (own_lo ho1 ge1)⟩

theorem tabpairs_ok {w : World} {gT gt hi : Nat} {t : Tr} {bs : Int} (hbT : Blk w gT 120 [.pointer (some ⟨gt, 0, none⟩), .int .i64 bs]) (hbt : Blk w gt 138 [.pointer (taddr t), .int .i64 (t.kvs.length : Int)]) (hT : TreeF 148 hi w t) (hs : SortK t.kvs) (hk : ∀ p ∈ t.kvs, p.1.size ≤ 1000000) (hc : t.kvs.length ≤ 1000000) :
    Runs Try.prog 33 #[.pointer (some ⟨gT, 0, none⟩)] w (fun v_ w' => w.grownBy w' none ∧ ∃ A' c', v_ = .slice A' t.kvs.length c' ∧ World.ownsRow w' w.heap.size 75 2 (.slice A' t.kvs.length c') t.kvs.length (fl encK t.kvs)) := by
  have hB := gb_refl w none
  refine enter Try.func33 Try.ntmps33 rfl rfl ?_
  refine C_seq (C_reg rfl ?_)
  refine L_run (R_assign rfl) rfl ?_
  refine L_nil (N_then (C_seq (C_reg rfl ?_)))
  refine L_run (R_move rfl) rfl ?_
  refine L_run (R_move rfl) rfl ?_
  refine L_call rfl cb52 (tablen_ok hbT hbt) rfl ?_
  rintro _ w1 ⟨hs1, rfl⟩
  replace hB := gb_tr hB hs1
  replace hbT := hbT.gb hs1
  replace hbt := hbt.gb hs1
  replace hT := hT.gb hs1
  have ge1 : w.heap.size ≤ w1.heap.size := hB.size
  refine L_call rfl cb51 (tabrange_ok (t := t) hbT hbt hT hs hk hc) rfl ?_
  rintro _ w2 ⟨hs2, A_1, c_1, rfl, ho1⟩
  replace hB := gb_tr hB hs2
  replace hbT := hbT.gb hs2
  replace hbt := hbt.gb hs2
  replace hT := hT.gb hs2
  refine L_run (R_assign rfl) rfl ?_
  refine L_nil (N_then (C_ret ?_))
  refine ret1 Try.results33 rfl ?_
  exact ⟨hB, _, _, rfl, (own_lo ho1 ge1)⟩

theorem tabput_ok {w wa : World} {gT gt hi : Nat} {t : Tr} {bs : Int} {key x : ByteArray} (hbT : Blk wa gT 120 [.pointer (some ⟨gt, 0, none⟩), .int .i64 bs]) (hbt : Blk wa gt 138 [.pointer (taddr t), .int .i64 (t.kvs.length : Int)]) (hT : TreeF 148 hi wa t) (hs : SortK t.kvs) (hok : t.hok) (hB : w.grownBy wa none) (gT0 : w.heap.size ≤ gT) (gt0 : w.heap.size ≤ gt) (hc : t.cnt ≤ 800000) {J : World → Prop} (hJ : J wa) (hJn : ∀ w w', J w → w.grownBy w' none → J w') (hJt : ∀ w w' cs, J w → Blk w gt 138 cs → w.grownBy w' (some gt) → J w') (hJT : ∀ w w' cs, J w → Blk w gT 120 cs → w.grownBy w' (some gT) → J w') :
    Runs Try.prog 49 #[.pointer (some ⟨gT, 0, none⟩), .string key, .string x] wa (fun _ w' => w.grownBy w' none ∧ J w' ∧ ∃ (t' : Tr) (b' : Int), Blk w' gT 120 [.pointer (some ⟨gt, 0, none⟩), .int .i64 b'] ∧ Blk w' gt 138 [.pointer (taddr t'), .int .i64 (t'.kvs.length : Int)] ∧ TreeF 148 w'.heap.size w' t' ∧ t'.kvs = putK t.kvs key x ∧ t'.hok) := by
  refine enter Try.func49 Try.ntmps49 rfl rfl ?_
  refine C_seq (C_reg rfl ?_)
  refine L_run (R_move rfl) rfl ?_
  refine L_run (R_nilck rfl) rfl ?_
  refine L_run (R_field (r := 0) rfl fld120_0 rfl) rfl ?_
  refine L_run (R_load1 rfl scl117 (hbT.cell (i := 0) rfl)) rfl ?_
  refine L_run (R_move rfl) rfl ?_
  refine L_run (R_move rfl) rfl ?_
  refine L_call rfl cb63 (tput_ok (t := t) (key := key) (x := x) hbt hT hs hok hc) rfl ?_
  rintro _ w1 ⟨hs1, rfl, tr1, hb1, ht1, hkv1, hok1⟩
  replace hB := gb_trg hB hs1 gt0
  replace hbT := hbT.grown hs1 (ne_ty hbT hbt rfl)
  replace hT := hT.other hbt rfl hs1
  replace hJ := hJt _ _ _ hJ hbt hs1
  refine L_run (R_move rfl) rfl ?_
  refine L_run (R_extract rfl rfl) rfl ?_
  refine L_run (R_extract rfl rfl) rfl ?_
  refine L_run (R_assign rfl) rfl ?_
  refine L_run (R_assign rfl) rfl ?_
  refine L_nil (N_then (C_seq (C_reg rfl ?_)))
  refine L_run (R_move rfl) rfl ?_
  refine L_run (R_nilck rfl) rfl ?_
  refine L_run (R_field (r := 1) rfl fld120_1 rfl) rfl ?_
  refine L_run (R_load1 rfl scl3 (hbT.cell (i := 1) rfl)) rfl ?_
  refine L_run (R_move rfl) rfl ?_
  refine L_run (R_lenS rfl str9) rfl ?_
  refine L_run (R_move rfl) rfl ?_
  refine L_run (R_lenS rfl str9) rfl ?_
  refine L_run (R_sub rfl rfl) rfl ?_
  refine L_run (R_add rfl rfl) rfl ?_
  refine L_run (R_nilck rfl) rfl ?_
  refine L_run (R_field (r := 1) rfl fld120_1 rfl) rfl ?_
  refine L_st1 rfl rfl rfl sz3 hbT rfl ?_
  intro w2 hb2 hs2 hz1
  replace hB := gb_trg hB hs2 gT0
  replace hT := hT.other hbT rfl hs2
  replace hJ := hJT _ _ _ hJ hbT hs2
  replace hb1 := hb1.grown hs2 (ne_ty hb1 hbT rfl)
  replace ht1 := ht1.other hbT rfl hs2
  refine L_nil (N_then (C_seq (C_reg rfl ?_)))
  refine L_run (R_move rfl) rfl ?_
  refine L_run (R_not rfl) rfl ?_
  refine L_nil (N_then ?_)
  refine C_cond rfl (fun h1 => ?_) (fun h1 => ?_)
  · refine C_reg rfl ?_
    refine L_run (R_move rfl) rfl ?_
    refine L_run (R_nilck rfl) rfl ?_
    refine L_run (R_field (r := 1) rfl fld120_1 rfl) rfl ?_
    refine L_run (R_load1 rfl scl3 (hb2.cell (i := 1) rfl)) rfl ?_
    refine L_run (R_move rfl) rfl ?_
    refine L_run (R_lenS rfl str9) rfl ?_
    refine L_run (R_add rfl rfl) rfl ?_
    refine L_run (R_nilck rfl) rfl ?_
    refine L_run (R_field (r := 1) rfl fld120_1 rfl) rfl ?_
    refine L_st1 rfl rfl rfl sz3 hb2 rfl ?_
    intro w3 hb3 hs3 hz2
    replace hB := gb_trg hB hs3 gT0
    replace hT := hT.other hb2 rfl hs3
    replace hJ := hJT _ _ _ hJ hb2 hs3
    replace hb1 := hb1.grown hs3 (ne_ty hb1 hb2 rfl)
    replace ht1 := ht1.other hb2 rfl hs3
    refine L_nil ?_
    refine end0 Try.results49 ?_
    exact ⟨hB, hJ, tr1, _, hb3, hb1, ht1.top, hkv1, hok1⟩
  · refine C_skip ?_
    refine end0 Try.results49 ?_
    exact ⟨hB, hJ, tr1, _, hb2, hb1, ht1.top, hkv1, hok1⟩

end Go.Proofs.Ytbmohojdlgedpaa
