/-
  Contracts of the package cursor: all pairs of a tree.
-/
import Derived.Test.YtbmohojdlgedpaaHc
namespace Go.Proofs.Ytbmohojdlgedpaa
open Go.RowKit Gw Pl
set_option linter.unusedVariables false
set_option linter.unusedSimpArgs false
theorem agg75 : aggB Try.prog 75 2 = true := by kernel_rfl
theorem cb79 : callB Try.prog 79 = true := by kernel_rfl
theorem cb80 : callB Try.prog 80 = true := by kernel_rfl
theorem cb81 : callB Try.prog 81 = true := by kernel_rfl
theorem cb82 : callB Try.prog 82 = true := by kernel_rfl
theorem cb91 : callB Try.prog 91 = true := by kernel_rfl
theorem cb92 : callB Try.prog 92 = true := by kernel_rfl
theorem fld162_0 : fldB Try.prog 162 0 0 = true := by kernel_rfl
theorem fld162_1 : fldB Try.prog 162 1 1 = true := by kernel_rfl
theorem fld162_2 : fldB Try.prog 162 2 2 = true := by kernel_rfl
theorem scl117 : sclB Try.prog 117 = true := by kernel_rfl
theorem slc29 : slcB Try.prog 29 75 2 32 = true := by kernel_rfl
theorem sz75 : szB Try.prog 75 2 = true := by kernel_rfl
theorem sz9 : szB Try.prog 9 1 = true := by kernel_rfl
theorem zer75 : (Try.prog.info? 75).bind (·.zero) = some (.agg #[.string (⟨#[]⟩), .string (⟨#[]⟩)]) := by kernel_rfl
def wO (q : Option Kv) : Int := if q.isSome then 1 else 2
def encK (p : Kv) : List Value := [.string p.1, .string p.2]
theorem EncK : Enc encK 2 := ⟨fun _ => rfl, fun _ => rfl⟩
theorem zb_app {k : ByteArray} : Value.string (k ++ ⟨#[0]⟩) = .string (zb k) := by
  congr 1
theorem get_at {l : List Kv} (hs : SortK l) {i : Nat} (hi : i < l.length) : getK l l[i].1 = some l[i].2 := by
  have h : ∀ (l : List Kv), SortK l → ∀ p ∈ l, getK l p.1 = some p.2 := by
    intro l
    induction l with
    | nil => intro _ p hp; cases hp
    | cons q r ih =>
      intro hs p hp
      unfold SortK at hs
      rw [List.pairwise_cons] at hs
      unfold getK
      rcases List.mem_cons.1 hp with rfl | hp
      · simp
      · have hne : q.1 ≠ p.1 := fun e => by have := hs.1 p hp; rw [e] at this; exact slt_irrefl _ this
        rw [List.find?_cons_of_neg (by simpa using hne)]
        exact ih hs.2 p hp
  exact h l hs _ (List.getElem_mem hi)
theorem cnew_ok {w : World} {gt : Nat} :
    Runs Try.prog 79 #[.pointer (some ⟨gt, 0, none⟩)] w (fun v_ w' => w.grownBy w' none ∧ ∃ g, w.heap.size ≤ g ∧ v_ = .pointer (some ⟨g, 0, none⟩) ∧ Blk w' g 162 [.pointer (some ⟨gt, 0, none⟩), .int .i64 0, .string ⟨#[]⟩]) := by
  have hB := gb_refl w none
  refine enter Try.func79 Try.ntmps79 rfl rfl ?_
  refine C_seq (C_reg rfl ?_)
  refine L_run (R_assign rfl) rfl ?_
  refine L_nil (N_then (C_seq (C_reg rfl ?_)))
  refine L_run (R_move rfl) rfl ?_
  refine L_run (R_build (pv := [(0, .pointer (some ⟨gt, 0, none⟩))]) (cs := [.pointer (some ⟨gt, 0, none⟩), .int .i64 0, .string (⟨#[]⟩)]) rfl (by kernel_rfl)) rfl ?_
  refine L_box (cs := [.pointer (some ⟨gt, 0, none⟩), .int .i64 0, .string (⟨#[]⟩)]) rfl rfl rfl ?_
  intro g1 w1 eg1 hb1 hs1 hz1
  have ge1 : w.heap.size ≤ g1 := eg_ge hB eg1
  replace hB := gb_tr hB hs1
  refine L_run (R_assign rfl) rfl ?_
  refine L_nil (N_then (C_ret ?_))
  refine ret1 Try.results79 rfl ?_
  exact ⟨hB, g1, ge1, rfl, hb1⟩

theorem to_t {w : World} {gc : Nat} {p : Value} {k key : ByteArray} {wh : Int} (hb : Blk w gc 162 [p, .int .i64 wh, .string k]) :
    Runs Try.prog 91 #[.pointer (some ⟨gc, 0, none⟩), .string key, .bool true, .int .i64 2] w (fun v_ w' => w.grownBy w' (some gc) ∧ v_ = .bool true ∧ Blk w' gc 162 [p, .int .i64 1, .string key]) := by
  have hB := gb_refl w (some gc)
  refine enter Try.func91 Try.ntmps91 rfl rfl ?_
  refine C_seq (C_reg rfl ?_)
  refine L_run (R_assign rfl) rfl ?_
  refine L_nil (N_then (C_seq (C_reg rfl ?_)))
  refine L_run (R_move rfl) rfl ?_
  refine L_run (R_move rfl) rfl ?_
  refine L_run (R_move rfl) rfl ?_
  refine L_run (R_nilck rfl) rfl ?_
  refine L_run (R_field (r := 1) rfl fld162_1 rfl) rfl ?_
  refine L_st1 rfl rfl rfl sz3 hb rfl ?_
  intro w1 hb1 hs1 hz1
  replace hB := gb_trans hB hs1
  refine L_run (R_nilck rfl) rfl ?_
  refine L_run (R_field (r := 2) rfl fld162_2 rfl) rfl ?_
  refine L_st1 rfl rfl rfl sz9 hb1 rfl ?_
  intro w2 hb2 hs2 hz2
  replace hB := gb_trans hB hs2
  refine L_nil (N_then (C_seq (C_seq (C_reg rfl ?_))))
  refine L_run (R_move rfl) rfl ?_
  refine L_nil (N_then (C_condT rfl rfl (C_reg rfl ?_)))
  refine L_run (R_move rfl) rfl ?_
  refine L_run (R_move rfl) rfl ?_
  refine L_run (R_move rfl) rfl ?_
  refine L_run (R_nilck rfl) rfl ?_
  refine L_run (R_field (r := 1) rfl fld162_1 rfl) rfl ?_
  refine L_st1 rfl rfl rfl sz3 hb2 rfl ?_
  intro w3 hb3 hs3 hz3
  replace hB := gb_trans hB hs3
  refine L_run (R_nilck rfl) rfl ?_
  refine L_run (R_field (r := 2) rfl fld162_2 rfl) rfl ?_
  refine L_st1 rfl rfl rfl sz9 hb3 rfl ?_
  intro w4 hb4 hs4 hz4
  replace hB := gb_trans hB hs4
  refine L_nil (N_then (C_seq (C_reg rfl ?_)))
  refine L_run (R_move rfl) rfl ?_
  refine L_run (R_assign rfl) rfl ?_
  refine L_nil (N_then (C_ret ?_))
  refine ret1 Try.results91 rfl ?_
  exact ⟨hB, rfl, hb4⟩

theorem to_f {w : World} {gc : Nat} {p : Value} {k key : ByteArray} {wh : Int} (hb : Blk w gc 162 [p, .int .i64 wh, .string k]) :
    Runs Try.prog 91 #[.pointer (some ⟨gc, 0, none⟩), .string key, .bool false, .int .i64 2] w (fun v_ w' => w.grownBy w' (some gc) ∧ v_ = .bool false ∧ Blk w' gc 162 [p, .int .i64 2, .string ⟨#[]⟩]) := by
  have hB := gb_refl w (some gc)
  refine enter Try.func91 Try.ntmps91 rfl rfl ?_
  refine C_seq (C_reg rfl ?_)
  refine L_run (R_assign rfl) rfl ?_
  refine L_nil (N_then (C_seq (C_reg rfl ?_)))
  refine L_run (R_move rfl) rfl ?_
  refine L_run (R_move rfl) rfl ?_
  refine L_run (R_move rfl) rfl ?_
  refine L_run (R_nilck rfl) rfl ?_
  refine L_run (R_field (r := 1) rfl fld162_1 rfl) rfl ?_
  refine L_st1 rfl rfl rfl sz3 hb rfl ?_
  intro w1 hb1 hs1 hz1
  replace hB := gb_trans hB hs1
  refine L_run (R_nilck rfl) rfl ?_
  refine L_run (R_field (r := 2) rfl fld162_2 rfl) rfl ?_
  refine L_st1 rfl rfl rfl sz9 hb1 rfl ?_
  intro w2 hb2 hs2 hz2
  replace hB := gb_trans hB hs2
  refine L_nil (N_then (C_seq (C_seq (C_reg rfl ?_))))
  refine L_run (R_move rfl) rfl ?_
  refine L_nil (N_then (C_condF rfl rfl (C_skip (N_then (C_seq (C_reg rfl ?_))))))
  refine L_run (R_move rfl) rfl ?_
  refine L_run (R_assign rfl) rfl ?_
  refine L_nil (N_then (C_ret ?_))
  refine ret1 Try.results91 rfl ?_
  exact ⟨hB, rfl, hb2⟩

theorem to_ok {w : World} {gc : Nat} {p : Value} {k : ByteArray} {wh : Int} (hb : Blk w gc 162 [p, .int .i64 wh, .string k]) {qo : Option Kv} : Runs Try.prog 91 #[.pointer (some ⟨gc, 0, none⟩), .string (kO qo), .bool qo.isSome, .int .i64 2] w (fun v_ w' => w.grownBy w' (some gc) ∧ v_ = .bool qo.isSome ∧ Blk w' gc 162 [p, .int .i64 (wO qo), .string (kO qo)]) := by
  cases qo with
  | none => exact to_f hb
  | some z => exact to_t hb
theorem cseek_ok {w : World} {gc gt hi : Nat} {t : Tr} {n wh : Int} {k key : ByteArray} (hbc : Blk w gc 162 [.pointer (some ⟨gt, 0, none⟩), .int .i64 wh, .string k]) (hbt : Blk w gt 138 [.pointer (taddr t), .int .i64 n]) (hT : TreeF 148 hi w t) (hs : SortK t.kvs) :
    Runs Try.prog 80 #[.pointer (some ⟨gc, 0, none⟩), .string key] w (fun v_ w' => w.grownBy w' (some gc) ∧ v_ = .bool (seekK t.kvs key).isSome ∧ Blk w' gc 162 [.pointer (some ⟨gt, 0, none⟩), .int .i64 (wO (seekK t.kvs key)), .string (kO (seekK t.kvs key))]) := by
  have hB := gb_refl w (some gc)
  refine enter Try.func80 Try.ntmps80 rfl rfl ?_
  refine C_seq (C_reg rfl ?_)
  refine L_run (R_assign rfl) rfl ?_
  refine L_nil (N_then (C_seq (C_seq (C_reg rfl ?_))))
  refine L_run (R_move rfl) rfl ?_
  refine L_run (R_eqlpPN rfl rfl Try.underlying151) rfl ?_
  refine L_nil (N_then (C_condF rfl rfl (C_skip (N_then (C_seq (C_reg rfl ?_))))))
  refine L_run (R_move rfl) rfl ?_
  refine L_run (R_nilck rfl) rfl ?_
  refine L_run (R_field (r := 0) rfl fld162_0 rfl) rfl ?_
  refine L_run (R_load1 rfl scl117 (hbc.cell (i := 0) rfl)) rfl ?_
  refine L_run (R_move rfl) rfl ?_
  refine L_call rfl cb67 (seek_ok (t := t) (key := key) hbt hT hs) rfl ?_
  rintro _ w1 ⟨hs1, rfl⟩
  replace hB := gb_tr hB hs1
  replace hbc := hbc.gb hs1
  replace hbt := hbt.gb hs1
  replace hT := hT.gb hs1
  refine L_run (R_move rfl) rfl ?_
  refine L_run (R_extract rfl rfl) rfl ?_
  refine L_run (R_extract rfl rfl) rfl ?_
  refine L_run (R_extract rfl rfl) rfl ?_
  refine L_run (R_assign rfl) rfl ?_
  refine L_run (R_assign rfl) rfl ?_
  refine L_run (R_assign rfl) rfl ?_
  refine L_nil (N_then (C_seq (C_reg rfl ?_)))
  refine L_run (R_move rfl) rfl ?_
  refine L_run (R_move rfl) rfl ?_
  refine L_run (R_move rfl) rfl ?_
  refine L_call rfl cb91 (to_ok (qo := (seekK t.kvs key)) hbc) rfl ?_
  rintro _ w2 ⟨hs2, rfl, hb1⟩
  replace hB := gb_trans hB hs2
  replace hbt := hbt.grown hs2 (ne_ty hbt hbc rfl)
  replace hT := hT.other hbc rfl hs2
  refine L_run (R_assign rfl) rfl ?_
  refine L_nil (N_then (C_ret ?_))
  refine ret1 Try.results80 rfl ?_
  exact ⟨hB, rfl, hb1⟩

theorem cnext_ok {w : World} {gc gt hi : Nat} {t : Tr} {n : Int} {k : ByteArray} (hbc : Blk w gc 162 [.pointer (some ⟨gt, 0, none⟩), .int .i64 1, .string k]) (hbt : Blk w gt 138 [.pointer (taddr t), .int .i64 n]) (hT : TreeF 148 hi w t) (hs : SortK t.kvs) (hk : k.size ≤ 1000000) :
    Runs Try.prog 81 #[.pointer (some ⟨gc, 0, none⟩)] w (fun v_ w' => w.grownBy w' (some gc) ∧ v_ = .bool (seekK t.kvs (zb k)).isSome ∧ Blk w' gc 162 [.pointer (some ⟨gt, 0, none⟩), .int .i64 (wO (seekK t.kvs (zb k))), .string (kO (seekK t.kvs (zb k)))]) := by
  have hB := gb_refl w (some gc)
  refine enter Try.func81 Try.ntmps81 rfl rfl ?_
  refine C_seq (C_reg rfl ?_)
  refine L_run (R_assign rfl) rfl ?_
  refine L_nil (N_then (C_seq (C_seq (C_reg rfl ?_))))
  refine L_run (R_move rfl) rfl ?_
  refine L_run (R_eqlpPN rfl rfl Try.underlying151) rfl ?_
  refine L_run (R_move rfl) rfl ?_
  refine L_yes rfl rfl rfl rfl ?_
  refine L_run (R_move rfl) rfl ?_
  refine L_yes rfl rfl rfl rfl ?_
  refine L_run (R_nilck rfl) rfl ?_
  refine L_yes rfl rfl rfl rfl ?_
  refine L_run (R_field (r := 1) rfl fld162_1 rfl) rfl ?_
  refine L_yes rfl rfl rfl rfl ?_
  refine L_run (R_load1 rfl scl3 (hbc.cell (i := 1) rfl)) rfl ?_
  refine L_yes rfl rfl rfl rfl ?_
  refine L_run (R_eqv (R_eql rfl rfl) (v' := .bool false) rfl) rfl ?_
  refine L_run (R_pickF rfl rfl rfl) rfl ?_
  refine L_nil (N_then (C_condF rfl rfl (C_skip (N_then (C_seq (C_reg rfl ?_))))))
  refine L_run (R_assign rfl) rfl ?_
  refine L_nil (N_then (C_seq (C_seq (C_reg rfl ?_))))
  refine L_run (R_move rfl) rfl ?_
  refine L_run (R_nilck rfl) rfl ?_
  refine L_run (R_field (r := 1) rfl fld162_1 rfl) rfl ?_
  refine L_run (R_load1 rfl scl3 (hbc.cell (i := 1) rfl)) rfl ?_
  refine L_run (R_eqv (R_eql rfl rfl) (v' := .bool true) rfl) rfl ?_
  refine L_nil (N_then (C_condT rfl rfl (C_reg rfl ?_)))
  refine L_run (R_move rfl) rfl ?_
  refine L_run (R_nilck rfl) rfl ?_
  refine L_run (R_field (r := 2) rfl fld162_2 rfl) rfl ?_
  refine L_run (R_load1 rfl scl9 (hbc.cell (i := 2) rfl)) rfl ?_
  refine L_run (R_eqv (R_addS rfl rfl (by show k.size + 1 ≤ _; omega)) (v' := .string (zb k)) (zb_app)) rfl ?_
  refine L_run (R_assign rfl) rfl ?_
  refine L_nil (N_then (C_seq (C_reg rfl ?_)))
  refine L_run (R_move rfl) rfl ?_
  refine L_run (R_nilck rfl) rfl ?_
  refine L_run (R_field (r := 0) rfl fld162_0 rfl) rfl ?_
  refine L_run (R_load1 rfl scl117 (hbc.cell (i := 0) rfl)) rfl ?_
  refine L_run (R_move rfl) rfl ?_
  refine L_call rfl cb67 (seek_ok (t := t) (key := zb k) hbt hT hs) rfl ?_
  rintro _ w1 ⟨hs1, rfl⟩
  replace hB := gb_tr hB hs1
  replace hbc := hbc.gb hs1
  replace hbt := hbt.gb hs1
  replace hT := hT.gb hs1
  refine L_run (R_move rfl) rfl ?_
  refine L_run (R_extract rfl rfl) rfl ?_
  refine L_run (R_extract rfl rfl) rfl ?_
  refine L_run (R_extract rfl rfl) rfl ?_
  refine L_run (R_assign rfl) rfl ?_
  refine L_run (R_assign rfl) rfl ?_
  refine L_run (R_assign rfl) rfl ?_
  refine L_nil (N_then (C_seq (C_reg rfl ?_)))
  refine L_run (R_move rfl) rfl ?_
  refine L_run (R_move rfl) rfl ?_
  refine L_run (R_move rfl) rfl ?_
  refine L_call rfl cb91 (to_ok (qo := (seekK t.kvs (zb k))) hbc) rfl ?_
  rintro _ w2 ⟨hs2, rfl, hb1⟩
  replace hB := gb_trans hB hs2
  replace hbt := hbt.grown hs2 (ne_ty hbt hbc rfl)
  replace hT := hT.other hbc rfl hs2
  refine L_run (R_assign rfl) rfl ?_
  refine L_nil (N_then (C_ret ?_))
  refine ret1 Try.results81 rfl ?_
  exact ⟨hB, rfl, hb1⟩

theorem con_ok {w : World} {gc : Nat} {p : Value} {k : ByteArray} (hb : Blk w gc 162 [p, .int .i64 1, .string k]) :
    Runs Try.prog 92 #[.pointer (some ⟨gc, 0, none⟩)] w (fun v_ w' => w.grownBy w' none ∧ v_ = .bool true) := by
  have hB := gb_refl w none
  refine enter Try.func92 Try.ntmps92 rfl rfl ?_
  refine C_seq (C_reg rfl ?_)
  refine L_run (R_assign rfl) rfl ?_
  refine L_nil (N_then (C_seq (C_reg rfl ?_)))
  refine L_run (R_move rfl) rfl ?_
  refine L_run (R_neqpPN rfl rfl Try.underlying151) rfl ?_
  refine L_run (R_move rfl) rfl ?_
  refine L_yes rfl rfl rfl rfl ?_
  refine L_run (R_move rfl) rfl ?_
  refine L_yes rfl rfl rfl rfl ?_
  refine L_run (R_nilck rfl) rfl ?_
  refine L_yes rfl rfl rfl rfl ?_
  refine L_run (R_field (r := 1) rfl fld162_1 rfl) rfl ?_
  refine L_yes rfl rfl rfl rfl ?_
  refine L_run (R_load1 rfl scl3 (hb.cell (i := 1) rfl)) rfl ?_
  refine L_yes rfl rfl rfl rfl ?_
  refine L_run (R_eqv (R_eql rfl rfl) (v' := .bool true) rfl) rfl ?_
  refine L_run (R_pickT rfl rfl rfl) rfl ?_
  refine L_run (R_assign rfl) rfl ?_
  refine L_nil (N_then (C_ret ?_))
  refine ret1 Try.results92 rfl ?_
  exact ⟨hB, rfl⟩

theorem cpair_ok {w : World} {gc gt hi : Nat} {t : Tr} {n : Int} {k x : ByteArray} (hbc : Blk w gc 162 [.pointer (some ⟨gt, 0, none⟩), .int .i64 1, .string k]) (hbt : Blk w gt 138 [.pointer (taddr t), .int .i64 n]) (hT : TreeF 148 hi w t) (hs : SortK t.kvs) (hg : getK t.kvs k = some x) :
    Runs Try.prog 82 #[.pointer (some ⟨gc, 0, none⟩)] w (fun v_ w' => w.grownBy w' none ∧ v_ = .tuple #[.agg #[.string k, .string x], .bool true]) := by
  have hB := gb_refl w none
  refine enter Try.func82 Try.ntmps82 rfl rfl ?_
  refine C_seq (C_reg rfl ?_)
  refine L_alloc (cs := [.string (⟨#[]⟩), .string (⟨#[]⟩)]) zer75 rfl rfl ?_
  intro g1 w1 eg1 hb1 hs1 hz1
  have ge1 : w.heap.size ≤ g1 := eg_ge hB eg1
  have lt1 : gc < g1 := lt_of_eg hbc.lt eg1
  have lt2 : gt < g1 := lt_of_eg hbt.lt eg1
  replace hB := gb_tr hB hs1
  replace hbc := hbc.gb hs1
  replace hbt := hbt.gb hs1
  replace hT := hT.gb hs1
  refine L_run (R_assign rfl) rfl ?_
  refine L_nil (N_then (C_seq (C_seq (C_reg rfl ?_))))
  refine L_run (R_move rfl) rfl ?_
  refine L_call rfl cb92 (con_ok hbc) rfl ?_
  rintro _ w2 ⟨hs2, rfl⟩
  replace hB := gb_tr hB hs2
  replace hbc := hbc.gb hs2
  replace hbt := hbt.gb hs2
  replace hT := hT.gb hs2
  replace hb1 := hb1.gb hs2
  refine L_run (R_not rfl) rfl ?_
  refine L_nil (N_then (C_condF rfl rfl (C_skip (N_then (C_seq ?_)))))
  refine C_draw2 rfl mix ?_
  intro w3 hs3 hz2
  replace hB := gb_tr hB hs3
  replace hbc := hbc.gb hs3
  replace hbt := hbt.gb hs3
  replace hT := hT.gb hs3
  replace hb1 := hb1.gb hs3
  refine ⟨fun W_ => Blk W_ gc 162 [.pointer (some ⟨gt, 0, none⟩), .int .i64 1, .string k] ∧ True, [0, 1, 2, 3, 4, 5, 6, 7, 9, 10, 11, 12, 13], ?_⟩
  refine T_takeA (i := 0) rfl (by kernel_rfl) (by kernel_rfl) (by kernel_rfl) (by kernel_rfl) (Y_of (fun _ ⟨hbc, _⟩ => R_move rfl)) ⟨hbc, trivial⟩ rfl ?_
  refine T_takeA (i := 1) rfl (by kernel_rfl) (by kernel_rfl) (by kernel_rfl) (by kernel_rfl) (Y_of (fun _ ⟨hbc, _⟩ => R_nilck rfl)) ⟨hbc, trivial⟩ rfl ?_
  refine T_takeA (i := 2) rfl (by kernel_rfl) (by kernel_rfl) (by kernel_rfl) (by kernel_rfl) (Y_of (fun _ ⟨hbc, _⟩ => R_field (r := 0) rfl fld162_0 rfl)) ⟨hbc, trivial⟩ rfl ?_
  refine T_takeA (i := 3) rfl (by kernel_rfl) (by kernel_rfl) (by kernel_rfl) (by kernel_rfl) (Y_of (fun _ ⟨hbc, _⟩ => R_load1 rfl scl117 (hbc.cell (i := 0) rfl))) ⟨hbc, trivial⟩ rfl ?_
  refine T_takeA (i := 4) rfl (by kernel_rfl) (by kernel_rfl) (by kernel_rfl) (by kernel_rfl) (Y_of (fun _ ⟨hbc, _⟩ => R_move rfl)) ⟨hbc, trivial⟩ rfl ?_
  refine T_takeA (i := 5) rfl (by kernel_rfl) (by kernel_rfl) (by kernel_rfl) (by kernel_rfl) (Y_of (fun _ ⟨hbc, _⟩ => R_nilck rfl)) ⟨hbc, trivial⟩ rfl ?_
  refine T_takeA (i := 6) rfl (by kernel_rfl) (by kernel_rfl) (by kernel_rfl) (by kernel_rfl) (Y_of (fun _ ⟨hbc, _⟩ => R_field (r := 2) rfl fld162_2 rfl)) ⟨hbc, trivial⟩ rfl ?_
  refine T_takeA (i := 7) rfl (by kernel_rfl) (by kernel_rfl) (by kernel_rfl) (by kernel_rfl) (Y_of (fun _ ⟨hbc, _⟩ => R_load1 rfl scl9 (hbc.cell (i := 2) rfl))) ⟨hbc, trivial⟩ rfl ?_
  refine T_all (rs := [8]) (by kernel_rfl) rfl (all1 (O_one rfl ?_))
  refine L_call rfl cb54 (get_ok (t := t) (key := k) hbt hT hs) rfl ?_
  rintro _ w4 ⟨hs4, rfl⟩
  replace hB := gb_tr hB hs4
  replace hbc := hbc.gb hs4
  replace hbt := hbt.gb hs4
  replace hT := hT.gb hs4
  replace hb1 := hb1.gb hs4
  refine L_nil (N_then ⟨fun hN_ => ⟨hbc, trivial⟩, ?_⟩)
  refine T_takeA (i := 9) rfl (by kernel_rfl) (by kernel_rfl) (by kernel_rfl) (by kernel_rfl) (Y_of (fun _ ⟨hbc, _⟩ => R_move rfl)) ⟨hbc, trivial⟩ rfl ?_
  refine T_takeA (i := 10) rfl (by kernel_rfl) (by kernel_rfl) (by kernel_rfl) (by kernel_rfl) (Y_of (fun _ ⟨hbc, _⟩ => R_extract rfl rfl)) ⟨hbc, trivial⟩ rfl ?_
  refine T_takeA (i := 11) rfl (by kernel_rfl) (by kernel_rfl) (by kernel_rfl) (by kernel_rfl) (Y_of (fun _ ⟨hbc, _⟩ => R_extract rfl rfl)) ⟨hbc, trivial⟩ rfl ?_
  refine T_takeA (i := 12) rfl (by kernel_rfl) (by kernel_rfl) (by kernel_rfl) (by kernel_rfl) (Y_of (fun _ ⟨hbc, _⟩ => R_assign rfl)) ⟨hbc, trivial⟩ rfl ?_
  refine T_takeA (i := 13) rfl (by kernel_rfl) (by kernel_rfl) (by kernel_rfl) (by kernel_rfl) (Y_of (fun _ ⟨hbc, _⟩ => R_assign rfl)) ⟨hbc, trivial⟩ rfl ?_
  refine T_done (by kernel_rfl) (CalmE.normal ?_)
  refine N_then (C_seq (C_seq (C_reg rfl ?_)))
  refine L_run (R_move rfl) rfl ?_
  refine L_run (R_not rfl) rfl ?_
  refine L_nil (N_then ?_)
  refine C_cond rfl (fun h1 => ?_) (fun h1 => ?_)
  · refine C_seq (C_reg rfl ?_)
    refine L_run (R_build (pv := []) (cs := [.string (⟨#[]⟩), .string (⟨#[]⟩)]) rfl (by kernel_rfl)) rfl ?_
    refine L_stA (vs := [.string (⟨#[]⟩), .string (⟨#[]⟩)]) rfl rfl rfl sz75 rfl hb1 rfl ?_
    intro w5 hb2 hs5 hz3
    replace hB := gb_trg hB hs5 ge1
    replace hbc := hbc.grown hs5 (ne_lt lt1)
    replace hbt := hbt.grown hs5 (ne_lt lt2)
    replace hT := hT.other hb1 rfl hs5
    refine L_run (R_assign rfl) rfl ?_
    refine L_nil (N_then (C_ret (R_then ?_)))
    refine retC1 (vs := [.string (⟨#[]⟩), .string (⟨#[]⟩)]) Try.results82 rfl agg75 (At.pre (hb2.at_ 0) rfl) rfl rfl ?_
    rw [hg] at *; simp_all
  · refine C_skip (N_then (C_seq (C_reg rfl ?_)))
    refine L_run (R_move rfl) rfl ?_
    refine L_run (R_nilck rfl) rfl ?_
    refine L_run (R_field (r := 2) rfl fld162_2 rfl) rfl ?_
    refine L_run (R_load1 rfl scl9 (hbc.cell (i := 2) rfl)) rfl ?_
    refine L_run (R_move rfl) rfl ?_
    refine L_run (R_build (pv := [(0, .string k), (1, .string (gO (getK t.kvs k)))]) (cs := [.string k, .string (gO (getK t.kvs k))]) rfl (by kernel_rfl)) rfl ?_
    refine L_stA (vs := [.string k, .string (gO (getK t.kvs k))]) rfl rfl rfl sz75 rfl hb1 rfl ?_
    intro w6 hb3 hs6 hz4
    replace hB := gb_trg hB hs6 ge1
    replace hbc := hbc.grown hs6 (ne_lt lt1)
    replace hbt := hbt.grown hs6 (ne_lt lt2)
    replace hT := hT.other hb1 rfl hs6
    refine L_run (R_assign rfl) rfl ?_
    refine L_nil (N_then (C_ret ?_))
    refine retC1 (vs := [.string k, .string (gO (getK t.kvs k))]) Try.results82 rfl agg75 (At.pre (hb3.at_ 0) rfl) rfl rfl ?_
    rw [hg]; exact ⟨hB, rfl⟩

theorem range_ok {w : World} {gt hi : Nat} {t : Tr} {n : Int} (hbt : Blk w gt 138 [.pointer (taddr t), .int .i64 n]) (hT : TreeF 148 hi w t) (hs : SortK t.kvs) (hk : ∀ p ∈ t.kvs, p.1.size ≤ 1000000) (hc : t.kvs.length ≤ 1000000) :
    Runs Try.prog 65 #[.pointer (some ⟨gt, 0, none⟩), .string (⟨#[]⟩), .string (⟨#[]⟩), .int .i64 (t.kvs.length : Int)] w (fun v_ w' => w.grownBy w' none ∧ ∃ A' c', v_ = .slice A' t.kvs.length c' ∧ World.ownsRow w' w.heap.size 75 2 (.slice A' t.kvs.length c') t.kvs.length (fl encK t.kvs)) := by
  have hB := gb_refl w none
  replace hT := hT.top
  refine enter Try.func65 Try.ntmps65 rfl rfl ?_
  refine C_seq (C_reg rfl ?_)
  refine L_run (R_assign rfl) rfl ?_
  refine L_nil (N_then (C_seq (C_reg rfl ?_)))
  refine L_run (R_assign rfl) rfl ?_
  refine L_nil (N_then (C_seq (C_reg rfl ?_)))
  refine L_run (R_move rfl) rfl ?_
  have ge2 : w.heap.size ≤ w.heap.size := hB.size
  refine L_call rfl cb79 (cnew_ok) rfl ?_
  rintro _ w1 ⟨hs1, g1, ge1, rfl, hb1⟩
  have lt1 : gt < g1 := Nat.lt_of_lt_of_le hbt.lt ge1
  replace hB := gb_tr hB hs1
  replace hbt := hbt.gb hs1
  replace hT := hT.gb hs1
  refine L_run (R_assign rfl) rfl ?_
  refine L_nil (N_then (C_seq (C_seq (C_reg rfl ?_))))
  refine L_run (R_move rfl) rfl ?_
  refine L_run (R_move rfl) rfl ?_
  refine L_call rfl cb80 (cseek_ok (t := t) hb1 hbt hT hs) rfl ?_
  rintro _ w2 ⟨hs2, rfl, hb2⟩
  replace hB := gb_trg hB hs2 (Nat.le_trans ge2 ge1)
  replace hbt := hbt.grown hs2 (ne_lt lt1)
  replace hT := hT.other hb1 rfl hs2
  refine L_run (R_assign rfl) rfl ?_
  refine L_nil (N_then (C_block ?_))
  have ef_ := seekK_first t.kvs
  refine C_loop (fun m_ a_ w_ => ∃ (σ_ : Nat → Value) (Aj : Option Addr) (cj : Nat) (i : Nat), a_ = Ac 46 σ_ [] [(0, .pointer (some ⟨gt, 0, none⟩)), (1, .string (⟨#[]⟩)), (2, .string (⟨#[]⟩)), (3, .int .i64 (t.kvs.length : Int)), (9, .slice Aj ((t.kvs.take i).length) cj), (10, .pointer (some ⟨g1, 0, none⟩)), (11, .bool ((t.kvs[i]?).isSome))] ∧ w.grownBy w_ none ∧ Blk w_ gt 138 [.pointer (taddr t), .int .i64 n] ∧ TreeF 148 w.heap.size w_ t ∧ Blk w_ g1 162 [.pointer (some ⟨gt, 0, none⟩), .int .i64 (wO (t.kvs[i]?)), .string (kO (t.kvs[i]?))] ∧ World.ownsRow w_ w.heap.size 75 2 (.slice Aj (t.kvs.take i).length cj) (t.kvs.take i).length (fl encK (t.kvs.take i)) ∧ (i ≤ t.kvs.length) ∧ t.kvs.length - i = m_) (t.kvs.length - 0) ?_ ?_
  · exact ⟨_, none, 0, 0, Ac_frg ⟨rfl, rfl, rfl, rfl, (agr rfl (by first | rfl | (congr 1; omega) | (congr 1; simp; done) | (congr 1; simp only [IntKind.wrap_u64, IntKind.wrap_i64, IntKind.wrap_u8]; omega) | (congr 1 <;> omega))), rfl, (agr rfl (by rw [← ef_])), trivial⟩, hB, hbt, hT, (by rw [← ef_]; exact hb2), (own_nil _ _ _ _), (Nat.zero_le _), rfl⟩
  · clear hB
    clear hbt hT hb2
    rintro m_ a_ w3 ⟨σ_, Aj, cj, i, rfl, hB, hbt, hT, hbc, hoP, hi_, rfl⟩
    refine C_seq (C_seq (C_reg rfl ?_))
    refine L_run (R_move rfl) rfl ?_
    refine L_run (R_move rfl) rfl ?_
    refine L_split ((t.kvs[i]?).isSome) (fun h1 => ?_) (fun h1 => ?_)
    · refine L_yes rfl rfl rfl h1 ?_
      refine L_run (R_move rfl) rfl ?_
      refine L_yes rfl rfl rfl h1 ?_
      refine L_run (R_lenSl rfl slc29) rfl ?_
      refine L_yes rfl rfl rfl h1 ?_
      refine L_run (R_move rfl) rfl ?_
      refine L_yes rfl rfl rfl h1 ?_
      refine L_run (R_lss rfl rfl) rfl ?_
      refine L_run (R_pickT rfl h1 rfl) rfl ?_
      refine L_nil (N_then ?_)
      refine C_if rfl (fun h2 => ?_) (fun h2 => ?_)
      · refine C_skip (N_then (C_seq (C_block (C_seq (C_reg rfl ?_)))))
        have hlt : i < t.kvs.length := by
          rcases Nat.lt_or_ge i t.kvs.length with h_ | h_
          · exact h_
          · rw [List.getElem?_eq_none h_] at *; simp_all
        have eg_ : t.kvs[i]? = some t.kvs[i] := List.getElem?_eq_getElem hlt
        replace hbc : Blk w3 g1 162 [.pointer (some ⟨gt, 0, none⟩), .int .i64 1, .string (t.kvs[i]).1] := by rw [eg_] at hbc; exact hbc
        refine L_run (R_move rfl) rfl ?_
        refine L_call rfl cb82 (cpair_ok (t := t) hbc hbt hT hs (get_at hs hlt)) rfl ?_
        rintro _ w4 ⟨hs3, rfl⟩
        replace hB := gb_tr hB hs3
        replace hbt := hbt.gb hs3
        replace hT := hT.gb hs3
        replace hbc := hbc.gb hs3
        replace hoP := own_gb hoP hs3
        refine L_run (R_move rfl) rfl ?_
        refine L_run (R_extract rfl rfl) rfl ?_
        refine L_run (R_extract rfl rfl) rfl ?_
        refine L_alloc (cs := [.string (⟨#[]⟩), .string (⟨#[]⟩)]) zer75 rfl rfl ?_
        intro g2 w5 eg1 hb3 hs4 hz1
        have ge3 : w.heap.size ≤ g2 := eg_ge hB eg1
        have lt2 : gt < g2 := lt_of_eg hbt.lt eg1
        have lt3 : g1 < g2 := lt_of_eg hbc.lt eg1
        have hap1 : ∀ k_, (Value.slice Aj (t.kvs.take i).length cj).ownBlock = some k_ → k_ ≠ g2 := fun k_ hk => by have h_ := (World.ownsRow.lt hoP k_ hk).2; omega
        replace hB := gb_tr hB hs4
        replace hbt := hbt.gb hs4
        replace hT := hT.gb hs4
        replace hbc := hbc.gb hs4
        replace hoP := own_gb hoP hs4
        refine L_stA (vs := [.string ((t.kvs[i]).1), .string ((t.kvs[i]).2)]) rfl rfl rfl sz75 rfl hb3 rfl ?_
        intro w6 hb4 hs5 hz2
        replace hB := gb_trg hB hs5 ge3
        replace hbt := hbt.grown hs5 (ne_lt lt2)
        replace hT := hT.other hb3 rfl hs5
        replace hbc := hbc.grown hs5 (ne_lt lt3)
        replace hoP := hoP.kept hs5 (.inr (fun e_ => hap1 _ e_ rfl))
        refine L_run (R_assign rfl) rfl ?_
        refine L_nil (N_then (C_seq (C_seq (C_reg rfl ?_))))
        refine L_run (R_move rfl) rfl ?_
        refine L_run (R_eqv (R_neqS rfl rfl) (v' := .bool false) (bF' (fun h => h rfl))) rfl ?_
        refine L_run (R_move rfl) rfl ?_
        refine L_no rfl rfl rfl rfl rfl ?_
        refine L_no rfl rfl rfl rfl rfl ?_
        refine L_no rfl rfl rfl rfl rfl ?_
        refine L_no rfl rfl rfl rfl rfl ?_
        refine L_run (R_pickF rfl rfl rfl) rfl ?_
        refine L_nil (N_then (C_condF rfl rfl (C_skip (N_then (C_reg rfl ?_)))))
        refine L_run (R_move rfl) rfl ?_
        refine L_run (R_loadA (vs := [.string ((t.kvs[i]).1), .string ((t.kvs[i]).2)]) rfl agg75 (At.pre (hb4.at_ 0) rfl) rfl) rfl ?_
        refine L_buildSlice (pv := [(0, .agg #[.string ((t.kvs[i]).1), .string ((t.kvs[i]).2)])]) (cs := [.string ((t.kvs[i]).1), .string ((t.kvs[i]).2)]) slc29 zer75 rfl rfl (by kernel_rfl) rfl ?_
        intro g3 w7 eg2 hb5 hs6 hz3
        have ge4 : w.heap.size ≤ g3 := eg_ge hB eg2
        have lt4 : gt < g3 := lt_of_eg hbt.lt eg2
        have lt5 : g1 < g3 := lt_of_eg hbc.lt eg2
        have lt6 : g2 < g3 := lt_of_eg hb4.lt eg2
        have hap2 : ∀ k_, (Value.slice Aj (t.kvs.take i).length cj).ownBlock = some k_ → k_ ≠ g3 := fun k_ hk => by have h_ := (World.ownsRow.lt hoP k_ hk).2; omega
        replace hB := gb_tr hB hs6
        replace hbt := hbt.gb hs6
        replace hT := hT.gb hs6
        replace hbc := hbc.gb hs6
        replace hoP := own_gb hoP hs6
        replace hb4 := hb4.gb hs6
        refine T_append (xs := t.kvs.take i) (ys := [((t.kvs[i]).1, (t.kvs[i]).2)]) EncK slc29 rfl rfl hoP (Blk.sli (m := 0) hb5) (by simp only [List.length_take, List.length_cons, List.length_nil]; omega) (by have := hB.size; omega) rfl ?_
        intro A_1 c_1 w8 ho1 hs7 hat1
        have lt7 := hb4.lt
        replace hB := gb_tro hB hoP hs7 (Nat.le_refl _)
        replace hbt := blk_own hbt hoP rfl hs7
        replace hT := hT.otherO hoP rfl hs7
        replace hbc := blk_own hbc hoP rfl hs7
        replace hb4 := hb4.grown hs7 (fun e_ => hap1 _ e_.symm rfl)
        have hap3 : ∀ k_, (Value.slice A_1 ((t.kvs.take i) ++ ([((t.kvs[i]).1, (t.kvs[i]).2)])).length c_1).ownBlock = some k_ → k_ ≠ g2 := fun k_ hk => by rcases hat1 with h_ | h_ <;> rw [h_] at hk <;> first | exact hap1 k_ hk | (injection hk with hk; omega)
        refine L_run (R_assign rfl) rfl ?_
        refine L_nil (N_in (N_then (C_reg rfl ?_)))
        refine L_run (R_move rfl) rfl ?_
        refine L_call rfl cb81 (cnext_ok (t := t) hbc hbt hT hs (hk _ (List.getElem_mem hlt))) rfl ?_
        rintro _ w9 ⟨hs8, rfl, hb6⟩
        replace hB := gb_trg hB hs8 (Nat.le_trans ge2 ge1)
        replace hbt := hbt.grown hs8 (ne_lt lt1)
        replace hT := hT.other hbc rfl hs8
        replace hb4 := hb4.grown hs8 (ne_gt lt3)
        replace ho1 := own_other ho1 hbc rfl hs8
        refine L_run (R_assign rfl) rfl ?_
        refine L_nil (N_then ?_)
        have et_ : t.kvs.take i ++ [((t.kvs[i]).1, (t.kvs[i]).2)] = t.kvs.take (i + 1) := (List.take_succ_eq_append_getElem hlt).symm
        have ez_ := seekK_zb hs hlt
        exact ⟨t.kvs.length - (i + 1), by omega, _, A_1, c_1, (i + 1), Ac_frg ⟨rfl, rfl, rfl, rfl, (agr rfl (by rw [← et_])), rfl, (agr rfl (by rw [← ez_])), trivial⟩, hB, hbt, hT, (by rw [← ez_]; exact hb6), (by rw [← et_]; exact (own_lo ho1 (Nat.le_refl _))), (by omega), rfl⟩
      · refine C_exit (X_then (X_then (X_hit (N_then (C_seq (C_reg rfl ?_))))))
        refine L_run (R_move rfl) rfl ?_
        refine L_run (R_assign rfl) rfl ?_
        refine L_nil (N_then (C_ret ?_))
        refine ret1 Try.results65 rfl ?_
        have hge : t.kvs.length ≤ i := by
          rcases Nat.lt_or_ge i t.kvs.length with h_ | h_
          · exfalso; first | (have q_ := h1; rw [List.getElem?_eq_getElem h_] at q_; cases q_; done) | (simp only [List.length_take] at *; omega)
          · exact h_
        have et_ : t.kvs.take i = t.kvs := List.take_of_length_le hge
        exact ⟨hB, _, _, (by rw [et_]), (by have h_ := (own_lo hoP (Nat.le_refl _)); rw [et_] at h_; exact h_)⟩
    · refine L_no rfl rfl rfl h1 rfl ?_
      refine L_no rfl rfl rfl h1 rfl ?_
      refine L_no rfl rfl rfl h1 rfl ?_
      refine L_no rfl rfl rfl h1 rfl ?_
      refine L_run (R_pickF rfl h1 rfl) rfl ?_
      refine L_nil (N_then (C_condF rfl rfl (C_exit (X_then (X_then (X_hit (N_then (C_seq (C_reg rfl ?_)))))))))
      refine L_run (R_move rfl) rfl ?_
      refine L_run (R_assign rfl) rfl ?_
      refine L_nil (N_then (C_ret ?_))
      refine ret1 Try.results65 rfl ?_
      have hge : t.kvs.length ≤ i := by
        rcases Nat.lt_or_ge i t.kvs.length with h_ | h_
        · exfalso; first | (have q_ := h1; rw [List.getElem?_eq_getElem h_] at q_; cases q_; done) | (simp only [List.length_take] at *; omega)
        · exact h_
      have et_ : t.kvs.take i = t.kvs := List.take_of_length_le hge
      exact ⟨hB, _, _, (by rw [et_]), (by have h_ := (own_lo hoP (Nat.le_refl _)); rw [et_] at h_; exact h_)⟩

end Go.Proofs.Ytbmohojdlgedpaa
