/-
  Contracts of the package tree: heights, parts with other sides, parts balanced.
-/
import Derived.Test.YtbmohojdlgedpaaRows
import Derived.Test.YtbmohojdlgedpaaVq
import Derived.Test.YtbmohojdlgedpaaGf
import Derived.Test.YtbmohojdlgedpaaGk
namespace Go.Proofs.Ytbmohojdlgedpaa
open Go.RowKit Gw Pl
set_option linter.unusedVariables false
set_option linter.unusedSimpArgs false
theorem cb89 : callB Try.prog 89 = true := by kernel_rfl
theorem cb90 : callB Try.prog 90 = true := by kernel_rfl
theorem fld148_0 : fldB Try.prog 148 0 0 = true := by kernel_rfl
theorem fld148_1 : fldB Try.prog 148 1 1 = true := by kernel_rfl
theorem fld148_2 : fldB Try.prog 148 2 2 = true := by kernel_rfl
theorem fld148_3 : fldB Try.prog 148 3 3 = true := by kernel_rfl
theorem fld148_4 : fldB Try.prog 148 4 4 = true := by kernel_rfl
theorem mix : Try.prog.follows .mixedOrders = true := by kernel_rfl
theorem scl136 : sclB Try.prog 136 = true := by kernel_rfl
theorem scl3 : sclB Try.prog 3 = true := by kernel_rfl
theorem scl9 : sclB Try.prog 9 = true := by kernel_rfl
theorem Tr.kvs_node {g : Nat} {k v : ByteArray} {h : Int} {l r : Tr} : (Tr.node g k v h l r).kvs = l.kvs ++ (k, v) :: r.kvs := rfl
theorem Tr.hgt_node {g : Nat} {k v : ByteArray} {h : Int} {l r : Tr} : (Tr.node g k v h l r).hgt = h := rfl
theorem Tr.cnt_node {g : Nat} {k v : ByteArray} {h : Int} {l r : Tr} : (Tr.node g k v h l r).cnt = l.cnt + r.cnt + 1 := rfl
theorem Tr.hok_node {g : Nat} {k v : ByteArray} {h : Int} {l r : Tr} : (Tr.node g k v h l r).hok = (1 ≤ h ∧ h ≤ l.cnt + r.cnt + 1 ∧ l.hok ∧ r.hok) := rfl
theorem Tr.hok_nil : Tr.nil.hok := trivial
theorem Tr.cnt_le {t : Tr} : t.cnt = t.kvs.length := (Tr.cnt_kvs t).symm
theorem high_n {w : World} :
    Runs Try.prog 89 #[.pointer none] w (fun v w' => w.grownBy w' none ∧ v = .int .i64 0) := by
  have hB := gb_refl w none
  refine enter Try.func89 Try.ntmps89 rfl rfl ?_
  refine C_seq (C_reg rfl ?_)
  refine L_run (R_assign rfl) rfl ?_
  refine L_nil (N_then (C_seq (C_seq (C_reg rfl ?_))))
  refine L_run (R_move rfl) rfl ?_
  refine L_run (R_eqlpNN rfl rfl Try.underlying136) rfl ?_
  refine L_nil (N_then (C_condT rfl rfl (C_seq (C_reg rfl ?_))))
  refine L_run (R_assign rfl) rfl ?_
  refine L_nil (N_then (C_ret (R_then ?_)))
  refine ret1 Try.results89 rfl ?_
  exact ⟨hB, rfl⟩

theorem high_c {w : World} {g : Nat} {k v : ByteArray} {pl pr : Value} {h : Int} (hb : Blk w g 148 [.string k, .string v, pl, pr, .int .i64 h]) :
    Runs Try.prog 89 #[.pointer (some ⟨g, 0, none⟩)] w (fun v w' => w.grownBy w' none ∧ v = .int .i64 h) := by
  have hB := gb_refl w none
  refine enter Try.func89 Try.ntmps89 rfl rfl ?_
  refine C_seq (C_reg rfl ?_)
  refine L_run (R_assign rfl) rfl ?_
  refine L_nil (N_then (C_seq (C_seq (C_reg rfl ?_))))
  refine L_run (R_move rfl) rfl ?_
  refine L_run (R_eqlpPN rfl rfl Try.underlying136) rfl ?_
  refine L_nil (N_then (C_condF rfl rfl (C_skip (N_then (C_seq (C_reg rfl ?_))))))
  refine L_run (R_move rfl) rfl ?_
  refine L_run (R_nilck rfl) rfl ?_
  refine L_run (R_field (r := 4) rfl fld148_4 rfl) rfl ?_
  refine L_run (R_load1 rfl scl3 (hb.cell (i := 4) rfl)) rfl ?_
  refine L_run (R_assign rfl) rfl ?_
  refine L_nil (N_then (C_ret ?_))
  refine ret1 Try.results89 rfl ?_
  exact ⟨hB, rfl⟩

theorem high_ok {w : World} {hi : Nat} {t : Tr} (ht : TreeF 148 hi w t) : Runs Try.prog 89 #[.pointer (taddr t)] w (fun v w' => w.grownBy w' none ∧ v = .int .i64 t.hgt) := by
  cases t with
  | nil => exact high_n
  | node g k v h l r => exact high_c ht.2.1
theorem with_ok {w : World} {g hi1 hi2 : Nat} {k v : ByteArray} {pl pr : Value} {h : Int} {l r : Tr} (hb : Blk w g 148 [.string k, .string v, pl, pr, .int .i64 h]) (hl : TreeF 148 hi1 w l) (hr : TreeF 148 hi2 w r) (h1 : -1000000 ≤ l.hgt ∧ l.hgt ≤ 1000000) (h2 : -1000000 ≤ r.hgt ∧ r.hgt ≤ 1000000) :
    Runs Try.prog 90 #[.pointer (some ⟨g, 0, none⟩), .pointer (taddr l), .pointer (taddr r)] w (fun v_ w' => w.grownBy w' none ∧ ∃ g', v_ = .pointer (some ⟨g', 0, none⟩) ∧ TreeF 148 w'.heap.size w' (.node g' k v (1 + max l.hgt r.hgt) l r)) := by
  have hB := gb_refl w none
  refine enter Try.func90 Try.ntmps90 rfl rfl ?_
  refine C_seq (C_reg rfl ?_)
  refine L_run (R_assign rfl) rfl ?_
  refine L_nil (N_then (C_seq ?_))
  refine C_draw2 rfl mix ?_
  intro w1 hs1 hz1
  replace hB := gb_tr hB hs1
  replace hb := hb.gb hs1
  replace hl := hl.gb hs1
  replace hr := hr.gb hs1
  refine ⟨fun W_ => Blk W_ g 148 [.string k, .string v, pl, pr, .int .i64 h] ∧ True, [0, 1, 2, 3, 4, 5, 6, 7, 8, 9, 10, 12, 15, 16, 18], ?_⟩
  refine T_takeA (i := 0) rfl (by kernel_rfl) (by kernel_rfl) (by kernel_rfl) (by kernel_rfl) (Y_of (fun _ ⟨hb, _⟩ => R_move rfl)) ⟨hb, trivial⟩ rfl ?_
  refine T_takeA (i := 1) rfl (by kernel_rfl) (by kernel_rfl) (by kernel_rfl) (by kernel_rfl) (Y_of (fun _ ⟨hb, _⟩ => R_nilck rfl)) ⟨hb, trivial⟩ rfl ?_
  refine T_takeA (i := 2) rfl (by kernel_rfl) (by kernel_rfl) (by kernel_rfl) (by kernel_rfl) (Y_of (fun _ ⟨hb, _⟩ => R_field (r := 0) rfl fld148_0 rfl)) ⟨hb, trivial⟩ rfl ?_
  refine T_takeA (i := 3) rfl (by kernel_rfl) (by kernel_rfl) (by kernel_rfl) (by kernel_rfl) (Y_of (fun _ ⟨hb, _⟩ => R_load1 rfl scl9 (hb.cell (i := 0) rfl))) ⟨hb, trivial⟩ rfl ?_
  refine T_takeA (i := 4) rfl (by kernel_rfl) (by kernel_rfl) (by kernel_rfl) (by kernel_rfl) (Y_of (fun _ ⟨hb, _⟩ => R_move rfl)) ⟨hb, trivial⟩ rfl ?_
  refine T_takeA (i := 5) rfl (by kernel_rfl) (by kernel_rfl) (by kernel_rfl) (by kernel_rfl) (Y_of (fun _ ⟨hb, _⟩ => R_nilck rfl)) ⟨hb, trivial⟩ rfl ?_
  refine T_takeA (i := 6) rfl (by kernel_rfl) (by kernel_rfl) (by kernel_rfl) (by kernel_rfl) (Y_of (fun _ ⟨hb, _⟩ => R_field (r := 1) rfl fld148_1 rfl)) ⟨hb, trivial⟩ rfl ?_
  refine T_takeA (i := 7) rfl (by kernel_rfl) (by kernel_rfl) (by kernel_rfl) (by kernel_rfl) (Y_of (fun _ ⟨hb, _⟩ => R_load1 rfl scl9 (hb.cell (i := 1) rfl))) ⟨hb, trivial⟩ rfl ?_
  refine T_takeA (i := 8) rfl (by kernel_rfl) (by kernel_rfl) (by kernel_rfl) (by kernel_rfl) (Y_of (fun _ ⟨hb, _⟩ => R_move rfl)) ⟨hb, trivial⟩ rfl ?_
  refine T_takeA (i := 9) rfl (by kernel_rfl) (by kernel_rfl) (by kernel_rfl) (by kernel_rfl) (Y_of (fun _ ⟨hb, _⟩ => R_move rfl)) ⟨hb, trivial⟩ rfl ?_
  refine T_takeA (i := 10) rfl (by kernel_rfl) (by kernel_rfl) (by kernel_rfl) (by kernel_rfl) (Y_of (fun _ ⟨hb, _⟩ => R_move rfl)) ⟨hb, trivial⟩ rfl ?_
  refine T_takeA (i := 12) rfl (by kernel_rfl) (by kernel_rfl) (by kernel_rfl) (by kernel_rfl) (Y_of (fun _ ⟨hb, _⟩ => R_move rfl)) ⟨hb, trivial⟩ rfl ?_
  refine T_all (rs := [11]) (by kernel_rfl) rfl (all1 (O_one rfl ?_))
  refine L_call rfl cb89 (high_ok (t := l) hl) rfl ?_
  rintro _ w2 ⟨hs2, rfl⟩
  replace hB := gb_tr hB hs2
  replace hb := hb.gb hs2
  replace hl := hl.gb hs2
  replace hr := hr.gb hs2
  refine L_nil (N_then ⟨fun hN_ => ⟨hb, trivial⟩, ?_⟩)
  refine T_all (rs := [13]) (by kernel_rfl) rfl (all1 (O_one rfl ?_))
  refine L_call rfl cb89 (high_ok (t := r) hr) rfl ?_
  rintro _ w3 ⟨hs3, rfl⟩
  replace hB := gb_tr hB hs3
  replace hb := hb.gb hs3
  replace hl := hl.gb hs3
  replace hr := hr.gb hs3
  refine L_nil (N_then ⟨fun hN_ => ⟨hb, trivial⟩, ?_⟩)
  refine T_all (rs := [14]) (by kernel_rfl) rfl (all1 (O_one rfl ?_))
  refine L_run (R_max2 rfl rfl) rfl ?_
  refine L_nil (N_then ⟨fun hN_ => ⟨hb, trivial⟩, ?_⟩)
  refine T_takeA (i := 15) rfl (by kernel_rfl) (by kernel_rfl) (by kernel_rfl) (by kernel_rfl) (Y_of (fun _ ⟨hb, _⟩ => R_add64 rfl rfl (by omega))) ⟨hb, trivial⟩ rfl ?_
  refine T_takeA (i := 16) rfl (by kernel_rfl) (by kernel_rfl) (by kernel_rfl) (by kernel_rfl) (Y_of (fun _ ⟨hb, _⟩ => R_build (pv := [(0, .string k), (1, .string v), (2, .pointer (taddr l)), (3, .pointer (taddr r)), (4, .int .i64 (1 + (max l.hgt r.hgt)))]) (cs := [.string k, .string v, .pointer (taddr l), .pointer (taddr r), .int .i64 (1 + (max l.hgt r.hgt))]) rfl (by kernel_rfl))) ⟨hb, trivial⟩ rfl ?_
  refine T_all (rs := [17]) (by kernel_rfl) rfl (all1 (O_one rfl ?_))
  refine L_box (cs := [.string k, .string v, .pointer (taddr l), .pointer (taddr r), .int .i64 (1 + (max l.hgt r.hgt))]) rfl rfl rfl ?_
  intro g1 w4 eg1 hb1 hs4 hz2
  have ge1 : w.heap.size ≤ g1 := eg_ge hB eg1
  have lt1 : g < g1 := lt_of_eg hb.lt eg1
  replace hB := gb_tr hB hs4
  replace hb := hb.gb hs4
  replace hl := hl.gb hs4
  replace hr := hr.gb hs4
  refine L_nil (N_then ⟨fun hN_ => ⟨hb, trivial⟩, ?_⟩)
  refine T_takeA (i := 18) rfl (by kernel_rfl) (by kernel_rfl) (by kernel_rfl) (by kernel_rfl) (Y_of (fun _ ⟨hb, _⟩ => R_assign rfl)) ⟨hb, trivial⟩ rfl ?_
  refine T_done (by kernel_rfl) (CalmE.normal ?_)
  refine N_then (C_ret ?_)
  refine ret1 Try.results90 rfl ?_
  exact ⟨hB, g1, rfl, TreeF.mk hb1 hl.top hr.top hb1.lt⟩

theorem level_a {w : World} {g : Nat} {k v : ByteArray} {pl pr : Value} {h : Int} (hb : Blk w g 148 [.string k, .string v, pl, pr, .int .i64 h]) {l : Tr} (hTl : TreeF 148 w.heap.size w l) (okl : l.hok) {r : Tr} (hTr : TreeF 148 w.heap.size w r) (okr : r.hok) (hc : l.cnt + r.cnt ≤ 900000) (c1 : ¬ r.hgt + 1 < l.hgt) (c2 : ¬ l.hgt + 1 < r.hgt) :
    Runs Try.prog 77 #[.pointer (some ⟨g, 0, none⟩), .pointer (taddr l), .pointer (taddr r)] w (fun v_ w' => w.grownBy w' none ∧ ∃ t', v_ = .pointer (taddr t') ∧ TreeF 148 w'.heap.size w' t' ∧ t'.kvs = l.kvs ++ (k, v) :: r.kvs ∧ t'.hok) := by
  have hB := gb_refl w none
  have bdl := Tr.hgt_b okl
  have bdr := Tr.hgt_b okr
  refine enter Try.func77 Try.ntmps77 rfl rfl ?_
  refine C_seq (C_reg rfl ?_)
  refine L_run (R_assign rfl) rfl ?_
  refine L_nil (N_then (C_seq (C_block (C_seq (C_reg rfl ?_)))))
  refine L_run (R_move rfl) rfl ?_
  refine L_call rfl cb89 (high_ok (t := l) hTl) rfl ?_
  rintro _ w1 ⟨hs1, rfl⟩
  replace hB := gb_tr hB hs1
  replace hb := hb.gb hs1
  replace hTl := hTl.gb hs1
  replace hTr := hTr.gb hs1
  refine L_run (R_move rfl) rfl ?_
  refine L_call rfl cb89 (high_ok (t := r) hTr) rfl ?_
  rintro _ w2 ⟨hs2, rfl⟩
  replace hB := gb_tr hB hs2
  replace hb := hb.gb hs2
  replace hTl := hTl.gb hs2
  replace hTr := hTr.gb hs2
  refine L_run (R_add64 rfl rfl (by omega)) rfl ?_
  refine L_run (R_gtr rfl rfl) rfl ?_
  refine L_run (R_assign rfl) rfl ?_
  refine L_nil (N_then (C_condF rfl (decide_eq_false c1) (C_seq (C_reg rfl ?_))))
  refine L_run (R_move rfl) rfl ?_
  refine L_call rfl cb89 (high_ok (t := r) hTr) rfl ?_
  rintro _ w3 ⟨hs3, rfl⟩
  replace hB := gb_tr hB hs3
  replace hb := hb.gb hs3
  replace hTl := hTl.gb hs3
  replace hTr := hTr.gb hs3
  refine L_run (R_move rfl) rfl ?_
  refine L_call rfl cb89 (high_ok (t := l) hTl) rfl ?_
  rintro _ w4 ⟨hs4, rfl⟩
  replace hB := gb_tr hB hs4
  replace hb := hb.gb hs4
  replace hTl := hTl.gb hs4
  replace hTr := hTr.gb hs4
  refine L_run (R_add64 rfl rfl (by omega)) rfl ?_
  refine L_run (R_gtr rfl rfl) rfl ?_
  refine L_run (R_assign rfl) rfl ?_
  refine L_nil (N_then (C_condF rfl (decide_eq_false c2) (C_skip (N_in (N_then (C_seq (C_reg rfl ?_)))))))
  refine L_run (R_move rfl) rfl ?_
  refine L_run (R_move rfl) rfl ?_
  refine L_run (R_move rfl) rfl ?_
  refine L_call rfl cb90 (with_ok (l := l) (r := r) hb hTl hTr (by first | omega | (simp only [Tr.hgt_node]; omega)) (by first | omega | (simp only [Tr.hgt_node]; omega))) rfl ?_
  rintro _ w5 ⟨hs5, g1, rfl, ht1⟩
  replace hB := gb_tr hB hs5
  replace hb := hb.gb hs5
  replace hTl := hTl.gb hs5
  replace hTr := hTr.gb hs5
  refine L_run (R_assign rfl) rfl ?_
  refine L_nil (N_then (C_ret ?_))
  refine ret1 Try.results77 rfl ?_
  exact ⟨hB, (Tr.node g1 k v (1 + max l.hgt r.hgt) l r), rfl, ht1.top, by simp only [Tr.kvs_node, List.append_assoc, List.cons_append], by simp only [Tr.hok_node, Tr.hgt_node, Tr.cnt_node]; (repeat' apply And.intro) <;> first | assumption | omega⟩

theorem level_b {w : World} {g : Nat} {k v : ByteArray} {pl pr : Value} {h : Int} (hb : Blk w g 148 [.string k, .string v, pl, pr, .int .i64 h]) {a b r : Tr} (hTa : TreeF 148 w.heap.size w a) (oka : a.hok) (hTb : TreeF 148 w.heap.size w b) (okb : b.hok) (hTr : TreeF 148 w.heap.size w r) (okr : r.hok) {gl : Nat} {kl vl : ByteArray} {hl : Int} (hbl : Blk w gl 148 [.string kl, .string vl, .pointer (taddr a), .pointer (taddr b), .int .i64 hl]) (nl : 1 ≤ hl ∧ hl ≤ a.cnt + b.cnt + 1) (hc : a.cnt + b.cnt + r.cnt ≤ 900000) (c0 : r.hgt + 1 < hl) (c1 : b.hgt ≤ a.hgt) :
    Runs Try.prog 77 #[.pointer (some ⟨g, 0, none⟩), .pointer (some ⟨gl, 0, none⟩), .pointer (taddr r)] w (fun v_ w' => w.grownBy w' none ∧ ∃ t', v_ = .pointer (taddr t') ∧ TreeF 148 w'.heap.size w' t' ∧ t'.kvs = (a.kvs ++ (kl, vl) :: b.kvs) ++ (k, v) :: r.kvs ∧ t'.hok) := by
  have hB := gb_refl w none
  have bda := Tr.hgt_b oka
  have bdb := Tr.hgt_b okb
  have bdr := Tr.hgt_b okr
  refine enter Try.func77 Try.ntmps77 rfl rfl ?_
  refine C_seq (C_reg rfl ?_)
  refine L_run (R_assign rfl) rfl ?_
  refine L_nil (N_then (C_seq (C_block (C_seq (C_reg rfl ?_)))))
  refine L_run (R_move rfl) rfl ?_
  refine L_call rfl cb89 (high_c hbl) rfl ?_
  rintro _ w1 ⟨hs1, rfl⟩
  replace hB := gb_tr hB hs1
  replace hb := hb.gb hs1
  replace hbl := hbl.gb hs1
  replace hTa := hTa.gb hs1
  replace hTb := hTb.gb hs1
  replace hTr := hTr.gb hs1
  refine L_run (R_move rfl) rfl ?_
  refine L_call rfl cb89 (high_ok (t := r) hTr) rfl ?_
  rintro _ w2 ⟨hs2, rfl⟩
  replace hB := gb_tr hB hs2
  replace hb := hb.gb hs2
  replace hbl := hbl.gb hs2
  replace hTa := hTa.gb hs2
  replace hTb := hTb.gb hs2
  replace hTr := hTr.gb hs2
  refine L_run (R_add64 rfl rfl (by omega)) rfl ?_
  refine L_run (R_gtr rfl rfl) rfl ?_
  refine L_run (R_assign rfl) rfl ?_
  refine L_nil (N_then (C_condT rfl (decide_eq_true c0) (C_seq (C_seq ?_))))
  refine C_draw2 rfl mix ?_
  intro w3 hs3 hz1
  replace hB := gb_tr hB hs3
  replace hb := hb.gb hs3
  replace hbl := hbl.gb hs3
  replace hTa := hTa.gb hs3
  replace hTb := hTb.gb hs3
  replace hTr := hTr.gb hs3
  refine ⟨fun W_ => Blk W_ gl 148 [.string kl, .string vl, .pointer (taddr a), .pointer (taddr b), .int .i64 hl] ∧ True, [0, 1, 2, 3, 5, 6, 7, 8, 10], ?_⟩
  refine T_takeA (i := 0) rfl (by kernel_rfl) (by kernel_rfl) (by kernel_rfl) (by kernel_rfl) (Y_of (fun _ ⟨hbl, _⟩ => R_move rfl)) ⟨hbl, trivial⟩ rfl ?_
  refine T_takeA (i := 1) rfl (by kernel_rfl) (by kernel_rfl) (by kernel_rfl) (by kernel_rfl) (Y_of (fun _ ⟨hbl, _⟩ => R_nilck rfl)) ⟨hbl, trivial⟩ rfl ?_
  refine T_takeA (i := 2) rfl (by kernel_rfl) (by kernel_rfl) (by kernel_rfl) (by kernel_rfl) (Y_of (fun _ ⟨hbl, _⟩ => R_field (r := 2) rfl fld148_2 rfl)) ⟨hbl, trivial⟩ rfl ?_
  refine T_takeA (i := 3) rfl (by kernel_rfl) (by kernel_rfl) (by kernel_rfl) (by kernel_rfl) (Y_of (fun _ ⟨hbl, _⟩ => R_load1 rfl scl136 (hbl.cell (i := 2) rfl))) ⟨hbl, trivial⟩ rfl ?_
  refine T_takeA (i := 5) rfl (by kernel_rfl) (by kernel_rfl) (by kernel_rfl) (by kernel_rfl) (Y_of (fun _ ⟨hbl, _⟩ => R_move rfl)) ⟨hbl, trivial⟩ rfl ?_
  refine T_takeA (i := 6) rfl (by kernel_rfl) (by kernel_rfl) (by kernel_rfl) (by kernel_rfl) (Y_of (fun _ ⟨hbl, _⟩ => R_nilck rfl)) ⟨hbl, trivial⟩ rfl ?_
  refine T_takeA (i := 7) rfl (by kernel_rfl) (by kernel_rfl) (by kernel_rfl) (by kernel_rfl) (Y_of (fun _ ⟨hbl, _⟩ => R_field (r := 3) rfl fld148_3 rfl)) ⟨hbl, trivial⟩ rfl ?_
  refine T_takeA (i := 8) rfl (by kernel_rfl) (by kernel_rfl) (by kernel_rfl) (by kernel_rfl) (Y_of (fun _ ⟨hbl, _⟩ => R_load1 rfl scl136 (hbl.cell (i := 3) rfl))) ⟨hbl, trivial⟩ rfl ?_
  refine T_all (rs := [4]) (by kernel_rfl) rfl (all1 (O_one rfl ?_))
  refine L_call rfl cb89 (high_ok (t := a) hTa) rfl ?_
  rintro _ w4 ⟨hs4, rfl⟩
  replace hB := gb_tr hB hs4
  replace hb := hb.gb hs4
  replace hbl := hbl.gb hs4
  replace hTa := hTa.gb hs4
  replace hTb := hTb.gb hs4
  replace hTr := hTr.gb hs4
  refine L_nil (N_then ⟨fun hN_ => ⟨hbl, trivial⟩, ?_⟩)
  refine T_all (rs := [9]) (by kernel_rfl) rfl (all1 (O_one rfl ?_))
  refine L_call rfl cb89 (high_ok (t := b) hTb) rfl ?_
  rintro _ w5 ⟨hs5, rfl⟩
  replace hB := gb_tr hB hs5
  replace hb := hb.gb hs5
  replace hbl := hbl.gb hs5
  replace hTa := hTa.gb hs5
  replace hTb := hTb.gb hs5
  replace hTr := hTr.gb hs5
  refine L_nil (N_then ⟨fun hN_ => ⟨hbl, trivial⟩, ?_⟩)
  refine T_takeA (i := 10) rfl (by kernel_rfl) (by kernel_rfl) (by kernel_rfl) (by kernel_rfl) (Y_of (fun _ ⟨hbl, _⟩ => R_geq rfl rfl)) ⟨hbl, trivial⟩ rfl ?_
  refine T_done (by kernel_rfl) (CalmE.normal ?_)
  refine N_then (C_condT rfl (decide_eq_true c1) (C_seq ?_))
  refine C_draw2 rfl mix ?_
  intro w6 hs6 hz2
  replace hB := gb_tr hB hs6
  replace hb := hb.gb hs6
  replace hbl := hbl.gb hs6
  replace hTa := hTa.gb hs6
  replace hTb := hTb.gb hs6
  replace hTr := hTr.gb hs6
  refine ⟨fun W_ => Blk W_ gl 148 [.string kl, .string vl, .pointer (taddr a), .pointer (taddr b), .int .i64 hl] ∧ True, [0, 1, 2, 3, 4, 5, 6, 7, 8, 9, 10, 13], ?_⟩
  refine T_takeA (i := 0) rfl (by kernel_rfl) (by kernel_rfl) (by kernel_rfl) (by kernel_rfl) (Y_of (fun _ ⟨hbl, _⟩ => R_move rfl)) ⟨hbl, trivial⟩ rfl ?_
  refine T_takeA (i := 1) rfl (by kernel_rfl) (by kernel_rfl) (by kernel_rfl) (by kernel_rfl) (Y_of (fun _ ⟨hbl, _⟩ => R_move rfl)) ⟨hbl, trivial⟩ rfl ?_
  refine T_takeA (i := 2) rfl (by kernel_rfl) (by kernel_rfl) (by kernel_rfl) (by kernel_rfl) (Y_of (fun _ ⟨hbl, _⟩ => R_nilck rfl)) ⟨hbl, trivial⟩ rfl ?_
  refine T_takeA (i := 3) rfl (by kernel_rfl) (by kernel_rfl) (by kernel_rfl) (by kernel_rfl) (Y_of (fun _ ⟨hbl, _⟩ => R_field (r := 2) rfl fld148_2 rfl)) ⟨hbl, trivial⟩ rfl ?_
  refine T_takeA (i := 4) rfl (by kernel_rfl) (by kernel_rfl) (by kernel_rfl) (by kernel_rfl) (Y_of (fun _ ⟨hbl, _⟩ => R_load1 rfl scl136 (hbl.cell (i := 2) rfl))) ⟨hbl, trivial⟩ rfl ?_
  refine T_takeA (i := 5) rfl (by kernel_rfl) (by kernel_rfl) (by kernel_rfl) (by kernel_rfl) (Y_of (fun _ ⟨hbl, _⟩ => R_move rfl)) ⟨hbl, trivial⟩ rfl ?_
  refine T_takeA (i := 6) rfl (by kernel_rfl) (by kernel_rfl) (by kernel_rfl) (by kernel_rfl) (Y_of (fun _ ⟨hbl, _⟩ => R_move rfl)) ⟨hbl, trivial⟩ rfl ?_
  refine T_takeA (i := 7) rfl (by kernel_rfl) (by kernel_rfl) (by kernel_rfl) (by kernel_rfl) (Y_of (fun _ ⟨hbl, _⟩ => R_nilck rfl)) ⟨hbl, trivial⟩ rfl ?_
  refine T_takeA (i := 8) rfl (by kernel_rfl) (by kernel_rfl) (by kernel_rfl) (by kernel_rfl) (Y_of (fun _ ⟨hbl, _⟩ => R_field (r := 3) rfl fld148_3 rfl)) ⟨hbl, trivial⟩ rfl ?_
  refine T_takeA (i := 9) rfl (by kernel_rfl) (by kernel_rfl) (by kernel_rfl) (by kernel_rfl) (Y_of (fun _ ⟨hbl, _⟩ => R_load1 rfl scl136 (hbl.cell (i := 3) rfl))) ⟨hbl, trivial⟩ rfl ?_
  refine T_takeA (i := 10) rfl (by kernel_rfl) (by kernel_rfl) (by kernel_rfl) (by kernel_rfl) (Y_of (fun _ ⟨hbl, _⟩ => R_move rfl)) ⟨hbl, trivial⟩ rfl ?_
  refine T_all (rs := [11]) (by kernel_rfl) rfl (all1 (O_one rfl ?_))
  refine L_call rfl cb90 (with_ok (l := b) (r := r) hb hTb hTr (by first | omega | (simp only [Tr.hgt_node]; omega)) (by first | omega | (simp only [Tr.hgt_node]; omega))) rfl ?_
  rintro _ w7 ⟨hs7, g1, rfl, ht1⟩
  replace hB := gb_tr hB hs7
  replace hb := hb.gb hs7
  replace hbl := hbl.gb hs7
  replace hTa := hTa.gb hs7
  replace hTb := hTb.gb hs7
  replace hTr := hTr.gb hs7
  refine L_nil (N_then ⟨fun hN_ => ⟨hbl, trivial⟩, ?_⟩)
  refine T_all (rs := [12]) (by kernel_rfl) rfl (all1 (O_one rfl ?_))
  refine L_call rfl cb90 (with_ok (l := a) (r := (Tr.node g1 k v (1 + max b.hgt r.hgt) b r)) hbl hTa ht1 (by first | omega | (simp only [Tr.hgt_node]; omega)) (by first | omega | (simp only [Tr.hgt_node]; omega))) rfl ?_
  rintro _ w8 ⟨hs8, g2, rfl, ht2⟩
  replace hB := gb_tr hB hs8
  replace hb := hb.gb hs8
  replace hbl := hbl.gb hs8
  replace hTa := hTa.gb hs8
  replace hTb := hTb.gb hs8
  replace hTr := hTr.gb hs8
  replace ht1 := ht1.gb hs8
  refine L_nil (N_then ⟨fun hN_ => ⟨hbl, trivial⟩, ?_⟩)
  refine T_takeA (i := 13) rfl (by kernel_rfl) (by kernel_rfl) (by kernel_rfl) (by kernel_rfl) (Y_of (fun _ ⟨hbl, _⟩ => R_assign rfl)) ⟨hbl, trivial⟩ rfl ?_
  refine T_done (by kernel_rfl) (CalmE.normal ?_)
  refine N_then (C_ret (R_then (R_in (R_then ?_))))
  refine ret1 Try.results77 rfl ?_
  exact ⟨hB, (Tr.node g2 kl vl (1 + max a.hgt (Tr.node g1 k v (1 + max b.hgt r.hgt) b r).hgt) a (Tr.node g1 k v (1 + max b.hgt r.hgt) b r)), rfl, ht2.top, by simp only [Tr.kvs_node, List.append_assoc, List.cons_append], by simp only [Tr.hok_node, Tr.hgt_node, Tr.cnt_node]; (repeat' apply And.intro) <;> first | assumption | omega⟩

theorem level_d {w : World} {g : Nat} {k v : ByteArray} {pl pr : Value} {h : Int} (hb : Blk w g 148 [.string k, .string v, pl, pr, .int .i64 h]) {l a b : Tr} (hTl : TreeF 148 w.heap.size w l) (okl : l.hok) (hTa : TreeF 148 w.heap.size w a) (oka : a.hok) (hTb : TreeF 148 w.heap.size w b) (okb : b.hok) {gr : Nat} {kr vr : ByteArray} {hr : Int} (hbr : Blk w gr 148 [.string kr, .string vr, .pointer (taddr a), .pointer (taddr b), .int .i64 hr]) (nr : 1 ≤ hr ∧ hr ≤ a.cnt + b.cnt + 1) (hc : l.cnt + a.cnt + b.cnt ≤ 900000) (c0 : ¬ hr + 1 < l.hgt) (c1 : l.hgt + 1 < hr) (c2 : a.hgt ≤ b.hgt) :
    Runs Try.prog 77 #[.pointer (some ⟨g, 0, none⟩), .pointer (taddr l), .pointer (some ⟨gr, 0, none⟩)] w (fun v_ w' => w.grownBy w' none ∧ ∃ t', v_ = .pointer (taddr t') ∧ TreeF 148 w'.heap.size w' t' ∧ t'.kvs = l.kvs ++ (k, v) :: (a.kvs ++ (kr, vr) :: b.kvs) ∧ t'.hok) := by
  have hB := gb_refl w none
  have bdl := Tr.hgt_b okl
  have bda := Tr.hgt_b oka
  have bdb := Tr.hgt_b okb
  refine enter Try.func77 Try.ntmps77 rfl rfl ?_
  refine C_seq (C_reg rfl ?_)
  refine L_run (R_assign rfl) rfl ?_
  refine L_nil (N_then (C_seq (C_block (C_seq (C_reg rfl ?_)))))
  refine L_run (R_move rfl) rfl ?_
  refine L_call rfl cb89 (high_ok (t := l) hTl) rfl ?_
  rintro _ w1 ⟨hs1, rfl⟩
  replace hB := gb_tr hB hs1
  replace hb := hb.gb hs1
  replace hbr := hbr.gb hs1
  replace hTl := hTl.gb hs1
  replace hTa := hTa.gb hs1
  replace hTb := hTb.gb hs1
  refine L_run (R_move rfl) rfl ?_
  refine L_call rfl cb89 (high_c hbr) rfl ?_
  rintro _ w2 ⟨hs2, rfl⟩
  replace hB := gb_tr hB hs2
  replace hb := hb.gb hs2
  replace hbr := hbr.gb hs2
  replace hTl := hTl.gb hs2
  replace hTa := hTa.gb hs2
  replace hTb := hTb.gb hs2
  refine L_run (R_add64 rfl rfl (by omega)) rfl ?_
  refine L_run (R_gtr rfl rfl) rfl ?_
  refine L_run (R_assign rfl) rfl ?_
  refine L_nil (N_then (C_condF rfl (decide_eq_false c0) (C_seq (C_reg rfl ?_))))
  refine L_run (R_move rfl) rfl ?_
  refine L_call rfl cb89 (high_c hbr) rfl ?_
  rintro _ w3 ⟨hs3, rfl⟩
  replace hB := gb_tr hB hs3
  replace hb := hb.gb hs3
  replace hbr := hbr.gb hs3
  replace hTl := hTl.gb hs3
  replace hTa := hTa.gb hs3
  replace hTb := hTb.gb hs3
  refine L_run (R_move rfl) rfl ?_
  refine L_call rfl cb89 (high_ok (t := l) hTl) rfl ?_
  rintro _ w4 ⟨hs4, rfl⟩
  replace hB := gb_tr hB hs4
  replace hb := hb.gb hs4
  replace hbr := hbr.gb hs4
  replace hTl := hTl.gb hs4
  replace hTa := hTa.gb hs4
  replace hTb := hTb.gb hs4
  refine L_run (R_add64 rfl rfl (by omega)) rfl ?_
  refine L_run (R_gtr rfl rfl) rfl ?_
  refine L_run (R_assign rfl) rfl ?_
  refine L_nil (N_then (C_condT rfl (decide_eq_true c1) (C_seq (C_seq ?_))))
  refine C_draw2 rfl mix ?_
  intro w5 hs5 hz1
  replace hB := gb_tr hB hs5
  replace hb := hb.gb hs5
  replace hbr := hbr.gb hs5
  replace hTl := hTl.gb hs5
  replace hTa := hTa.gb hs5
  replace hTb := hTb.gb hs5
  refine ⟨fun W_ => Blk W_ gr 148 [.string kr, .string vr, .pointer (taddr a), .pointer (taddr b), .int .i64 hr] ∧ True, [0, 1, 2, 3, 5, 6, 7, 8, 10], ?_⟩
  refine T_takeA (i := 0) rfl (by kernel_rfl) (by kernel_rfl) (by kernel_rfl) (by kernel_rfl) (Y_of (fun _ ⟨hbr, _⟩ => R_move rfl)) ⟨hbr, trivial⟩ rfl ?_
  refine T_takeA (i := 1) rfl (by kernel_rfl) (by kernel_rfl) (by kernel_rfl) (by kernel_rfl) (Y_of (fun _ ⟨hbr, _⟩ => R_nilck rfl)) ⟨hbr, trivial⟩ rfl ?_
  refine T_takeA (i := 2) rfl (by kernel_rfl) (by kernel_rfl) (by kernel_rfl) (by kernel_rfl) (Y_of (fun _ ⟨hbr, _⟩ => R_field (r := 3) rfl fld148_3 rfl)) ⟨hbr, trivial⟩ rfl ?_
  refine T_takeA (i := 3) rfl (by kernel_rfl) (by kernel_rfl) (by kernel_rfl) (by kernel_rfl) (Y_of (fun _ ⟨hbr, _⟩ => R_load1 rfl scl136 (hbr.cell (i := 3) rfl))) ⟨hbr, trivial⟩ rfl ?_
  refine T_takeA (i := 5) rfl (by kernel_rfl) (by kernel_rfl) (by kernel_rfl) (by kernel_rfl) (Y_of (fun _ ⟨hbr, _⟩ => R_move rfl)) ⟨hbr, trivial⟩ rfl ?_
  refine T_takeA (i := 6) rfl (by kernel_rfl) (by kernel_rfl) (by kernel_rfl) (by kernel_rfl) (Y_of (fun _ ⟨hbr, _⟩ => R_nilck rfl)) ⟨hbr, trivial⟩ rfl ?_
  refine T_takeA (i := 7) rfl (by kernel_rfl) (by kernel_rfl) (by kernel_rfl) (by kernel_rfl) (Y_of (fun _ ⟨hbr, _⟩ => R_field (r := 2) rfl fld148_2 rfl)) ⟨hbr, trivial⟩ rfl ?_
  refine T_takeA (i := 8) rfl (by kernel_rfl) (by kernel_rfl) (by kernel_rfl) (by kernel_rfl) (Y_of (fun _ ⟨hbr, _⟩ => R_load1 rfl scl136 (hbr.cell (i := 2) rfl))) ⟨hbr, trivial⟩ rfl ?_
  refine T_all (rs := [4]) (by kernel_rfl) rfl (all1 (O_one rfl ?_))
  refine L_call rfl cb89 (high_ok (t := b) hTb) rfl ?_
  rintro _ w6 ⟨hs6, rfl⟩
  replace hB := gb_tr hB hs6
  replace hb := hb.gb hs6
  replace hbr := hbr.gb hs6
  replace hTl := hTl.gb hs6
  replace hTa := hTa.gb hs6
  replace hTb := hTb.gb hs6
  refine L_nil (N_then ⟨fun hN_ => ⟨hbr, trivial⟩, ?_⟩)
  refine T_all (rs := [9]) (by kernel_rfl) rfl (all1 (O_one rfl ?_))
  refine L_call rfl cb89 (high_ok (t := a) hTa) rfl ?_
  rintro _ w7 ⟨hs7, rfl⟩
  replace hB := gb_tr hB hs7
  replace hb := hb.gb hs7
  replace hbr := hbr.gb hs7
  replace hTl := hTl.gb hs7
  replace hTa := hTa.gb hs7
  replace hTb := hTb.gb hs7
  refine L_nil (N_then ⟨fun hN_ => ⟨hbr, trivial⟩, ?_⟩)
  refine T_takeA (i := 10) rfl (by kernel_rfl) (by kernel_rfl) (by kernel_rfl) (by kernel_rfl) (Y_of (fun _ ⟨hbr, _⟩ => R_geq rfl rfl)) ⟨hbr, trivial⟩ rfl ?_
  refine T_done (by kernel_rfl) (CalmE.normal ?_)
  refine N_then (C_condT rfl (decide_eq_true c2) (C_seq ?_))
  refine C_draw2 rfl mix ?_
  intro w8 hs8 hz2
  replace hB := gb_tr hB hs8
  replace hb := hb.gb hs8
  replace hbr := hbr.gb hs8
  replace hTl := hTl.gb hs8
  replace hTa := hTa.gb hs8
  replace hTb := hTb.gb hs8
  refine ⟨fun W_ => Blk W_ gr 148 [.string kr, .string vr, .pointer (taddr a), .pointer (taddr b), .int .i64 hr] ∧ True, [0, 1, 2, 3, 4, 5, 6, 8, 9, 10, 11, 13], ?_⟩
  refine T_takeA (i := 0) rfl (by kernel_rfl) (by kernel_rfl) (by kernel_rfl) (by kernel_rfl) (Y_of (fun _ ⟨hbr, _⟩ => R_move rfl)) ⟨hbr, trivial⟩ rfl ?_
  refine T_takeA (i := 1) rfl (by kernel_rfl) (by kernel_rfl) (by kernel_rfl) (by kernel_rfl) (Y_of (fun _ ⟨hbr, _⟩ => R_move rfl)) ⟨hbr, trivial⟩ rfl ?_
  refine T_takeA (i := 2) rfl (by kernel_rfl) (by kernel_rfl) (by kernel_rfl) (by kernel_rfl) (Y_of (fun _ ⟨hbr, _⟩ => R_move rfl)) ⟨hbr, trivial⟩ rfl ?_
  refine T_takeA (i := 3) rfl (by kernel_rfl) (by kernel_rfl) (by kernel_rfl) (by kernel_rfl) (Y_of (fun _ ⟨hbr, _⟩ => R_move rfl)) ⟨hbr, trivial⟩ rfl ?_
  refine T_takeA (i := 4) rfl (by kernel_rfl) (by kernel_rfl) (by kernel_rfl) (by kernel_rfl) (Y_of (fun _ ⟨hbr, _⟩ => R_nilck rfl)) ⟨hbr, trivial⟩ rfl ?_
  refine T_takeA (i := 5) rfl (by kernel_rfl) (by kernel_rfl) (by kernel_rfl) (by kernel_rfl) (Y_of (fun _ ⟨hbr, _⟩ => R_field (r := 2) rfl fld148_2 rfl)) ⟨hbr, trivial⟩ rfl ?_
  refine T_takeA (i := 6) rfl (by kernel_rfl) (by kernel_rfl) (by kernel_rfl) (by kernel_rfl) (Y_of (fun _ ⟨hbr, _⟩ => R_load1 rfl scl136 (hbr.cell (i := 2) rfl))) ⟨hbr, trivial⟩ rfl ?_
  refine T_takeA (i := 8) rfl (by kernel_rfl) (by kernel_rfl) (by kernel_rfl) (by kernel_rfl) (Y_of (fun _ ⟨hbr, _⟩ => R_move rfl)) ⟨hbr, trivial⟩ rfl ?_
  refine T_takeA (i := 9) rfl (by kernel_rfl) (by kernel_rfl) (by kernel_rfl) (by kernel_rfl) (Y_of (fun _ ⟨hbr, _⟩ => R_nilck rfl)) ⟨hbr, trivial⟩ rfl ?_
  refine T_takeA (i := 10) rfl (by kernel_rfl) (by kernel_rfl) (by kernel_rfl) (by kernel_rfl) (Y_of (fun _ ⟨hbr, _⟩ => R_field (r := 3) rfl fld148_3 rfl)) ⟨hbr, trivial⟩ rfl ?_
  refine T_takeA (i := 11) rfl (by kernel_rfl) (by kernel_rfl) (by kernel_rfl) (by kernel_rfl) (Y_of (fun _ ⟨hbr, _⟩ => R_load1 rfl scl136 (hbr.cell (i := 3) rfl))) ⟨hbr, trivial⟩ rfl ?_
  refine T_all (rs := [7]) (by kernel_rfl) rfl (all1 (O_one rfl ?_))
  refine L_call rfl cb90 (with_ok (l := l) (r := a) hb hTl hTa (by first | omega | (simp only [Tr.hgt_node]; omega)) (by first | omega | (simp only [Tr.hgt_node]; omega))) rfl ?_
  rintro _ w9 ⟨hs9, g1, rfl, ht1⟩
  replace hB := gb_tr hB hs9
  replace hb := hb.gb hs9
  replace hbr := hbr.gb hs9
  replace hTl := hTl.gb hs9
  replace hTa := hTa.gb hs9
  replace hTb := hTb.gb hs9
  refine L_nil (N_then ⟨fun hN_ => ⟨hbr, trivial⟩, ?_⟩)
  refine T_all (rs := [12]) (by kernel_rfl) rfl (all1 (O_one rfl ?_))
  refine L_call rfl cb90 (with_ok (l := (Tr.node g1 k v (1 + max l.hgt a.hgt) l a)) (r := b) hbr ht1 hTb (by first | omega | (simp only [Tr.hgt_node]; omega)) (by first | omega | (simp only [Tr.hgt_node]; omega))) rfl ?_
  rintro _ w10 ⟨hs10, g2, rfl, ht2⟩
  replace hB := gb_tr hB hs10
  replace hb := hb.gb hs10
  replace hbr := hbr.gb hs10
  replace hTl := hTl.gb hs10
  replace hTa := hTa.gb hs10
  replace hTb := hTb.gb hs10
  replace ht1 := ht1.gb hs10
  refine L_nil (N_then ⟨fun hN_ => ⟨hbr, trivial⟩, ?_⟩)
  refine T_takeA (i := 13) rfl (by kernel_rfl) (by kernel_rfl) (by kernel_rfl) (by kernel_rfl) (Y_of (fun _ ⟨hbr, _⟩ => R_assign rfl)) ⟨hbr, trivial⟩ rfl ?_
  refine T_done (by kernel_rfl) (CalmE.normal ?_)
  refine N_then (C_ret (R_then (R_in (R_then ?_))))
  refine ret1 Try.results77 rfl ?_
  exact ⟨hB, (Tr.node g2 kr vr (1 + max (Tr.node g1 k v (1 + max l.hgt a.hgt) l a).hgt b.hgt) (Tr.node g1 k v (1 + max l.hgt a.hgt) l a) b), rfl, ht2.top, by simp only [Tr.kvs_node, List.append_assoc, List.cons_append], by simp only [Tr.hok_node, Tr.hgt_node, Tr.cnt_node]; (repeat' apply And.intro) <;> first | assumption | omega⟩

theorem level_c {w : World} {g : Nat} {k v : ByteArray} {pl pr : Value} {h : Int} (hb : Blk w g 148 [.string k, .string v, pl, pr, .int .i64 h]) {a b c r : Tr} (hTa : TreeF 148 w.heap.size w a) (oka : a.hok) (hTb : TreeF 148 w.heap.size w b) (okb : b.hok) (hTc : TreeF 148 w.heap.size w c) (okc : c.hok) (hTr : TreeF 148 w.heap.size w r) (okr : r.hok) {gm : Nat} {km vm : ByteArray} {hm : Int} (hbm : Blk w gm 148 [.string km, .string vm, .pointer (taddr b), .pointer (taddr c), .int .i64 hm]) (nm : 1 ≤ hm ∧ hm ≤ b.cnt + c.cnt + 1) {gl : Nat} {kl vl : ByteArray} {hl : Int} (hbl : Blk w gl 148 [.string kl, .string vl, .pointer (taddr a), .pointer (some ⟨gm, 0, none⟩), .int .i64 hl]) (nl : 1 ≤ hl ∧ hl ≤ a.cnt + (b.cnt + c.cnt + 1) + 1) (hc : a.cnt + b.cnt + c.cnt + r.cnt ≤ 900000) (c0 : r.hgt + 1 < hl) (c1 : ¬ hm ≤ a.hgt) :
    Runs Try.prog 77 #[.pointer (some ⟨g, 0, none⟩), .pointer (some ⟨gl, 0, none⟩), .pointer (taddr r)] w (fun v_ w' => w.grownBy w' none ∧ ∃ t', v_ = .pointer (taddr t') ∧ TreeF 148 w'.heap.size w' t' ∧ t'.kvs = (a.kvs ++ (kl, vl) :: (b.kvs ++ (km, vm) :: c.kvs)) ++ (k, v) :: r.kvs ∧ t'.hok) := by
  have hB := gb_refl w none
  have bda := Tr.hgt_b oka
  have bdb := Tr.hgt_b okb
  have bdc := Tr.hgt_b okc
  have bdr := Tr.hgt_b okr
  refine enter Try.func77 Try.ntmps77 rfl rfl ?_
  refine C_seq (C_reg rfl ?_)
  refine L_run (R_assign rfl) rfl ?_
  refine L_nil (N_then (C_seq (C_block (C_seq (C_reg rfl ?_)))))
  refine L_run (R_move rfl) rfl ?_
  refine L_call rfl cb89 (high_c hbl) rfl ?_
  rintro _ w1 ⟨hs1, rfl⟩
  replace hB := gb_tr hB hs1
  replace hb := hb.gb hs1
  replace hbm := hbm.gb hs1
  replace hbl := hbl.gb hs1
  replace hTa := hTa.gb hs1
  replace hTb := hTb.gb hs1
  replace hTc := hTc.gb hs1
  replace hTr := hTr.gb hs1
  refine L_run (R_move rfl) rfl ?_
  refine L_call rfl cb89 (high_ok (t := r) hTr) rfl ?_
  rintro _ w2 ⟨hs2, rfl⟩
  replace hB := gb_tr hB hs2
  replace hb := hb.gb hs2
  replace hbm := hbm.gb hs2
  replace hbl := hbl.gb hs2
  replace hTa := hTa.gb hs2
  replace hTb := hTb.gb hs2
  replace hTc := hTc.gb hs2
  replace hTr := hTr.gb hs2
  refine L_run (R_add64 rfl rfl (by omega)) rfl ?_
  refine L_run (R_gtr rfl rfl) rfl ?_
  refine L_run (R_assign rfl) rfl ?_
  refine L_nil (N_then (C_condT rfl (decide_eq_true c0) (C_seq (C_seq ?_))))
  refine C_draw2 rfl mix ?_
  intro w3 hs3 hz1
  replace hB := gb_tr hB hs3
  replace hb := hb.gb hs3
  replace hbm := hbm.gb hs3
  replace hbl := hbl.gb hs3
  replace hTa := hTa.gb hs3
  replace hTb := hTb.gb hs3
  replace hTc := hTc.gb hs3
  replace hTr := hTr.gb hs3
  refine ⟨fun W_ => Blk W_ gl 148 [.string kl, .string vl, .pointer (taddr a), .pointer (some ⟨gm, 0, none⟩), .int .i64 hl] ∧ True, [0, 1, 2, 3, 5, 6, 7, 8, 10], ?_⟩
  refine T_takeA (i := 0) rfl (by kernel_rfl) (by kernel_rfl) (by kernel_rfl) (by kernel_rfl) (Y_of (fun _ ⟨hbl, _⟩ => R_move rfl)) ⟨hbl, trivial⟩ rfl ?_
  refine T_takeA (i := 1) rfl (by kernel_rfl) (by kernel_rfl) (by kernel_rfl) (by kernel_rfl) (Y_of (fun _ ⟨hbl, _⟩ => R_nilck rfl)) ⟨hbl, trivial⟩ rfl ?_
  refine T_takeA (i := 2) rfl (by kernel_rfl) (by kernel_rfl) (by kernel_rfl) (by kernel_rfl) (Y_of (fun _ ⟨hbl, _⟩ => R_field (r := 2) rfl fld148_2 rfl)) ⟨hbl, trivial⟩ rfl ?_
  refine T_takeA (i := 3) rfl (by kernel_rfl) (by kernel_rfl) (by kernel_rfl) (by kernel_rfl) (Y_of (fun _ ⟨hbl, _⟩ => R_load1 rfl scl136 (hbl.cell (i := 2) rfl))) ⟨hbl, trivial⟩ rfl ?_
  refine T_takeA (i := 5) rfl (by kernel_rfl) (by kernel_rfl) (by kernel_rfl) (by kernel_rfl) (Y_of (fun _ ⟨hbl, _⟩ => R_move rfl)) ⟨hbl, trivial⟩ rfl ?_
  refine T_takeA (i := 6) rfl (by kernel_rfl) (by kernel_rfl) (by kernel_rfl) (by kernel_rfl) (Y_of (fun _ ⟨hbl, _⟩ => R_nilck rfl)) ⟨hbl, trivial⟩ rfl ?_
  refine T_takeA (i := 7) rfl (by kernel_rfl) (by kernel_rfl) (by kernel_rfl) (by kernel_rfl) (Y_of (fun _ ⟨hbl, _⟩ => R_field (r := 3) rfl fld148_3 rfl)) ⟨hbl, trivial⟩ rfl ?_
  refine T_takeA (i := 8) rfl (by kernel_rfl) (by kernel_rfl) (by kernel_rfl) (by kernel_rfl) (Y_of (fun _ ⟨hbl, _⟩ => R_load1 rfl scl136 (hbl.cell (i := 3) rfl))) ⟨hbl, trivial⟩ rfl ?_
  refine T_all (rs := [4]) (by kernel_rfl) rfl (all1 (O_one rfl ?_))
  refine L_call rfl cb89 (high_ok (t := a) hTa) rfl ?_
  rintro _ w4 ⟨hs4, rfl⟩
  replace hB := gb_tr hB hs4
  replace hb := hb.gb hs4
  replace hbm := hbm.gb hs4
  replace hbl := hbl.gb hs4
  replace hTa := hTa.gb hs4
  replace hTb := hTb.gb hs4
  replace hTc := hTc.gb hs4
  replace hTr := hTr.gb hs4
  refine L_nil (N_then ⟨fun hN_ => ⟨hbl, trivial⟩, ?_⟩)
  refine T_all (rs := [9]) (by kernel_rfl) rfl (all1 (O_one rfl ?_))
  refine L_call rfl cb89 (high_c hbm) rfl ?_
  rintro _ w5 ⟨hs5, rfl⟩
  replace hB := gb_tr hB hs5
  replace hb := hb.gb hs5
  replace hbm := hbm.gb hs5
  replace hbl := hbl.gb hs5
  replace hTa := hTa.gb hs5
  replace hTb := hTb.gb hs5
  replace hTc := hTc.gb hs5
  replace hTr := hTr.gb hs5
  refine L_nil (N_then ⟨fun hN_ => ⟨hbl, trivial⟩, ?_⟩)
  refine T_takeA (i := 10) rfl (by kernel_rfl) (by kernel_rfl) (by kernel_rfl) (by kernel_rfl) (Y_of (fun _ ⟨hbl, _⟩ => R_geq rfl rfl)) ⟨hbl, trivial⟩ rfl ?_
  refine T_done (by kernel_rfl) (CalmE.normal ?_)
  refine N_then (C_condF rfl (decide_eq_false c1) (C_skip (N_then (C_seq ?_))))
  refine C_draw2 rfl mix ?_
  intro w6 hs6 hz2
  replace hB := gb_tr hB hs6
  replace hb := hb.gb hs6
  replace hbm := hbm.gb hs6
  replace hbl := hbl.gb hs6
  replace hTa := hTa.gb hs6
  replace hTb := hTb.gb hs6
  replace hTc := hTc.gb hs6
  replace hTr := hTr.gb hs6
  refine ⟨fun W_ => Blk W_ gm 148 [.string km, .string vm, .pointer (taddr b), .pointer (taddr c), .int .i64 hm] ∧ Blk W_ gl 148 [.string kl, .string vl, .pointer (taddr a), .pointer (some ⟨gm, 0, none⟩), .int .i64 hl] ∧ True, [0, 1, 2, 3, 4, 5, 6, 7, 8, 9, 10, 11, 12, 13, 14, 15, 17, 18, 19, 20, 21, 22, 23, 24, 25, 28], ?_⟩
  refine T_takeA (i := 0) rfl (by kernel_rfl) (by kernel_rfl) (by kernel_rfl) (by kernel_rfl) (Y_of (fun _ ⟨hbm, hbl, _⟩ => R_move rfl)) ⟨hbm, hbl, trivial⟩ rfl ?_
  refine T_takeA (i := 1) rfl (by kernel_rfl) (by kernel_rfl) (by kernel_rfl) (by kernel_rfl) (Y_of (fun _ ⟨hbm, hbl, _⟩ => R_nilck rfl)) ⟨hbm, hbl, trivial⟩ rfl ?_
  refine T_takeA (i := 2) rfl (by kernel_rfl) (by kernel_rfl) (by kernel_rfl) (by kernel_rfl) (Y_of (fun _ ⟨hbm, hbl, _⟩ => R_field (r := 3) rfl fld148_3 rfl)) ⟨hbm, hbl, trivial⟩ rfl ?_
  refine T_takeA (i := 3) rfl (by kernel_rfl) (by kernel_rfl) (by kernel_rfl) (by kernel_rfl) (Y_of (fun _ ⟨hbm, hbl, _⟩ => R_load1 rfl scl136 (hbl.cell (i := 3) rfl))) ⟨hbm, hbl, trivial⟩ rfl ?_
  refine T_takeA (i := 4) rfl (by kernel_rfl) (by kernel_rfl) (by kernel_rfl) (by kernel_rfl) (Y_of (fun _ ⟨hbm, hbl, _⟩ => R_move rfl)) ⟨hbm, hbl, trivial⟩ rfl ?_
  refine T_takeA (i := 5) rfl (by kernel_rfl) (by kernel_rfl) (by kernel_rfl) (by kernel_rfl) (Y_of (fun _ ⟨hbm, hbl, _⟩ => R_move rfl)) ⟨hbm, hbl, trivial⟩ rfl ?_
  refine T_takeA (i := 6) rfl (by kernel_rfl) (by kernel_rfl) (by kernel_rfl) (by kernel_rfl) (Y_of (fun _ ⟨hbm, hbl, _⟩ => R_nilck rfl)) ⟨hbm, hbl, trivial⟩ rfl ?_
  refine T_takeA (i := 7) rfl (by kernel_rfl) (by kernel_rfl) (by kernel_rfl) (by kernel_rfl) (Y_of (fun _ ⟨hbm, hbl, _⟩ => R_field (r := 2) rfl fld148_2 rfl)) ⟨hbm, hbl, trivial⟩ rfl ?_
  refine T_takeA (i := 8) rfl (by kernel_rfl) (by kernel_rfl) (by kernel_rfl) (by kernel_rfl) (Y_of (fun _ ⟨hbm, hbl, _⟩ => R_load1 rfl scl136 (hbl.cell (i := 2) rfl))) ⟨hbm, hbl, trivial⟩ rfl ?_
  refine T_takeA (i := 9) rfl (by kernel_rfl) (by kernel_rfl) (by kernel_rfl) (by kernel_rfl) (Y_of (fun _ ⟨hbm, hbl, _⟩ => R_move rfl)) ⟨hbm, hbl, trivial⟩ rfl ?_
  refine T_takeA (i := 10) rfl (by kernel_rfl) (by kernel_rfl) (by kernel_rfl) (by kernel_rfl) (Y_of (fun _ ⟨hbm, hbl, _⟩ => R_nilck rfl)) ⟨hbm, hbl, trivial⟩ rfl ?_
  refine T_takeA (i := 11) rfl (by kernel_rfl) (by kernel_rfl) (by kernel_rfl) (by kernel_rfl) (Y_of (fun _ ⟨hbm, hbl, _⟩ => R_field (r := 3) rfl fld148_3 rfl)) ⟨hbm, hbl, trivial⟩ rfl ?_
  refine T_takeA (i := 12) rfl (by kernel_rfl) (by kernel_rfl) (by kernel_rfl) (by kernel_rfl) (Y_of (fun _ ⟨hbm, hbl, _⟩ => R_load1 rfl scl136 (hbl.cell (i := 3) rfl))) ⟨hbm, hbl, trivial⟩ rfl ?_
  refine T_takeA (i := 13) rfl (by kernel_rfl) (by kernel_rfl) (by kernel_rfl) (by kernel_rfl) (Y_of (fun _ ⟨hbm, hbl, _⟩ => R_nilck rfl)) ⟨hbm, hbl, trivial⟩ rfl ?_
  refine T_takeA (i := 14) rfl (by kernel_rfl) (by kernel_rfl) (by kernel_rfl) (by kernel_rfl) (Y_of (fun _ ⟨hbm, hbl, _⟩ => R_field (r := 2) rfl fld148_2 rfl)) ⟨hbm, hbl, trivial⟩ rfl ?_
  refine T_takeA (i := 15) rfl (by kernel_rfl) (by kernel_rfl) (by kernel_rfl) (by kernel_rfl) (Y_of (fun _ ⟨hbm, hbl, _⟩ => R_load1 rfl scl136 (hbm.cell (i := 2) rfl))) ⟨hbm, hbl, trivial⟩ rfl ?_
  refine T_takeA (i := 17) rfl (by kernel_rfl) (by kernel_rfl) (by kernel_rfl) (by kernel_rfl) (Y_of (fun _ ⟨hbm, hbl, _⟩ => R_move rfl)) ⟨hbm, hbl, trivial⟩ rfl ?_
  refine T_takeA (i := 18) rfl (by kernel_rfl) (by kernel_rfl) (by kernel_rfl) (by kernel_rfl) (Y_of (fun _ ⟨hbm, hbl, _⟩ => R_move rfl)) ⟨hbm, hbl, trivial⟩ rfl ?_
  refine T_takeA (i := 19) rfl (by kernel_rfl) (by kernel_rfl) (by kernel_rfl) (by kernel_rfl) (Y_of (fun _ ⟨hbm, hbl, _⟩ => R_nilck rfl)) ⟨hbm, hbl, trivial⟩ rfl ?_
  refine T_takeA (i := 20) rfl (by kernel_rfl) (by kernel_rfl) (by kernel_rfl) (by kernel_rfl) (Y_of (fun _ ⟨hbm, hbl, _⟩ => R_field (r := 3) rfl fld148_3 rfl)) ⟨hbm, hbl, trivial⟩ rfl ?_
  refine T_takeA (i := 21) rfl (by kernel_rfl) (by kernel_rfl) (by kernel_rfl) (by kernel_rfl) (Y_of (fun _ ⟨hbm, hbl, _⟩ => R_load1 rfl scl136 (hbl.cell (i := 3) rfl))) ⟨hbm, hbl, trivial⟩ rfl ?_
  refine T_takeA (i := 22) rfl (by kernel_rfl) (by kernel_rfl) (by kernel_rfl) (by kernel_rfl) (Y_of (fun _ ⟨hbm, hbl, _⟩ => R_nilck rfl)) ⟨hbm, hbl, trivial⟩ rfl ?_
  refine T_takeA (i := 23) rfl (by kernel_rfl) (by kernel_rfl) (by kernel_rfl) (by kernel_rfl) (Y_of (fun _ ⟨hbm, hbl, _⟩ => R_field (r := 3) rfl fld148_3 rfl)) ⟨hbm, hbl, trivial⟩ rfl ?_
  refine T_takeA (i := 24) rfl (by kernel_rfl) (by kernel_rfl) (by kernel_rfl) (by kernel_rfl) (Y_of (fun _ ⟨hbm, hbl, _⟩ => R_load1 rfl scl136 (hbm.cell (i := 3) rfl))) ⟨hbm, hbl, trivial⟩ rfl ?_
  refine T_takeA (i := 25) rfl (by kernel_rfl) (by kernel_rfl) (by kernel_rfl) (by kernel_rfl) (Y_of (fun _ ⟨hbm, hbl, _⟩ => R_move rfl)) ⟨hbm, hbl, trivial⟩ rfl ?_
  refine T_all (rs := [16]) (by kernel_rfl) rfl (all1 (O_one rfl ?_))
  refine L_call rfl cb90 (with_ok (l := a) (r := b) hbl hTa hTb (by first | omega | (simp only [Tr.hgt_node]; omega)) (by first | omega | (simp only [Tr.hgt_node]; omega))) rfl ?_
  rintro _ w7 ⟨hs7, g1, rfl, ht1⟩
  replace hB := gb_tr hB hs7
  replace hb := hb.gb hs7
  replace hbm := hbm.gb hs7
  replace hbl := hbl.gb hs7
  replace hTa := hTa.gb hs7
  replace hTb := hTb.gb hs7
  replace hTc := hTc.gb hs7
  replace hTr := hTr.gb hs7
  refine L_nil (N_then ⟨fun hN_ => ⟨hbm, hbl, trivial⟩, ?_⟩)
  refine T_all (rs := [26]) (by kernel_rfl) rfl (all1 (O_one rfl ?_))
  refine L_call rfl cb90 (with_ok (l := c) (r := r) hb hTc hTr (by first | omega | (simp only [Tr.hgt_node]; omega)) (by first | omega | (simp only [Tr.hgt_node]; omega))) rfl ?_
  rintro _ w8 ⟨hs8, g2, rfl, ht2⟩
  replace hB := gb_tr hB hs8
  replace hb := hb.gb hs8
  replace hbm := hbm.gb hs8
  replace hbl := hbl.gb hs8
  replace hTa := hTa.gb hs8
  replace hTb := hTb.gb hs8
  replace hTc := hTc.gb hs8
  replace hTr := hTr.gb hs8
  replace ht1 := ht1.gb hs8
  refine L_nil (N_then ⟨fun hN_ => ⟨hbm, hbl, trivial⟩, ?_⟩)
  refine T_all (rs := [27]) (by kernel_rfl) rfl (all1 (O_one rfl ?_))
  refine L_call rfl cb90 (with_ok (l := (Tr.node g1 kl vl (1 + max a.hgt b.hgt) a b)) (r := (Tr.node g2 k v (1 + max c.hgt r.hgt) c r)) hbm ht1 ht2 (by first | omega | (simp only [Tr.hgt_node]; omega)) (by first | omega | (simp only [Tr.hgt_node]; omega))) rfl ?_
  rintro _ w9 ⟨hs9, g3, rfl, ht3⟩
  replace hB := gb_tr hB hs9
  replace hb := hb.gb hs9
  replace hbm := hbm.gb hs9
  replace hbl := hbl.gb hs9
  replace hTa := hTa.gb hs9
  replace hTb := hTb.gb hs9
  replace hTc := hTc.gb hs9
  replace hTr := hTr.gb hs9
  replace ht1 := ht1.gb hs9
  replace ht2 := ht2.gb hs9
  refine L_nil (N_then ⟨fun hN_ => ⟨hbm, hbl, trivial⟩, ?_⟩)
  refine T_takeA (i := 28) rfl (by kernel_rfl) (by kernel_rfl) (by kernel_rfl) (by kernel_rfl) (Y_of (fun _ ⟨hbm, hbl, _⟩ => R_assign rfl)) ⟨hbm, hbl, trivial⟩ rfl ?_
  refine T_done (by kernel_rfl) (CalmE.normal ?_)
  refine N_then (C_ret (R_in (R_then ?_)))
  refine ret1 Try.results77 rfl ?_
  exact ⟨hB, (Tr.node g3 km vm (1 + max (Tr.node g1 kl vl (1 + max a.hgt b.hgt) a b).hgt (Tr.node g2 k v (1 + max c.hgt r.hgt) c r).hgt) (Tr.node g1 kl vl (1 + max a.hgt b.hgt) a b) (Tr.node g2 k v (1 + max c.hgt r.hgt) c r)), rfl, ht3.top, by simp only [Tr.kvs_node, List.append_assoc, List.cons_append], by simp only [Tr.hok_node, Tr.hgt_node, Tr.cnt_node]; (repeat' apply And.intro) <;> first | assumption | omega⟩

theorem level_e {w : World} {g : Nat} {k v : ByteArray} {pl pr : Value} {h : Int} (hb : Blk w g 148 [.string k, .string v, pl, pr, .int .i64 h]) {l a b c : Tr} (hTl : TreeF 148 w.heap.size w l) (okl : l.hok) (hTa : TreeF 148 w.heap.size w a) (oka : a.hok) (hTb : TreeF 148 w.heap.size w b) (okb : b.hok) (hTc : TreeF 148 w.heap.size w c) (okc : c.hok) {gm : Nat} {km vm : ByteArray} {hm : Int} (hbm : Blk w gm 148 [.string km, .string vm, .pointer (taddr b), .pointer (taddr c), .int .i64 hm]) (nm : 1 ≤ hm ∧ hm ≤ b.cnt + c.cnt + 1) {gr : Nat} {kr vr : ByteArray} {hr : Int} (hbr : Blk w gr 148 [.string kr, .string vr, .pointer (some ⟨gm, 0, none⟩), .pointer (taddr a), .int .i64 hr]) (nr : 1 ≤ hr ∧ hr ≤ a.cnt + (b.cnt + c.cnt + 1) + 1) (hc : l.cnt + a.cnt + b.cnt + c.cnt ≤ 900000) (c0 : ¬ hr + 1 < l.hgt) (c1 : l.hgt + 1 < hr) (c2 : ¬ hm ≤ a.hgt) :
    Runs Try.prog 77 #[.pointer (some ⟨g, 0, none⟩), .pointer (taddr l), .pointer (some ⟨gr, 0, none⟩)] w (fun v_ w' => w.grownBy w' none ∧ ∃ t', v_ = .pointer (taddr t') ∧ TreeF 148 w'.heap.size w' t' ∧ t'.kvs = l.kvs ++ (k, v) :: ((b.kvs ++ (km, vm) :: c.kvs) ++ (kr, vr) :: a.kvs) ∧ t'.hok) := by
  have hB := gb_refl w none
  have bdl := Tr.hgt_b okl
  have bda := Tr.hgt_b oka
  have bdb := Tr.hgt_b okb
  have bdc := Tr.hgt_b okc
  refine enter Try.func77 Try.ntmps77 rfl rfl ?_
  refine C_seq (C_reg rfl ?_)
  refine L_run (R_assign rfl) rfl ?_
  refine L_nil (N_then (C_seq (C_block (C_seq (C_reg rfl ?_)))))
  refine L_run (R_move rfl) rfl ?_
  refine L_call rfl cb89 (high_ok (t := l) hTl) rfl ?_
  rintro _ w1 ⟨hs1, rfl⟩
  replace hB := gb_tr hB hs1
  replace hb := hb.gb hs1
  replace hbm := hbm.gb hs1
  replace hbr := hbr.gb hs1
  replace hTl := hTl.gb hs1
  replace hTa := hTa.gb hs1
  replace hTb := hTb.gb hs1
  replace hTc := hTc.gb hs1
  refine L_run (R_move rfl) rfl ?_
  refine L_call rfl cb89 (high_c hbr) rfl ?_
  rintro _ w2 ⟨hs2, rfl⟩
  replace hB := gb_tr hB hs2
  replace hb := hb.gb hs2
  replace hbm := hbm.gb hs2
  replace hbr := hbr.gb hs2
  replace hTl := hTl.gb hs2
  replace hTa := hTa.gb hs2
  replace hTb := hTb.gb hs2
  replace hTc := hTc.gb hs2
  refine L_run (R_add64 rfl rfl (by omega)) rfl ?_
  refine L_run (R_gtr rfl rfl) rfl ?_
  refine L_run (R_assign rfl) rfl ?_
  refine L_nil (N_then (C_condF rfl (decide_eq_false c0) (C_seq (C_reg rfl ?_))))
  refine L_run (R_move rfl) rfl ?_
  refine L_call rfl cb89 (high_c hbr) rfl ?_
  rintro _ w3 ⟨hs3, rfl⟩
  replace hB := gb_tr hB hs3
  replace hb := hb.gb hs3
  replace hbm := hbm.gb hs3
  replace hbr := hbr.gb hs3
  replace hTl := hTl.gb hs3
  replace hTa := hTa.gb hs3
  replace hTb := hTb.gb hs3
  replace hTc := hTc.gb hs3
  refine L_run (R_move rfl) rfl ?_
  refine L_call rfl cb89 (high_ok (t := l) hTl) rfl ?_
  rintro _ w4 ⟨hs4, rfl⟩
  replace hB := gb_tr hB hs4
  replace hb := hb.gb hs4
  replace hbm := hbm.gb hs4
  replace hbr := hbr.gb hs4
  replace hTl := hTl.gb hs4
  replace hTa := hTa.gb hs4
  replace hTb := hTb.gb hs4
  replace hTc := hTc.gb hs4
  refine L_run (R_add64 rfl rfl (by omega)) rfl ?_
  refine L_run (R_gtr rfl rfl) rfl ?_
  refine L_run (R_assign rfl) rfl ?_
  refine L_nil (N_then (C_condT rfl (decide_eq_true c1) (C_seq (C_seq ?_))))
  refine C_draw2 rfl mix ?_
  intro w5 hs5 hz1
  replace hB := gb_tr hB hs5
  replace hb := hb.gb hs5
  replace hbm := hbm.gb hs5
  replace hbr := hbr.gb hs5
  replace hTl := hTl.gb hs5
  replace hTa := hTa.gb hs5
  replace hTb := hTb.gb hs5
  replace hTc := hTc.gb hs5
  refine ⟨fun W_ => Blk W_ gr 148 [.string kr, .string vr, .pointer (some ⟨gm, 0, none⟩), .pointer (taddr a), .int .i64 hr] ∧ True, [0, 1, 2, 3, 5, 6, 7, 8, 10], ?_⟩
  refine T_takeA (i := 0) rfl (by kernel_rfl) (by kernel_rfl) (by kernel_rfl) (by kernel_rfl) (Y_of (fun _ ⟨hbr, _⟩ => R_move rfl)) ⟨hbr, trivial⟩ rfl ?_
  refine T_takeA (i := 1) rfl (by kernel_rfl) (by kernel_rfl) (by kernel_rfl) (by kernel_rfl) (Y_of (fun _ ⟨hbr, _⟩ => R_nilck rfl)) ⟨hbr, trivial⟩ rfl ?_
  refine T_takeA (i := 2) rfl (by kernel_rfl) (by kernel_rfl) (by kernel_rfl) (by kernel_rfl) (Y_of (fun _ ⟨hbr, _⟩ => R_field (r := 3) rfl fld148_3 rfl)) ⟨hbr, trivial⟩ rfl ?_
  refine T_takeA (i := 3) rfl (by kernel_rfl) (by kernel_rfl) (by kernel_rfl) (by kernel_rfl) (Y_of (fun _ ⟨hbr, _⟩ => R_load1 rfl scl136 (hbr.cell (i := 3) rfl))) ⟨hbr, trivial⟩ rfl ?_
  refine T_takeA (i := 5) rfl (by kernel_rfl) (by kernel_rfl) (by kernel_rfl) (by kernel_rfl) (Y_of (fun _ ⟨hbr, _⟩ => R_move rfl)) ⟨hbr, trivial⟩ rfl ?_
  refine T_takeA (i := 6) rfl (by kernel_rfl) (by kernel_rfl) (by kernel_rfl) (by kernel_rfl) (Y_of (fun _ ⟨hbr, _⟩ => R_nilck rfl)) ⟨hbr, trivial⟩ rfl ?_
  refine T_takeA (i := 7) rfl (by kernel_rfl) (by kernel_rfl) (by kernel_rfl) (by kernel_rfl) (Y_of (fun _ ⟨hbr, _⟩ => R_field (r := 2) rfl fld148_2 rfl)) ⟨hbr, trivial⟩ rfl ?_
  refine T_takeA (i := 8) rfl (by kernel_rfl) (by kernel_rfl) (by kernel_rfl) (by kernel_rfl) (Y_of (fun _ ⟨hbr, _⟩ => R_load1 rfl scl136 (hbr.cell (i := 2) rfl))) ⟨hbr, trivial⟩ rfl ?_
  refine T_all (rs := [4]) (by kernel_rfl) rfl (all1 (O_one rfl ?_))
  refine L_call rfl cb89 (high_ok (t := a) hTa) rfl ?_
  rintro _ w6 ⟨hs6, rfl⟩
  replace hB := gb_tr hB hs6
  replace hb := hb.gb hs6
  replace hbm := hbm.gb hs6
  replace hbr := hbr.gb hs6
  replace hTl := hTl.gb hs6
  replace hTa := hTa.gb hs6
  replace hTb := hTb.gb hs6
  replace hTc := hTc.gb hs6
  refine L_nil (N_then ⟨fun hN_ => ⟨hbr, trivial⟩, ?_⟩)
  refine T_all (rs := [9]) (by kernel_rfl) rfl (all1 (O_one rfl ?_))
  refine L_call rfl cb89 (high_c hbm) rfl ?_
  rintro _ w7 ⟨hs7, rfl⟩
  replace hB := gb_tr hB hs7
  replace hb := hb.gb hs7
  replace hbm := hbm.gb hs7
  replace hbr := hbr.gb hs7
  replace hTl := hTl.gb hs7
  replace hTa := hTa.gb hs7
  replace hTb := hTb.gb hs7
  replace hTc := hTc.gb hs7
  refine L_nil (N_then ⟨fun hN_ => ⟨hbr, trivial⟩, ?_⟩)
  refine T_takeA (i := 10) rfl (by kernel_rfl) (by kernel_rfl) (by kernel_rfl) (by kernel_rfl) (Y_of (fun _ ⟨hbr, _⟩ => R_geq rfl rfl)) ⟨hbr, trivial⟩ rfl ?_
  refine T_done (by kernel_rfl) (CalmE.normal ?_)
  refine N_then (C_condF rfl (decide_eq_false c2) (C_skip (N_then (C_seq ?_))))
  refine C_draw2 rfl mix ?_
  intro w8 hs8 hz2
  replace hB := gb_tr hB hs8
  replace hb := hb.gb hs8
  replace hbm := hbm.gb hs8
  replace hbr := hbr.gb hs8
  replace hTl := hTl.gb hs8
  replace hTa := hTa.gb hs8
  replace hTb := hTb.gb hs8
  replace hTc := hTc.gb hs8
  refine ⟨fun W_ => Blk W_ gm 148 [.string km, .string vm, .pointer (taddr b), .pointer (taddr c), .int .i64 hm] ∧ Blk W_ gr 148 [.string kr, .string vr, .pointer (some ⟨gm, 0, none⟩), .pointer (taddr a), .int .i64 hr] ∧ True, [0, 1, 2, 3, 4, 5, 6, 7, 8, 9, 10, 11, 12, 14, 15, 16, 17, 18, 19, 20, 21, 22, 23, 24, 25, 28], ?_⟩
  refine T_takeA (i := 0) rfl (by kernel_rfl) (by kernel_rfl) (by kernel_rfl) (by kernel_rfl) (Y_of (fun _ ⟨hbm, hbr, _⟩ => R_move rfl)) ⟨hbm, hbr, trivial⟩ rfl ?_
  refine T_takeA (i := 1) rfl (by kernel_rfl) (by kernel_rfl) (by kernel_rfl) (by kernel_rfl) (Y_of (fun _ ⟨hbm, hbr, _⟩ => R_nilck rfl)) ⟨hbm, hbr, trivial⟩ rfl ?_
  refine T_takeA (i := 2) rfl (by kernel_rfl) (by kernel_rfl) (by kernel_rfl) (by kernel_rfl) (Y_of (fun _ ⟨hbm, hbr, _⟩ => R_field (r := 2) rfl fld148_2 rfl)) ⟨hbm, hbr, trivial⟩ rfl ?_
  refine T_takeA (i := 3) rfl (by kernel_rfl) (by kernel_rfl) (by kernel_rfl) (by kernel_rfl) (Y_of (fun _ ⟨hbm, hbr, _⟩ => R_load1 rfl scl136 (hbr.cell (i := 2) rfl))) ⟨hbm, hbr, trivial⟩ rfl ?_
  refine T_takeA (i := 4) rfl (by kernel_rfl) (by kernel_rfl) (by kernel_rfl) (by kernel_rfl) (Y_of (fun _ ⟨hbm, hbr, _⟩ => R_move rfl)) ⟨hbm, hbr, trivial⟩ rfl ?_
  refine T_takeA (i := 5) rfl (by kernel_rfl) (by kernel_rfl) (by kernel_rfl) (by kernel_rfl) (Y_of (fun _ ⟨hbm, hbr, _⟩ => R_move rfl)) ⟨hbm, hbr, trivial⟩ rfl ?_
  refine T_takeA (i := 6) rfl (by kernel_rfl) (by kernel_rfl) (by kernel_rfl) (by kernel_rfl) (Y_of (fun _ ⟨hbm, hbr, _⟩ => R_move rfl)) ⟨hbm, hbr, trivial⟩ rfl ?_
  refine T_takeA (i := 7) rfl (by kernel_rfl) (by kernel_rfl) (by kernel_rfl) (by kernel_rfl) (Y_of (fun _ ⟨hbm, hbr, _⟩ => R_nilck rfl)) ⟨hbm, hbr, trivial⟩ rfl ?_
  refine T_takeA (i := 8) rfl (by kernel_rfl) (by kernel_rfl) (by kernel_rfl) (by kernel_rfl) (Y_of (fun _ ⟨hbm, hbr, _⟩ => R_field (r := 2) rfl fld148_2 rfl)) ⟨hbm, hbr, trivial⟩ rfl ?_
  refine T_takeA (i := 9) rfl (by kernel_rfl) (by kernel_rfl) (by kernel_rfl) (by kernel_rfl) (Y_of (fun _ ⟨hbm, hbr, _⟩ => R_load1 rfl scl136 (hbr.cell (i := 2) rfl))) ⟨hbm, hbr, trivial⟩ rfl ?_
  refine T_takeA (i := 10) rfl (by kernel_rfl) (by kernel_rfl) (by kernel_rfl) (by kernel_rfl) (Y_of (fun _ ⟨hbm, hbr, _⟩ => R_nilck rfl)) ⟨hbm, hbr, trivial⟩ rfl ?_
  refine T_takeA (i := 11) rfl (by kernel_rfl) (by kernel_rfl) (by kernel_rfl) (by kernel_rfl) (Y_of (fun _ ⟨hbm, hbr, _⟩ => R_field (r := 2) rfl fld148_2 rfl)) ⟨hbm, hbr, trivial⟩ rfl ?_
  refine T_takeA (i := 12) rfl (by kernel_rfl) (by kernel_rfl) (by kernel_rfl) (by kernel_rfl) (Y_of (fun _ ⟨hbm, hbr, _⟩ => R_load1 rfl scl136 (hbm.cell (i := 2) rfl))) ⟨hbm, hbr, trivial⟩ rfl ?_
  refine T_takeA (i := 14) rfl (by kernel_rfl) (by kernel_rfl) (by kernel_rfl) (by kernel_rfl) (Y_of (fun _ ⟨hbm, hbr, _⟩ => R_move rfl)) ⟨hbm, hbr, trivial⟩ rfl ?_
  refine T_takeA (i := 15) rfl (by kernel_rfl) (by kernel_rfl) (by kernel_rfl) (by kernel_rfl) (Y_of (fun _ ⟨hbm, hbr, _⟩ => R_move rfl)) ⟨hbm, hbr, trivial⟩ rfl ?_
  refine T_takeA (i := 16) rfl (by kernel_rfl) (by kernel_rfl) (by kernel_rfl) (by kernel_rfl) (Y_of (fun _ ⟨hbm, hbr, _⟩ => R_nilck rfl)) ⟨hbm, hbr, trivial⟩ rfl ?_
  refine T_takeA (i := 17) rfl (by kernel_rfl) (by kernel_rfl) (by kernel_rfl) (by kernel_rfl) (Y_of (fun _ ⟨hbm, hbr, _⟩ => R_field (r := 2) rfl fld148_2 rfl)) ⟨hbm, hbr, trivial⟩ rfl ?_
  refine T_takeA (i := 18) rfl (by kernel_rfl) (by kernel_rfl) (by kernel_rfl) (by kernel_rfl) (Y_of (fun _ ⟨hbm, hbr, _⟩ => R_load1 rfl scl136 (hbr.cell (i := 2) rfl))) ⟨hbm, hbr, trivial⟩ rfl ?_
  refine T_takeA (i := 19) rfl (by kernel_rfl) (by kernel_rfl) (by kernel_rfl) (by kernel_rfl) (Y_of (fun _ ⟨hbm, hbr, _⟩ => R_nilck rfl)) ⟨hbm, hbr, trivial⟩ rfl ?_
  refine T_takeA (i := 20) rfl (by kernel_rfl) (by kernel_rfl) (by kernel_rfl) (by kernel_rfl) (Y_of (fun _ ⟨hbm, hbr, _⟩ => R_field (r := 3) rfl fld148_3 rfl)) ⟨hbm, hbr, trivial⟩ rfl ?_
  refine T_takeA (i := 21) rfl (by kernel_rfl) (by kernel_rfl) (by kernel_rfl) (by kernel_rfl) (Y_of (fun _ ⟨hbm, hbr, _⟩ => R_load1 rfl scl136 (hbm.cell (i := 3) rfl))) ⟨hbm, hbr, trivial⟩ rfl ?_
  refine T_takeA (i := 22) rfl (by kernel_rfl) (by kernel_rfl) (by kernel_rfl) (by kernel_rfl) (Y_of (fun _ ⟨hbm, hbr, _⟩ => R_move rfl)) ⟨hbm, hbr, trivial⟩ rfl ?_
  refine T_takeA (i := 23) rfl (by kernel_rfl) (by kernel_rfl) (by kernel_rfl) (by kernel_rfl) (Y_of (fun _ ⟨hbm, hbr, _⟩ => R_nilck rfl)) ⟨hbm, hbr, trivial⟩ rfl ?_
  refine T_takeA (i := 24) rfl (by kernel_rfl) (by kernel_rfl) (by kernel_rfl) (by kernel_rfl) (Y_of (fun _ ⟨hbm, hbr, _⟩ => R_field (r := 3) rfl fld148_3 rfl)) ⟨hbm, hbr, trivial⟩ rfl ?_
  refine T_takeA (i := 25) rfl (by kernel_rfl) (by kernel_rfl) (by kernel_rfl) (by kernel_rfl) (Y_of (fun _ ⟨hbm, hbr, _⟩ => R_load1 rfl scl136 (hbr.cell (i := 3) rfl))) ⟨hbm, hbr, trivial⟩ rfl ?_
  refine T_all (rs := [13]) (by kernel_rfl) rfl (all1 (O_one rfl ?_))
  refine L_call rfl cb90 (with_ok (l := l) (r := b) hb hTl hTb (by first | omega | (simp only [Tr.hgt_node]; omega)) (by first | omega | (simp only [Tr.hgt_node]; omega))) rfl ?_
  rintro _ w9 ⟨hs9, g1, rfl, ht1⟩
  replace hB := gb_tr hB hs9
  replace hb := hb.gb hs9
  replace hbm := hbm.gb hs9
  replace hbr := hbr.gb hs9
  replace hTl := hTl.gb hs9
  replace hTa := hTa.gb hs9
  replace hTb := hTb.gb hs9
  replace hTc := hTc.gb hs9
  refine L_nil (N_then ⟨fun hN_ => ⟨hbm, hbr, trivial⟩, ?_⟩)
  refine T_all (rs := [26]) (by kernel_rfl) rfl (all1 (O_one rfl ?_))
  refine L_call rfl cb90 (with_ok (l := c) (r := a) hbr hTc hTa (by first | omega | (simp only [Tr.hgt_node]; omega)) (by first | omega | (simp only [Tr.hgt_node]; omega))) rfl ?_
  rintro _ w10 ⟨hs10, g2, rfl, ht2⟩
  replace hB := gb_tr hB hs10
  replace hb := hb.gb hs10
  replace hbm := hbm.gb hs10
  replace hbr := hbr.gb hs10
  replace hTl := hTl.gb hs10
  replace hTa := hTa.gb hs10
  replace hTb := hTb.gb hs10
  replace hTc := hTc.gb hs10
  replace ht1 := ht1.gb hs10
  refine L_nil (N_then ⟨fun hN_ => ⟨hbm, hbr, trivial⟩, ?_⟩)
  refine T_all (rs := [27]) (by kernel_rfl) rfl (all1 (O_one rfl ?_))
  refine L_call rfl cb90 (with_ok (l := (Tr.node g1 k v (1 + max l.hgt b.hgt) l b)) (r := (Tr.node g2 kr vr (1 + max c.hgt a.hgt) c a)) hbm ht1 ht2 (by first | omega | (simp only [Tr.hgt_node]; omega)) (by first | omega | (simp only [Tr.hgt_node]; omega))) rfl ?_
  rintro _ w11 ⟨hs11, g3, rfl, ht3⟩
  replace hB := gb_tr hB hs11
  replace hb := hb.gb hs11
  replace hbm := hbm.gb hs11
  replace hbr := hbr.gb hs11
  replace hTl := hTl.gb hs11
  replace hTa := hTa.gb hs11
  replace hTb := hTb.gb hs11
  replace hTc := hTc.gb hs11
  replace ht1 := ht1.gb hs11
  replace ht2 := ht2.gb hs11
  refine L_nil (N_then ⟨fun hN_ => ⟨hbm, hbr, trivial⟩, ?_⟩)
  refine T_takeA (i := 28) rfl (by kernel_rfl) (by kernel_rfl) (by kernel_rfl) (by kernel_rfl) (Y_of (fun _ ⟨hbm, hbr, _⟩ => R_assign rfl)) ⟨hbm, hbr, trivial⟩ rfl ?_
  refine T_done (by kernel_rfl) (CalmE.normal ?_)
  refine N_then (C_ret (R_in (R_then ?_)))
  refine ret1 Try.results77 rfl ?_
  exact ⟨hB, (Tr.node g3 km vm (1 + max (Tr.node g1 k v (1 + max l.hgt b.hgt) l b).hgt (Tr.node g2 kr vr (1 + max c.hgt a.hgt) c a).hgt) (Tr.node g1 k v (1 + max l.hgt b.hgt) l b) (Tr.node g2 kr vr (1 + max c.hgt a.hgt) c a)), rfl, ht3.top, by simp only [Tr.kvs_node, List.append_assoc, List.cons_append], by simp only [Tr.hok_node, Tr.hgt_node, Tr.cnt_node]; (repeat' apply And.intro) <;> first | assumption | omega⟩

theorem level_ok {w : World} {g : Nat} {k v : ByteArray} {pl pr : Value} {h : Int} (hb : Blk w g 148 [.string k, .string v, pl, pr, .int .i64 h]) {hi1 hi2 : Nat} {l r : Tr} (hl : TreeF 148 hi1 w l) (hr : TreeF 148 hi2 w r) (ol : l.hok) (or_ : r.hok) (hc : l.cnt + r.cnt ≤ 900000) : Runs Try.prog 77 #[.pointer (some ⟨g, 0, none⟩), .pointer (taddr l), .pointer (taddr r)] w (fun v_ w' => w.grownBy w' none ∧ ∃ t', v_ = .pointer (taddr t') ∧ TreeF 148 w'.heap.size w' t' ∧ t'.kvs = l.kvs ++ (k, v) :: r.kvs ∧ t'.hok) := by
  replace hl := hl.top
  replace hr := hr.top
  by_cases h1 : r.hgt + 1 < l.hgt
  · have hb2 := (Tr.hgt_b or_).1
    obtain ⟨gl, kl, vl, hh, a, b, rfl⟩ := Tr.node_of (Tr.ne_of_hgt (t := l) (by omega))
    rw [Tr.hgt_node] at h1
    rw [Tr.cnt_node] at hc
    obtain ⟨n1, n2, oa, ob⟩ := ol
    by_cases h2 : b.hgt ≤ a.hgt
    · exact level_b hb hl.2.2.1 oa hl.2.2.2 ob hr or_ hl.2.1 ⟨n1, n2⟩ (by omega) h1 h2
    · have hb3 := (Tr.hgt_b oa).1
      obtain ⟨gm, km, vm, hm, c, d, rfl⟩ := Tr.node_of (Tr.ne_of_hgt (t := b) (by omega))
      rw [Tr.hgt_node] at h2
      rw [Tr.cnt_node] at hc n2
      obtain ⟨m1, m2, oc, od⟩ := ob
      exact level_c hb hl.2.2.1 oa hl.2.2.2.2.2.1 oc hl.2.2.2.2.2.2 od hr or_ hl.2.2.2.2.1 ⟨m1, m2⟩ hl.2.1 ⟨n1, by omega⟩ (by omega) h1 h2
  · by_cases h3 : l.hgt + 1 < r.hgt
    · have hb2 := (Tr.hgt_b ol).1
      obtain ⟨gr, kr, vr, hh, a, b, rfl⟩ := Tr.node_of (Tr.ne_of_hgt (t := r) (by omega))
      rw [Tr.hgt_node] at h1 h3
      rw [Tr.cnt_node] at hc
      obtain ⟨n1, n2, oa, ob⟩ := or_
      by_cases h2 : a.hgt ≤ b.hgt
      · exact level_d hb hl ol hr.2.2.1 oa hr.2.2.2 ob hr.2.1 ⟨n1, n2⟩ (by omega) h1 h3 h2
      · have hb3 := (Tr.hgt_b ob).1
        obtain ⟨gm, km, vm, hm, c, d, rfl⟩ := Tr.node_of (Tr.ne_of_hgt (t := a) (by omega))
        rw [Tr.hgt_node] at h2
        rw [Tr.cnt_node] at hc n2
        obtain ⟨m1, m2, oc, od⟩ := oa
        exact level_e hb hl ol hr.2.2.2 ob hr.2.2.1.2.2.1 oc hr.2.2.1.2.2.2 od hr.2.2.1.2.1 ⟨m1, m2⟩ hr.2.1 ⟨n1, by omega⟩ (by omega) h1 h3 h2
    · exact level_a hb hl ol hr or_ hc h1 h3
end Go.Proofs.Ytbmohojdlgedpaa
