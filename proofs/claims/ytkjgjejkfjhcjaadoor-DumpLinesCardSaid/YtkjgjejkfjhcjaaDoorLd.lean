/-
  Contracts of a record's line.
-/
import Derived.Test.YtkjgjejkfjhcjaaDoorLc
namespace Go.Proofs.YtkjgjejkfjhcjaaDoor
open Go.RowKit Gw Pl
set_option linter.unusedVariables false
set_option linter.unusedSimpArgs false
theorem fld36_0 : fldB Tryd.prog 36 0 0 = true := by kernel_rfl
theorem fld36_1 : fldB Tryd.prog 36 1 1 = true := by kernel_rfl
theorem fld36_2 : fldB Tryd.prog 36 2 2 = true := by kernel_rfl
theorem fld36_3 : fldB Tryd.prog 36 3 3 = true := by kernel_rfl
theorem fld36_4 : fldB Tryd.prog 36 4 4 = true := by kernel_rfl
theorem scl34 : sclB Tryd.prog 34 = true := by kernel_rfl
/-- A record's line. -/
def recT (kind chain lsn prev at_ : Int) (n : Nat) : List UInt8 := Go.Lib.join [([114, 101, 99, 111, 114, 100] : List UInt8), digI lsn, ([107, 105, 110, 100] : List UInt8), digI kind, ([99, 104, 97, 105, 110] : List UInt8), digI chain, ([112, 114, 101, 118] : List UInt8), digI prev, ([97, 116] : List UInt8), digI at_, ([115, 105, 122, 101] : List UInt8), digI (n : Int)] [32]
theorem recT_eq {kind chain lsn prev at_ : Int} {n : Nat} : recT kind chain lsn prev at_ n = (((((((((((([114, 101, 99, 111, 114, 100, 32] : List UInt8) ++ digI lsn) ++ ([32, 107, 105, 110, 100, 32] : List UInt8)) ++ digI kind) ++ ([32, 99, 104, 97, 105, 110, 32] : List UInt8)) ++ digI chain) ++ ([32, 112, 114, 101, 118, 32] : List UInt8)) ++ digI prev) ++ ([32, 97, 116, 32] : List UInt8)) ++ digI at_) ++ ([32, 115, 105, 122, 101, 32] : List UInt8)) ++ digI (n : Int)) := by
  unfold recT
  simp only [jn2, jn1, List.append_assoc, List.cons_append, List.nil_append]
theorem recT_len {kind chain lsn prev at_ : Int} {n : Nat} (h1 : OkW kind) (h2 : OkW chain) (h3 : OkW lsn) (h4 : OkW prev) (h5 : OkW at_) (h6 : n ≤ 140737488355328) : (recT kind chain lsn prev at_ n).length ≤ 200 := by
  rw [recT_eq]
  have a1 := digI_len h1
  have a2 := digI_len h2
  have a3 := digI_len h3
  have a4 := digI_len h4
  have a5 := digI_len h5
  have a6 := digI_len (n := (n : Int)) (by omega)
  simp only [List.length_append, List.length_cons, List.length_nil]
  omega
theorem record_ok {w : World} {A : Option Addr} {c n : Nat} {kind chain lsn prev at_ : Int} (ok1 : OkW kind) (ok2 : OkW chain) (ok3 : OkW lsn) (ok4 : OkW prev) (ok5 : OkW at_) (ok6 : n ≤ 140737488355328) :
    Runs Tryd.prog 12 #[.agg #[.int .i64 kind, .int .i64 chain, .int .i64 lsn, .int .i64 prev, .slice A n c], .int .i64 at_] w (fun v w' => w.grownBy w' none ∧ v = .string ⟨(recT kind chain lsn prev at_ n).toArray⟩) := by
  have hB := gb_refl w none
  refine enter Tryd.func12 Tryd.ntmps12 rfl rfl ?_
  refine C_seq (C_reg rfl ?_)
  refine L_box (cs := [.int .i64 kind, .int .i64 chain, .int .i64 lsn, .int .i64 prev, .slice A n c]) rfl rfl rfl ?_
  intro g1 w1 eg1 hb1 hs1 hz1
  have ge1 : w.heap.size ≤ g1 := eg_ge hB eg1
  replace hB := gb_tr hB hs1
  refine L_run (R_assign rfl) rfl ?_
  refine L_nil (N_then (C_seq ?_))
  refine C_draw2 rfl mix ?_
  intro w2 hs2 hz2
  replace hB := gb_tr hB hs2
  replace hb1 := hb1.gb hs2
  refine ⟨fun W_ => Blk W_ g1 36 [.int .i64 kind, .int .i64 chain, .int .i64 lsn, .int .i64 prev, .slice A n c] ∧ True, [0, 1, 3, 4, 6, 7, 9, 10, 12, 14, 15, 16, 20], ?_⟩
  refine T_takeA (i := 0) rfl (by kernel_rfl) (by kernel_rfl) (by kernel_rfl) (by kernel_rfl) (Y_of (fun _ ⟨hb1, _⟩ => R_field (r := 2) rfl fld36_2 rfl)) ⟨hb1, trivial⟩ rfl ?_
  refine T_takeA (i := 1) rfl (by kernel_rfl) (by kernel_rfl) (by kernel_rfl) (by kernel_rfl) (Y_of (fun _ ⟨hb1, _⟩ => R_load1 rfl scl3 (hb1.cell (i := 2) rfl))) ⟨hb1, trivial⟩ rfl ?_
  refine T_takeA (i := 3) rfl (by kernel_rfl) (by kernel_rfl) (by kernel_rfl) (by kernel_rfl) (Y_of (fun _ ⟨hb1, _⟩ => R_field (r := 0) rfl fld36_0 rfl)) ⟨hb1, trivial⟩ rfl ?_
  refine T_takeA (i := 4) rfl (by kernel_rfl) (by kernel_rfl) (by kernel_rfl) (by kernel_rfl) (Y_of (fun _ ⟨hb1, _⟩ => R_load1 rfl scl3 (hb1.cell (i := 0) rfl))) ⟨hb1, trivial⟩ rfl ?_
  refine T_takeA (i := 6) rfl (by kernel_rfl) (by kernel_rfl) (by kernel_rfl) (by kernel_rfl) (Y_of (fun _ ⟨hb1, _⟩ => R_field (r := 1) rfl fld36_1 rfl)) ⟨hb1, trivial⟩ rfl ?_
  refine T_takeA (i := 7) rfl (by kernel_rfl) (by kernel_rfl) (by kernel_rfl) (by kernel_rfl) (Y_of (fun _ ⟨hb1, _⟩ => R_load1 rfl scl3 (hb1.cell (i := 1) rfl))) ⟨hb1, trivial⟩ rfl ?_
  refine T_takeA (i := 9) rfl (by kernel_rfl) (by kernel_rfl) (by kernel_rfl) (by kernel_rfl) (Y_of (fun _ ⟨hb1, _⟩ => R_field (r := 3) rfl fld36_3 rfl)) ⟨hb1, trivial⟩ rfl ?_
  refine T_takeA (i := 10) rfl (by kernel_rfl) (by kernel_rfl) (by kernel_rfl) (by kernel_rfl) (Y_of (fun _ ⟨hb1, _⟩ => R_load1 rfl scl3 (hb1.cell (i := 3) rfl))) ⟨hb1, trivial⟩ rfl ?_
  refine T_takeA (i := 12) rfl (by kernel_rfl) (by kernel_rfl) (by kernel_rfl) (by kernel_rfl) (Y_of (fun _ ⟨hb1, _⟩ => R_move rfl)) ⟨hb1, trivial⟩ rfl ?_
  refine T_takeA (i := 14) rfl (by kernel_rfl) (by kernel_rfl) (by kernel_rfl) (by kernel_rfl) (Y_of (fun _ ⟨hb1, _⟩ => R_field (r := 4) rfl fld36_4 rfl)) ⟨hb1, trivial⟩ rfl ?_
  refine T_takeA (i := 15) rfl (by kernel_rfl) (by kernel_rfl) (by kernel_rfl) (by kernel_rfl) (Y_of (fun _ ⟨hb1, _⟩ => R_load1 rfl scl34 (hb1.cell (i := 4) rfl))) ⟨hb1, trivial⟩ rfl ?_
  refine T_takeA (i := 16) rfl (by kernel_rfl) (by kernel_rfl) (by kernel_rfl) (by kernel_rfl) (Y_of (fun _ ⟨hb1, _⟩ => R_lenSl rfl slc34)) ⟨hb1, trivial⟩ rfl ?_
  refine T_all (rs := [2]) (by kernel_rfl) rfl (all1 (O_one rfl ?_))
  refine L_call rfl cb22 (name_Digits (n := lsn) (by first | exact ok1 | exact ok2 | exact ok3 | exact ok4 | exact ok5 | omega)) rfl ?_
  rintro _ w3 ⟨hs3, rfl⟩
  replace hB := gb_tr hB hs3
  replace hb1 := hb1.gb hs3
  refine L_nil (N_then ⟨fun hN_ => ⟨hb1, trivial⟩, ?_⟩)
  refine T_all (rs := [5]) (by kernel_rfl) rfl (all1 (O_one rfl ?_))
  refine L_call rfl cb22 (name_Digits (n := kind) (by first | exact ok1 | exact ok2 | exact ok3 | exact ok4 | exact ok5 | omega)) rfl ?_
  rintro _ w4 ⟨hs4, rfl⟩
  replace hB := gb_tr hB hs4
  replace hb1 := hb1.gb hs4
  refine L_nil (N_then ⟨fun hN_ => ⟨hb1, trivial⟩, ?_⟩)
  refine T_all (rs := [8]) (by kernel_rfl) rfl (all1 (O_one rfl ?_))
  refine L_call rfl cb22 (name_Digits (n := chain) (by first | exact ok1 | exact ok2 | exact ok3 | exact ok4 | exact ok5 | omega)) rfl ?_
  rintro _ w5 ⟨hs5, rfl⟩
  replace hB := gb_tr hB hs5
  replace hb1 := hb1.gb hs5
  refine L_nil (N_then ⟨fun hN_ => ⟨hb1, trivial⟩, ?_⟩)
  refine T_all (rs := [11]) (by kernel_rfl) rfl (all1 (O_one rfl ?_))
  refine L_call rfl cb22 (name_Digits (n := prev) (by first | exact ok1 | exact ok2 | exact ok3 | exact ok4 | exact ok5 | omega)) rfl ?_
  rintro _ w6 ⟨hs6, rfl⟩
  replace hB := gb_tr hB hs6
  replace hb1 := hb1.gb hs6
  refine L_nil (N_then ⟨fun hN_ => ⟨hb1, trivial⟩, ?_⟩)
  refine T_all (rs := [13]) (by kernel_rfl) rfl (all1 (O_one rfl ?_))
  refine L_call rfl cb22 (name_Digits (n := at_) (by first | exact ok1 | exact ok2 | exact ok3 | exact ok4 | exact ok5 | omega)) rfl ?_
  rintro _ w7 ⟨hs7, rfl⟩
  replace hB := gb_tr hB hs7
  replace hb1 := hb1.gb hs7
  refine L_nil (N_then ⟨fun hN_ => ⟨hb1, trivial⟩, ?_⟩)
  refine T_all (rs := [17]) (by kernel_rfl) rfl (all1 (O_one rfl ?_))
  refine L_call rfl cb22 (name_Digits (n := (n : Int)) (by first | exact ok1 | exact ok2 | exact ok3 | exact ok4 | exact ok5 | omega)) rfl ?_
  rintro _ w8 ⟨hs8, rfl⟩
  replace hB := gb_tr hB hs8
  replace hb1 := hb1.gb hs8
  refine L_nil (N_then ⟨fun hN_ => ⟨hb1, trivial⟩, ?_⟩)
  refine T_all (rs := [18]) (by kernel_rfl) rfl (all1 (O_one rfl ?_))
  refine L_buildSlice (pv := [(0, .string (⟨#[114, 101, 99, 111, 114, 100]⟩)), (1, .string (⟨(digI lsn).toArray⟩)), (2, .string (⟨#[107, 105, 110, 100]⟩)), (3, .string (⟨(digI kind).toArray⟩)), (4, .string (⟨#[99, 104, 97, 105, 110]⟩)), (5, .string (⟨(digI chain).toArray⟩)), (6, .string (⟨#[112, 114, 101, 118]⟩)), (7, .string (⟨(digI prev).toArray⟩)), (8, .string (⟨#[97, 116]⟩)), (9, .string (⟨(digI at_).toArray⟩)), (10, .string (⟨#[115, 105, 122, 101]⟩)), (11, .string (⟨(digI (n : Int)).toArray⟩))]) (cs := [.string (⟨#[114, 101, 99, 111, 114, 100]⟩), .string (⟨(digI lsn).toArray⟩), .string (⟨#[107, 105, 110, 100]⟩), .string (⟨(digI kind).toArray⟩), .string (⟨#[99, 104, 97, 105, 110]⟩), .string (⟨(digI chain).toArray⟩), .string (⟨#[112, 114, 101, 118]⟩), .string (⟨(digI prev).toArray⟩), .string (⟨#[97, 116]⟩), .string (⟨(digI at_).toArray⟩), .string (⟨#[115, 105, 122, 101]⟩), .string (⟨(digI (n : Int)).toArray⟩)]) slc59 zer9 rfl rfl (by kernel_rfl) rfl ?_
  intro g2 w9 eg2 hb2 hs9 hz3
  have ge2 : w.heap.size ≤ g2 := eg_ge hB eg2
  have lt1 : g1 < g2 := lt_of_eg hb1.lt eg2
  replace hB := gb_tr hB hs9
  replace hb1 := hb1.gb hs9
  refine L_nil (N_then ⟨fun hN_ => ⟨hb1, trivial⟩, ?_⟩)
  refine T_all (rs := [19]) (by kernel_rfl) rfl (all1 (O_one rfl ?_))
  have hjl_ := (show (Go.Lib.join ([([114, 101, 99, 111, 114, 100] : List UInt8), (digI lsn), ([107, 105, 110, 100] : List UInt8), (digI kind), ([99, 104, 97, 105, 110] : List UInt8), (digI chain), ([112, 114, 101, 118] : List UInt8), (digI prev), ([97, 116] : List UInt8), (digI at_), ([115, 105, 122, 101] : List UInt8), (digI (n : Int))]) [32]).length ≤ 140737488355328 from Nat.le_trans (recT_len ok1 ok2 ok3 ok4 ok5 ok6) (by omega))
  refine L_call rfl cb21 (line_ok (xs := [([114, 101, 99, 111, 114, 100] : List UInt8), (digI lsn), ([107, 105, 110, 100] : List UInt8), (digI kind), ([99, 104, 97, 105, 110] : List UInt8), (digI chain), ([112, 114, 101, 118] : List UInt8), (digI prev), ([97, 116] : List UInt8), (digI at_), ([115, 105, 122, 101] : List UInt8), (digI (n : Int))]) (Blk.sli (m := 0) hb2) (show 12 ≤ 12 from Nat.le_refl _) (show 12 ≤ 1000000 by omega) hjl_) rfl ?_
  rintro _ w10 ⟨hs10, rfl⟩
  replace hB := gb_tr hB hs10
  replace hb1 := hb1.gb hs10
  replace hb2 := hb2.gb hs10
  refine L_nil (N_then ⟨fun hN_ => ⟨hb1, trivial⟩, ?_⟩)
  refine T_takeA (i := 20) rfl (by kernel_rfl) (by kernel_rfl) (by kernel_rfl) (by kernel_rfl) (Y_of (fun _ ⟨hb1, _⟩ => R_assign rfl)) ⟨hb1, trivial⟩ rfl ?_
  refine T_done (by kernel_rfl) (CalmE.normal ?_)
  refine N_then (C_ret ?_)
  refine ret1 Tryd.results12 rfl ?_
  exact ⟨hB, rfl⟩

theorem record48 {w : World} {A : Option Addr} {c n : Nat} {kind chain lsn prev at_ : Int} (ok1 : OkW kind) (ok2 : OkW chain) (ok3 : OkW lsn) (ok4 : OkW prev) (ok5 : OkW at_) (ok6 : n ≤ 140737488355328) :
    Runs Tryd.prog 13 #[.agg #[.int .i64 kind, .int .i64 chain, .int .i64 lsn, .int .i64 prev, .slice A n c], .int .i64 at_] w (fun v w' => w.grownBy w' none ∧ v = .string ⟨(recT kind chain lsn prev at_ n).toArray⟩) := by
  have hB := gb_refl w none
  refine enter Tryd.func13 Tryd.ntmps13 rfl rfl ?_
  refine C_seq (C_reg rfl ?_)
  refine L_box (cs := [.int .i64 kind, .int .i64 chain, .int .i64 lsn, .int .i64 prev, .slice A n c]) rfl rfl rfl ?_
  intro g1 w1 eg1 hb1 hs1 hz1
  have ge1 : w.heap.size ≤ g1 := eg_ge hB eg1
  replace hB := gb_tr hB hs1
  refine L_run (R_assign rfl) rfl ?_
  refine L_nil (N_then (C_seq ?_))
  refine C_draw2 rfl mix ?_
  intro w2 hs2 hz2
  replace hB := gb_tr hB hs2
  replace hb1 := hb1.gb hs2
  refine ⟨fun W_ => Blk W_ g1 36 [.int .i64 kind, .int .i64 chain, .int .i64 lsn, .int .i64 prev, .slice A n c] ∧ True, [0, 1, 3, 4, 5, 6, 8, 9, 10, 11, 13, 14, 15, 16, 18, 19, 20, 22, 23, 24, 25, 26, 28, 29], ?_⟩
  refine T_takeA (i := 0) rfl (by kernel_rfl) (by kernel_rfl) (by kernel_rfl) (by kernel_rfl) (Y_of (fun _ ⟨hb1, _⟩ => R_field (r := 2) rfl fld36_2 rfl)) ⟨hb1, trivial⟩ rfl ?_
  refine T_takeA (i := 1) rfl (by kernel_rfl) (by kernel_rfl) (by kernel_rfl) (by kernel_rfl) (Y_of (fun _ ⟨hb1, _⟩ => R_load1 rfl scl3 (hb1.cell (i := 2) rfl))) ⟨hb1, trivial⟩ rfl ?_
  refine T_takeA (i := 5) rfl (by kernel_rfl) (by kernel_rfl) (by kernel_rfl) (by kernel_rfl) (Y_of (fun _ ⟨hb1, _⟩ => R_field (r := 0) rfl fld36_0 rfl)) ⟨hb1, trivial⟩ rfl ?_
  refine T_takeA (i := 6) rfl (by kernel_rfl) (by kernel_rfl) (by kernel_rfl) (by kernel_rfl) (Y_of (fun _ ⟨hb1, _⟩ => R_load1 rfl scl3 (hb1.cell (i := 0) rfl))) ⟨hb1, trivial⟩ rfl ?_
  refine T_takeA (i := 10) rfl (by kernel_rfl) (by kernel_rfl) (by kernel_rfl) (by kernel_rfl) (Y_of (fun _ ⟨hb1, _⟩ => R_field (r := 1) rfl fld36_1 rfl)) ⟨hb1, trivial⟩ rfl ?_
  refine T_takeA (i := 11) rfl (by kernel_rfl) (by kernel_rfl) (by kernel_rfl) (by kernel_rfl) (Y_of (fun _ ⟨hb1, _⟩ => R_load1 rfl scl3 (hb1.cell (i := 1) rfl))) ⟨hb1, trivial⟩ rfl ?_
  refine T_takeA (i := 15) rfl (by kernel_rfl) (by kernel_rfl) (by kernel_rfl) (by kernel_rfl) (Y_of (fun _ ⟨hb1, _⟩ => R_field (r := 3) rfl fld36_3 rfl)) ⟨hb1, trivial⟩ rfl ?_
  refine T_takeA (i := 16) rfl (by kernel_rfl) (by kernel_rfl) (by kernel_rfl) (by kernel_rfl) (Y_of (fun _ ⟨hb1, _⟩ => R_load1 rfl scl3 (hb1.cell (i := 3) rfl))) ⟨hb1, trivial⟩ rfl ?_
  refine T_takeA (i := 20) rfl (by kernel_rfl) (by kernel_rfl) (by kernel_rfl) (by kernel_rfl) (Y_of (fun _ ⟨hb1, _⟩ => R_move rfl)) ⟨hb1, trivial⟩ rfl ?_
  refine T_takeA (i := 24) rfl (by kernel_rfl) (by kernel_rfl) (by kernel_rfl) (by kernel_rfl) (Y_of (fun _ ⟨hb1, _⟩ => R_field (r := 4) rfl fld36_4 rfl)) ⟨hb1, trivial⟩ rfl ?_
  refine T_takeA (i := 25) rfl (by kernel_rfl) (by kernel_rfl) (by kernel_rfl) (by kernel_rfl) (Y_of (fun _ ⟨hb1, _⟩ => R_load1 rfl scl34 (hb1.cell (i := 4) rfl))) ⟨hb1, trivial⟩ rfl ?_
  refine T_takeA (i := 26) rfl (by kernel_rfl) (by kernel_rfl) (by kernel_rfl) (by kernel_rfl) (Y_of (fun _ ⟨hb1, _⟩ => R_lenSl rfl slc34)) ⟨hb1, trivial⟩ rfl ?_
  refine T_all (rs := [2]) (by kernel_rfl) rfl (all1 (O_one rfl ?_))
  refine L_call rfl cb16 (ref05_Digits (n := lsn) (by first | exact ok1 | exact ok2 | exact ok3 | exact ok4 | exact ok5 | omega) _) rfl ?_
  rintro _ w3 ⟨hs3, rfl⟩
  replace hB := gb_tr hB hs3
  replace hb1 := hb1.gb hs3
  refine L_nil (N_then ⟨fun hN_ => ⟨hb1, trivial⟩, ?_⟩)
  refine T_takeA (i := 3) rfl (by kernel_rfl) (by kernel_rfl) (by kernel_rfl) (by kernel_rfl) (Y_of (fun _ ⟨hb1, _⟩ => R_eqv (R_addS rfl rfl (by rw [ba_size, ba_size]; have a1 := digI_len ok1; have a2 := digI_len ok2; have a3 := digI_len ok3; have a4 := digI_len ok4; have a5 := digI_len ok5; have a6 := digI_len (n := (n : Int)) (by omega); simp only [List.length_append, List.length_cons, List.length_nil]; omega)) (v' := .string ⟨(([114, 101, 99, 111, 114, 100, 32] : List UInt8) ++ (digI lsn)).toArray⟩) (congrArg _ (ba_app _ _).symm))) ⟨hb1, trivial⟩ rfl ?_
  refine T_takeA (i := 4) rfl (by kernel_rfl) (by kernel_rfl) (by kernel_rfl) (by kernel_rfl) (Y_of (fun _ ⟨hb1, _⟩ => R_eqv (R_addS rfl rfl (by rw [ba_size, ba_size]; have a1 := digI_len ok1; have a2 := digI_len ok2; have a3 := digI_len ok3; have a4 := digI_len ok4; have a5 := digI_len ok5; have a6 := digI_len (n := (n : Int)) (by omega); simp only [List.length_append, List.length_cons, List.length_nil]; omega)) (v' := .string ⟨((([114, 101, 99, 111, 114, 100, 32] : List UInt8) ++ (digI lsn)) ++ [32, 107, 105, 110, 100, 32]).toArray⟩) (congrArg _ (ba_app _ _).symm))) ⟨hb1, trivial⟩ rfl ?_
  refine T_all (rs := [7]) (by kernel_rfl) rfl (all1 (O_one rfl ?_))
  refine L_call rfl cb16 (ref05_Digits (n := kind) (by first | exact ok1 | exact ok2 | exact ok3 | exact ok4 | exact ok5 | omega) _) rfl ?_
  rintro _ w4 ⟨hs4, rfl⟩
  replace hB := gb_tr hB hs4
  replace hb1 := hb1.gb hs4
  refine L_nil (N_then ⟨fun hN_ => ⟨hb1, trivial⟩, ?_⟩)
  refine T_takeA (i := 8) rfl (by kernel_rfl) (by kernel_rfl) (by kernel_rfl) (by kernel_rfl) (Y_of (fun _ ⟨hb1, _⟩ => R_eqv (R_addS rfl rfl (by rw [ba_size, ba_size]; have a1 := digI_len ok1; have a2 := digI_len ok2; have a3 := digI_len ok3; have a4 := digI_len ok4; have a5 := digI_len ok5; have a6 := digI_len (n := (n : Int)) (by omega); simp only [List.length_append, List.length_cons, List.length_nil]; omega)) (v' := .string ⟨(((([114, 101, 99, 111, 114, 100, 32] : List UInt8) ++ (digI lsn)) ++ [32, 107, 105, 110, 100, 32]) ++ (digI kind)).toArray⟩) (congrArg _ (ba_app _ _).symm))) ⟨hb1, trivial⟩ rfl ?_
  refine T_takeA (i := 9) rfl (by kernel_rfl) (by kernel_rfl) (by kernel_rfl) (by kernel_rfl) (Y_of (fun _ ⟨hb1, _⟩ => R_eqv (R_addS rfl rfl (by rw [ba_size, ba_size]; have a1 := digI_len ok1; have a2 := digI_len ok2; have a3 := digI_len ok3; have a4 := digI_len ok4; have a5 := digI_len ok5; have a6 := digI_len (n := (n : Int)) (by omega); simp only [List.length_append, List.length_cons, List.length_nil]; omega)) (v' := .string ⟨((((([114, 101, 99, 111, 114, 100, 32] : List UInt8) ++ (digI lsn)) ++ [32, 107, 105, 110, 100, 32]) ++ (digI kind)) ++ [32, 99, 104, 97, 105, 110, 32]).toArray⟩) (congrArg _ (ba_app _ _).symm))) ⟨hb1, trivial⟩ rfl ?_
  refine T_all (rs := [12]) (by kernel_rfl) rfl (all1 (O_one rfl ?_))
  refine L_call rfl cb16 (ref05_Digits (n := chain) (by first | exact ok1 | exact ok2 | exact ok3 | exact ok4 | exact ok5 | omega) _) rfl ?_
  rintro _ w5 ⟨hs5, rfl⟩
  replace hB := gb_tr hB hs5
  replace hb1 := hb1.gb hs5
  refine L_nil (N_then ⟨fun hN_ => ⟨hb1, trivial⟩, ?_⟩)
  refine T_takeA (i := 13) rfl (by kernel_rfl) (by kernel_rfl) (by kernel_rfl) (by kernel_rfl) (Y_of (fun _ ⟨hb1, _⟩ => R_eqv (R_addS rfl rfl (by rw [ba_size, ba_size]; have a1 := digI_len ok1; have a2 := digI_len ok2; have a3 := digI_len ok3; have a4 := digI_len ok4; have a5 := digI_len ok5; have a6 := digI_len (n := (n : Int)) (by omega); simp only [List.length_append, List.length_cons, List.length_nil]; omega)) (v' := .string ⟨(((((([114, 101, 99, 111, 114, 100, 32] : List UInt8) ++ (digI lsn)) ++ [32, 107, 105, 110, 100, 32]) ++ (digI kind)) ++ [32, 99, 104, 97, 105, 110, 32]) ++ (digI chain)).toArray⟩) (congrArg _ (ba_app _ _).symm))) ⟨hb1, trivial⟩ rfl ?_
  refine T_takeA (i := 14) rfl (by kernel_rfl) (by kernel_rfl) (by kernel_rfl) (by kernel_rfl) (Y_of (fun _ ⟨hb1, _⟩ => R_eqv (R_addS rfl rfl (by rw [ba_size, ba_size]; have a1 := digI_len ok1; have a2 := digI_len ok2; have a3 := digI_len ok3; have a4 := digI_len ok4; have a5 := digI_len ok5; have a6 := digI_len (n := (n : Int)) (by omega); simp only [List.length_append, List.length_cons, List.length_nil]; omega)) (v' := .string ⟨((((((([114, 101, 99, 111, 114, 100, 32] : List UInt8) ++ (digI lsn)) ++ [32, 107, 105, 110, 100, 32]) ++ (digI kind)) ++ [32, 99, 104, 97, 105, 110, 32]) ++ (digI chain)) ++ [32, 112, 114, 101, 118, 32]).toArray⟩) (congrArg _ (ba_app _ _).symm))) ⟨hb1, trivial⟩ rfl ?_
  refine T_all (rs := [17]) (by kernel_rfl) rfl (all1 (O_one rfl ?_))
  refine L_call rfl cb16 (ref05_Digits (n := prev) (by first | exact ok1 | exact ok2 | exact ok3 | exact ok4 | exact ok5 | omega) _) rfl ?_
  rintro _ w6 ⟨hs6, rfl⟩
  replace hB := gb_tr hB hs6
  replace hb1 := hb1.gb hs6
  refine L_nil (N_then ⟨fun hN_ => ⟨hb1, trivial⟩, ?_⟩)
  refine T_takeA (i := 18) rfl (by kernel_rfl) (by kernel_rfl) (by kernel_rfl) (by kernel_rfl) (Y_of (fun _ ⟨hb1, _⟩ => R_eqv (R_addS rfl rfl (by rw [ba_size, ba_size]; have a1 := digI_len ok1; have a2 := digI_len ok2; have a3 := digI_len ok3; have a4 := digI_len ok4; have a5 := digI_len ok5; have a6 := digI_len (n := (n : Int)) (by omega); simp only [List.length_append, List.length_cons, List.length_nil]; omega)) (v' := .string ⟨(((((((([114, 101, 99, 111, 114, 100, 32] : List UInt8) ++ (digI lsn)) ++ [32, 107, 105, 110, 100, 32]) ++ (digI kind)) ++ [32, 99, 104, 97, 105, 110, 32]) ++ (digI chain)) ++ [32, 112, 114, 101, 118, 32]) ++ (digI prev)).toArray⟩) (congrArg _ (ba_app _ _).symm))) ⟨hb1, trivial⟩ rfl ?_
  refine T_takeA (i := 19) rfl (by kernel_rfl) (by kernel_rfl) (by kernel_rfl) (by kernel_rfl) (Y_of (fun _ ⟨hb1, _⟩ => R_eqv (R_addS rfl rfl (by rw [ba_size, ba_size]; have a1 := digI_len ok1; have a2 := digI_len ok2; have a3 := digI_len ok3; have a4 := digI_len ok4; have a5 := digI_len ok5; have a6 := digI_len (n := (n : Int)) (by omega); simp only [List.length_append, List.length_cons, List.length_nil]; omega)) (v' := .string ⟨((((((((([114, 101, 99, 111, 114, 100, 32] : List UInt8) ++ (digI lsn)) ++ [32, 107, 105, 110, 100, 32]) ++ (digI kind)) ++ [32, 99, 104, 97, 105, 110, 32]) ++ (digI chain)) ++ [32, 112, 114, 101, 118, 32]) ++ (digI prev)) ++ [32, 97, 116, 32]).toArray⟩) (congrArg _ (ba_app _ _).symm))) ⟨hb1, trivial⟩ rfl ?_
  refine T_all (rs := [21]) (by kernel_rfl) rfl (all1 (O_one rfl ?_))
  refine L_call rfl cb16 (ref05_Digits (n := at_) (by first | exact ok1 | exact ok2 | exact ok3 | exact ok4 | exact ok5 | omega) _) rfl ?_
  rintro _ w7 ⟨hs7, rfl⟩
  replace hB := gb_tr hB hs7
  replace hb1 := hb1.gb hs7
  refine L_nil (N_then ⟨fun hN_ => ⟨hb1, trivial⟩, ?_⟩)
  refine T_takeA (i := 22) rfl (by kernel_rfl) (by kernel_rfl) (by kernel_rfl) (by kernel_rfl) (Y_of (fun _ ⟨hb1, _⟩ => R_eqv (R_addS rfl rfl (by rw [ba_size, ba_size]; have a1 := digI_len ok1; have a2 := digI_len ok2; have a3 := digI_len ok3; have a4 := digI_len ok4; have a5 := digI_len ok5; have a6 := digI_len (n := (n : Int)) (by omega); simp only [List.length_append, List.length_cons, List.length_nil]; omega)) (v' := .string ⟨(((((((((([114, 101, 99, 111, 114, 100, 32] : List UInt8) ++ (digI lsn)) ++ [32, 107, 105, 110, 100, 32]) ++ (digI kind)) ++ [32, 99, 104, 97, 105, 110, 32]) ++ (digI chain)) ++ [32, 112, 114, 101, 118, 32]) ++ (digI prev)) ++ [32, 97, 116, 32]) ++ (digI at_)).toArray⟩) (congrArg _ (ba_app _ _).symm))) ⟨hb1, trivial⟩ rfl ?_
  refine T_takeA (i := 23) rfl (by kernel_rfl) (by kernel_rfl) (by kernel_rfl) (by kernel_rfl) (Y_of (fun _ ⟨hb1, _⟩ => R_eqv (R_addS rfl rfl (by rw [ba_size, ba_size]; have a1 := digI_len ok1; have a2 := digI_len ok2; have a3 := digI_len ok3; have a4 := digI_len ok4; have a5 := digI_len ok5; have a6 := digI_len (n := (n : Int)) (by omega); simp only [List.length_append, List.length_cons, List.length_nil]; omega)) (v' := .string ⟨((((((((((([114, 101, 99, 111, 114, 100, 32] : List UInt8) ++ (digI lsn)) ++ [32, 107, 105, 110, 100, 32]) ++ (digI kind)) ++ [32, 99, 104, 97, 105, 110, 32]) ++ (digI chain)) ++ [32, 112, 114, 101, 118, 32]) ++ (digI prev)) ++ [32, 97, 116, 32]) ++ (digI at_)) ++ [32, 115, 105, 122, 101, 32]).toArray⟩) (congrArg _ (ba_app _ _).symm))) ⟨hb1, trivial⟩ rfl ?_
  refine T_all (rs := [27]) (by kernel_rfl) rfl (all1 (O_one rfl ?_))
  refine L_call rfl cb16 (ref05_Digits (n := (n : Int)) (by first | exact ok1 | exact ok2 | exact ok3 | exact ok4 | exact ok5 | omega) _) rfl ?_
  rintro _ w8 ⟨hs8, rfl⟩
  replace hB := gb_tr hB hs8
  replace hb1 := hb1.gb hs8
  refine L_nil (N_then ⟨fun hN_ => ⟨hb1, trivial⟩, ?_⟩)
  refine T_takeA (i := 28) rfl (by kernel_rfl) (by kernel_rfl) (by kernel_rfl) (by kernel_rfl) (Y_of (fun _ ⟨hb1, _⟩ => R_eqv (R_addS rfl rfl (by rw [ba_size, ba_size]; have a1 := digI_len ok1; have a2 := digI_len ok2; have a3 := digI_len ok3; have a4 := digI_len ok4; have a5 := digI_len ok5; have a6 := digI_len (n := (n : Int)) (by omega); simp only [List.length_append, List.length_cons, List.length_nil]; omega)) (v' := .string ⟨(((((((((((([114, 101, 99, 111, 114, 100, 32] : List UInt8) ++ (digI lsn)) ++ [32, 107, 105, 110, 100, 32]) ++ (digI kind)) ++ [32, 99, 104, 97, 105, 110, 32]) ++ (digI chain)) ++ [32, 112, 114, 101, 118, 32]) ++ (digI prev)) ++ [32, 97, 116, 32]) ++ (digI at_)) ++ [32, 115, 105, 122, 101, 32]) ++ (digI (n : Int))).toArray⟩) (congrArg _ (ba_app _ _).symm))) ⟨hb1, trivial⟩ rfl ?_
  refine T_takeA (i := 29) rfl (by kernel_rfl) (by kernel_rfl) (by kernel_rfl) (by kernel_rfl) (Y_of (fun _ ⟨hb1, _⟩ => R_assign rfl)) ⟨hb1, trivial⟩ rfl ?_
  refine T_done (by kernel_rfl) (CalmE.normal ?_)
  refine N_then (C_ret ?_)
  refine ret1 Tryd.results13 rfl ?_
  rw [recT_eq]; exact ⟨hB, rfl⟩

end Go.Proofs.YtkjgjejkfjhcjaaDoor
