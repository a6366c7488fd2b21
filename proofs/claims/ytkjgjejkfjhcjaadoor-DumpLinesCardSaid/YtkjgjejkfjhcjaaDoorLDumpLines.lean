/-
  For every header, every record at every place, and every two texts the law DumpLines returns true, and changes nothing that was there.
-/
import Derived.Test.YtkjgjejkfjhcjaaDoorLf
import Derived.Test.YtkjgjejkfjhcjaaDoorGr
import Derived.Test.YtkjgjejkfjhcjaaDoorTie
import Derived.Test.YtkjgjejkfjhcjaaDoorCards
import Derived.WalkKit
import Derived.ProofKit
import Derived.OpenShut
import Derived.ShutString
import Derived.ChangeOld
import Derived.Below
import Derived.SizedLaws
import Derived.LaidMore
import Derived.SevenTiedAt
import Derived.Stop.Joined
import Derived.Lay
namespace Go.Proofs.YtkjgjejkfjhcjaaDoor.LDumpLines
open Go.RowKit Gw Pl
set_option linter.unusedVariables false
set_option linter.unusedSimpArgs false
theorem agg33 : aggB Tryd.prog 33 7 = true := by kernel_rfl
theorem agg36 : aggB Tryd.prog 36 5 = true := by kernel_rfl
theorem cb10 : callB Tryd.prog 10 = true := by kernel_rfl
theorem cb11 : callB Tryd.prog 11 = true := by kernel_rfl
theorem cb12 : callB Tryd.prog 12 = true := by kernel_rfl
theorem cb13 : callB Tryd.prog 13 = true := by kernel_rfl
theorem cb14 : callB Tryd.prog 14 = true := by kernel_rfl
theorem cb15 : callB Tryd.prog 15 = true := by kernel_rfl
theorem cb6 : callB Tryd.prog 6 = true := by kernel_rfl
theorem fld38_0 : fldB Tryd.prog 38 0 0 = true := by kernel_rfl
theorem fld38_1 : fldB Tryd.prog 38 1 7 = true := by kernel_rfl
theorem fld38_2 : fldB Tryd.prog 38 2 12 = true := by kernel_rfl
structure LnD where
  ep : Int
  seq : Int
  first : Int
  hs : Nat → Int
  kind : Int
  chain : Int
  lsn : Int
  prev : Int
  a : Option Addr
  c : Nat
  n : Nat
  at_ : Int
def encLn (x : LnD) : List Value := [.int .u64 x.ep, .int .i64 x.seq, .int .i64 x.first, .int .i64 (x.hs 0), .int .i64 (x.hs 1), .int .i64 (x.hs 2), .int .i64 (x.hs 3), .int .i64 x.kind, .int .i64 x.chain, .int .i64 x.lsn, .int .i64 x.prev, .slice x.a x.n x.c, .int .i64 x.at_]
def GoodLn (x : LnD) : Prop := (0 ≤ x.ep ∧ x.ep < 18446744073709551616) ∧ OkW x.seq ∧ OkW x.first ∧ (∀ q, q < 4 → OkW (x.hs q)) ∧ OkW x.kind ∧ OkW x.chain ∧ OkW x.lsn ∧ OkW x.prev ∧ x.n ≤ 140737488355328 ∧ OkW x.at_
theorem wfu9 {n : Int} (h : (Lit.int .u64 n).wf = true) : 0 ≤ n ∧ n < 18446744073709551616 := by
  simp [Lit.wf] at h
  have e1 : IntKind.u64.min = 0 := rfl
  have e2 : IntKind.u64.max = 18446744073709551615 := rfl
  omega
theorem walkN {w : World} {ep : Nat} {seq first : Int} {hs : Nat → Int} {A : Option Addr} {c n : Nat} {kind chain lsn prev at_ : Int} {cs ws : List UInt8} (he : ep < 18446744073709551616) (ok1 : OkW seq) (ok2 : OkW first) (hh : ∀ q, q < 4 → OkW (hs q)) (k1 : OkW kind) (k2 : OkW chain) (k3 : OkW lsn) (k4 : OkW prev) (k5 : OkW at_) (k6 : n ≤ 140737488355328) :
    Runs Tryd.prog 4 #[.agg #[.int .u64 (ep : Int), .int .i64 seq, .int .i64 first, .int .i64 (hs 0), .int .i64 (hs 1), .int .i64 (hs 2), .int .i64 (hs 3), .int .i64 kind, .int .i64 chain, .int .i64 lsn, .int .i64 prev, .slice A n c, .int .i64 at_], .string (⟨cs.toArray⟩), .string (⟨ws.toArray⟩)] w (fun v w' => w.grownBy w' none ∧ v = .bool true) := by
  have hB := gb_refl w none
  refine enter Tryd.func4 Tryd.ntmps4 rfl rfl ?_
  refine C_seq (C_reg rfl ?_)
  refine L_box (cs := [.int .u64 (ep : Int), .int .i64 seq, .int .i64 first, .int .i64 (hs 0), .int .i64 (hs 1), .int .i64 (hs 2), .int .i64 (hs 3), .int .i64 kind, .int .i64 chain, .int .i64 lsn, .int .i64 prev, .slice A n c, .int .i64 at_]) rfl rfl rfl ?_
  intro g1 w1 eg1 hb1 hs1 hz1
  have ge1 : w.heap.size ≤ g1 := eg_ge hB eg1
  replace hB := gb_tr hB hs1
  refine L_run (R_assign rfl) rfl ?_
  refine L_nil (N_then (C_seq (C_seq (C_reg rfl ?_))))
  refine L_run (R_move rfl) rfl ?_
  refine L_run (R_eqv (R_lenS rfl str9) (v' := .int .i64 (cs.length : Int)) (by rw [ba_size])) rfl ?_
  refine L_run (R_gtr rfl rfl) rfl ?_
  refine L_run (R_move rfl) rfl ?_
  refine L_splitD (p := 2000 < (cs.length : Int)) (fun h1 => ?_) (fun h1 => ?_)
  · refine L_no rfl rfl rfl (decide_eq_true h1) rfl ?_
    refine L_no rfl rfl rfl (decide_eq_true h1) rfl ?_
    refine L_no rfl rfl rfl (decide_eq_true h1) rfl ?_
    refine L_run (R_pickT rfl (decide_eq_true h1) rfl) rfl ?_
    refine L_nil (N_then (C_condT rfl rfl (C_seq (C_reg rfl ?_))))
    refine L_call rfl cb6 (awake48) rfl ?_
    rintro _ w2 ⟨hs2, rfl⟩
    replace hB := gb_tr hB hs2
    replace hb1 := hb1.gb hs2
    refine L_run (R_assign rfl) rfl ?_
    refine L_nil (N_then (C_ret (R_then ?_)))
    refine ret1 Tryd.results4 rfl ?_
    exact ⟨hB, rfl⟩
  · refine L_yes rfl rfl rfl (decide_eq_false h1) ?_
    refine L_run (R_move rfl) rfl ?_
    refine L_yes rfl rfl rfl (decide_eq_false h1) ?_
    refine L_run (R_eqv (R_lenS rfl str9) (v' := .int .i64 (ws.length : Int)) (by rw [ba_size])) rfl ?_
    refine L_yes rfl rfl rfl (decide_eq_false h1) ?_
    refine L_run (R_gtr rfl rfl) rfl ?_
    refine L_run (R_pickF rfl (decide_eq_false h1) rfl) rfl ?_
    refine L_nil (N_then ?_)
    refine C_if rfl (fun h2 => ?_) (fun h2 => ?_)
    · refine C_seq (C_reg rfl ?_)
      refine L_call rfl cb6 (awake48) rfl ?_
      rintro _ w3 ⟨hs3, rfl⟩
      replace hB := gb_tr hB hs3
      replace hb1 := hb1.gb hs3
      refine L_run (R_assign rfl) rfl ?_
      refine L_nil (N_then (C_ret (R_then ?_)))
      refine ret1 Tryd.results4 rfl ?_
      exact ⟨hB, rfl⟩
    · refine C_skip (N_then (C_seq ?_))
      refine C_draw2 rfl mix ?_
      intro w4 hs4 hz2
      replace hB := gb_tr hB hs4
      replace hb1 := hb1.gb hs4
      refine ⟨fun W_ => Blk W_ g1 38 [.int .u64 (ep : Int), .int .i64 seq, .int .i64 first, .int .i64 (hs 0), .int .i64 (hs 1), .int .i64 (hs 2), .int .i64 (hs 3), .int .i64 kind, .int .i64 chain, .int .i64 lsn, .int .i64 prev, .slice A n c, .int .i64 at_] ∧ True, [0, 1, 3, 4, 6, 7, 8, 9, 10, 11, 13, 14, 15, 16, 18, 19, 20, 21, 22, 24, 25, 27, 28, 29, 31, 32], ?_⟩
      refine T_takeA (i := 0) rfl (by kernel_rfl) (by kernel_rfl) (by kernel_rfl) (by kernel_rfl) (Y_of (fun _ ⟨hb1, _⟩ => R_field (r := 0) rfl fld38_0 rfl)) ⟨hb1, trivial⟩ rfl ?_
      refine T_takeA (i := 1) rfl (by kernel_rfl) (by kernel_rfl) (by kernel_rfl) (by kernel_rfl) (Y_of (fun _ ⟨hb1, _⟩ => R_loadA (vs := [.int .u64 (ep : Int), .int .i64 seq, .int .i64 first, .int .i64 (hs 0), .int .i64 (hs 1), .int .i64 (hs 2), .int .i64 (hs 3)]) rfl agg33 (At.pre (hb1.at_ 0) rfl) rfl)) ⟨hb1, trivial⟩ rfl ?_
      refine T_takeA (i := 3) rfl (by kernel_rfl) (by kernel_rfl) (by kernel_rfl) (by kernel_rfl) (Y_of (fun _ ⟨hb1, _⟩ => R_field (r := 0) rfl fld38_0 rfl)) ⟨hb1, trivial⟩ rfl ?_
      refine T_takeA (i := 4) rfl (by kernel_rfl) (by kernel_rfl) (by kernel_rfl) (by kernel_rfl) (Y_of (fun _ ⟨hb1, _⟩ => R_loadA (vs := [.int .u64 (ep : Int), .int .i64 seq, .int .i64 first, .int .i64 (hs 0), .int .i64 (hs 1), .int .i64 (hs 2), .int .i64 (hs 3)]) rfl agg33 (At.pre (hb1.at_ 0) rfl) rfl)) ⟨hb1, trivial⟩ rfl ?_
      refine T_all (rs := [2]) (by kernel_rfl) rfl (all1 (O_one rfl ?_))
      refine L_call rfl cb10 (header_ok (ep := ep) (seq := seq) (first := first) (hs := hs) he ok1 ok2 hh) rfl ?_
      rintro _ w5 ⟨hs5, rfl⟩
      replace hB := gb_tr hB hs5
      replace hb1 := hb1.gb hs5
      refine L_nil (N_then ⟨fun hN_ => ⟨hb1, trivial⟩, ?_⟩)
      refine T_all (rs := [5]) (by kernel_rfl) rfl (all1 (O_one rfl ?_))
      refine L_call rfl cb11 (header48 (ep := ep) (seq := seq) (first := first) (hs := hs) he ok1 ok2 hh) rfl ?_
      rintro _ w6 ⟨hs6, rfl⟩
      replace hB := gb_tr hB hs6
      replace hb1 := hb1.gb hs6
      refine L_nil (N_then ⟨fun hN_ => ⟨hb1, trivial⟩, ?_⟩)
      refine T_takeA (i := 6) rfl (by kernel_rfl) (by kernel_rfl) (by kernel_rfl) (by kernel_rfl) (Y_of (fun _ ⟨hb1, _⟩ => R_eqv (R_eqlS rfl rfl) (v' := .bool true) (bT' rfl))) ⟨hb1, trivial⟩ rfl ?_
      refine T_takeA (i := 7) rfl (by kernel_rfl) (by kernel_rfl) (by kernel_rfl) (by kernel_rfl) (Y_of (fun _ ⟨hb1, _⟩ => R_move rfl)) ⟨hb1, trivial⟩ rfl ?_
      refine T_takeA (i := 8) rfl (by kernel_rfl) (by kernel_rfl) (by kernel_rfl) (by kernel_rfl) (Y_yes rfl rfl rfl rfl (fun _ ⟨hb1, _⟩ => R_field (r := 7) rfl fld38_1 rfl)) ⟨hb1, trivial⟩ rfl ?_
      refine T_takeA (i := 9) rfl (by kernel_rfl) (by kernel_rfl) (by kernel_rfl) (by kernel_rfl) (Y_yes rfl rfl rfl rfl (fun _ ⟨hb1, _⟩ => R_loadA (vs := [.int .i64 kind, .int .i64 chain, .int .i64 lsn, .int .i64 prev, .slice A n c]) rfl agg36 (At.pre (hb1.at_ 7) rfl) rfl)) ⟨hb1, trivial⟩ rfl ?_
      refine T_takeA (i := 10) rfl (by kernel_rfl) (by kernel_rfl) (by kernel_rfl) (by kernel_rfl) (Y_yes rfl rfl rfl rfl (fun _ ⟨hb1, _⟩ => R_field (r := 12) rfl fld38_2 rfl)) ⟨hb1, trivial⟩ rfl ?_
      refine T_takeA (i := 11) rfl (by kernel_rfl) (by kernel_rfl) (by kernel_rfl) (by kernel_rfl) (Y_yes rfl rfl rfl rfl (fun _ ⟨hb1, _⟩ => R_load1 rfl scl3 (hb1.cell (i := 12) rfl))) ⟨hb1, trivial⟩ rfl ?_
      refine T_takeA (i := 13) rfl (by kernel_rfl) (by kernel_rfl) (by kernel_rfl) (by kernel_rfl) (Y_yes rfl rfl rfl rfl (fun _ ⟨hb1, _⟩ => R_field (r := 7) rfl fld38_1 rfl)) ⟨hb1, trivial⟩ rfl ?_
      refine T_takeA (i := 14) rfl (by kernel_rfl) (by kernel_rfl) (by kernel_rfl) (by kernel_rfl) (Y_yes rfl rfl rfl rfl (fun _ ⟨hb1, _⟩ => R_loadA (vs := [.int .i64 kind, .int .i64 chain, .int .i64 lsn, .int .i64 prev, .slice A n c]) rfl agg36 (At.pre (hb1.at_ 7) rfl) rfl)) ⟨hb1, trivial⟩ rfl ?_
      refine T_takeA (i := 15) rfl (by kernel_rfl) (by kernel_rfl) (by kernel_rfl) (by kernel_rfl) (Y_yes rfl rfl rfl rfl (fun _ ⟨hb1, _⟩ => R_field (r := 12) rfl fld38_2 rfl)) ⟨hb1, trivial⟩ rfl ?_
      refine T_takeA (i := 16) rfl (by kernel_rfl) (by kernel_rfl) (by kernel_rfl) (by kernel_rfl) (Y_yes rfl rfl rfl rfl (fun _ ⟨hb1, _⟩ => R_load1 rfl scl3 (hb1.cell (i := 12) rfl))) ⟨hb1, trivial⟩ rfl ?_
      refine T_all (rs := [12]) (by kernel_rfl) rfl (all1 (O_one rfl ?_))
      refine L_yes rfl rfl rfl rfl ?_
      refine L_call rfl cb12 (record_ok (n := n) (kind := kind) (chain := chain) (lsn := lsn) (prev := prev) (at_ := at_) k1 k2 k3 k4 k5 k6) rfl ?_
      rintro _ w7 ⟨hs7, rfl⟩
      replace hB := gb_tr hB hs7
      replace hb1 := hb1.gb hs7
      refine L_nil (N_then ⟨fun hN_ => ⟨hb1, trivial⟩, ?_⟩)
      refine T_all (rs := [17]) (by kernel_rfl) rfl (all1 (O_one rfl ?_))
      refine L_yes rfl rfl rfl rfl ?_
      refine L_call rfl cb13 (record48 (n := n) (kind := kind) (chain := chain) (lsn := lsn) (prev := prev) (at_ := at_) k1 k2 k3 k4 k5 k6) rfl ?_
      rintro _ w8 ⟨hs8, rfl⟩
      replace hB := gb_tr hB hs8
      replace hb1 := hb1.gb hs8
      refine L_nil (N_then ⟨fun hN_ => ⟨hb1, trivial⟩, ?_⟩)
      refine T_takeA (i := 18) rfl (by kernel_rfl) (by kernel_rfl) (by kernel_rfl) (by kernel_rfl) (Y_yes rfl rfl rfl rfl (fun _ ⟨hb1, _⟩ => R_eqv (R_eqlS rfl rfl) (v' := .bool true) (bT' rfl))) ⟨hb1, trivial⟩ rfl ?_
      refine T_takeA (i := 19) rfl (by kernel_rfl) (by kernel_rfl) (by kernel_rfl) (by kernel_rfl) (Y_of (fun _ ⟨hb1, _⟩ => R_pickT rfl rfl rfl)) ⟨hb1, trivial⟩ rfl ?_
      refine T_takeA (i := 20) rfl (by kernel_rfl) (by kernel_rfl) (by kernel_rfl) (by kernel_rfl) (Y_of (fun _ ⟨hb1, _⟩ => R_move rfl)) ⟨hb1, trivial⟩ rfl ?_
      refine T_takeA (i := 21) rfl (by kernel_rfl) (by kernel_rfl) (by kernel_rfl) (by kernel_rfl) (Y_yes rfl rfl rfl rfl (fun _ ⟨hb1, _⟩ => R_move rfl)) ⟨hb1, trivial⟩ rfl ?_
      refine T_takeA (i := 22) rfl (by kernel_rfl) (by kernel_rfl) (by kernel_rfl) (by kernel_rfl) (Y_yes rfl rfl rfl rfl (fun _ ⟨hb1, _⟩ => R_move rfl)) ⟨hb1, trivial⟩ rfl ?_
      refine T_takeA (i := 24) rfl (by kernel_rfl) (by kernel_rfl) (by kernel_rfl) (by kernel_rfl) (Y_yes rfl rfl rfl rfl (fun _ ⟨hb1, _⟩ => R_move rfl)) ⟨hb1, trivial⟩ rfl ?_
      refine T_takeA (i := 25) rfl (by kernel_rfl) (by kernel_rfl) (by kernel_rfl) (by kernel_rfl) (Y_yes rfl rfl rfl rfl (fun _ ⟨hb1, _⟩ => R_move rfl)) ⟨hb1, trivial⟩ rfl ?_
      refine T_all (rs := [23]) (by kernel_rfl) rfl (all1 (O_one rfl ?_))
      refine L_yes rfl rfl rfl rfl ?_
      refine L_call rfl cb14 (count_ok (cs := cs) (ws := ws) (by omega) (by omega)) rfl ?_
      rintro _ w9 ⟨hs9, rfl⟩
      replace hB := gb_tr hB hs9
      replace hb1 := hb1.gb hs9
      refine L_nil (N_then ⟨fun hN_ => ⟨hb1, trivial⟩, ?_⟩)
      refine T_all (rs := [26]) (by kernel_rfl) rfl (all1 (O_one rfl ?_))
      refine L_yes rfl rfl rfl rfl ?_
      refine L_call rfl cb15 (count48 (cs := cs) (ws := ws) (by omega) (by omega)) rfl ?_
      rintro _ w10 ⟨hs10, rfl⟩
      replace hB := gb_tr hB hs10
      replace hb1 := hb1.gb hs10
      refine L_nil (N_then ⟨fun hN_ => ⟨hb1, trivial⟩, ?_⟩)
      refine T_takeA (i := 27) rfl (by kernel_rfl) (by kernel_rfl) (by kernel_rfl) (by kernel_rfl) (Y_yes rfl rfl rfl rfl (fun _ ⟨hb1, _⟩ => R_eqv (R_eql rfl rfl) (v' := .bool true) (bT' rfl))) ⟨hb1, trivial⟩ rfl ?_
      refine T_takeA (i := 28) rfl (by kernel_rfl) (by kernel_rfl) (by kernel_rfl) (by kernel_rfl) (Y_of (fun _ ⟨hb1, _⟩ => R_pickT rfl rfl rfl)) ⟨hb1, trivial⟩ rfl ?_
      refine T_takeA (i := 29) rfl (by kernel_rfl) (by kernel_rfl) (by kernel_rfl) (by kernel_rfl) (Y_of (fun _ ⟨hb1, _⟩ => R_move rfl)) ⟨hb1, trivial⟩ rfl ?_
      refine T_all (rs := [30]) (by kernel_rfl) rfl (all1 (O_one rfl ?_))
      refine L_yes rfl rfl rfl rfl ?_
      refine L_call rfl cb6 (awake48) rfl ?_
      rintro _ w11 ⟨hs11, rfl⟩
      replace hB := gb_tr hB hs11
      replace hb1 := hb1.gb hs11
      refine L_nil (N_then ⟨fun hN_ => ⟨hb1, trivial⟩, ?_⟩)
      refine T_takeA (i := 31) rfl (by kernel_rfl) (by kernel_rfl) (by kernel_rfl) (by kernel_rfl) (Y_of (fun _ ⟨hb1, _⟩ => R_pickT rfl rfl rfl)) ⟨hb1, trivial⟩ rfl ?_
      refine T_takeA (i := 32) rfl (by kernel_rfl) (by kernel_rfl) (by kernel_rfl) (by kernel_rfl) (Y_of (fun _ ⟨hb1, _⟩ => R_assign rfl)) ⟨hb1, trivial⟩ rfl ?_
      refine T_done (by kernel_rfl) (CalmE.normal ?_)
      refine N_then (C_ret ?_)
      refine ret1 Tryd.results4 rfl ?_
      exact ⟨hB, rfl⟩

theorem walk {w : World} {x0 : LnD} (hg0 : GoodLn x0) {s1 : ByteArray} (hg1 : s1.size ≤ 140737488351232) {s2 : ByteArray} (hg2 : s2.size ≤ 140737488351232) : Runs Tryd.prog 4 #[.agg #[.int .u64 x0.ep, .int .i64 x0.seq, .int .i64 x0.first, .int .i64 (x0.hs 0), .int .i64 (x0.hs 1), .int .i64 (x0.hs 2), .int .i64 (x0.hs 3), .int .i64 x0.kind, .int .i64 x0.chain, .int .i64 x0.lsn, .int .i64 x0.prev, .slice x0.a x0.n x0.c, .int .i64 x0.at_], .string s1, .string s2] w (fun v w' => w.grownBy w' none ∧ v = .bool true) := by
  obtain ⟨ep, seq, first, hs, kind, chain, lsn, prev, a, c, n, at_⟩ := x0
  obtain ⟨⟨h1, h2⟩, h3, h4, h5, h6, h7, h8, h9, h10, h11⟩ := hg0
  obtain ⟨e, rfl⟩ : ∃ e : Nat, ep = (e : Int) := ⟨ep.toNat, by have h_ : (0 : Int) ≤ ep := h1; omega⟩
  exact walkN (cs := s1.data.toList) (ws := s2.data.toList) (by have h_ : (e : Int) < 18446744073709551616 := h2; omega) h3 h4 h5 h6 h7 h8 h9 h11 h10
open Go.ChangeShapes Go.WideShapes Go.ChangeAt
theorem own : ownKnob Tryd.prog.godebug = none := by kernel_rfl
theorem laidOut : laidOutB Tryd.prog = true := by kernel_rfl
set_option maxRecDepth 100000 in
theorem lifted (os : Os) (started : os.Started) (H : Type) (enc : TypeId × Value → H) :
    ReturnsInHanded {} Tryd.checked os 4 .any (fun w args => (Rows.dumpLinesSpec.pre enc Tryd.prog Tryd.f4 [] false w args ∧ laidMetH Tryd.prog Rows.dumpLinesRow.laid w) ∧ sizedMet enc Tryd.prog Tryd.f4 (OpenSpec.ofChange Rows.dumpLinesSpec) false w args) (Rows.dumpLinesSpec.post enc Tryd.prog Tryd.f4 false true false false) := by
  refine returnsInHanded_of_change_and (C := Tryd.checked) (X := fun w _ => laidMetH Tryd.prog Rows.dumpLinesRow.laid w) (fun _ _ _ hh h => h.of_heap hh) own started (by kernel_rfl) Tryd.func4
    (ChangeSpec.witness_shaped (enc := enc) (C := Tryd.checked) (os := os) (X := fun w _ => laidMetH Tryd.prog Rows.dumpLinesRow.laid w) false (World.laidAll Tryd.prog os Rows.dumpLinesRow.laid) #[.agg #[.int .u64 0, .int .i64 0, .int .i64 0, .int .i64 0, .int .i64 0, .int .i64 0, .int .i64 0, .int .i64 0, .int .i64 0, .int .i64 0, .int .i64 0, .slice none 0 0, .int .i64 0], .string (⟨#[]⟩), .string (⟨#[]⟩)] 8 (World.laidAll_os _ _ _) (World.shaped_of_ZipB (by kernel_rfl) (by kernel_rfl)) (by kernel_rfl) (by kernel_rfl) (by kernel_rfl) (by rw [MakeChecks.laidMetH_plain _ _ _ (by kernel_rfl)]; exact laidMet_laidAll _ (by kernel_rfl) (by kernel_rfl))) ?_
  intro W base args ds gs before hval0 hW hcnd hsz0 hL _
  have hsz : (DataW.weightsEach Tryd.prog (Tryd.f4.params.toList ++ Rows.dumpLinesSpec.plain.varTypes Tryd.prog) (ds ++ gs)).all (· ≤ reachBytes) = true := hsz0
  have hval : ∀ (j : Nat) t v, Tryd.f4.params[j]? = some t → args[j]? = some v → Value.okWide Tryd.prog W .any base t v := hval0
  have hW' := hW
  obtain ⟨p, q, hA0, hV, rfl, hfz, hnd⟩ := hW
  have hA : DataW.TrodAll enc Tryd.prog W 0 (fun _ => true) true Tryd.f4.params.toList args.toList ds p := hA0
  rw [Tryd.params4] at hA hval hsz
  obtain ⟨v0, vs0, d0, ds0, p0, q0, hargs, rfl, rfl, h0, r0⟩ := trodAll_cons hA
  obtain ⟨v1, vs1, d1, ds1, p1, q1, rfl, rfl, rfl, h1, r1⟩ := trodAll_cons r0
  obtain ⟨v2, vs2, d2, ds2, p2, q2, rfl, rfl, rfl, h2, r2⟩ := trodAll_cons r1
  obtain ⟨rfl, rfl, rfl⟩ := trodAll_nil r2
  obtain rfl : args = #[v0, v1, v2] := by cases args; simp_all
  obtain ⟨rfl, rfl⟩ := trodVars_none hV
  have lt0 : ∀ x ∈ p0, x.block < W.heap.size := by obtain ⟨m, hm⟩ := h0; exact DataW.trod_lt m _ _ _ hm
  obtain ⟨x0, e0, hg0⟩ := Rdr.arg (enc := enc) (P := Tryd.prog) (W := W) ((Rdr.struct Tryd.underlying38 rfl (by kernel_rfl) (Rds.cons (off := 0) (sz := 7) (Rdr.struct Tryd.underlying33 rfl (by kernel_rfl) (Rds.cons (off := 0) (sz := 1) (Rdr.int Tryd.underlying30) (by kernel_rfl) rfl (by decide) (Rds.cons (off := 1) (sz := 1) (Rdr.int Tryd.underlying3) (by kernel_rfl) rfl (by decide) (Rds.cons (off := 2) (sz := 1) (Rdr.int Tryd.underlying3) (by kernel_rfl) rfl (by decide) (Rds.cons (off := 3) (sz := 4) (Rdr.arrf Tryd.underlying31 Tryd.underlying3 (by kernel_rfl) (by kernel_rfl)) (by kernel_rfl) rfl (by decide) (Rds.nil)))))) (by kernel_rfl) rfl (by decide) (Rds.cons (off := 7) (sz := 5) (Rdr.struct Tryd.underlying36 rfl (by kernel_rfl) (Rds.cons (off := 0) (sz := 1) (Rdr.int Tryd.underlying3) (by kernel_rfl) rfl (by decide) (Rds.cons (off := 1) (sz := 1) (Rdr.int Tryd.underlying3) (by kernel_rfl) rfl (by decide) (Rds.cons (off := 2) (sz := 1) (Rdr.int Tryd.underlying3) (by kernel_rfl) rfl (by decide) (Rds.cons (off := 3) (sz := 1) (Rdr.int Tryd.underlying3) (by kernel_rfl) rfl (by decide) (Rds.cons (off := 4) (sz := 1) (Rdr.slice (ec := encB) (sz := 1) (by_ := 1) ((Rdr.int Tryd.underlying5).map (fun n => UInt8.ofNat n.toNat) byte_of (good' := fun _ => True) (fun _ _ => trivial)) EncB Tryd.underlying34 (by kernel_rfl) (by kernel_rfl)) (by kernel_rfl) rfl (by decide) (Rds.nil))))))) (by kernel_rfl) rfl (by decide) (Rds.cons (off := 12) (sz := 1) (Rdr.int Tryd.underlying3) (by kernel_rfl) rfl (by decide) (Rds.nil))))).map (fun y => (⟨y.1.1, y.1.2.1, y.1.2.2.1, y.1.2.2.2.1, y.2.1.1, y.2.1.2.1, y.2.1.2.2.1, y.2.1.2.2.2.1, y.2.1.2.2.2.2.1.1, y.2.1.2.2.2.2.1.2.1, y.2.1.2.2.2.2.1.2.2.length, y.2.2.1⟩ : LnD)) (e' := encLn) (fun _ _ => rfl) (good' := GoodLn) (fun _ h => ⟨wfu9 h.1.1, wf64 h.1.2.1, wf64 h.1.2.2.1, fun q hq => wf64 (h.1.2.2.2.1 q hq), wf64 h.2.1.1, wf64 h.2.1.2.1, wf64 h.2.1.2.2.1, wf64 h.2.1.2.2.2.1, (by have h_ := h.2.1.2.2.2.2.1; have h1_ := h_.2.1; have h2_ := h_.2.2.1; show List.length _ ≤ _; omega), wf64 h.2.2.1⟩)) hsz (j := 0) rfl rfl h0
  obtain ⟨cs0, rfl, _⟩ := okWide_struct Tryd.underlying38 (hval 0 38 v0 rfl rfl)
  obtain rfl := of_agg e0
  have lt1 : ∀ x ∈ p1, x.block < W.heap.size := by obtain ⟨m, hm⟩ := h1; exact DataW.trod_lt m _ _ _ hm
  obtain ⟨s1, e1, hg1⟩ := Rdr.arg (enc := enc) (P := Tryd.prog) (W := W) (Rdr.str Tryd.underlying9) hsz (j := 1) rfl rfl h1
  obtain rfl := of_cell e1 (by intro cs e_; obtain ⟨a_, e2_⟩ := okWide_string Tryd.underlying9 (hval 1 9 v1 rfl rfl); rw [e2_] at e_; cases e_)
  have lt2 : ∀ x ∈ p2, x.block < W.heap.size := by obtain ⟨m, hm⟩ := h2; exact DataW.trod_lt m _ _ _ hm
  obtain ⟨s2, e2, hg2⟩ := Rdr.arg (enc := enc) (P := Tryd.prog) (W := W) (Rdr.str Tryd.underlying9) hsz (j := 2) rfl rfl h2
  obtain rfl := of_cell e2 (by intro cs e_; obtain ⟨a_, e2_⟩ := okWide_string Tryd.underlying9 (hval 2 9 v2 rfl rfl); rw [e2_] at e_; cases e_)
  refine (walk (w := W) hg0 hg1 hg2).calls.mono fun e W' ⟨v_, he, hgb, hv_⟩ => ?_
  subst he
  subst hv_
  have bel := gb_below hgb
  exact ⟨_, rfl, _, _, _, [], _, [], hW', trodAll_mk1 (shut_bool Tryd.underlying4 _), (trodAll_cons_mk (Below.trod laidOut (by kernel_rfl) (of_decide_eq_true (by kernel_rfl)) h0 bel lt0) (trodAll_cons_mk (Below.trod laidOut (by kernel_rfl) (of_decide_eq_true (by kernel_rfl)) h1 bel lt1) (trodAll_cons_mk (Below.trod laidOut (by kernel_rfl) (of_decide_eq_true (by kernel_rfl)) h2 bel lt2) trodAll_mk0))), rfl, bel.frame _, fun h => by cases h⟩
theorem over : Rows.dumpLinesRow.holds Tryd.pinned (OpenSpec.ofChange Rows.dumpLinesSpec) :=
  OpenClaim.holds_of_wide 4 Tryd.f4 rfl rfl rfl rfl rfl rfl rfl ⟨rfl, rfl, rfl, rfl, rfl⟩ rfl rfl rfl rfl rfl (by kernel_rfl) Tryd.func4 (by kernel_rfl)
    (of_decide_eq_true (by kernel_rfl)) (by unfold Func.isWrapper; first | (rw [if_pos (by decide +kernel)]; kernel_rfl) | (rw [if_neg (by decide +kernel)]; exact ⟨rfl, rfl⟩))
    (fun os started H enc _ => lifted os started H enc)
/-- The given statement. -/
theorem proved : Rows.DumpLinesCardSaid :=
  Claim7.holds_tied_plain_at .later [] [.data, .data, .pinned] true (true, "a36ed247c5b4b290e7dff9cccada4c9dd16c977abd2648fc68a013990f152d27") false
    over (fun _ h => by cases h) (by kernel_rfl) (fun _ h => by cases h) dumpLines_row_tie rfl ⟨rfl, rfl⟩ (by kernel_rfl) rfl
    (fun f fn hf hfn => by
      obtain rfl : f = 4 := Option.some.inj ((show Tryd.prog.funcNamed "strandline/strandlinelaw48.DumpLines" = some 4 by kernel_rfl).symm.trans hf) |>.symm
      obtain rfl : fn = Tryd.f4 := (Option.some.inj (Tryd.func4.symm.trans hfn)).symm
      exact ⟨by kernel_rfl, fun j t ht => by
        rw [Tryd.params4] at ht
        have hm : t ∈ [38, 9, 9] := by simpa using Array.mem_of_getElem? ht
        have hall : ([38, 9, 9].all fun u => !Tryd.prog.wantsStandIn u) = true := by kernel_rfl
        exact (show Tryd.prog.wantsStandIn t = false by simpa using List.all_eq_true.1 hall t hm)⟩)
    (by kernel_rfl)
#print axioms proved

end Go.Proofs.YtkjgjejkfjhcjaaDoor.LDumpLines
