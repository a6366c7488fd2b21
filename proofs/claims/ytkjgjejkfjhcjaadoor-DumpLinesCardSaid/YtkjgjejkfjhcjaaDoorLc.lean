/-
  Contracts of a header's line.
-/
import Derived.Test.YtkjgjejkfjhcjaaDoorLb
namespace Go.Proofs.YtkjgjejkfjhcjaaDoor
open Go.RowKit Gw Pl
set_option linter.unusedVariables false
set_option linter.unusedSimpArgs false
theorem agg31 : aggB Tryd.prog 31 4 = true := by kernel_rfl
theorem arr31 : arrB Tryd.prog 31 3 4 1 = true := by kernel_rfl
theorem cb21 : callB Tryd.prog 21 = true := by kernel_rfl
theorem cb28 : callB Tryd.prog 28 = true := by kernel_rfl
theorem fld33_0 : fldB Tryd.prog 33 0 0 = true := by kernel_rfl
theorem fld33_1 : fldB Tryd.prog 33 1 1 = true := by kernel_rfl
theorem fld33_2 : fldB Tryd.prog 33 2 2 = true := by kernel_rfl
theorem fld33_3 : fldB Tryd.prog 33 3 3 = true := by kernel_rfl
theorem mix : Tryd.prog.follows .mixedOrders = true := by kernel_rfl
theorem scl3 : sclB Tryd.prog 3 = true := by kernel_rfl
theorem scl30 : sclB Tryd.prog 30 = true := by kernel_rfl
theorem slc59 : slcB Tryd.prog 59 9 1 16 = true := by kernel_rfl
theorem zer9 : (Tryd.prog.info? 9).bind (·.zero) = some (.string (⟨#[]⟩)) := by kernel_rfl
/-- A header's words, and i of its heads'. -/
def hWs (ep : Nat) (seq first : Int) (hs : Nat → Int) (i : Nat) : List (List UInt8) := [([115, 101, 103, 109, 101, 110, 116] : List UInt8), ([101, 112, 111, 99, 104] : List UInt8), dig ep, ([115, 101, 113] : List UInt8), digI seq, ([102, 105, 114, 115, 116] : List UInt8), digI first, ([104, 101, 97, 100, 115] : List UInt8)] ++ (List.range i).map fun q => digI (hs q)
def hdrT (ep : Nat) (seq first : Int) (hs : Nat → Int) (i : Nat) : List UInt8 := Go.Lib.join (hWs ep seq first hs i) [32]
theorem hWs_succ {ep : Nat} {seq first : Int} {hs : Nat → Int} {i : Nat} : hWs ep seq first hs (i + 1) = hWs ep seq first hs i ++ [digI (hs i)] := by
  unfold hWs
  rw [List.range_succ, List.map_append, List.append_assoc]
  rfl
theorem hWs_len {ep : Nat} {seq first : Int} {hs : Nat → Int} {i : Nat} : (hWs ep seq first hs i).length = 8 + i := by simp [hWs]; omega
theorem hdrT_succ {ep : Nat} {seq first : Int} {hs : Nat → Int} {i : Nat} : hdrT ep seq first hs (i + 1) = (hdrT ep seq first hs i ++ [32]) ++ digI (hs i) := by
  unfold hdrT
  rw [hWs_succ, jn_app (by simp [hWs]), List.append_assoc]
theorem hdrT_0 {ep : Nat} {seq first : Int} {hs : Nat → Int} : hdrT ep seq first hs 0 = ((((((([115, 101, 103, 109, 101, 110, 116, 32, 101, 112, 111, 99, 104, 32] : List UInt8) ++ dig ep) ++ ([32, 115, 101, 113, 32] : List UInt8)) ++ digI seq) ++ ([32, 102, 105, 114, 115, 116, 32] : List UInt8)) ++ digI first) ++ ([32, 104, 101, 97, 100, 115] : List UInt8)) := by
  unfold hdrT hWs
  simp only [List.range_zero, List.map_nil, List.append_nil, jn2, jn1, List.append_assoc, List.cons_append, List.nil_append]
def OkW (n : Int) : Prop := -9223372036854775808 ≤ n ∧ n ≤ 9223372036854775807
theorem hdrT_len {ep : Nat} {seq first : Int} {hs : Nat → Int} (he : ep < 18446744073709551616) (h1 : OkW seq) (h2 : OkW first) (hh : ∀ q, q < 4 → OkW (hs q)) : ∀ i, i ≤ 4 → (hdrT ep seq first hs i).length ≤ 100 + 21 * i
  | 0, _ => by
    rw [hdrT_0]
    have a1 := digU_len he
    have a2 := digI_len h1
    have a3 := digI_len h2
    simp only [List.length_append, List.length_cons, List.length_nil]
    omega
  | i + 1, hi => by
    rw [hdrT_succ]
    have a1 := hdrT_len he h1 h2 hh i (by omega)
    have a2 := digI_len (hh i (by omega))
    simp only [List.length_append, List.length_cons, List.length_nil]
    omega
theorem header_ok {w : World} {ep : Nat} {seq first : Int} {hs : Nat → Int} (he : ep < 18446744073709551616) (ok1 : OkW seq) (ok2 : OkW first) (hh : ∀ q, q < 4 → OkW (hs q)) :
    Runs Tryd.prog 10 #[.agg #[.int .u64 (ep : Int), .int .i64 seq, .int .i64 first, .int .i64 (hs 0), .int .i64 (hs 1), .int .i64 (hs 2), .int .i64 (hs 3)]] w (fun v w' => w.grownBy w' none ∧ v = .string ⟨(hdrT ep seq first hs 4).toArray⟩) := by
  have hB := gb_refl w none
  refine enter Tryd.func10 Tryd.ntmps10 rfl rfl ?_
  refine C_seq (C_reg rfl ?_)
  refine L_box (cs := [.int .u64 (ep : Int), .int .i64 seq, .int .i64 first, .int .i64 (hs 0), .int .i64 (hs 1), .int .i64 (hs 2), .int .i64 (hs 3)]) rfl rfl rfl ?_
  intro g1 w1 eg1 hb1 hs1 hz1
  have ge1 : w.heap.size ≤ g1 := eg_ge hB eg1
  replace hB := gb_tr hB hs1
  refine L_run (R_assign rfl) rfl ?_
  refine L_nil (N_then (C_seq ?_))
  refine C_draw2 rfl mix ?_
  intro w2 hs2 hz2
  replace hB := gb_tr hB hs2
  replace hb1 := hb1.gb hs2
  refine ⟨fun W_ => Blk W_ g1 33 [.int .u64 (ep : Int), .int .i64 seq, .int .i64 first, .int .i64 (hs 0), .int .i64 (hs 1), .int .i64 (hs 2), .int .i64 (hs 3)] ∧ True, [0, 1, 3, 4, 6, 7, 10], ?_⟩
  refine T_takeA (i := 0) rfl (by kernel_rfl) (by kernel_rfl) (by kernel_rfl) (by kernel_rfl) (Y_of (fun _ ⟨hb1, _⟩ => R_field (r := 0) rfl fld33_0 rfl)) ⟨hb1, trivial⟩ rfl ?_
  refine T_takeA (i := 1) rfl (by kernel_rfl) (by kernel_rfl) (by kernel_rfl) (by kernel_rfl) (Y_of (fun _ ⟨hb1, _⟩ => R_load1 rfl scl30 (hb1.cell (i := 0) rfl))) ⟨hb1, trivial⟩ rfl ?_
  refine T_takeA (i := 3) rfl (by kernel_rfl) (by kernel_rfl) (by kernel_rfl) (by kernel_rfl) (Y_of (fun _ ⟨hb1, _⟩ => R_field (r := 1) rfl fld33_1 rfl)) ⟨hb1, trivial⟩ rfl ?_
  refine T_takeA (i := 4) rfl (by kernel_rfl) (by kernel_rfl) (by kernel_rfl) (by kernel_rfl) (Y_of (fun _ ⟨hb1, _⟩ => R_load1 rfl scl3 (hb1.cell (i := 1) rfl))) ⟨hb1, trivial⟩ rfl ?_
  refine T_takeA (i := 6) rfl (by kernel_rfl) (by kernel_rfl) (by kernel_rfl) (by kernel_rfl) (Y_of (fun _ ⟨hb1, _⟩ => R_field (r := 2) rfl fld33_2 rfl)) ⟨hb1, trivial⟩ rfl ?_
  refine T_takeA (i := 7) rfl (by kernel_rfl) (by kernel_rfl) (by kernel_rfl) (by kernel_rfl) (Y_of (fun _ ⟨hb1, _⟩ => R_load1 rfl scl3 (hb1.cell (i := 2) rfl))) ⟨hb1, trivial⟩ rfl ?_
  refine T_all (rs := [2]) (by kernel_rfl) rfl (all1 (O_one rfl ?_))
  refine L_call rfl cb28 (dump_digits (n := ep) he) rfl ?_
  rintro _ w3 ⟨hs3, rfl⟩
  replace hB := gb_tr hB hs3
  replace hb1 := hb1.gb hs3
  refine L_nil (N_then ⟨fun hN_ => ⟨hb1, trivial⟩, ?_⟩)
  refine T_all (rs := [5]) (by kernel_rfl) rfl (all1 (O_one rfl ?_))
  refine L_call rfl cb22 (name_Digits (n := seq) (by first | exact ok1 | exact ok2 | exact hh _ (by omega))) rfl ?_
  rintro _ w4 ⟨hs4, rfl⟩
  replace hB := gb_tr hB hs4
  replace hb1 := hb1.gb hs4
  refine L_nil (N_then ⟨fun hN_ => ⟨hb1, trivial⟩, ?_⟩)
  refine T_all (rs := [8]) (by kernel_rfl) rfl (all1 (O_one rfl ?_))
  refine L_call rfl cb22 (name_Digits (n := first) (by first | exact ok1 | exact ok2 | exact hh _ (by omega))) rfl ?_
  rintro _ w5 ⟨hs5, rfl⟩
  replace hB := gb_tr hB hs5
  replace hb1 := hb1.gb hs5
  refine L_nil (N_then ⟨fun hN_ => ⟨hb1, trivial⟩, ?_⟩)
  refine T_all (rs := [9]) (by kernel_rfl) rfl (all1 (O_one rfl ?_))
  refine L_buildSlice (pv := [(0, .string (⟨#[115, 101, 103, 109, 101, 110, 116]⟩)), (1, .string (⟨#[101, 112, 111, 99, 104]⟩)), (2, .string (⟨(dig ep).toArray⟩)), (3, .string (⟨#[115, 101, 113]⟩)), (4, .string (⟨(digI seq).toArray⟩)), (5, .string (⟨#[102, 105, 114, 115, 116]⟩)), (6, .string (⟨(digI first).toArray⟩)), (7, .string (⟨#[104, 101, 97, 100, 115]⟩))]) (cs := [.string (⟨#[115, 101, 103, 109, 101, 110, 116]⟩), .string (⟨#[101, 112, 111, 99, 104]⟩), .string (⟨(dig ep).toArray⟩), .string (⟨#[115, 101, 113]⟩), .string (⟨(digI seq).toArray⟩), .string (⟨#[102, 105, 114, 115, 116]⟩), .string (⟨(digI first).toArray⟩), .string (⟨#[104, 101, 97, 100, 115]⟩)]) slc59 zer9 rfl rfl (by kernel_rfl) rfl ?_
  intro g2 w6 eg2 hb2 hs6 hz3
  have ge2 : w.heap.size ≤ g2 := eg_ge hB eg2
  have lt1 : g1 < g2 := lt_of_eg hb1.lt eg2
  replace hB := gb_tr hB hs6
  replace hb1 := hb1.gb hs6
  refine L_nil (N_then ⟨fun hN_ => ⟨hb1, trivial⟩, ?_⟩)
  refine T_takeA (i := 10) rfl (by kernel_rfl) (by kernel_rfl) (by kernel_rfl) (by kernel_rfl) (Y_of (fun _ ⟨hb1, _⟩ => R_assign rfl)) ⟨hb1, trivial⟩ rfl ?_
  refine T_done (by kernel_rfl) (CalmE.normal ?_)
  refine N_then (C_seq (C_seq (C_reg rfl ?_)))
  refine L_run (R_field (r := 3) rfl fld33_3 rfl) rfl ?_
  refine L_run (R_loadA (vs := [.int .i64 (hs 0), .int .i64 (hs 1), .int .i64 (hs 2), .int .i64 (hs 3)]) rfl agg31 (At.pre (hb1.at_ 3) rfl) rfl) rfl ?_
  refine L_run (R_move rfl) rfl ?_
  refine L_nil (N_then (C_block ?_))
  have hw0_ : [([115, 101, 103, 109, 101, 110, 116] : List UInt8), ([101, 112, 111, 99, 104] : List UInt8), dig ep, ([115, 101, 113] : List UInt8), digI seq, ([102, 105, 114, 115, 116] : List UInt8), digI first, ([104, 101, 97, 100, 115] : List UInt8)] = (hWs ep seq first hs 0) := (List.append_nil _).symm
  have ho0_ : World.ownsRow w6 w.heap.size 9 1 (.slice (some ⟨g2, 0, none⟩) (hWs ep seq first hs 0).length 8) (hWs ep seq first hs 0).length (fl encW (hWs ep seq first hs 0)) := hw0_ ▸ own_lo (Blk.own (sz := 1) (m := 8) hb2 (by decide) rfl (Nat.le_refl _)) ge2
  refine C_loop (fun m_ a_ w_ => ∃ (σ_ : Nat → Value) (i : Nat) (Aj : Option Addr) (cj : Nat), a_ = Ac 29 σ_ [] [(1, .pointer (some ⟨g1, 0, none⟩)), (3, .slice Aj ((hWs ep seq first hs i).length) cj), (17, .agg #[.int .i64 (hs 0), .int .i64 (hs 1), .int .i64 (hs 2), .int .i64 (hs 3)]), (18, .int .i64 (i : Int))] ∧ w.grownBy w_ none ∧ Blk w_ g1 33 [.int .u64 (ep : Int), .int .i64 seq, .int .i64 first, .int .i64 (hs 0), .int .i64 (hs 1), .int .i64 (hs 2), .int .i64 (hs 3)] ∧ World.ownsRow w_ w.heap.size 9 1 (.slice Aj (hWs ep seq first hs i).length cj) (hWs ep seq first hs i).length (fl encW (hWs ep seq first hs i)) ∧ (i ≤ 4) ∧ 4 - i = m_) (4 - 0) ?_ ?_
  · exact ⟨_, 0, (some ⟨g2, 0, none⟩), 8, Ac_frg ⟨rfl, (agr rfl (by rw [hWs_len])), rfl, (agr rfl (by first | rfl | (congr 1; omega) | (congr 1; simp; done) | (congr 1; simp only [IntKind.wrap_u64, IntKind.wrap_i64, IntKind.wrap_u8]; omega) | (congr 1 <;> omega))), trivial⟩, hB, hb1, ho0_, (by omega), rfl⟩
  · clear hB
    clear hb1 hb2
    rintro m_ a_ w7 ⟨σ_, i, Aj, cj, rfl, hB, hb1, ho, hi, rfl⟩
    refine C_seq (C_reg rfl ?_)
    refine L_run (R_lss rfl rfl) rfl ?_
    refine L_nil (N_then (C_seq ?_))
    refine C_if rfl (fun h1 => ?_) (fun h1 => ?_)
    · refine C_skip (N_then (C_seq (C_block (C_seq (C_reg rfl ?_)))))
      refine L_run (R_indexA4 (f := hs) (a := (i : Int)) (i := i) rfl rfl (by first | rfl | omega) arr31 scl3 (by omega)) rfl ?_
      refine L_run (R_assign rfl) rfl ?_
      refine L_nil (N_then (C_reg rfl ?_))
      refine L_run (R_move rfl) rfl ?_
      refine L_run (R_move rfl) rfl ?_
      refine L_call rfl cb22 (name_Digits (n := (hs i)) (by first | exact ok1 | exact ok2 | exact hh _ (by omega))) rfl ?_
      rintro _ w8 ⟨hs7, rfl⟩
      replace hB := gb_tr hB hs7
      replace hb1 := hb1.gb hs7
      replace ho := own_gb ho hs7
      refine L_buildSlice (pv := [(0, .string (⟨(digI (hs i)).toArray⟩))]) (cs := [.string (⟨(digI (hs i)).toArray⟩)]) slc59 zer9 rfl rfl (by kernel_rfl) rfl ?_
      intro g3 w9 eg3 hb3 hs8 hz4
      have ge3 : w.heap.size ≤ g3 := eg_ge hB eg3
      have lt2 : g1 < g3 := lt_of_eg hb1.lt eg3
      have hap1 : ∀ k_, (Value.slice Aj (hWs ep seq first hs i).length cj).ownBlock = some k_ → k_ ≠ g3 := fun k_ hk => by have h_ := (World.ownsRow.lt ho k_ hk).2; omega
      replace hB := gb_tr hB hs8
      replace hb1 := hb1.gb hs8
      replace ho := own_gb ho hs8
      refine T_append (xs := (hWs ep seq first hs i)) (ys := [(digI (hs i))]) EncW slc59 rfl rfl ho (Blk.sli (m := 0) hb3) (by rw [hWs_len]; simp; omega) (by have := hB.size; omega) rfl ?_
      intro A_1 c_1 w10 ho1 hs9 hat1
      replace hB := gb_tro hB ho hs9 (Nat.le_refl _)
      replace hb1 := blk_own hb1 ho rfl hs9
      refine L_run (R_assign rfl) rfl ?_
      refine L_nil (N_in (N_then (C_reg rfl ?_)))
      refine L_run (R_add64 rfl rfl (by omega)) rfl ?_
      refine L_run (R_move rfl) rfl ?_
      refine L_nil (N_then ?_)
      rw [← hWs_succ] at ho1
      exact ⟨4 - (i + 1), by omega, _, (i + 1), A_1, c_1, Ac_frg ⟨rfl, (agr rfl (by rw [← hWs_succ])), rfl, (agr rfl (by first | rfl | (congr 1; omega) | (congr 1; simp; done) | (congr 1; simp only [IntKind.wrap_u64, IntKind.wrap_i64, IntKind.wrap_u8]; omega) | (congr 1 <;> omega))), trivial⟩, hB, hb1, (own_lo ho1 (Nat.le_refl _)), (by omega), rfl⟩
    · refine C_exit (X_then (X_then (X_hit (N_then (C_seq (C_reg rfl ?_))))))
      refine L_run (R_move rfl) rfl ?_
      have hjl_ := (show (Go.Lib.join (hWs ep seq first hs i) [32]).length ≤ 140737488355328 from Nat.le_trans (hdrT_len he ok1 ok2 hh i (by omega)) (by omega))
      refine L_call rfl cb21 (line_ok (xs := (hWs ep seq first hs i)) (own_of ho).2.2 (own_of ho).1 (by rw [hWs_len]; omega) hjl_) rfl ?_
      rintro _ w11 ⟨hs10, rfl⟩
      replace hB := gb_tr hB hs10
      replace hb1 := hb1.gb hs10
      replace ho := own_gb ho hs10
      refine L_run (R_assign rfl) rfl ?_
      refine L_nil (N_then (C_ret ?_))
      refine ret1 Tryd.results10 rfl ?_
      obtain rfl : i = 4 := by omega
      exact ⟨hB, rfl⟩

theorem header48 {w : World} {ep : Nat} {seq first : Int} {hs : Nat → Int} (he : ep < 18446744073709551616) (ok1 : OkW seq) (ok2 : OkW first) (hh : ∀ q, q < 4 → OkW (hs q)) :
    Runs Tryd.prog 11 #[.agg #[.int .u64 (ep : Int), .int .i64 seq, .int .i64 first, .int .i64 (hs 0), .int .i64 (hs 1), .int .i64 (hs 2), .int .i64 (hs 3)]] w (fun v w' => w.grownBy w' none ∧ v = .string ⟨(hdrT ep seq first hs 4).toArray⟩) := by
  have hB := gb_refl w none
  refine enter Tryd.func11 Tryd.ntmps11 rfl rfl ?_
  refine C_seq (C_reg rfl ?_)
  refine L_box (cs := [.int .u64 (ep : Int), .int .i64 seq, .int .i64 first, .int .i64 (hs 0), .int .i64 (hs 1), .int .i64 (hs 2), .int .i64 (hs 3)]) rfl rfl rfl ?_
  intro g1 w1 eg1 hb1 hs1 hz1
  have ge1 : w.heap.size ≤ g1 := eg_ge hB eg1
  replace hB := gb_tr hB hs1
  refine L_run (R_assign rfl) rfl ?_
  refine L_nil (N_then (C_seq ?_))
  refine C_draw2 rfl mix ?_
  intro w2 hs2 hz2
  replace hB := gb_tr hB hs2
  replace hb1 := hb1.gb hs2
  refine ⟨fun W_ => Blk W_ g1 33 [.int .u64 (ep : Int), .int .i64 seq, .int .i64 first, .int .i64 (hs 0), .int .i64 (hs 1), .int .i64 (hs 2), .int .i64 (hs 3)] ∧ True, [0, 1, 3, 4, 5, 6, 8, 9, 10, 11, 13, 14, 15], ?_⟩
  refine T_takeA (i := 0) rfl (by kernel_rfl) (by kernel_rfl) (by kernel_rfl) (by kernel_rfl) (Y_of (fun _ ⟨hb1, _⟩ => R_field (r := 0) rfl fld33_0 rfl)) ⟨hb1, trivial⟩ rfl ?_
  refine T_takeA (i := 1) rfl (by kernel_rfl) (by kernel_rfl) (by kernel_rfl) (by kernel_rfl) (Y_of (fun _ ⟨hb1, _⟩ => R_load1 rfl scl30 (hb1.cell (i := 0) rfl))) ⟨hb1, trivial⟩ rfl ?_
  refine T_takeA (i := 5) rfl (by kernel_rfl) (by kernel_rfl) (by kernel_rfl) (by kernel_rfl) (Y_of (fun _ ⟨hb1, _⟩ => R_field (r := 1) rfl fld33_1 rfl)) ⟨hb1, trivial⟩ rfl ?_
  refine T_takeA (i := 6) rfl (by kernel_rfl) (by kernel_rfl) (by kernel_rfl) (by kernel_rfl) (Y_of (fun _ ⟨hb1, _⟩ => R_load1 rfl scl3 (hb1.cell (i := 1) rfl))) ⟨hb1, trivial⟩ rfl ?_
  refine T_takeA (i := 10) rfl (by kernel_rfl) (by kernel_rfl) (by kernel_rfl) (by kernel_rfl) (Y_of (fun _ ⟨hb1, _⟩ => R_field (r := 2) rfl fld33_2 rfl)) ⟨hb1, trivial⟩ rfl ?_
  refine T_takeA (i := 11) rfl (by kernel_rfl) (by kernel_rfl) (by kernel_rfl) (by kernel_rfl) (Y_of (fun _ ⟨hb1, _⟩ => R_load1 rfl scl3 (hb1.cell (i := 2) rfl))) ⟨hb1, trivial⟩ rfl ?_
  refine T_all (rs := [2]) (by kernel_rfl) rfl (all1 (O_one rfl ?_))
  refine L_call rfl cb29 (ref48_digits (n := ep) he _) rfl ?_
  rintro _ w3 ⟨hs3, rfl⟩
  replace hB := gb_tr hB hs3
  replace hb1 := hb1.gb hs3
  refine L_nil (N_then ⟨fun hN_ => ⟨hb1, trivial⟩, ?_⟩)
  refine T_takeA (i := 3) rfl (by kernel_rfl) (by kernel_rfl) (by kernel_rfl) (by kernel_rfl) (Y_of (fun _ ⟨hb1, _⟩ => R_eqv (R_addS rfl rfl (by rw [ba_size, ba_size]; have a1 := digU_len he; have a2 := digI_len ok1; have a3 := digI_len ok2; first | (simp only [List.length_append, List.length_cons, List.length_nil]; omega) | (have a4 := hdrT_len he ok1 ok2 hh i (by omega); have a5 := digI_len (hh i (by omega)); simp only [List.length_append, List.length_cons, List.length_nil]; omega))) (v' := .string ⟨(([115, 101, 103, 109, 101, 110, 116, 32, 101, 112, 111, 99, 104, 32] : List UInt8) ++ (dig ep)).toArray⟩) (congrArg _ (ba_app _ _).symm))) ⟨hb1, trivial⟩ rfl ?_
  refine T_takeA (i := 4) rfl (by kernel_rfl) (by kernel_rfl) (by kernel_rfl) (by kernel_rfl) (Y_of (fun _ ⟨hb1, _⟩ => R_eqv (R_addS rfl rfl (by rw [ba_size, ba_size]; have a1 := digU_len he; have a2 := digI_len ok1; have a3 := digI_len ok2; first | (simp only [List.length_append, List.length_cons, List.length_nil]; omega) | (have a4 := hdrT_len he ok1 ok2 hh i (by omega); have a5 := digI_len (hh i (by omega)); simp only [List.length_append, List.length_cons, List.length_nil]; omega))) (v' := .string ⟨((([115, 101, 103, 109, 101, 110, 116, 32, 101, 112, 111, 99, 104, 32] : List UInt8) ++ (dig ep)) ++ [32, 115, 101, 113, 32]).toArray⟩) (congrArg _ (ba_app _ _).symm))) ⟨hb1, trivial⟩ rfl ?_
  refine T_all (rs := [7]) (by kernel_rfl) rfl (all1 (O_one rfl ?_))
  refine L_call rfl cb16 (ref05_Digits (n := seq) (by first | exact ok1 | exact ok2 | exact hh _ (by omega)) _) rfl ?_
  rintro _ w4 ⟨hs4, rfl⟩
  replace hB := gb_tr hB hs4
  replace hb1 := hb1.gb hs4
  refine L_nil (N_then ⟨fun hN_ => ⟨hb1, trivial⟩, ?_⟩)
  refine T_takeA (i := 8) rfl (by kernel_rfl) (by kernel_rfl) (by kernel_rfl) (by kernel_rfl) (Y_of (fun _ ⟨hb1, _⟩ => R_eqv (R_addS rfl rfl (by rw [ba_size, ba_size]; have a1 := digU_len he; have a2 := digI_len ok1; have a3 := digI_len ok2; first | (simp only [List.length_append, List.length_cons, List.length_nil]; omega) | (have a4 := hdrT_len he ok1 ok2 hh i (by omega); have a5 := digI_len (hh i (by omega)); simp only [List.length_append, List.length_cons, List.length_nil]; omega))) (v' := .string ⟨(((([115, 101, 103, 109, 101, 110, 116, 32, 101, 112, 111, 99, 104, 32] : List UInt8) ++ (dig ep)) ++ [32, 115, 101, 113, 32]) ++ (digI seq)).toArray⟩) (congrArg _ (ba_app _ _).symm))) ⟨hb1, trivial⟩ rfl ?_
  refine T_takeA (i := 9) rfl (by kernel_rfl) (by kernel_rfl) (by kernel_rfl) (by kernel_rfl) (Y_of (fun _ ⟨hb1, _⟩ => R_eqv (R_addS rfl rfl (by rw [ba_size, ba_size]; have a1 := digU_len he; have a2 := digI_len ok1; have a3 := digI_len ok2; first | (simp only [List.length_append, List.length_cons, List.length_nil]; omega) | (have a4 := hdrT_len he ok1 ok2 hh i (by omega); have a5 := digI_len (hh i (by omega)); simp only [List.length_append, List.length_cons, List.length_nil]; omega))) (v' := .string ⟨((((([115, 101, 103, 109, 101, 110, 116, 32, 101, 112, 111, 99, 104, 32] : List UInt8) ++ (dig ep)) ++ [32, 115, 101, 113, 32]) ++ (digI seq)) ++ [32, 102, 105, 114, 115, 116, 32]).toArray⟩) (congrArg _ (ba_app _ _).symm))) ⟨hb1, trivial⟩ rfl ?_
  refine T_all (rs := [12]) (by kernel_rfl) rfl (all1 (O_one rfl ?_))
  refine L_call rfl cb16 (ref05_Digits (n := first) (by first | exact ok1 | exact ok2 | exact hh _ (by omega)) _) rfl ?_
  rintro _ w5 ⟨hs5, rfl⟩
  replace hB := gb_tr hB hs5
  replace hb1 := hb1.gb hs5
  refine L_nil (N_then ⟨fun hN_ => ⟨hb1, trivial⟩, ?_⟩)
  refine T_takeA (i := 13) rfl (by kernel_rfl) (by kernel_rfl) (by kernel_rfl) (by kernel_rfl) (Y_of (fun _ ⟨hb1, _⟩ => R_eqv (R_addS rfl rfl (by rw [ba_size, ba_size]; have a1 := digU_len he; have a2 := digI_len ok1; have a3 := digI_len ok2; first | (simp only [List.length_append, List.length_cons, List.length_nil]; omega) | (have a4 := hdrT_len he ok1 ok2 hh i (by omega); have a5 := digI_len (hh i (by omega)); simp only [List.length_append, List.length_cons, List.length_nil]; omega))) (v' := .string ⟨(((((([115, 101, 103, 109, 101, 110, 116, 32, 101, 112, 111, 99, 104, 32] : List UInt8) ++ (dig ep)) ++ [32, 115, 101, 113, 32]) ++ (digI seq)) ++ [32, 102, 105, 114, 115, 116, 32]) ++ (digI first)).toArray⟩) (congrArg _ (ba_app _ _).symm))) ⟨hb1, trivial⟩ rfl ?_
  refine T_takeA (i := 14) rfl (by kernel_rfl) (by kernel_rfl) (by kernel_rfl) (by kernel_rfl) (Y_of (fun _ ⟨hb1, _⟩ => R_eqv (R_addS rfl rfl (by rw [ba_size, ba_size]; have a1 := digU_len he; have a2 := digI_len ok1; have a3 := digI_len ok2; first | (simp only [List.length_append, List.length_cons, List.length_nil]; omega) | (have a4 := hdrT_len he ok1 ok2 hh i (by omega); have a5 := digI_len (hh i (by omega)); simp only [List.length_append, List.length_cons, List.length_nil]; omega))) (v' := .string ⟨((((((([115, 101, 103, 109, 101, 110, 116, 32, 101, 112, 111, 99, 104, 32] : List UInt8) ++ (dig ep)) ++ [32, 115, 101, 113, 32]) ++ (digI seq)) ++ [32, 102, 105, 114, 115, 116, 32]) ++ (digI first)) ++ [32, 104, 101, 97, 100, 115]).toArray⟩) (congrArg _ (ba_app _ _).symm))) ⟨hb1, trivial⟩ rfl ?_
  refine T_takeA (i := 15) rfl (by kernel_rfl) (by kernel_rfl) (by kernel_rfl) (by kernel_rfl) (Y_of (fun _ ⟨hb1, _⟩ => R_assign rfl)) ⟨hb1, trivial⟩ rfl ?_
  refine T_done (by kernel_rfl) (CalmE.normal ?_)
  refine N_then (C_seq (C_seq (C_reg rfl ?_)))
  refine L_run (R_assign rfl) rfl ?_
  refine L_nil (N_then (C_block ?_))
  refine C_loop (fun m_ a_ w_ => ∃ (σ_ : Nat → Value) (i : Nat), a_ = Ac 33 σ_ [] [(1, .pointer (some ⟨g1, 0, none⟩)), (3, .string (⟨(hdrT ep seq first hs i).toArray⟩)), (4, .int .i64 (i : Int))] ∧ w.grownBy w_ none ∧ Blk w_ g1 33 [.int .u64 (ep : Int), .int .i64 seq, .int .i64 first, .int .i64 (hs 0), .int .i64 (hs 1), .int .i64 (hs 2), .int .i64 (hs 3)] ∧ (i ≤ 4) ∧ 4 - i = m_) (4 - 0) ?_ ?_
  · exact ⟨_, 0, Ac_frg ⟨rfl, (agr rfl (by rw [hdrT_0])), (agr rfl (by first | rfl | (congr 1; omega) | (congr 1; simp; done) | (congr 1; simp only [IntKind.wrap_u64, IntKind.wrap_i64, IntKind.wrap_u8]; omega) | (congr 1 <;> omega))), trivial⟩, hB, hb1, (by omega), rfl⟩
  · clear hB
    clear hb1
    rintro m_ a_ w6 ⟨σ_, i, rfl, hB, hb1, hi, rfl⟩
    refine C_seq (C_seq (C_reg rfl ?_))
    refine L_run (R_move rfl) rfl ?_
    refine L_run (R_lss rfl rfl) rfl ?_
    refine L_nil (N_then ?_)
    refine C_if rfl (fun h1 => ?_) (fun h1 => ?_)
    · refine C_skip (N_then (C_seq (C_block (C_reg rfl ?_))))
      refine L_run (R_move rfl) rfl ?_
      refine L_run (R_eqv (R_addS rfl rfl (by rw [ba_size, ba_size]; have a1 := digU_len he; have a2 := digI_len ok1; have a3 := digI_len ok2; first | (simp only [List.length_append, List.length_cons, List.length_nil]; omega) | (have a4 := hdrT_len he ok1 ok2 hh i (by omega); have a5 := digI_len (hh i (by omega)); simp only [List.length_append, List.length_cons, List.length_nil]; omega))) (v' := .string ⟨((hdrT ep seq first hs i) ++ [32]).toArray⟩) (congrArg _ (ba_app _ _).symm)) rfl ?_
      refine L_run (R_move rfl) rfl ?_
      refine L_run (R_field (r := 3) rfl fld33_3 rfl) rfl ?_
      have hl1 : i < 4 := by omega
      refine L_run (R_indexArr (sz := 1) (o := 3) (a := (i : Int)) (i := i) (r := (3 + i)) rfl rfl (by first | rfl | omega) arr31 hl1 (by first | omega | rfl | simp)) rfl ?_
      refine L_run (R_load1 rfl scl3 (hb1.cell (four_at (pre := [.int .u64 (ep : Int), .int .i64 seq, .int .i64 first]) (post := []) (f := hs) (k := .i64) hl1))) rfl ?_
      refine L_call rfl cb16 (ref05_Digits (n := (hs i)) (by first | exact ok1 | exact ok2 | exact hh _ (by omega)) _) rfl ?_
      rintro _ w7 ⟨hs6, rfl⟩
      replace hB := gb_tr hB hs6
      replace hb1 := hb1.gb hs6
      refine L_run (R_eqv (R_addS rfl rfl (by rw [ba_size, ba_size]; have a1 := digU_len he; have a2 := digI_len ok1; have a3 := digI_len ok2; first | (simp only [List.length_append, List.length_cons, List.length_nil]; omega) | (have a4 := hdrT_len he ok1 ok2 hh i (by omega); have a5 := digI_len (hh i (by omega)); simp only [List.length_append, List.length_cons, List.length_nil]; omega))) (v' := .string ⟨(((hdrT ep seq first hs i) ++ [32]) ++ (digI (hs i))).toArray⟩) (congrArg _ (ba_app _ _).symm)) rfl ?_
      refine L_run (R_assign rfl) rfl ?_
      refine L_nil (N_in (N_then (C_reg rfl ?_)))
      refine L_run (R_move rfl) rfl ?_
      refine L_run (R_add64 rfl rfl (by omega)) rfl ?_
      refine L_run (R_assign rfl) rfl ?_
      refine L_nil (N_then ?_)
      exact ⟨4 - (i + 1), by omega, _, (i + 1), Ac_frg ⟨rfl, (agr rfl (by rw [hdrT_succ])), (agr rfl (by first | rfl | (congr 1; omega) | (congr 1; simp; done) | (congr 1; simp only [IntKind.wrap_u64, IntKind.wrap_i64, IntKind.wrap_u8]; omega) | (congr 1 <;> omega))), trivial⟩, hB, hb1, (by omega), rfl⟩
    · refine C_exit (X_then (X_then (X_hit (N_then (C_seq (C_reg rfl ?_))))))
      refine L_run (R_move rfl) rfl ?_
      refine L_run (R_assign rfl) rfl ?_
      refine L_nil (N_then (C_ret ?_))
      refine ret1 Tryd.results11 rfl ?_
      obtain rfl : i = 4 := by omega
      exact ⟨hB, rfl⟩

end Go.Proofs.YtkjgjejkfjhcjaaDoor
