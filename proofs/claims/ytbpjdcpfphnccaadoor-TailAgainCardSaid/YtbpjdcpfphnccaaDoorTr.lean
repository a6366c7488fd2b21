/-
  Contracts of the package header and of its reference; of few segments, of an own list of them, whether they need to be mended.
-/
import Derived.Test.YtbpjdcpfphnccaaDoorTq
import Derived.Test.YtbpjdcpfphnccaaDoorVl
namespace Go.Proofs.YtbpjdcpfphnccaaDoor
open Go.RowKit Gw Pl
set_option linter.unusedVariables false
set_option linter.unusedSimpArgs false
theorem agg23 : aggB Tryd.prog 23 4 = true := by kernel_rfl
theorem agg29 : aggB Tryd.prog 29 11 = true := by kernel_rfl
theorem arr23 : arrB Tryd.prog 23 3 4 1 = true := by kernel_rfl
theorem fld25_0 : fldB Tryd.prog 25 0 0 = true := by kernel_rfl
theorem fld25_1 : fldB Tryd.prog 25 1 1 = true := by kernel_rfl
theorem fld25_2 : fldB Tryd.prog 25 2 2 = true := by kernel_rfl
theorem fld25_3 : fldB Tryd.prog 25 3 3 = true := by kernel_rfl
theorem fld29_1 : fldB Tryd.prog 29 1 7 = true := by kernel_rfl
theorem fld33_4 : fldB Tryd.prog 33 4 10 = true := by kernel_rfl
theorem scl26 : sclB Tryd.prog 26 = true := by kernel_rfl
theorem slc26 : slcB Tryd.prog 26 48 5 56 = true := by kernel_rfl
theorem slc30 : slcB Tryd.prog 30 29 11 120 = true := by kernel_rfl
theorem slc43 : slcB Tryd.prog 43 33 11 120 = true := by kernel_rfl
theorem zer33 : (Tryd.prog.info? 33).bind (·.zero) = some (.agg #[.int .u64 0, .int .i64 0, .int .i64 0, .int .i64 0, .int .i64 0, .int .i64 0, .int .i64 0, .slice none 0 0, .slice none 0 0, .int .i64 0, .int .i64 0]) := by kernel_rfl
theorem header_Right {w : World} {ep seq first : Int} {hs : Nat → Int} :
    Runs Tryd.prog 12 #[.agg #[.int .u64 ep, .int .i64 seq, .int .i64 first, .int .i64 (hs 0), .int .i64 (hs 1), .int .i64 (hs 2), .int .i64 (hs 3)]] w (fun v w' => w.grownBy w' none ∧ v = .bool (decide (OkH ep seq first hs))) := by
  have hB := gb_refl w none
  refine enter Tryd.func12 Tryd.ntmps12 rfl rfl ?_
  refine C_seq (C_reg rfl ?_)
  refine L_box (cs := [.int .u64 ep, .int .i64 seq, .int .i64 first, .int .i64 (hs 0), .int .i64 (hs 1), .int .i64 (hs 2), .int .i64 (hs 3)]) rfl rfl rfl ?_
  intro g1 w1 eg1 hb1 hs1 hz1
  have ge1 : w.heap.size ≤ g1 := eg_ge hB eg1
  replace hB := gb_tr hB hs1
  refine L_run (R_assign rfl) rfl ?_
  refine L_nil (N_then (C_seq (C_seq (C_reg rfl ?_))))
  refine L_run (R_field (r := 3) rfl fld25_3 rfl) rfl ?_
  refine L_run (R_loadA (vs := [.int .i64 (hs 0), .int .i64 (hs 1), .int .i64 (hs 2), .int .i64 (hs 3)]) rfl agg23 (At.pre (hb1.at_ 3) rfl) rfl) rfl ?_
  refine L_run (R_move rfl) rfl ?_
  refine L_nil (N_then (C_block ?_))
  refine C_loop (fun m_ a_ w_ => ∃ (σ_ : Nat → Value) (k : Nat), a_ = Ac 42 σ_ [] [(1, .pointer (some ⟨g1, 0, none⟩)), (2, .bool false), (6, .agg #[.int .i64 (hs 0), .int .i64 (hs 1), .int .i64 (hs 2), .int .i64 (hs 3)]), (7, .int .i64 (k : Int))] ∧ w.grownBy w_ none ∧ Blk w_ g1 25 [.int .u64 ep, .int .i64 seq, .int .i64 first, .int .i64 (hs 0), .int .i64 (hs 1), .int .i64 (hs 2), .int .i64 (hs 3)] ∧ (k ≤ 4) ∧ (OkK k first hs) ∧ 4 - k = m_) (4 - 0) ?_ ?_
  · exact ⟨_, 0, Ac_frg ⟨rfl, rfl, rfl, (agr rfl (by first | rfl | (congr 1; omega) | (congr 1; simp; done) | (congr 1; simp only [IntKind.wrap_u64, IntKind.wrap_i64, IntKind.wrap_u8]; omega) | (congr 1 <;> omega))), trivial⟩, hB, hb1, (by omega), OkK_0, rfl⟩
  · clear hB
    clear hb1
    rintro m_ a_ w2 ⟨σ_, k, rfl, hB, hb1, hk, hall, rfl⟩
    refine C_seq (C_reg rfl ?_)
    refine L_run (R_lss rfl rfl) rfl ?_
    refine L_nil (N_then (C_seq ?_))
    refine C_if rfl (fun h1 => ?_) (fun h1 => ?_)
    · refine C_skip (N_then (C_seq (C_block (C_seq (C_reg rfl ?_)))))
      refine L_run (R_indexA4 (f := hs) (a := (k : Int)) (i := k) rfl rfl (by first | rfl | omega) arr23 scl3 (by omega)) rfl ?_
      refine L_run (R_assign rfl) rfl ?_
      refine L_nil (N_then (C_seq (C_reg rfl ?_)))
      refine L_run (R_move rfl) rfl ?_
      refine L_run (R_lss rfl rfl) rfl ?_
      refine L_run (R_move rfl) rfl ?_
      refine L_splitD (p := (hs k) < 0) (fun h2 => ?_) (fun h2 => ?_)
      · refine L_no rfl rfl rfl (decide_eq_true h2) rfl ?_
        refine L_no rfl rfl rfl (decide_eq_true h2) rfl ?_
        refine L_no rfl rfl rfl (decide_eq_true h2) rfl ?_
        refine L_no rfl rfl rfl (decide_eq_true h2) rfl ?_
        refine L_run (R_pickT rfl (decide_eq_true h2) rfl) rfl ?_
        refine L_nil (N_then (C_condT rfl rfl (C_seq (C_reg rfl ?_))))
        refine L_run (R_assign rfl) rfl ?_
        refine L_nil (N_then (C_ret (R_in (R_then (R_then (R_in (R_then ?_)))))))
        refine ret1 Tryd.results12 rfl ?_
        first
          | (exfalso; omega)
          | (exact ⟨hB, bF (fun h => by have := h.2 k (by omega); omega)⟩)
      · refine L_yes rfl rfl rfl (decide_eq_false h2) ?_
        refine L_run (R_move rfl) rfl ?_
        refine L_yes rfl rfl rfl (decide_eq_false h2) ?_
        refine L_run (R_field (r := 2) rfl fld25_2 rfl) rfl ?_
        refine L_yes rfl rfl rfl (decide_eq_false h2) ?_
        refine L_run (R_load1 rfl scl3 (hb1.cell (i := 2) rfl)) rfl ?_
        refine L_yes rfl rfl rfl (decide_eq_false h2) ?_
        refine L_run (R_geq rfl rfl) rfl ?_
        refine L_run (R_pickF rfl (decide_eq_false h2) rfl) rfl ?_
        refine L_nil (N_then ?_)
        refine C_if rfl (fun h3 => ?_) (fun h3 => ?_)
        · refine C_seq (C_reg rfl ?_)
          refine L_run (R_assign rfl) rfl ?_
          refine L_nil (N_then (C_ret (R_in (R_then (R_then (R_in (R_then ?_)))))))
          refine ret1 Tryd.results12 rfl ?_
          first
            | (exfalso; omega)
            | (exact ⟨hB, bF (fun h => by have := h.2 k (by omega); omega)⟩)
        · refine C_skip (N_in (N_then (C_reg rfl ?_)))
          refine L_run (R_add64 rfl rfl (by omega)) rfl ?_
          refine L_run (R_move rfl) rfl ?_
          refine L_nil (N_then ?_)
          exact ⟨4 - (k + 1), by omega, _, (k + 1), Ac_frg ⟨rfl, rfl, rfl, (agr rfl (by first | rfl | (congr 1; omega) | (congr 1; simp; done) | (congr 1; simp only [IntKind.wrap_u64, IntKind.wrap_i64, IntKind.wrap_u8]; omega) | (congr 1 <;> omega))), trivial⟩, hB, hb1, (by omega), (OkK_succ.2 ⟨hall, by omega, by omega⟩), rfl⟩
    · refine C_exit (X_then (X_then (X_hit (N_then (C_seq (C_reg rfl ?_))))))
      refine L_run (R_field (r := 0) rfl fld25_0 rfl) rfl ?_
      refine L_run (R_load1 rfl scl22 (hb1.cell (i := 0) rfl)) rfl ?_
      refine L_run (R_neq rfl rfl) rfl ?_
      refine L_run (R_move rfl) rfl ?_
      refine L_splitD (p := ep ≠ 0) (fun h4 => ?_) (fun h4 => ?_)
      · refine L_yes rfl rfl rfl (decide_eq_true h4) ?_
        refine L_run (R_field (r := 1) rfl fld25_1 rfl) rfl ?_
        refine L_yes rfl rfl rfl (decide_eq_true h4) ?_
        refine L_run (R_load1 rfl scl3 (hb1.cell (i := 1) rfl)) rfl ?_
        refine L_yes rfl rfl rfl (decide_eq_true h4) ?_
        refine L_run (R_geq rfl rfl) rfl ?_
        refine L_run (R_pickT rfl (decide_eq_true h4) rfl) rfl ?_
        refine L_run (R_move rfl) rfl ?_
        refine L_splitD (p := 1 ≤ seq) (fun h5 => ?_) (fun h5 => ?_)
        · refine L_yes rfl rfl rfl (decide_eq_true h5) ?_
          refine L_run (R_field (r := 1) rfl fld25_1 rfl) rfl ?_
          refine L_yes rfl rfl rfl (decide_eq_true h5) ?_
          refine L_run (R_load1 rfl scl3 (hb1.cell (i := 1) rfl)) rfl ?_
          refine L_yes rfl rfl rfl (decide_eq_true h5) ?_
          refine L_run (R_leq rfl rfl) rfl ?_
          refine L_run (R_pickT rfl (decide_eq_true h5) rfl) rfl ?_
          refine L_run (R_move rfl) rfl ?_
          refine L_splitD (p := seq ≤ 2147483647) (fun h6 => ?_) (fun h6 => ?_)
          · refine L_yes rfl rfl rfl (decide_eq_true h6) ?_
            refine L_run (R_field (r := 2) rfl fld25_2 rfl) rfl ?_
            refine L_yes rfl rfl rfl (decide_eq_true h6) ?_
            refine L_run (R_load1 rfl scl3 (hb1.cell (i := 2) rfl)) rfl ?_
            refine L_yes rfl rfl rfl (decide_eq_true h6) ?_
            refine L_run (R_geq rfl rfl) rfl ?_
            refine L_run (R_pickT rfl (decide_eq_true h6) rfl) rfl ?_
            refine L_run (R_move rfl) rfl ?_
            refine L_splitD (p := 1 ≤ first) (fun h7 => ?_) (fun h7 => ?_)
            · refine L_yes rfl rfl rfl (decide_eq_true h7) ?_
              refine L_run (R_field (r := 2) rfl fld25_2 rfl) rfl ?_
              refine L_yes rfl rfl rfl (decide_eq_true h7) ?_
              refine L_run (R_load1 rfl scl3 (hb1.cell (i := 2) rfl)) rfl ?_
              refine L_yes rfl rfl rfl (decide_eq_true h7) ?_
              refine L_run (R_leq rfl rfl) rfl ?_
              refine L_run (R_pickT rfl (decide_eq_true h7) rfl) rfl ?_
              refine L_run (R_assign rfl) rfl ?_
              refine L_nil (N_then (C_ret ?_))
              refine ret1 Tryd.results12 rfl ?_
              obtain rfl : k = 4 := by omega
              exact ⟨hB, bD ⟨fun h => ⟨⟨by omega, by omega, by omega, by omega, by omega⟩, hall⟩, fun h => by have := h.1; unfold OkB at this; omega⟩⟩
            · refine L_no rfl rfl rfl (decide_eq_false h7) rfl ?_
              refine L_no rfl rfl rfl (decide_eq_false h7) rfl ?_
              refine L_no rfl rfl rfl (decide_eq_false h7) rfl ?_
              refine L_run (R_pickF rfl (decide_eq_false h7) rfl) rfl ?_
              refine L_run (R_assign rfl) rfl ?_
              refine L_nil (N_then (C_ret ?_))
              refine ret1 Tryd.results12 rfl ?_
              obtain rfl : k = 4 := by omega
              exact ⟨hB, bF (fun h => by have := h.1; unfold OkB at this; omega)⟩
          · refine L_no rfl rfl rfl (decide_eq_false h6) rfl ?_
            refine L_no rfl rfl rfl (decide_eq_false h6) rfl ?_
            refine L_no rfl rfl rfl (decide_eq_false h6) rfl ?_
            refine L_run (R_pickF rfl (decide_eq_false h6) rfl) rfl ?_
            refine L_run (R_move rfl) rfl ?_
            refine L_no rfl rfl rfl rfl rfl ?_
            refine L_no rfl rfl rfl rfl rfl ?_
            refine L_no rfl rfl rfl rfl rfl ?_
            refine L_run (R_pickF rfl rfl rfl) rfl ?_
            refine L_run (R_assign rfl) rfl ?_
            refine L_nil (N_then (C_ret ?_))
            refine ret1 Tryd.results12 rfl ?_
            obtain rfl : k = 4 := by omega
            exact ⟨hB, bF (fun h => by have := h.1; unfold OkB at this; omega)⟩
        · refine L_no rfl rfl rfl (decide_eq_false h5) rfl ?_
          refine L_no rfl rfl rfl (decide_eq_false h5) rfl ?_
          refine L_no rfl rfl rfl (decide_eq_false h5) rfl ?_
          refine L_run (R_pickF rfl (decide_eq_false h5) rfl) rfl ?_
          refine L_run (R_move rfl) rfl ?_
          refine L_no rfl rfl rfl rfl rfl ?_
          refine L_no rfl rfl rfl rfl rfl ?_
          refine L_no rfl rfl rfl rfl rfl ?_
          refine L_run (R_pickF rfl rfl rfl) rfl ?_
          refine L_run (R_move rfl) rfl ?_
          refine L_no rfl rfl rfl rfl rfl ?_
          refine L_no rfl rfl rfl rfl rfl ?_
          refine L_no rfl rfl rfl rfl rfl ?_
          refine L_run (R_pickF rfl rfl rfl) rfl ?_
          refine L_run (R_assign rfl) rfl ?_
          refine L_nil (N_then (C_ret ?_))
          refine ret1 Tryd.results12 rfl ?_
          obtain rfl : k = 4 := by omega
          exact ⟨hB, bF (fun h => by have := h.1; unfold OkB at this; omega)⟩
      · refine L_no rfl rfl rfl (decide_eq_false h4) rfl ?_
        refine L_no rfl rfl rfl (decide_eq_false h4) rfl ?_
        refine L_no rfl rfl rfl (decide_eq_false h4) rfl ?_
        refine L_run (R_pickF rfl (decide_eq_false h4) rfl) rfl ?_
        refine L_run (R_move rfl) rfl ?_
        refine L_no rfl rfl rfl rfl rfl ?_
        refine L_no rfl rfl rfl rfl rfl ?_
        refine L_no rfl rfl rfl rfl rfl ?_
        refine L_run (R_pickF rfl rfl rfl) rfl ?_
        refine L_run (R_move rfl) rfl ?_
        refine L_no rfl rfl rfl rfl rfl ?_
        refine L_no rfl rfl rfl rfl rfl ?_
        refine L_no rfl rfl rfl rfl rfl ?_
        refine L_run (R_pickF rfl rfl rfl) rfl ?_
        refine L_run (R_move rfl) rfl ?_
        refine L_no rfl rfl rfl rfl rfl ?_
        refine L_no rfl rfl rfl rfl rfl ?_
        refine L_no rfl rfl rfl rfl rfl ?_
        refine L_run (R_pickF rfl rfl rfl) rfl ?_
        refine L_run (R_assign rfl) rfl ?_
        refine L_nil (N_then (C_ret ?_))
        refine ret1 Tryd.results12 rfl ?_
        obtain rfl : k = 4 := by omega
        exact ⟨hB, bF (fun h => by have := h.1; unfold OkB at this; omega)⟩

theorem ref18_Right {w : World} {ep seq first : Int} {hs : Nat → Int} (hep : 0 ≤ ep) :
    Runs Tryd.prog 17 #[.agg #[.int .u64 ep, .int .i64 seq, .int .i64 first, .int .i64 (hs 0), .int .i64 (hs 1), .int .i64 (hs 2), .int .i64 (hs 3)]] w (fun v w' => w.grownBy w' none ∧ v = .bool (decide (OkH ep seq first hs))) := by
  have hB := gb_refl w none
  refine enter Tryd.func17 Tryd.ntmps17 rfl rfl ?_
  refine C_seq (C_reg rfl ?_)
  refine L_box (cs := [.int .u64 ep, .int .i64 seq, .int .i64 first, .int .i64 (hs 0), .int .i64 (hs 1), .int .i64 (hs 2), .int .i64 (hs 3)]) rfl rfl rfl ?_
  intro g1 w1 eg1 hb1 hs1 hz1
  have ge1 : w.heap.size ≤ g1 := eg_ge hB eg1
  replace hB := gb_tr hB hs1
  refine L_run (R_assign rfl) rfl ?_
  refine L_nil (N_then (C_seq (C_reg rfl ?_)))
  refine L_run (R_field (r := 0) rfl fld25_0 rfl) rfl ?_
  refine L_run (R_load1 rfl scl22 (hb1.cell (i := 0) rfl)) rfl ?_
  refine L_run (R_gtr rfl rfl) rfl ?_
  refine L_run (R_move rfl) rfl ?_
  refine L_splitD (p := 0 < ep) (fun h1 => ?_) (fun h1 => ?_)
  · refine L_yes rfl rfl rfl (decide_eq_true h1) ?_
    refine L_run (R_field (r := 1) rfl fld25_1 rfl) rfl ?_
    refine L_yes rfl rfl rfl (decide_eq_true h1) ?_
    refine L_run (R_load1 rfl scl3 (hb1.cell (i := 1) rfl)) rfl ?_
    refine L_yes rfl rfl rfl (decide_eq_true h1) ?_
    refine L_run (R_gtr rfl rfl) rfl ?_
    refine L_run (R_pickT rfl (decide_eq_true h1) rfl) rfl ?_
    refine L_run (R_move rfl) rfl ?_
    refine L_splitD (p := 0 < seq) (fun h2 => ?_) (fun h2 => ?_)
    · refine L_yes rfl rfl rfl (decide_eq_true h2) ?_
      refine L_run (R_field (r := 1) rfl fld25_1 rfl) rfl ?_
      refine L_yes rfl rfl rfl (decide_eq_true h2) ?_
      refine L_run (R_load1 rfl scl3 (hb1.cell (i := 1) rfl)) rfl ?_
      refine L_yes rfl rfl rfl (decide_eq_true h2) ?_
      refine L_run (R_leq rfl rfl) rfl ?_
      refine L_run (R_pickT rfl (decide_eq_true h2) rfl) rfl ?_
      refine L_run (R_move rfl) rfl ?_
      refine L_splitD (p := seq ≤ 2147483647) (fun h3 => ?_) (fun h3 => ?_)
      · refine L_yes rfl rfl rfl (decide_eq_true h3) ?_
        refine L_run (R_field (r := 2) rfl fld25_2 rfl) rfl ?_
        refine L_yes rfl rfl rfl (decide_eq_true h3) ?_
        refine L_run (R_load1 rfl scl3 (hb1.cell (i := 2) rfl)) rfl ?_
        refine L_yes rfl rfl rfl (decide_eq_true h3) ?_
        refine L_run (R_gtr rfl rfl) rfl ?_
        refine L_run (R_pickT rfl (decide_eq_true h3) rfl) rfl ?_
        refine L_run (R_move rfl) rfl ?_
        refine L_splitD (p := 0 < first) (fun h4 => ?_) (fun h4 => ?_)
        · refine L_yes rfl rfl rfl (decide_eq_true h4) ?_
          refine L_run (R_field (r := 2) rfl fld25_2 rfl) rfl ?_
          refine L_yes rfl rfl rfl (decide_eq_true h4) ?_
          refine L_run (R_load1 rfl scl3 (hb1.cell (i := 2) rfl)) rfl ?_
          refine L_yes rfl rfl rfl (decide_eq_true h4) ?_
          refine L_run (R_leq rfl rfl) rfl ?_
          refine L_run (R_pickT rfl (decide_eq_true h4) rfl) rfl ?_
          refine L_run (R_assign rfl) rfl ?_
          refine L_nil (N_then (C_seq (C_seq (C_reg rfl ?_))))
          refine L_run (R_assign rfl) rfl ?_
          refine L_nil (N_then (C_block ?_))
          have e_ : Value.bool (decide (first ≤ 2147483647)) = .bool (decide (OkB ep seq first ∧ OkK 0 first hs)) := by
            first
              | exact bD (Iff.trans (by unfold OkB; omega) okB0.symm)
              | exact bT (okB0.2 (by unfold OkB; omega))
              | exact bF (fun h_ => by have q_ := okB0.1 h_; unfold OkB at q_; omega)
              | exact bF (fun h_ => hnb (okS.1 h_).1)
              | exact bF (fun h_ => by have q_ := (okS.1 h_).2; omega)
              | exact bD (Iff.trans ⟨fun q_ => ⟨hyb, by omega, q_⟩, fun q_ => q_.2.2⟩ okS.symm)
          refine C_loop (fun m_ a_ w_ => ∃ (σ_ : Nat → Value) (k : Nat), a_ = Ac 50 σ_ [] [(1, .pointer (some ⟨g1, 0, none⟩)), (2, .bool false), (3, .bool (decide (OkB ep seq first ∧ OkK k first hs))), (4, .int .i64 (k : Int))] ∧ w.grownBy w_ none ∧ Blk w_ g1 25 [.int .u64 ep, .int .i64 seq, .int .i64 first, .int .i64 (hs 0), .int .i64 (hs 1), .int .i64 (hs 2), .int .i64 (hs 3)] ∧ (k ≤ 4) ∧ 4 - k = m_) (4 - 0) ?_ ?_
          · exact ⟨_, 0, Ac_frg ⟨rfl, rfl, (agr rfl e_), (agr rfl (by first | rfl | (congr 1; omega) | (congr 1; simp; done) | (congr 1; simp only [IntKind.wrap_u64, IntKind.wrap_i64, IntKind.wrap_u8]; omega) | (congr 1 <;> omega))), trivial⟩, hB, hb1, (by omega), rfl⟩
          · clear hB
            clear hb1
            rintro m_ a_ w2 ⟨σ_, k, rfl, hB, hb1, hk, rfl⟩
            refine C_seq (C_seq (C_reg rfl ?_))
            refine L_run (R_move rfl) rfl ?_
            refine L_run (R_lss rfl rfl) rfl ?_
            refine L_nil (N_then ?_)
            refine C_if rfl (fun h5 => ?_) (fun h5 => ?_)
            · refine C_skip (N_then (C_seq (C_block ?_)))
              refine C_draw2 rfl mix ?_
              intro w3 hs2 hz2
              replace hB := gb_tr hB hs2
              replace hb1 := hb1.gb hs2
              refine ⟨fun W_ => Blk W_ g1 25 [.int .u64 ep, .int .i64 seq, .int .i64 first, .int .i64 (hs 0), .int .i64 (hs 1), .int .i64 (hs 2), .int .i64 (hs 3)] ∧ True, [0, 1, 2, 3, 4, 5, 6, 7, 8, 9, 10, 11, 12, 13, 14, 15, 16, 17], ?_⟩
              refine T_takeA (i := 0) rfl rfl (by kernel_rfl) (by kernel_rfl) (by kernel_rfl) (Y_of (fun _ ⟨hb1, _⟩ => R_move rfl)) ⟨hb1, trivial⟩ rfl ?_
              refine T_takeA (i := 1) rfl rfl (by kernel_rfl) (by kernel_rfl) (by kernel_rfl) (Y_of (fun _ ⟨hb1, _⟩ => R_move rfl)) ⟨hb1, trivial⟩ rfl ?_
              by_cases h6 : OkB ep seq first ∧ OkK k first hs
              · refine T_takeA (i := 2) rfl rfl (by kernel_rfl) (by kernel_rfl) (by kernel_rfl) (Y_yes rfl rfl rfl (decide_eq_true h6) (fun _ ⟨hb1, _⟩ => R_move rfl)) ⟨hb1, trivial⟩ rfl ?_
                refine T_takeA (i := 3) rfl rfl (by kernel_rfl) (by kernel_rfl) (by kernel_rfl) (Y_yes rfl rfl rfl (decide_eq_true h6) (fun _ ⟨hb1, _⟩ => R_field (r := 3) rfl fld25_3 rfl)) ⟨hb1, trivial⟩ rfl ?_
                have hl1 : k < 4 := by omega
                refine T_takeA (i := 4) rfl rfl (by kernel_rfl) (by kernel_rfl) (by kernel_rfl) (Y_yes rfl rfl rfl (decide_eq_true h6) (fun _ ⟨hb1, _⟩ => R_indexArr (sz := 1) (o := 3) (a := (k : Int)) (i := k) (r := (3 + k)) rfl rfl (by first | rfl | omega) arr23 hl1 (by first | omega | rfl | simp))) ⟨hb1, trivial⟩ rfl ?_
                refine T_takeA (i := 5) rfl rfl (by kernel_rfl) (by kernel_rfl) (by kernel_rfl) (Y_yes rfl rfl rfl (decide_eq_true h6) (fun _ ⟨hb1, _⟩ => R_load1 rfl scl3 (hb1.cell (four_at (pre := [.int .u64 ep, .int .i64 seq, .int .i64 first]) (post := []) (f := hs) (k := .i64) hl1)))) ⟨hb1, trivial⟩ rfl ?_
                refine T_takeA (i := 6) rfl rfl (by kernel_rfl) (by kernel_rfl) (by kernel_rfl) (Y_yes rfl rfl rfl (decide_eq_true h6) (fun _ ⟨hb1, _⟩ => R_geq rfl rfl)) ⟨hb1, trivial⟩ rfl ?_
                refine T_takeA (i := 7) rfl rfl (by kernel_rfl) (by kernel_rfl) (by kernel_rfl) (Y_of (fun _ ⟨hb1, _⟩ => R_pickT rfl (decide_eq_true h6) rfl)) ⟨hb1, trivial⟩ rfl ?_
                refine T_takeA (i := 8) rfl rfl (by kernel_rfl) (by kernel_rfl) (by kernel_rfl) (Y_of (fun _ ⟨hb1, _⟩ => R_move rfl)) ⟨hb1, trivial⟩ rfl ?_
                by_cases h7 : 0 ≤ (hs k)
                · refine T_takeA (i := 9) rfl rfl (by kernel_rfl) (by kernel_rfl) (by kernel_rfl) (Y_yes rfl rfl rfl (decide_eq_true h7) (fun _ ⟨hb1, _⟩ => R_move rfl)) ⟨hb1, trivial⟩ rfl ?_
                  refine T_takeA (i := 10) rfl rfl (by kernel_rfl) (by kernel_rfl) (by kernel_rfl) (Y_yes rfl rfl rfl (decide_eq_true h7) (fun _ ⟨hb1, _⟩ => R_field (r := 3) rfl fld25_3 rfl)) ⟨hb1, trivial⟩ rfl ?_
                  have hl2 : k < 4 := by omega
                  refine T_takeA (i := 11) rfl rfl (by kernel_rfl) (by kernel_rfl) (by kernel_rfl) (Y_yes rfl rfl rfl (decide_eq_true h7) (fun _ ⟨hb1, _⟩ => R_indexArr (sz := 1) (o := 3) (a := (k : Int)) (i := k) (r := (3 + k)) rfl rfl (by first | rfl | omega) arr23 hl2 (by first | omega | rfl | simp))) ⟨hb1, trivial⟩ rfl ?_
                  refine T_takeA (i := 12) rfl rfl (by kernel_rfl) (by kernel_rfl) (by kernel_rfl) (Y_yes rfl rfl rfl (decide_eq_true h7) (fun _ ⟨hb1, _⟩ => R_load1 rfl scl3 (hb1.cell (four_at (pre := [.int .u64 ep, .int .i64 seq, .int .i64 first]) (post := []) (f := hs) (k := .i64) hl2)))) ⟨hb1, trivial⟩ rfl ?_
                  refine T_takeA (i := 13) rfl rfl (by kernel_rfl) (by kernel_rfl) (by kernel_rfl) (Y_yes rfl rfl rfl (decide_eq_true h7) (fun _ ⟨hb1, _⟩ => R_field (r := 2) rfl fld25_2 rfl)) ⟨hb1, trivial⟩ rfl ?_
                  refine T_takeA (i := 14) rfl rfl (by kernel_rfl) (by kernel_rfl) (by kernel_rfl) (Y_yes rfl rfl rfl (decide_eq_true h7) (fun _ ⟨hb1, _⟩ => R_load1 rfl scl3 (hb1.cell (i := 2) rfl))) ⟨hb1, trivial⟩ rfl ?_
                  refine T_takeA (i := 15) rfl rfl (by kernel_rfl) (by kernel_rfl) (by kernel_rfl) (Y_yes rfl rfl rfl (decide_eq_true h7) (fun _ ⟨hb1, _⟩ => R_lss rfl rfl)) ⟨hb1, trivial⟩ rfl ?_
                  refine T_takeA (i := 16) rfl rfl (by kernel_rfl) (by kernel_rfl) (by kernel_rfl) (Y_of (fun _ ⟨hb1, _⟩ => R_pickT rfl (decide_eq_true h7) rfl)) ⟨hb1, trivial⟩ rfl ?_
                  refine T_takeA (i := 17) rfl rfl (by kernel_rfl) (by kernel_rfl) (by kernel_rfl) (Y_of (fun _ ⟨hb1, _⟩ => R_assign rfl)) ⟨hb1, trivial⟩ rfl ?_
                  refine T_done (by kernel_rfl) (CalmE.normal ?_)
                  refine N_in (N_then (C_reg rfl ?_))
                  refine L_run (R_move rfl) rfl ?_
                  refine L_run (R_add64 rfl rfl (by omega)) rfl ?_
                  refine L_run (R_assign rfl) rfl ?_
                  refine L_nil (N_then ?_)
                  have hyb := h6
                  have e_ : Value.bool (decide ((hs k) < first)) = .bool (decide (OkB ep seq first ∧ OkK (k + 1) first hs)) := by
                    first
                      | exact bD (Iff.trans (by unfold OkB; omega) okB0.symm)
                      | exact bT (okB0.2 (by unfold OkB; omega))
                      | exact bF (fun h_ => by have q_ := okB0.1 h_; unfold OkB at q_; omega)
                      | exact bF (fun h_ => hnb (okS.1 h_).1)
                      | exact bF (fun h_ => by have q_ := (okS.1 h_).2; omega)
                      | exact bD (Iff.trans ⟨fun q_ => ⟨hyb, by omega, q_⟩, fun q_ => q_.2.2⟩ okS.symm)
                  exact ⟨4 - (k + 1), by omega, _, (k + 1), Ac_frg ⟨rfl, rfl, (agr rfl e_), (agr rfl (by first | rfl | (congr 1; omega) | (congr 1; simp; done) | (congr 1; simp only [IntKind.wrap_u64, IntKind.wrap_i64, IntKind.wrap_u8]; omega) | (congr 1 <;> omega))), trivial⟩, hB, hb1, (by omega), rfl⟩
                · refine T_takeA (i := 9) rfl rfl (by kernel_rfl) (by kernel_rfl) (by kernel_rfl) (Y_no rfl rfl rfl (decide_eq_false h7)) ⟨hb1, trivial⟩ rfl ?_
                  refine T_takeA (i := 10) rfl rfl (by kernel_rfl) (by kernel_rfl) (by kernel_rfl) (Y_no rfl rfl rfl (decide_eq_false h7)) ⟨hb1, trivial⟩ rfl ?_
                  refine T_takeA (i := 11) rfl rfl (by kernel_rfl) (by kernel_rfl) (by kernel_rfl) (Y_no rfl rfl rfl (decide_eq_false h7)) ⟨hb1, trivial⟩ rfl ?_
                  refine T_takeA (i := 12) rfl rfl (by kernel_rfl) (by kernel_rfl) (by kernel_rfl) (Y_no rfl rfl rfl (decide_eq_false h7)) ⟨hb1, trivial⟩ rfl ?_
                  refine T_takeA (i := 13) rfl rfl (by kernel_rfl) (by kernel_rfl) (by kernel_rfl) (Y_no rfl rfl rfl (decide_eq_false h7)) ⟨hb1, trivial⟩ rfl ?_
                  refine T_takeA (i := 14) rfl rfl (by kernel_rfl) (by kernel_rfl) (by kernel_rfl) (Y_no rfl rfl rfl (decide_eq_false h7)) ⟨hb1, trivial⟩ rfl ?_
                  refine T_takeA (i := 15) rfl rfl (by kernel_rfl) (by kernel_rfl) (by kernel_rfl) (Y_no rfl rfl rfl (decide_eq_false h7)) ⟨hb1, trivial⟩ rfl ?_
                  refine T_takeA (i := 16) rfl rfl (by kernel_rfl) (by kernel_rfl) (by kernel_rfl) (Y_of (fun _ ⟨hb1, _⟩ => R_pickF rfl (decide_eq_false h7) rfl)) ⟨hb1, trivial⟩ rfl ?_
                  refine T_takeA (i := 17) rfl rfl (by kernel_rfl) (by kernel_rfl) (by kernel_rfl) (Y_of (fun _ ⟨hb1, _⟩ => R_assign rfl)) ⟨hb1, trivial⟩ rfl ?_
                  refine T_done (by kernel_rfl) (CalmE.normal ?_)
                  refine N_in (N_then (C_reg rfl ?_))
                  refine L_run (R_move rfl) rfl ?_
                  refine L_run (R_add64 rfl rfl (by omega)) rfl ?_
                  refine L_run (R_assign rfl) rfl ?_
                  refine L_nil (N_then ?_)
                  have hyb := h6
                  have e_ : Value.bool false = .bool (decide (OkB ep seq first ∧ OkK (k + 1) first hs)) := by
                    first
                      | exact bD (Iff.trans (by unfold OkB; omega) okB0.symm)
                      | exact bT (okB0.2 (by unfold OkB; omega))
                      | exact bF (fun h_ => by have q_ := okB0.1 h_; unfold OkB at q_; omega)
                      | exact bF (fun h_ => hnb (okS.1 h_).1)
                      | exact bF (fun h_ => by have q_ := (okS.1 h_).2; omega)
                      | exact bD (Iff.trans ⟨fun q_ => ⟨hyb, by omega, q_⟩, fun q_ => q_.2.2⟩ okS.symm)
                  exact ⟨4 - (k + 1), by omega, _, (k + 1), Ac_frg ⟨rfl, rfl, (agr rfl e_), (agr rfl (by first | rfl | (congr 1; omega) | (congr 1; simp; done) | (congr 1; simp only [IntKind.wrap_u64, IntKind.wrap_i64, IntKind.wrap_u8]; omega) | (congr 1 <;> omega))), trivial⟩, hB, hb1, (by omega), rfl⟩
              · refine T_takeA (i := 2) rfl rfl (by kernel_rfl) (by kernel_rfl) (by kernel_rfl) (Y_no rfl rfl rfl (decide_eq_false h6)) ⟨hb1, trivial⟩ rfl ?_
                refine T_takeA (i := 3) rfl rfl (by kernel_rfl) (by kernel_rfl) (by kernel_rfl) (Y_no rfl rfl rfl (decide_eq_false h6)) ⟨hb1, trivial⟩ rfl ?_
                refine T_takeA (i := 4) rfl rfl (by kernel_rfl) (by kernel_rfl) (by kernel_rfl) (Y_no rfl rfl rfl (decide_eq_false h6)) ⟨hb1, trivial⟩ rfl ?_
                refine T_takeA (i := 5) rfl rfl (by kernel_rfl) (by kernel_rfl) (by kernel_rfl) (Y_no rfl rfl rfl (decide_eq_false h6)) ⟨hb1, trivial⟩ rfl ?_
                refine T_takeA (i := 6) rfl rfl (by kernel_rfl) (by kernel_rfl) (by kernel_rfl) (Y_no rfl rfl rfl (decide_eq_false h6)) ⟨hb1, trivial⟩ rfl ?_
                refine T_takeA (i := 7) rfl rfl (by kernel_rfl) (by kernel_rfl) (by kernel_rfl) (Y_of (fun _ ⟨hb1, _⟩ => R_pickF rfl (decide_eq_false h6) rfl)) ⟨hb1, trivial⟩ rfl ?_
                refine T_takeA (i := 8) rfl rfl (by kernel_rfl) (by kernel_rfl) (by kernel_rfl) (Y_of (fun _ ⟨hb1, _⟩ => R_move rfl)) ⟨hb1, trivial⟩ rfl ?_
                refine T_takeA (i := 9) rfl rfl (by kernel_rfl) (by kernel_rfl) (by kernel_rfl) (Y_no rfl rfl rfl rfl) ⟨hb1, trivial⟩ rfl ?_
                refine T_takeA (i := 10) rfl rfl (by kernel_rfl) (by kernel_rfl) (by kernel_rfl) (Y_no rfl rfl rfl rfl) ⟨hb1, trivial⟩ rfl ?_
                refine T_takeA (i := 11) rfl rfl (by kernel_rfl) (by kernel_rfl) (by kernel_rfl) (Y_no rfl rfl rfl rfl) ⟨hb1, trivial⟩ rfl ?_
                refine T_takeA (i := 12) rfl rfl (by kernel_rfl) (by kernel_rfl) (by kernel_rfl) (Y_no rfl rfl rfl rfl) ⟨hb1, trivial⟩ rfl ?_
                refine T_takeA (i := 13) rfl rfl (by kernel_rfl) (by kernel_rfl) (by kernel_rfl) (Y_no rfl rfl rfl rfl) ⟨hb1, trivial⟩ rfl ?_
                refine T_takeA (i := 14) rfl rfl (by kernel_rfl) (by kernel_rfl) (by kernel_rfl) (Y_no rfl rfl rfl rfl) ⟨hb1, trivial⟩ rfl ?_
                refine T_takeA (i := 15) rfl rfl (by kernel_rfl) (by kernel_rfl) (by kernel_rfl) (Y_no rfl rfl rfl rfl) ⟨hb1, trivial⟩ rfl ?_
                refine T_takeA (i := 16) rfl rfl (by kernel_rfl) (by kernel_rfl) (by kernel_rfl) (Y_of (fun _ ⟨hb1, _⟩ => R_pickF rfl rfl rfl)) ⟨hb1, trivial⟩ rfl ?_
                refine T_takeA (i := 17) rfl rfl (by kernel_rfl) (by kernel_rfl) (by kernel_rfl) (Y_of (fun _ ⟨hb1, _⟩ => R_assign rfl)) ⟨hb1, trivial⟩ rfl ?_
                refine T_done (by kernel_rfl) (CalmE.normal ?_)
                refine N_in (N_then (C_reg rfl ?_))
                refine L_run (R_move rfl) rfl ?_
                refine L_run (R_add64 rfl rfl (by omega)) rfl ?_
                refine L_run (R_assign rfl) rfl ?_
                refine L_nil (N_then ?_)
                have hnb := h6
                have e_ : Value.bool false = .bool (decide (OkB ep seq first ∧ OkK (k + 1) first hs)) := by
                  first
                    | exact bD (Iff.trans (by unfold OkB; omega) okB0.symm)
                    | exact bT (okB0.2 (by unfold OkB; omega))
                    | exact bF (fun h_ => by have q_ := okB0.1 h_; unfold OkB at q_; omega)
                    | exact bF (fun h_ => hnb (okS.1 h_).1)
                    | exact bF (fun h_ => by have q_ := (okS.1 h_).2; omega)
                    | exact bD (Iff.trans ⟨fun q_ => ⟨hyb, by omega, q_⟩, fun q_ => q_.2.2⟩ okS.symm)
                exact ⟨4 - (k + 1), by omega, _, (k + 1), Ac_frg ⟨rfl, rfl, (agr rfl e_), (agr rfl (by first | rfl | (congr 1; omega) | (congr 1; simp; done) | (congr 1; simp only [IntKind.wrap_u64, IntKind.wrap_i64, IntKind.wrap_u8]; omega) | (congr 1 <;> omega))), trivial⟩, hB, hb1, (by omega), rfl⟩
            · refine C_exit (X_then (X_then (X_hit (N_then (C_seq (C_reg rfl ?_))))))
              refine L_run (R_move rfl) rfl ?_
              refine L_run (R_assign rfl) rfl ?_
              refine L_nil (N_then (C_ret ?_))
              refine ret1 Tryd.results17 rfl ?_
              obtain rfl : k = 4 := by omega
              exact ⟨hB, rfl⟩
        · refine L_no rfl rfl rfl (decide_eq_false h4) rfl ?_
          refine L_no rfl rfl rfl (decide_eq_false h4) rfl ?_
          refine L_no rfl rfl rfl (decide_eq_false h4) rfl ?_
          refine L_run (R_pickF rfl (decide_eq_false h4) rfl) rfl ?_
          refine L_run (R_assign rfl) rfl ?_
          refine L_nil (N_then (C_seq (C_seq (C_reg rfl ?_))))
          refine L_run (R_assign rfl) rfl ?_
          refine L_nil (N_then (C_block ?_))
          have e_ : Value.bool false = .bool (decide (OkB ep seq first ∧ OkK 0 first hs)) := by
            first
              | exact bD (Iff.trans (by unfold OkB; omega) okB0.symm)
              | exact bT (okB0.2 (by unfold OkB; omega))
              | exact bF (fun h_ => by have q_ := okB0.1 h_; unfold OkB at q_; omega)
              | exact bF (fun h_ => hnb (okS.1 h_).1)
              | exact bF (fun h_ => by have q_ := (okS.1 h_).2; omega)
              | exact bD (Iff.trans ⟨fun q_ => ⟨hyb, by omega, q_⟩, fun q_ => q_.2.2⟩ okS.symm)
          refine C_loop (fun m_ a_ w_ => ∃ (σ_ : Nat → Value) (k : Nat), a_ = Ac 50 σ_ [] [(1, .pointer (some ⟨g1, 0, none⟩)), (2, .bool false), (3, .bool (decide (OkB ep seq first ∧ OkK k first hs))), (4, .int .i64 (k : Int))] ∧ w.grownBy w_ none ∧ Blk w_ g1 25 [.int .u64 ep, .int .i64 seq, .int .i64 first, .int .i64 (hs 0), .int .i64 (hs 1), .int .i64 (hs 2), .int .i64 (hs 3)] ∧ (k ≤ 4) ∧ 4 - k = m_) (4 - 0) ?_ ?_
          · exact ⟨_, 0, Ac_frg ⟨rfl, rfl, (agr rfl e_), (agr rfl (by first | rfl | (congr 1; omega) | (congr 1; simp; done) | (congr 1; simp only [IntKind.wrap_u64, IntKind.wrap_i64, IntKind.wrap_u8]; omega) | (congr 1 <;> omega))), trivial⟩, hB, hb1, (by omega), rfl⟩
          · clear hB
            clear hb1
            rintro m_ a_ w4 ⟨σ_, k, rfl, hB, hb1, hk, rfl⟩
            refine C_seq (C_seq (C_reg rfl ?_))
            refine L_run (R_move rfl) rfl ?_
            refine L_run (R_lss rfl rfl) rfl ?_
            refine L_nil (N_then ?_)
            refine C_if rfl (fun h8 => ?_) (fun h8 => ?_)
            · refine C_skip (N_then (C_seq (C_block ?_)))
              refine C_draw2 rfl mix ?_
              intro w5 hs3 hz3
              replace hB := gb_tr hB hs3
              replace hb1 := hb1.gb hs3
              refine ⟨fun W_ => Blk W_ g1 25 [.int .u64 ep, .int .i64 seq, .int .i64 first, .int .i64 (hs 0), .int .i64 (hs 1), .int .i64 (hs 2), .int .i64 (hs 3)] ∧ True, [0, 1, 2, 3, 4, 5, 6, 7, 8, 9, 10, 11, 12, 13, 14, 15, 16, 17], ?_⟩
              refine T_takeA (i := 0) rfl rfl (by kernel_rfl) (by kernel_rfl) (by kernel_rfl) (Y_of (fun _ ⟨hb1, _⟩ => R_move rfl)) ⟨hb1, trivial⟩ rfl ?_
              refine T_takeA (i := 1) rfl rfl (by kernel_rfl) (by kernel_rfl) (by kernel_rfl) (Y_of (fun _ ⟨hb1, _⟩ => R_move rfl)) ⟨hb1, trivial⟩ rfl ?_
              by_cases h9 : OkB ep seq first ∧ OkK k first hs
              · refine T_takeA (i := 2) rfl rfl (by kernel_rfl) (by kernel_rfl) (by kernel_rfl) (Y_yes rfl rfl rfl (decide_eq_true h9) (fun _ ⟨hb1, _⟩ => R_move rfl)) ⟨hb1, trivial⟩ rfl ?_
                refine T_takeA (i := 3) rfl rfl (by kernel_rfl) (by kernel_rfl) (by kernel_rfl) (Y_yes rfl rfl rfl (decide_eq_true h9) (fun _ ⟨hb1, _⟩ => R_field (r := 3) rfl fld25_3 rfl)) ⟨hb1, trivial⟩ rfl ?_
                have hl3 : k < 4 := by omega
                refine T_takeA (i := 4) rfl rfl (by kernel_rfl) (by kernel_rfl) (by kernel_rfl) (Y_yes rfl rfl rfl (decide_eq_true h9) (fun _ ⟨hb1, _⟩ => R_indexArr (sz := 1) (o := 3) (a := (k : Int)) (i := k) (r := (3 + k)) rfl rfl (by first | rfl | omega) arr23 hl3 (by first | omega | rfl | simp))) ⟨hb1, trivial⟩ rfl ?_
                refine T_takeA (i := 5) rfl rfl (by kernel_rfl) (by kernel_rfl) (by kernel_rfl) (Y_yes rfl rfl rfl (decide_eq_true h9) (fun _ ⟨hb1, _⟩ => R_load1 rfl scl3 (hb1.cell (four_at (pre := [.int .u64 ep, .int .i64 seq, .int .i64 first]) (post := []) (f := hs) (k := .i64) hl3)))) ⟨hb1, trivial⟩ rfl ?_
                refine T_takeA (i := 6) rfl rfl (by kernel_rfl) (by kernel_rfl) (by kernel_rfl) (Y_yes rfl rfl rfl (decide_eq_true h9) (fun _ ⟨hb1, _⟩ => R_geq rfl rfl)) ⟨hb1, trivial⟩ rfl ?_
                refine T_takeA (i := 7) rfl rfl (by kernel_rfl) (by kernel_rfl) (by kernel_rfl) (Y_of (fun _ ⟨hb1, _⟩ => R_pickT rfl (decide_eq_true h9) rfl)) ⟨hb1, trivial⟩ rfl ?_
                refine T_takeA (i := 8) rfl rfl (by kernel_rfl) (by kernel_rfl) (by kernel_rfl) (Y_of (fun _ ⟨hb1, _⟩ => R_move rfl)) ⟨hb1, trivial⟩ rfl ?_
                by_cases h10 : 0 ≤ (hs k)
                · refine T_takeA (i := 9) rfl rfl (by kernel_rfl) (by kernel_rfl) (by kernel_rfl) (Y_yes rfl rfl rfl (decide_eq_true h10) (fun _ ⟨hb1, _⟩ => R_move rfl)) ⟨hb1, trivial⟩ rfl ?_
                  refine T_takeA (i := 10) rfl rfl (by kernel_rfl) (by kernel_rfl) (by kernel_rfl) (Y_yes rfl rfl rfl (decide_eq_true h10) (fun _ ⟨hb1, _⟩ => R_field (r := 3) rfl fld25_3 rfl)) ⟨hb1, trivial⟩ rfl ?_
                  have hl4 : k < 4 := by omega
                  refine T_takeA (i := 11) rfl rfl (by kernel_rfl) (by kernel_rfl) (by kernel_rfl) (Y_yes rfl rfl rfl (decide_eq_true h10) (fun _ ⟨hb1, _⟩ => R_indexArr (sz := 1) (o := 3) (a := (k : Int)) (i := k) (r := (3 + k)) rfl rfl (by first | rfl | omega) arr23 hl4 (by first | omega | rfl | simp))) ⟨hb1, trivial⟩ rfl ?_
                  refine T_takeA (i := 12) rfl rfl (by kernel_rfl) (by kernel_rfl) (by kernel_rfl) (Y_yes rfl rfl rfl (decide_eq_true h10) (fun _ ⟨hb1, _⟩ => R_load1 rfl scl3 (hb1.cell (four_at (pre := [.int .u64 ep, .int .i64 seq, .int .i64 first]) (post := []) (f := hs) (k := .i64) hl4)))) ⟨hb1, trivial⟩ rfl ?_
                  refine T_takeA (i := 13) rfl rfl (by kernel_rfl) (by kernel_rfl) (by kernel_rfl) (Y_yes rfl rfl rfl (decide_eq_true h10) (fun _ ⟨hb1, _⟩ => R_field (r := 2) rfl fld25_2 rfl)) ⟨hb1, trivial⟩ rfl ?_
                  refine T_takeA (i := 14) rfl rfl (by kernel_rfl) (by kernel_rfl) (by kernel_rfl) (Y_yes rfl rfl rfl (decide_eq_true h10) (fun _ ⟨hb1, _⟩ => R_load1 rfl scl3 (hb1.cell (i := 2) rfl))) ⟨hb1, trivial⟩ rfl ?_
                  refine T_takeA (i := 15) rfl rfl (by kernel_rfl) (by kernel_rfl) (by kernel_rfl) (Y_yes rfl rfl rfl (decide_eq_true h10) (fun _ ⟨hb1, _⟩ => R_lss rfl rfl)) ⟨hb1, trivial⟩ rfl ?_
                  refine T_takeA (i := 16) rfl rfl (by kernel_rfl) (by kernel_rfl) (by kernel_rfl) (Y_of (fun _ ⟨hb1, _⟩ => R_pickT rfl (decide_eq_true h10) rfl)) ⟨hb1, trivial⟩ rfl ?_
                  refine T_takeA (i := 17) rfl rfl (by kernel_rfl) (by kernel_rfl) (by kernel_rfl) (Y_of (fun _ ⟨hb1, _⟩ => R_assign rfl)) ⟨hb1, trivial⟩ rfl ?_
                  refine T_done (by kernel_rfl) (CalmE.normal ?_)
                  refine N_in (N_then (C_reg rfl ?_))
                  refine L_run (R_move rfl) rfl ?_
                  refine L_run (R_add64 rfl rfl (by omega)) rfl ?_
                  refine L_run (R_assign rfl) rfl ?_
                  refine L_nil (N_then ?_)
                  have hyb := h9
                  have e_ : Value.bool (decide ((hs k) < first)) = .bool (decide (OkB ep seq first ∧ OkK (k + 1) first hs)) := by
                    first
                      | exact bD (Iff.trans (by unfold OkB; omega) okB0.symm)
                      | exact bT (okB0.2 (by unfold OkB; omega))
                      | exact bF (fun h_ => by have q_ := okB0.1 h_; unfold OkB at q_; omega)
                      | exact bF (fun h_ => hnb (okS.1 h_).1)
                      | exact bF (fun h_ => by have q_ := (okS.1 h_).2; omega)
                      | exact bD (Iff.trans ⟨fun q_ => ⟨hyb, by omega, q_⟩, fun q_ => q_.2.2⟩ okS.symm)
                  exact ⟨4 - (k + 1), by omega, _, (k + 1), Ac_frg ⟨rfl, rfl, (agr rfl e_), (agr rfl (by first | rfl | (congr 1; omega) | (congr 1; simp; done) | (congr 1; simp only [IntKind.wrap_u64, IntKind.wrap_i64, IntKind.wrap_u8]; omega) | (congr 1 <;> omega))), trivial⟩, hB, hb1, (by omega), rfl⟩
                · refine T_takeA (i := 9) rfl rfl (by kernel_rfl) (by kernel_rfl) (by kernel_rfl) (Y_no rfl rfl rfl (decide_eq_false h10)) ⟨hb1, trivial⟩ rfl ?_
                  refine T_takeA (i := 10) rfl rfl (by kernel_rfl) (by kernel_rfl) (by kernel_rfl) (Y_no rfl rfl rfl (decide_eq_false h10)) ⟨hb1, trivial⟩ rfl ?_
                  refine T_takeA (i := 11) rfl rfl (by kernel_rfl) (by kernel_rfl) (by kernel_rfl) (Y_no rfl rfl rfl (decide_eq_false h10)) ⟨hb1, trivial⟩ rfl ?_
                  refine T_takeA (i := 12) rfl rfl (by kernel_rfl) (by kernel_rfl) (by kernel_rfl) (Y_no rfl rfl rfl (decide_eq_false h10)) ⟨hb1, trivial⟩ rfl ?_
                  refine T_takeA (i := 13) rfl rfl (by kernel_rfl) (by kernel_rfl) (by kernel_rfl) (Y_no rfl rfl rfl (decide_eq_false h10)) ⟨hb1, trivial⟩ rfl ?_
                  refine T_takeA (i := 14) rfl rfl (by kernel_rfl) (by kernel_rfl) (by kernel_rfl) (Y_no rfl rfl rfl (decide_eq_false h10)) ⟨hb1, trivial⟩ rfl ?_
                  refine T_takeA (i := 15) rfl rfl (by kernel_rfl) (by kernel_rfl) (by kernel_rfl) (Y_no rfl rfl rfl (decide_eq_false h10)) ⟨hb1, trivial⟩ rfl ?_
                  refine T_takeA (i := 16) rfl rfl (by kernel_rfl) (by kernel_rfl) (by kernel_rfl) (Y_of (fun _ ⟨hb1, _⟩ => R_pickF rfl (decide_eq_false h10) rfl)) ⟨hb1, trivial⟩ rfl ?_
                  refine T_takeA (i := 17) rfl rfl (by kernel_rfl) (by kernel_rfl) (by kernel_rfl) (Y_of (fun _ ⟨hb1, _⟩ => R_assign rfl)) ⟨hb1, trivial⟩ rfl ?_
                  refine T_done (by kernel_rfl) (CalmE.normal ?_)
                  refine N_in (N_then (C_reg rfl ?_))
                  refine L_run (R_move rfl) rfl ?_
                  refine L_run (R_add64 rfl rfl (by omega)) rfl ?_
                  refine L_run (R_assign rfl) rfl ?_
                  refine L_nil (N_then ?_)
                  have hyb := h9
                  have e_ : Value.bool false = .bool (decide (OkB ep seq first ∧ OkK (k + 1) first hs)) := by
                    first
                      | exact bD (Iff.trans (by unfold OkB; omega) okB0.symm)
                      | exact bT (okB0.2 (by unfold OkB; omega))
                      | exact bF (fun h_ => by have q_ := okB0.1 h_; unfold OkB at q_; omega)
                      | exact bF (fun h_ => hnb (okS.1 h_).1)
                      | exact bF (fun h_ => by have q_ := (okS.1 h_).2; omega)
                      | exact bD (Iff.trans ⟨fun q_ => ⟨hyb, by omega, q_⟩, fun q_ => q_.2.2⟩ okS.symm)
                  exact ⟨4 - (k + 1), by omega, _, (k + 1), Ac_frg ⟨rfl, rfl, (agr rfl e_), (agr rfl (by first | rfl | (congr 1; omega) | (congr 1; simp; done) | (congr 1; simp only [IntKind.wrap_u64, IntKind.wrap_i64, IntKind.wrap_u8]; omega) | (congr 1 <;> omega))), trivial⟩, hB, hb1, (by omega), rfl⟩
              · refine T_takeA (i := 2) rfl rfl (by kernel_rfl) (by kernel_rfl) (by kernel_rfl) (Y_no rfl rfl rfl (decide_eq_false h9)) ⟨hb1, trivial⟩ rfl ?_
                refine T_takeA (i := 3) rfl rfl (by kernel_rfl) (by kernel_rfl) (by kernel_rfl) (Y_no rfl rfl rfl (decide_eq_false h9)) ⟨hb1, trivial⟩ rfl ?_
                refine T_takeA (i := 4) rfl rfl (by kernel_rfl) (by kernel_rfl) (by kernel_rfl) (Y_no rfl rfl rfl (decide_eq_false h9)) ⟨hb1, trivial⟩ rfl ?_
                refine T_takeA (i := 5) rfl rfl (by kernel_rfl) (by kernel_rfl) (by kernel_rfl) (Y_no rfl rfl rfl (decide_eq_false h9)) ⟨hb1, trivial⟩ rfl ?_
                refine T_takeA (i := 6) rfl rfl (by kernel_rfl) (by kernel_rfl) (by kernel_rfl) (Y_no rfl rfl rfl (decide_eq_false h9)) ⟨hb1, trivial⟩ rfl ?_
                refine T_takeA (i := 7) rfl rfl (by kernel_rfl) (by kernel_rfl) (by kernel_rfl) (Y_of (fun _ ⟨hb1, _⟩ => R_pickF rfl (decide_eq_false h9) rfl)) ⟨hb1, trivial⟩ rfl ?_
                refine T_takeA (i := 8) rfl rfl (by kernel_rfl) (by kernel_rfl) (by kernel_rfl) (Y_of (fun _ ⟨hb1, _⟩ => R_move rfl)) ⟨hb1, trivial⟩ rfl ?_
                refine T_takeA (i := 9) rfl rfl (by kernel_rfl) (by kernel_rfl) (by kernel_rfl) (Y_no rfl rfl rfl rfl) ⟨hb1, trivial⟩ rfl ?_
                refine T_takeA (i := 10) rfl rfl (by kernel_rfl) (by kernel_rfl) (by kernel_rfl) (Y_no rfl rfl rfl rfl) ⟨hb1, trivial⟩ rfl ?_
                refine T_takeA (i := 11) rfl rfl (by kernel_rfl) (by kernel_rfl) (by kernel_rfl) (Y_no rfl rfl rfl rfl) ⟨hb1, trivial⟩ rfl ?_
                refine T_takeA (i := 12) rfl rfl (by kernel_rfl) (by kernel_rfl) (by kernel_rfl) (Y_no rfl rfl rfl rfl) ⟨hb1, trivial⟩ rfl ?_
                refine T_takeA (i := 13) rfl rfl (by kernel_rfl) (by kernel_rfl) (by kernel_rfl) (Y_no rfl rfl rfl rfl) ⟨hb1, trivial⟩ rfl ?_
                refine T_takeA (i := 14) rfl rfl (by kernel_rfl) (by kernel_rfl) (by kernel_rfl) (Y_no rfl rfl rfl rfl) ⟨hb1, trivial⟩ rfl ?_
                refine T_takeA (i := 15) rfl rfl (by kernel_rfl) (by kernel_rfl) (by kernel_rfl) (Y_no rfl rfl rfl rfl) ⟨hb1, trivial⟩ rfl ?_
                refine T_takeA (i := 16) rfl rfl (by kernel_rfl) (by kernel_rfl) (by kernel_rfl) (Y_of (fun _ ⟨hb1, _⟩ => R_pickF rfl rfl rfl)) ⟨hb1, trivial⟩ rfl ?_
                refine T_takeA (i := 17) rfl rfl (by kernel_rfl) (by kernel_rfl) (by kernel_rfl) (Y_of (fun _ ⟨hb1, _⟩ => R_assign rfl)) ⟨hb1, trivial⟩ rfl ?_
                refine T_done (by kernel_rfl) (CalmE.normal ?_)
                refine N_in (N_then (C_reg rfl ?_))
                refine L_run (R_move rfl) rfl ?_
                refine L_run (R_add64 rfl rfl (by omega)) rfl ?_
                refine L_run (R_assign rfl) rfl ?_
                refine L_nil (N_then ?_)
                have hnb := h9
                have e_ : Value.bool false = .bool (decide (OkB ep seq first ∧ OkK (k + 1) first hs)) := by
                  first
                    | exact bD (Iff.trans (by unfold OkB; omega) okB0.symm)
                    | exact bT (okB0.2 (by unfold OkB; omega))
                    | exact bF (fun h_ => by have q_ := okB0.1 h_; unfold OkB at q_; omega)
                    | exact bF (fun h_ => hnb (okS.1 h_).1)
                    | exact bF (fun h_ => by have q_ := (okS.1 h_).2; omega)
                    | exact bD (Iff.trans ⟨fun q_ => ⟨hyb, by omega, q_⟩, fun q_ => q_.2.2⟩ okS.symm)
                exact ⟨4 - (k + 1), by omega, _, (k + 1), Ac_frg ⟨rfl, rfl, (agr rfl e_), (agr rfl (by first | rfl | (congr 1; omega) | (congr 1; simp; done) | (congr 1; simp only [IntKind.wrap_u64, IntKind.wrap_i64, IntKind.wrap_u8]; omega) | (congr 1 <;> omega))), trivial⟩, hB, hb1, (by omega), rfl⟩
            · refine C_exit (X_then (X_then (X_hit (N_then (C_seq (C_reg rfl ?_))))))
              refine L_run (R_move rfl) rfl ?_
              refine L_run (R_assign rfl) rfl ?_
              refine L_nil (N_then (C_ret ?_))
              refine ret1 Tryd.results17 rfl ?_
              obtain rfl : k = 4 := by omega
              exact ⟨hB, rfl⟩
      · refine L_no rfl rfl rfl (decide_eq_false h3) rfl ?_
        refine L_no rfl rfl rfl (decide_eq_false h3) rfl ?_
        refine L_no rfl rfl rfl (decide_eq_false h3) rfl ?_
        refine L_run (R_pickF rfl (decide_eq_false h3) rfl) rfl ?_
        refine L_run (R_move rfl) rfl ?_
        refine L_no rfl rfl rfl rfl rfl ?_
        refine L_no rfl rfl rfl rfl rfl ?_
        refine L_no rfl rfl rfl rfl rfl ?_
        refine L_run (R_pickF rfl rfl rfl) rfl ?_
        refine L_run (R_assign rfl) rfl ?_
        refine L_nil (N_then (C_seq (C_seq (C_reg rfl ?_))))
        refine L_run (R_assign rfl) rfl ?_
        refine L_nil (N_then (C_block ?_))
        have e_ : Value.bool false = .bool (decide (OkB ep seq first ∧ OkK 0 first hs)) := by
          first
            | exact bD (Iff.trans (by unfold OkB; omega) okB0.symm)
            | exact bT (okB0.2 (by unfold OkB; omega))
            | exact bF (fun h_ => by have q_ := okB0.1 h_; unfold OkB at q_; omega)
            | exact bF (fun h_ => hnb (okS.1 h_).1)
            | exact bF (fun h_ => by have q_ := (okS.1 h_).2; omega)
            | exact bD (Iff.trans ⟨fun q_ => ⟨hyb, by omega, q_⟩, fun q_ => q_.2.2⟩ okS.symm)
        refine C_loop (fun m_ a_ w_ => ∃ (σ_ : Nat → Value) (k : Nat), a_ = Ac 50 σ_ [] [(1, .pointer (some ⟨g1, 0, none⟩)), (2, .bool false), (3, .bool (decide (OkB ep seq first ∧ OkK k first hs))), (4, .int .i64 (k : Int))] ∧ w.grownBy w_ none ∧ Blk w_ g1 25 [.int .u64 ep, .int .i64 seq, .int .i64 first, .int .i64 (hs 0), .int .i64 (hs 1), .int .i64 (hs 2), .int .i64 (hs 3)] ∧ (k ≤ 4) ∧ 4 - k = m_) (4 - 0) ?_ ?_
        · exact ⟨_, 0, Ac_frg ⟨rfl, rfl, (agr rfl e_), (agr rfl (by first | rfl | (congr 1; omega) | (congr 1; simp; done) | (congr 1; simp only [IntKind.wrap_u64, IntKind.wrap_i64, IntKind.wrap_u8]; omega) | (congr 1 <;> omega))), trivial⟩, hB, hb1, (by omega), rfl⟩
        · clear hB
          clear hb1
          rintro m_ a_ w6 ⟨σ_, k, rfl, hB, hb1, hk, rfl⟩
          refine C_seq (C_seq (C_reg rfl ?_))
          refine L_run (R_move rfl) rfl ?_
          refine L_run (R_lss rfl rfl) rfl ?_
          refine L_nil (N_then ?_)
          refine C_if rfl (fun h11 => ?_) (fun h11 => ?_)
          · refine C_skip (N_then (C_seq (C_block ?_)))
            refine C_draw2 rfl mix ?_
            intro w7 hs4 hz4
            replace hB := gb_tr hB hs4
            replace hb1 := hb1.gb hs4
            refine ⟨fun W_ => Blk W_ g1 25 [.int .u64 ep, .int .i64 seq, .int .i64 first, .int .i64 (hs 0), .int .i64 (hs 1), .int .i64 (hs 2), .int .i64 (hs 3)] ∧ True, [0, 1, 2, 3, 4, 5, 6, 7, 8, 9, 10, 11, 12, 13, 14, 15, 16, 17], ?_⟩
            refine T_takeA (i := 0) rfl rfl (by kernel_rfl) (by kernel_rfl) (by kernel_rfl) (Y_of (fun _ ⟨hb1, _⟩ => R_move rfl)) ⟨hb1, trivial⟩ rfl ?_
            refine T_takeA (i := 1) rfl rfl (by kernel_rfl) (by kernel_rfl) (by kernel_rfl) (Y_of (fun _ ⟨hb1, _⟩ => R_move rfl)) ⟨hb1, trivial⟩ rfl ?_
            by_cases h12 : OkB ep seq first ∧ OkK k first hs
            · refine T_takeA (i := 2) rfl rfl (by kernel_rfl) (by kernel_rfl) (by kernel_rfl) (Y_yes rfl rfl rfl (decide_eq_true h12) (fun _ ⟨hb1, _⟩ => R_move rfl)) ⟨hb1, trivial⟩ rfl ?_
              refine T_takeA (i := 3) rfl rfl (by kernel_rfl) (by kernel_rfl) (by kernel_rfl) (Y_yes rfl rfl rfl (decide_eq_true h12) (fun _ ⟨hb1, _⟩ => R_field (r := 3) rfl fld25_3 rfl)) ⟨hb1, trivial⟩ rfl ?_
              have hl5 : k < 4 := by omega
              refine T_takeA (i := 4) rfl rfl (by kernel_rfl) (by kernel_rfl) (by kernel_rfl) (Y_yes rfl rfl rfl (decide_eq_true h12) (fun _ ⟨hb1, _⟩ => R_indexArr (sz := 1) (o := 3) (a := (k : Int)) (i := k) (r := (3 + k)) rfl rfl (by first | rfl | omega) arr23 hl5 (by first | omega | rfl | simp))) ⟨hb1, trivial⟩ rfl ?_
              refine T_takeA (i := 5) rfl rfl (by kernel_rfl) (by kernel_rfl) (by kernel_rfl) (Y_yes rfl rfl rfl (decide_eq_true h12) (fun _ ⟨hb1, _⟩ => R_load1 rfl scl3 (hb1.cell (four_at (pre := [.int .u64 ep, .int .i64 seq, .int .i64 first]) (post := []) (f := hs) (k := .i64) hl5)))) ⟨hb1, trivial⟩ rfl ?_
              refine T_takeA (i := 6) rfl rfl (by kernel_rfl) (by kernel_rfl) (by kernel_rfl) (Y_yes rfl rfl rfl (decide_eq_true h12) (fun _ ⟨hb1, _⟩ => R_geq rfl rfl)) ⟨hb1, trivial⟩ rfl ?_
              refine T_takeA (i := 7) rfl rfl (by kernel_rfl) (by kernel_rfl) (by kernel_rfl) (Y_of (fun _ ⟨hb1, _⟩ => R_pickT rfl (decide_eq_true h12) rfl)) ⟨hb1, trivial⟩ rfl ?_
              refine T_takeA (i := 8) rfl rfl (by kernel_rfl) (by kernel_rfl) (by kernel_rfl) (Y_of (fun _ ⟨hb1, _⟩ => R_move rfl)) ⟨hb1, trivial⟩ rfl ?_
              by_cases h13 : 0 ≤ (hs k)
              · refine T_takeA (i := 9) rfl rfl (by kernel_rfl) (by kernel_rfl) (by kernel_rfl) (Y_yes rfl rfl rfl (decide_eq_true h13) (fun _ ⟨hb1, _⟩ => R_move rfl)) ⟨hb1, trivial⟩ rfl ?_
                refine T_takeA (i := 10) rfl rfl (by kernel_rfl) (by kernel_rfl) (by kernel_rfl) (Y_yes rfl rfl rfl (decide_eq_true h13) (fun _ ⟨hb1, _⟩ => R_field (r := 3) rfl fld25_3 rfl)) ⟨hb1, trivial⟩ rfl ?_
                have hl6 : k < 4 := by omega
                refine T_takeA (i := 11) rfl rfl (by kernel_rfl) (by kernel_rfl) (by kernel_rfl) (Y_yes rfl rfl rfl (decide_eq_true h13) (fun _ ⟨hb1, _⟩ => R_indexArr (sz := 1) (o := 3) (a := (k : Int)) (i := k) (r := (3 + k)) rfl rfl (by first | rfl | omega) arr23 hl6 (by first | omega | rfl | simp))) ⟨hb1, trivial⟩ rfl ?_
                refine T_takeA (i := 12) rfl rfl (by kernel_rfl) (by kernel_rfl) (by kernel_rfl) (Y_yes rfl rfl rfl (decide_eq_true h13) (fun _ ⟨hb1, _⟩ => R_load1 rfl scl3 (hb1.cell (four_at (pre := [.int .u64 ep, .int .i64 seq, .int .i64 first]) (post := []) (f := hs) (k := .i64) hl6)))) ⟨hb1, trivial⟩ rfl ?_
                refine T_takeA (i := 13) rfl rfl (by kernel_rfl) (by kernel_rfl) (by kernel_rfl) (Y_yes rfl rfl rfl (decide_eq_true h13) (fun _ ⟨hb1, _⟩ => R_field (r := 2) rfl fld25_2 rfl)) ⟨hb1, trivial⟩ rfl ?_
                refine T_takeA (i := 14) rfl rfl (by kernel_rfl) (by kernel_rfl) (by kernel_rfl) (Y_yes rfl rfl rfl (decide_eq_true h13) (fun _ ⟨hb1, _⟩ => R_load1 rfl scl3 (hb1.cell (i := 2) rfl))) ⟨hb1, trivial⟩ rfl ?_
                refine T_takeA (i := 15) rfl rfl (by kernel_rfl) (by kernel_rfl) (by kernel_rfl) (Y_yes rfl rfl rfl (decide_eq_true h13) (fun _ ⟨hb1, _⟩ => R_lss rfl rfl)) ⟨hb1, trivial⟩ rfl ?_
                refine T_takeA (i := 16) rfl rfl (by kernel_rfl) (by kernel_rfl) (by kernel_rfl) (Y_of (fun _ ⟨hb1, _⟩ => R_pickT rfl (decide_eq_true h13) rfl)) ⟨hb1, trivial⟩ rfl ?_
                refine T_takeA (i := 17) rfl rfl (by kernel_rfl) (by kernel_rfl) (by kernel_rfl) (Y_of (fun _ ⟨hb1, _⟩ => R_assign rfl)) ⟨hb1, trivial⟩ rfl ?_
                refine T_done (by kernel_rfl) (CalmE.normal ?_)
                refine N_in (N_then (C_reg rfl ?_))
                refine L_run (R_move rfl) rfl ?_
                refine L_run (R_add64 rfl rfl (by omega)) rfl ?_
                refine L_run (R_assign rfl) rfl ?_
                refine L_nil (N_then ?_)
                have hyb := h12
                have e_ : Value.bool (decide ((hs k) < first)) = .bool (decide (OkB ep seq first ∧ OkK (k + 1) first hs)) := by
                  first
                    | exact bD (Iff.trans (by unfold OkB; omega) okB0.symm)
                    | exact bT (okB0.2 (by unfold OkB; omega))
                    | exact bF (fun h_ => by have q_ := okB0.1 h_; unfold OkB at q_; omega)
                    | exact bF (fun h_ => hnb (okS.1 h_).1)
                    | exact bF (fun h_ => by have q_ := (okS.1 h_).2; omega)
                    | exact bD (Iff.trans ⟨fun q_ => ⟨hyb, by omega, q_⟩, fun q_ => q_.2.2⟩ okS.symm)
                exact ⟨4 - (k + 1), by omega, _, (k + 1), Ac_frg ⟨rfl, rfl, (agr rfl e_), (agr rfl (by first | rfl | (congr 1; omega) | (congr 1; simp; done) | (congr 1; simp only [IntKind.wrap_u64, IntKind.wrap_i64, IntKind.wrap_u8]; omega) | (congr 1 <;> omega))), trivial⟩, hB, hb1, (by omega), rfl⟩
              · refine T_takeA (i := 9) rfl rfl (by kernel_rfl) (by kernel_rfl) (by kernel_rfl) (Y_no rfl rfl rfl (decide_eq_false h13)) ⟨hb1, trivial⟩ rfl ?_
                refine T_takeA (i := 10) rfl rfl (by kernel_rfl) (by kernel_rfl) (by kernel_rfl) (Y_no rfl rfl rfl (decide_eq_false h13)) ⟨hb1, trivial⟩ rfl ?_
                refine T_takeA (i := 11) rfl rfl (by kernel_rfl) (by kernel_rfl) (by kernel_rfl) (Y_no rfl rfl rfl (decide_eq_false h13)) ⟨hb1, trivial⟩ rfl ?_
                refine T_takeA (i := 12) rfl rfl (by kernel_rfl) (by kernel_rfl) (by kernel_rfl) (Y_no rfl rfl rfl (decide_eq_false h13)) ⟨hb1, trivial⟩ rfl ?_
                refine T_takeA (i := 13) rfl rfl (by kernel_rfl) (by kernel_rfl) (by kernel_rfl) (Y_no rfl rfl rfl (decide_eq_false h13)) ⟨hb1, trivial⟩ rfl ?_
                refine T_takeA (i := 14) rfl rfl (by kernel_rfl) (by kernel_rfl) (by kernel_rfl) (Y_no rfl rfl rfl (decide_eq_false h13)) ⟨hb1, trivial⟩ rfl ?_
                refine T_takeA (i := 15) rfl rfl (by kernel_rfl) (by kernel_rfl) (by kernel_rfl) (Y_no rfl rfl rfl (decide_eq_false h13)) ⟨hb1, trivial⟩ rfl ?_
                refine T_takeA (i := 16) rfl rfl (by kernel_rfl) (by kernel_rfl) (by kernel_rfl) (Y_of (fun _ ⟨hb1, _⟩ => R_pickF rfl (decide_eq_false h13) rfl)) ⟨hb1, trivial⟩ rfl ?_
                refine T_takeA (i := 17) rfl rfl (by kernel_rfl) (by kernel_rfl) (by kernel_rfl) (Y_of (fun _ ⟨hb1, _⟩ => R_assign rfl)) ⟨hb1, trivial⟩ rfl ?_
                refine T_done (by kernel_rfl) (CalmE.normal ?_)
                refine N_in (N_then (C_reg rfl ?_))
                refine L_run (R_move rfl) rfl ?_
                refine L_run (R_add64 rfl rfl (by omega)) rfl ?_
                refine L_run (R_assign rfl) rfl ?_
                refine L_nil (N_then ?_)
                have hyb := h12
                have e_ : Value.bool false = .bool (decide (OkB ep seq first ∧ OkK (k + 1) first hs)) := by
                  first
                    | exact bD (Iff.trans (by unfold OkB; omega) okB0.symm)
                    | exact bT (okB0.2 (by unfold OkB; omega))
                    | exact bF (fun h_ => by have q_ := okB0.1 h_; unfold OkB at q_; omega)
                    | exact bF (fun h_ => hnb (okS.1 h_).1)
                    | exact bF (fun h_ => by have q_ := (okS.1 h_).2; omega)
                    | exact bD (Iff.trans ⟨fun q_ => ⟨hyb, by omega, q_⟩, fun q_ => q_.2.2⟩ okS.symm)
                exact ⟨4 - (k + 1), by omega, _, (k + 1), Ac_frg ⟨rfl, rfl, (agr rfl e_), (agr rfl (by first | rfl | (congr 1; omega) | (congr 1; simp; done) | (congr 1; simp only [IntKind.wrap_u64, IntKind.wrap_i64, IntKind.wrap_u8]; omega) | (congr 1 <;> omega))), trivial⟩, hB, hb1, (by omega), rfl⟩
            · refine T_takeA (i := 2) rfl rfl (by kernel_rfl) (by kernel_rfl) (by kernel_rfl) (Y_no rfl rfl rfl (decide_eq_false h12)) ⟨hb1, trivial⟩ rfl ?_
              refine T_takeA (i := 3) rfl rfl (by kernel_rfl) (by kernel_rfl) (by kernel_rfl) (Y_no rfl rfl rfl (decide_eq_false h12)) ⟨hb1, trivial⟩ rfl ?_
              refine T_takeA (i := 4) rfl rfl (by kernel_rfl) (by kernel_rfl) (by kernel_rfl) (Y_no rfl rfl rfl (decide_eq_false h12)) ⟨hb1, trivial⟩ rfl ?_
              refine T_takeA (i := 5) rfl rfl (by kernel_rfl) (by kernel_rfl) (by kernel_rfl) (Y_no rfl rfl rfl (decide_eq_false h12)) ⟨hb1, trivial⟩ rfl ?_
              refine T_takeA (i := 6) rfl rfl (by kernel_rfl) (by kernel_rfl) (by kernel_rfl) (Y_no rfl rfl rfl (decide_eq_false h12)) ⟨hb1, trivial⟩ rfl ?_
              refine T_takeA (i := 7) rfl rfl (by kernel_rfl) (by kernel_rfl) (by kernel_rfl) (Y_of (fun _ ⟨hb1, _⟩ => R_pickF rfl (decide_eq_false h12) rfl)) ⟨hb1, trivial⟩ rfl ?_
              refine T_takeA (i := 8) rfl rfl (by kernel_rfl) (by kernel_rfl) (by kernel_rfl) (Y_of (fun _ ⟨hb1, _⟩ => R_move rfl)) ⟨hb1, trivial⟩ rfl ?_
              refine T_takeA (i := 9) rfl rfl (by kernel_rfl) (by kernel_rfl) (by kernel_rfl) (Y_no rfl rfl rfl rfl) ⟨hb1, trivial⟩ rfl ?_
              refine T_takeA (i := 10) rfl rfl (by kernel_rfl) (by kernel_rfl) (by kernel_rfl) (Y_no rfl rfl rfl rfl) ⟨hb1, trivial⟩ rfl ?_
              refine T_takeA (i := 11) rfl rfl (by kernel_rfl) (by kernel_rfl) (by kernel_rfl) (Y_no rfl rfl rfl rfl) ⟨hb1, trivial⟩ rfl ?_
              refine T_takeA (i := 12) rfl rfl (by kernel_rfl) (by kernel_rfl) (by kernel_rfl) (Y_no rfl rfl rfl rfl) ⟨hb1, trivial⟩ rfl ?_
              refine T_takeA (i := 13) rfl rfl (by kernel_rfl) (by kernel_rfl) (by kernel_rfl) (Y_no rfl rfl rfl rfl) ⟨hb1, trivial⟩ rfl ?_
              refine T_takeA (i := 14) rfl rfl (by kernel_rfl) (by kernel_rfl) (by kernel_rfl) (Y_no rfl rfl rfl rfl) ⟨hb1, trivial⟩ rfl ?_
              refine T_takeA (i := 15) rfl rfl (by kernel_rfl) (by kernel_rfl) (by kernel_rfl) (Y_no rfl rfl rfl rfl) ⟨hb1, trivial⟩ rfl ?_
              refine T_takeA (i := 16) rfl rfl (by kernel_rfl) (by kernel_rfl) (by kernel_rfl) (Y_of (fun _ ⟨hb1, _⟩ => R_pickF rfl rfl rfl)) ⟨hb1, trivial⟩ rfl ?_
              refine T_takeA (i := 17) rfl rfl (by kernel_rfl) (by kernel_rfl) (by kernel_rfl) (Y_of (fun _ ⟨hb1, _⟩ => R_assign rfl)) ⟨hb1, trivial⟩ rfl ?_
              refine T_done (by kernel_rfl) (CalmE.normal ?_)
              refine N_in (N_then (C_reg rfl ?_))
              refine L_run (R_move rfl) rfl ?_
              refine L_run (R_add64 rfl rfl (by omega)) rfl ?_
              refine L_run (R_assign rfl) rfl ?_
              refine L_nil (N_then ?_)
              have hnb := h12
              have e_ : Value.bool false = .bool (decide (OkB ep seq first ∧ OkK (k + 1) first hs)) := by
                first
                  | exact bD (Iff.trans (by unfold OkB; omega) okB0.symm)
                  | exact bT (okB0.2 (by unfold OkB; omega))
                  | exact bF (fun h_ => by have q_ := okB0.1 h_; unfold OkB at q_; omega)
                  | exact bF (fun h_ => hnb (okS.1 h_).1)
                  | exact bF (fun h_ => by have q_ := (okS.1 h_).2; omega)
                  | exact bD (Iff.trans ⟨fun q_ => ⟨hyb, by omega, q_⟩, fun q_ => q_.2.2⟩ okS.symm)
              exact ⟨4 - (k + 1), by omega, _, (k + 1), Ac_frg ⟨rfl, rfl, (agr rfl e_), (agr rfl (by first | rfl | (congr 1; omega) | (congr 1; simp; done) | (congr 1; simp only [IntKind.wrap_u64, IntKind.wrap_i64, IntKind.wrap_u8]; omega) | (congr 1 <;> omega))), trivial⟩, hB, hb1, (by omega), rfl⟩
          · refine C_exit (X_then (X_then (X_hit (N_then (C_seq (C_reg rfl ?_))))))
            refine L_run (R_move rfl) rfl ?_
            refine L_run (R_assign rfl) rfl ?_
            refine L_nil (N_then (C_ret ?_))
            refine ret1 Tryd.results17 rfl ?_
            obtain rfl : k = 4 := by omega
            exact ⟨hB, rfl⟩
    · refine L_no rfl rfl rfl (decide_eq_false h2) rfl ?_
      refine L_no rfl rfl rfl (decide_eq_false h2) rfl ?_
      refine L_no rfl rfl rfl (decide_eq_false h2) rfl ?_
      refine L_run (R_pickF rfl (decide_eq_false h2) rfl) rfl ?_
      refine L_run (R_move rfl) rfl ?_
      refine L_no rfl rfl rfl rfl rfl ?_
      refine L_no rfl rfl rfl rfl rfl ?_
      refine L_no rfl rfl rfl rfl rfl ?_
      refine L_run (R_pickF rfl rfl rfl) rfl ?_
      refine L_run (R_move rfl) rfl ?_
      refine L_no rfl rfl rfl rfl rfl ?_
      refine L_no rfl rfl rfl rfl rfl ?_
      refine L_no rfl rfl rfl rfl rfl ?_
      refine L_run (R_pickF rfl rfl rfl) rfl ?_
      refine L_run (R_assign rfl) rfl ?_
      refine L_nil (N_then (C_seq (C_seq (C_reg rfl ?_))))
      refine L_run (R_assign rfl) rfl ?_
      refine L_nil (N_then (C_block ?_))
      have e_ : Value.bool false = .bool (decide (OkB ep seq first ∧ OkK 0 first hs)) := by
        first
          | exact bD (Iff.trans (by unfold OkB; omega) okB0.symm)
          | exact bT (okB0.2 (by unfold OkB; omega))
          | exact bF (fun h_ => by have q_ := okB0.1 h_; unfold OkB at q_; omega)
          | exact bF (fun h_ => hnb (okS.1 h_).1)
          | exact bF (fun h_ => by have q_ := (okS.1 h_).2; omega)
          | exact bD (Iff.trans ⟨fun q_ => ⟨hyb, by omega, q_⟩, fun q_ => q_.2.2⟩ okS.symm)
      refine C_loop (fun m_ a_ w_ => ∃ (σ_ : Nat → Value) (k : Nat), a_ = Ac 50 σ_ [] [(1, .pointer (some ⟨g1, 0, none⟩)), (2, .bool false), (3, .bool (decide (OkB ep seq first ∧ OkK k first hs))), (4, .int .i64 (k : Int))] ∧ w.grownBy w_ none ∧ Blk w_ g1 25 [.int .u64 ep, .int .i64 seq, .int .i64 first, .int .i64 (hs 0), .int .i64 (hs 1), .int .i64 (hs 2), .int .i64 (hs 3)] ∧ (k ≤ 4) ∧ 4 - k = m_) (4 - 0) ?_ ?_
      · exact ⟨_, 0, Ac_frg ⟨rfl, rfl, (agr rfl e_), (agr rfl (by first | rfl | (congr 1; omega) | (congr 1; simp; done) | (congr 1; simp only [IntKind.wrap_u64, IntKind.wrap_i64, IntKind.wrap_u8]; omega) | (congr 1 <;> omega))), trivial⟩, hB, hb1, (by omega), rfl⟩
      · clear hB
        clear hb1
        rintro m_ a_ w8 ⟨σ_, k, rfl, hB, hb1, hk, rfl⟩
        refine C_seq (C_seq (C_reg rfl ?_))
        refine L_run (R_move rfl) rfl ?_
        refine L_run (R_lss rfl rfl) rfl ?_
        refine L_nil (N_then ?_)
        refine C_if rfl (fun h14 => ?_) (fun h14 => ?_)
        · refine C_skip (N_then (C_seq (C_block ?_)))
          refine C_draw2 rfl mix ?_
          intro w9 hs5 hz5
          replace hB := gb_tr hB hs5
          replace hb1 := hb1.gb hs5
          refine ⟨fun W_ => Blk W_ g1 25 [.int .u64 ep, .int .i64 seq, .int .i64 first, .int .i64 (hs 0), .int .i64 (hs 1), .int .i64 (hs 2), .int .i64 (hs 3)] ∧ True, [0, 1, 2, 3, 4, 5, 6, 7, 8, 9, 10, 11, 12, 13, 14, 15, 16, 17], ?_⟩
          refine T_takeA (i := 0) rfl rfl (by kernel_rfl) (by kernel_rfl) (by kernel_rfl) (Y_of (fun _ ⟨hb1, _⟩ => R_move rfl)) ⟨hb1, trivial⟩ rfl ?_
          refine T_takeA (i := 1) rfl rfl (by kernel_rfl) (by kernel_rfl) (by kernel_rfl) (Y_of (fun _ ⟨hb1, _⟩ => R_move rfl)) ⟨hb1, trivial⟩ rfl ?_
          by_cases h15 : OkB ep seq first ∧ OkK k first hs
          · refine T_takeA (i := 2) rfl rfl (by kernel_rfl) (by kernel_rfl) (by kernel_rfl) (Y_yes rfl rfl rfl (decide_eq_true h15) (fun _ ⟨hb1, _⟩ => R_move rfl)) ⟨hb1, trivial⟩ rfl ?_
            refine T_takeA (i := 3) rfl rfl (by kernel_rfl) (by kernel_rfl) (by kernel_rfl) (Y_yes rfl rfl rfl (decide_eq_true h15) (fun _ ⟨hb1, _⟩ => R_field (r := 3) rfl fld25_3 rfl)) ⟨hb1, trivial⟩ rfl ?_
            have hl7 : k < 4 := by omega
            refine T_takeA (i := 4) rfl rfl (by kernel_rfl) (by kernel_rfl) (by kernel_rfl) (Y_yes rfl rfl rfl (decide_eq_true h15) (fun _ ⟨hb1, _⟩ => R_indexArr (sz := 1) (o := 3) (a := (k : Int)) (i := k) (r := (3 + k)) rfl rfl (by first | rfl | omega) arr23 hl7 (by first | omega | rfl | simp))) ⟨hb1, trivial⟩ rfl ?_
            refine T_takeA (i := 5) rfl rfl (by kernel_rfl) (by kernel_rfl) (by kernel_rfl) (Y_yes rfl rfl rfl (decide_eq_true h15) (fun _ ⟨hb1, _⟩ => R_load1 rfl scl3 (hb1.cell (four_at (pre := [.int .u64 ep, .int .i64 seq, .int .i64 first]) (post := []) (f := hs) (k := .i64) hl7)))) ⟨hb1, trivial⟩ rfl ?_
            refine T_takeA (i := 6) rfl rfl (by kernel_rfl) (by kernel_rfl) (by kernel_rfl) (Y_yes rfl rfl rfl (decide_eq_true h15) (fun _ ⟨hb1, _⟩ => R_geq rfl rfl)) ⟨hb1, trivial⟩ rfl ?_
            refine T_takeA (i := 7) rfl rfl (by kernel_rfl) (by kernel_rfl) (by kernel_rfl) (Y_of (fun _ ⟨hb1, _⟩ => R_pickT rfl (decide_eq_true h15) rfl)) ⟨hb1, trivial⟩ rfl ?_
            refine T_takeA (i := 8) rfl rfl (by kernel_rfl) (by kernel_rfl) (by kernel_rfl) (Y_of (fun _ ⟨hb1, _⟩ => R_move rfl)) ⟨hb1, trivial⟩ rfl ?_
            by_cases h16 : 0 ≤ (hs k)
            · refine T_takeA (i := 9) rfl rfl (by kernel_rfl) (by kernel_rfl) (by kernel_rfl) (Y_yes rfl rfl rfl (decide_eq_true h16) (fun _ ⟨hb1, _⟩ => R_move rfl)) ⟨hb1, trivial⟩ rfl ?_
              refine T_takeA (i := 10) rfl rfl (by kernel_rfl) (by kernel_rfl) (by kernel_rfl) (Y_yes rfl rfl rfl (decide_eq_true h16) (fun _ ⟨hb1, _⟩ => R_field (r := 3) rfl fld25_3 rfl)) ⟨hb1, trivial⟩ rfl ?_
              have hl8 : k < 4 := by omega
              refine T_takeA (i := 11) rfl rfl (by kernel_rfl) (by kernel_rfl) (by kernel_rfl) (Y_yes rfl rfl rfl (decide_eq_true h16) (fun _ ⟨hb1, _⟩ => R_indexArr (sz := 1) (o := 3) (a := (k : Int)) (i := k) (r := (3 + k)) rfl rfl (by first | rfl | omega) arr23 hl8 (by first | omega | rfl | simp))) ⟨hb1, trivial⟩ rfl ?_
              refine T_takeA (i := 12) rfl rfl (by kernel_rfl) (by kernel_rfl) (by kernel_rfl) (Y_yes rfl rfl rfl (decide_eq_true h16) (fun _ ⟨hb1, _⟩ => R_load1 rfl scl3 (hb1.cell (four_at (pre := [.int .u64 ep, .int .i64 seq, .int .i64 first]) (post := []) (f := hs) (k := .i64) hl8)))) ⟨hb1, trivial⟩ rfl ?_
              refine T_takeA (i := 13) rfl rfl (by kernel_rfl) (by kernel_rfl) (by kernel_rfl) (Y_yes rfl rfl rfl (decide_eq_true h16) (fun _ ⟨hb1, _⟩ => R_field (r := 2) rfl fld25_2 rfl)) ⟨hb1, trivial⟩ rfl ?_
              refine T_takeA (i := 14) rfl rfl (by kernel_rfl) (by kernel_rfl) (by kernel_rfl) (Y_yes rfl rfl rfl (decide_eq_true h16) (fun _ ⟨hb1, _⟩ => R_load1 rfl scl3 (hb1.cell (i := 2) rfl))) ⟨hb1, trivial⟩ rfl ?_
              refine T_takeA (i := 15) rfl rfl (by kernel_rfl) (by kernel_rfl) (by kernel_rfl) (Y_yes rfl rfl rfl (decide_eq_true h16) (fun _ ⟨hb1, _⟩ => R_lss rfl rfl)) ⟨hb1, trivial⟩ rfl ?_
              refine T_takeA (i := 16) rfl rfl (by kernel_rfl) (by kernel_rfl) (by kernel_rfl) (Y_of (fun _ ⟨hb1, _⟩ => R_pickT rfl (decide_eq_true h16) rfl)) ⟨hb1, trivial⟩ rfl ?_
              refine T_takeA (i := 17) rfl rfl (by kernel_rfl) (by kernel_rfl) (by kernel_rfl) (Y_of (fun _ ⟨hb1, _⟩ => R_assign rfl)) ⟨hb1, trivial⟩ rfl ?_
              refine T_done (by kernel_rfl) (CalmE.normal ?_)
              refine N_in (N_then (C_reg rfl ?_))
              refine L_run (R_move rfl) rfl ?_
              refine L_run (R_add64 rfl rfl (by omega)) rfl ?_
              refine L_run (R_assign rfl) rfl ?_
              refine L_nil (N_then ?_)
              have hyb := h15
              have e_ : Value.bool (decide ((hs k) < first)) = .bool (decide (OkB ep seq first ∧ OkK (k + 1) first hs)) := by
                first
                  | exact bD (Iff.trans (by unfold OkB; omega) okB0.symm)
                  | exact bT (okB0.2 (by unfold OkB; omega))
                  | exact bF (fun h_ => by have q_ := okB0.1 h_; unfold OkB at q_; omega)
                  | exact bF (fun h_ => hnb (okS.1 h_).1)
                  | exact bF (fun h_ => by have q_ := (okS.1 h_).2; omega)
                  | exact bD (Iff.trans ⟨fun q_ => ⟨hyb, by omega, q_⟩, fun q_ => q_.2.2⟩ okS.symm)
              exact ⟨4 - (k + 1), by omega, _, (k + 1), Ac_frg ⟨rfl, rfl, (agr rfl e_), (agr rfl (by first | rfl | (congr 1; omega) | (congr 1; simp; done) | (congr 1; simp only [IntKind.wrap_u64, IntKind.wrap_i64, IntKind.wrap_u8]; omega) | (congr 1 <;> omega))), trivial⟩, hB, hb1, (by omega), rfl⟩
            · refine T_takeA (i := 9) rfl rfl (by kernel_rfl) (by kernel_rfl) (by kernel_rfl) (Y_no rfl rfl rfl (decide_eq_false h16)) ⟨hb1, trivial⟩ rfl ?_
              refine T_takeA (i := 10) rfl rfl (by kernel_rfl) (by kernel_rfl) (by kernel_rfl) (Y_no rfl rfl rfl (decide_eq_false h16)) ⟨hb1, trivial⟩ rfl ?_
              refine T_takeA (i := 11) rfl rfl (by kernel_rfl) (by kernel_rfl) (by kernel_rfl) (Y_no rfl rfl rfl (decide_eq_false h16)) ⟨hb1, trivial⟩ rfl ?_
              refine T_takeA (i := 12) rfl rfl (by kernel_rfl) (by kernel_rfl) (by kernel_rfl) (Y_no rfl rfl rfl (decide_eq_false h16)) ⟨hb1, trivial⟩ rfl ?_
              refine T_takeA (i := 13) rfl rfl (by kernel_rfl) (by kernel_rfl) (by kernel_rfl) (Y_no rfl rfl rfl (decide_eq_false h16)) ⟨hb1, trivial⟩ rfl ?_
              refine T_takeA (i := 14) rfl rfl (by kernel_rfl) (by kernel_rfl) (by kernel_rfl) (Y_no rfl rfl rfl (decide_eq_false h16)) ⟨hb1, trivial⟩ rfl ?_
              refine T_takeA (i := 15) rfl rfl (by kernel_rfl) (by kernel_rfl) (by kernel_rfl) (Y_no rfl rfl rfl (decide_eq_false h16)) ⟨hb1, trivial⟩ rfl ?_
              refine T_takeA (i := 16) rfl rfl (by kernel_rfl) (by kernel_rfl) (by kernel_rfl) (Y_of (fun _ ⟨hb1, _⟩ => R_pickF rfl (decide_eq_false h16) rfl)) ⟨hb1, trivial⟩ rfl ?_
              refine T_takeA (i := 17) rfl rfl (by kernel_rfl) (by kernel_rfl) (by kernel_rfl) (Y_of (fun _ ⟨hb1, _⟩ => R_assign rfl)) ⟨hb1, trivial⟩ rfl ?_
              refine T_done (by kernel_rfl) (CalmE.normal ?_)
              refine N_in (N_then (C_reg rfl ?_))
              refine L_run (R_move rfl) rfl ?_
              refine L_run (R_add64 rfl rfl (by omega)) rfl ?_
              refine L_run (R_assign rfl) rfl ?_
              refine L_nil (N_then ?_)
              have hyb := h15
              have e_ : Value.bool false = .bool (decide (OkB ep seq first ∧ OkK (k + 1) first hs)) := by
                first
                  | exact bD (Iff.trans (by unfold OkB; omega) okB0.symm)
                  | exact bT (okB0.2 (by unfold OkB; omega))
                  | exact bF (fun h_ => by have q_ := okB0.1 h_; unfold OkB at q_; omega)
                  | exact bF (fun h_ => hnb (okS.1 h_).1)
                  | exact bF (fun h_ => by have q_ := (okS.1 h_).2; omega)
                  | exact bD (Iff.trans ⟨fun q_ => ⟨hyb, by omega, q_⟩, fun q_ => q_.2.2⟩ okS.symm)
              exact ⟨4 - (k + 1), by omega, _, (k + 1), Ac_frg ⟨rfl, rfl, (agr rfl e_), (agr rfl (by first | rfl | (congr 1; omega) | (congr 1; simp; done) | (congr 1; simp only [IntKind.wrap_u64, IntKind.wrap_i64, IntKind.wrap_u8]; omega) | (congr 1 <;> omega))), trivial⟩, hB, hb1, (by omega), rfl⟩
          · refine T_takeA (i := 2) rfl rfl (by kernel_rfl) (by kernel_rfl) (by kernel_rfl) (Y_no rfl rfl rfl (decide_eq_false h15)) ⟨hb1, trivial⟩ rfl ?_
            refine T_takeA (i := 3) rfl rfl (by kernel_rfl) (by kernel_rfl) (by kernel_rfl) (Y_no rfl rfl rfl (decide_eq_false h15)) ⟨hb1, trivial⟩ rfl ?_
            refine T_takeA (i := 4) rfl rfl (by kernel_rfl) (by kernel_rfl) (by kernel_rfl) (Y_no rfl rfl rfl (decide_eq_false h15)) ⟨hb1, trivial⟩ rfl ?_
            refine T_takeA (i := 5) rfl rfl (by kernel_rfl) (by kernel_rfl) (by kernel_rfl) (Y_no rfl rfl rfl (decide_eq_false h15)) ⟨hb1, trivial⟩ rfl ?_
            refine T_takeA (i := 6) rfl rfl (by kernel_rfl) (by kernel_rfl) (by kernel_rfl) (Y_no rfl rfl rfl (decide_eq_false h15)) ⟨hb1, trivial⟩ rfl ?_
            refine T_takeA (i := 7) rfl rfl (by kernel_rfl) (by kernel_rfl) (by kernel_rfl) (Y_of (fun _ ⟨hb1, _⟩ => R_pickF rfl (decide_eq_false h15) rfl)) ⟨hb1, trivial⟩ rfl ?_
            refine T_takeA (i := 8) rfl rfl (by kernel_rfl) (by kernel_rfl) (by kernel_rfl) (Y_of (fun _ ⟨hb1, _⟩ => R_move rfl)) ⟨hb1, trivial⟩ rfl ?_
            refine T_takeA (i := 9) rfl rfl (by kernel_rfl) (by kernel_rfl) (by kernel_rfl) (Y_no rfl rfl rfl rfl) ⟨hb1, trivial⟩ rfl ?_
            refine T_takeA (i := 10) rfl rfl (by kernel_rfl) (by kernel_rfl) (by kernel_rfl) (Y_no rfl rfl rfl rfl) ⟨hb1, trivial⟩ rfl ?_
            refine T_takeA (i := 11) rfl rfl (by kernel_rfl) (by kernel_rfl) (by kernel_rfl) (Y_no rfl rfl rfl rfl) ⟨hb1, trivial⟩ rfl ?_
            refine T_takeA (i := 12) rfl rfl (by kernel_rfl) (by kernel_rfl) (by kernel_rfl) (Y_no rfl rfl rfl rfl) ⟨hb1, trivial⟩ rfl ?_
            refine T_takeA (i := 13) rfl rfl (by kernel_rfl) (by kernel_rfl) (by kernel_rfl) (Y_no rfl rfl rfl rfl) ⟨hb1, trivial⟩ rfl ?_
            refine T_takeA (i := 14) rfl rfl (by kernel_rfl) (by kernel_rfl) (by kernel_rfl) (Y_no rfl rfl rfl rfl) ⟨hb1, trivial⟩ rfl ?_
            refine T_takeA (i := 15) rfl rfl (by kernel_rfl) (by kernel_rfl) (by kernel_rfl) (Y_no rfl rfl rfl rfl) ⟨hb1, trivial⟩ rfl ?_
            refine T_takeA (i := 16) rfl rfl (by kernel_rfl) (by kernel_rfl) (by kernel_rfl) (Y_of (fun _ ⟨hb1, _⟩ => R_pickF rfl rfl rfl)) ⟨hb1, trivial⟩ rfl ?_
            refine T_takeA (i := 17) rfl rfl (by kernel_rfl) (by kernel_rfl) (by kernel_rfl) (Y_of (fun _ ⟨hb1, _⟩ => R_assign rfl)) ⟨hb1, trivial⟩ rfl ?_
            refine T_done (by kernel_rfl) (CalmE.normal ?_)
            refine N_in (N_then (C_reg rfl ?_))
            refine L_run (R_move rfl) rfl ?_
            refine L_run (R_add64 rfl rfl (by omega)) rfl ?_
            refine L_run (R_assign rfl) rfl ?_
            refine L_nil (N_then ?_)
            have hnb := h15
            have e_ : Value.bool false = .bool (decide (OkB ep seq first ∧ OkK (k + 1) first hs)) := by
              first
                | exact bD (Iff.trans (by unfold OkB; omega) okB0.symm)
                | exact bT (okB0.2 (by unfold OkB; omega))
                | exact bF (fun h_ => by have q_ := okB0.1 h_; unfold OkB at q_; omega)
                | exact bF (fun h_ => hnb (okS.1 h_).1)
                | exact bF (fun h_ => by have q_ := (okS.1 h_).2; omega)
                | exact bD (Iff.trans ⟨fun q_ => ⟨hyb, by omega, q_⟩, fun q_ => q_.2.2⟩ okS.symm)
            exact ⟨4 - (k + 1), by omega, _, (k + 1), Ac_frg ⟨rfl, rfl, (agr rfl e_), (agr rfl (by first | rfl | (congr 1; omega) | (congr 1; simp; done) | (congr 1; simp only [IntKind.wrap_u64, IntKind.wrap_i64, IntKind.wrap_u8]; omega) | (congr 1 <;> omega))), trivial⟩, hB, hb1, (by omega), rfl⟩
        · refine C_exit (X_then (X_then (X_hit (N_then (C_seq (C_reg rfl ?_))))))
          refine L_run (R_move rfl) rfl ?_
          refine L_run (R_assign rfl) rfl ?_
          refine L_nil (N_then (C_ret ?_))
          refine ret1 Tryd.results17 rfl ?_
          obtain rfl : k = 4 := by omega
          exact ⟨hB, rfl⟩
  · refine L_no rfl rfl rfl (decide_eq_false h1) rfl ?_
    refine L_no rfl rfl rfl (decide_eq_false h1) rfl ?_
    refine L_no rfl rfl rfl (decide_eq_false h1) rfl ?_
    refine L_run (R_pickF rfl (decide_eq_false h1) rfl) rfl ?_
    refine L_run (R_move rfl) rfl ?_
    refine L_no rfl rfl rfl rfl rfl ?_
    refine L_no rfl rfl rfl rfl rfl ?_
    refine L_no rfl rfl rfl rfl rfl ?_
    refine L_run (R_pickF rfl rfl rfl) rfl ?_
    refine L_run (R_move rfl) rfl ?_
    refine L_no rfl rfl rfl rfl rfl ?_
    refine L_no rfl rfl rfl rfl rfl ?_
    refine L_no rfl rfl rfl rfl rfl ?_
    refine L_run (R_pickF rfl rfl rfl) rfl ?_
    refine L_run (R_move rfl) rfl ?_
    refine L_no rfl rfl rfl rfl rfl ?_
    refine L_no rfl rfl rfl rfl rfl ?_
    refine L_no rfl rfl rfl rfl rfl ?_
    refine L_run (R_pickF rfl rfl rfl) rfl ?_
    refine L_run (R_assign rfl) rfl ?_
    refine L_nil (N_then (C_seq (C_seq (C_reg rfl ?_))))
    refine L_run (R_assign rfl) rfl ?_
    refine L_nil (N_then (C_block ?_))
    have e_ : Value.bool false = .bool (decide (OkB ep seq first ∧ OkK 0 first hs)) := by
      first
        | exact bD (Iff.trans (by unfold OkB; omega) okB0.symm)
        | exact bT (okB0.2 (by unfold OkB; omega))
        | exact bF (fun h_ => by have q_ := okB0.1 h_; unfold OkB at q_; omega)
        | exact bF (fun h_ => hnb (okS.1 h_).1)
        | exact bF (fun h_ => by have q_ := (okS.1 h_).2; omega)
        | exact bD (Iff.trans ⟨fun q_ => ⟨hyb, by omega, q_⟩, fun q_ => q_.2.2⟩ okS.symm)
    refine C_loop (fun m_ a_ w_ => ∃ (σ_ : Nat → Value) (k : Nat), a_ = Ac 50 σ_ [] [(1, .pointer (some ⟨g1, 0, none⟩)), (2, .bool false), (3, .bool (decide (OkB ep seq first ∧ OkK k first hs))), (4, .int .i64 (k : Int))] ∧ w.grownBy w_ none ∧ Blk w_ g1 25 [.int .u64 ep, .int .i64 seq, .int .i64 first, .int .i64 (hs 0), .int .i64 (hs 1), .int .i64 (hs 2), .int .i64 (hs 3)] ∧ (k ≤ 4) ∧ 4 - k = m_) (4 - 0) ?_ ?_
    · exact ⟨_, 0, Ac_frg ⟨rfl, rfl, (agr rfl e_), (agr rfl (by first | rfl | (congr 1; omega) | (congr 1; simp; done) | (congr 1; simp only [IntKind.wrap_u64, IntKind.wrap_i64, IntKind.wrap_u8]; omega) | (congr 1 <;> omega))), trivial⟩, hB, hb1, (by omega), rfl⟩
    · clear hB
      clear hb1
      rintro m_ a_ w10 ⟨σ_, k, rfl, hB, hb1, hk, rfl⟩
      refine C_seq (C_seq (C_reg rfl ?_))
      refine L_run (R_move rfl) rfl ?_
      refine L_run (R_lss rfl rfl) rfl ?_
      refine L_nil (N_then ?_)
      refine C_if rfl (fun h17 => ?_) (fun h17 => ?_)
      · refine C_skip (N_then (C_seq (C_block ?_)))
        refine C_draw2 rfl mix ?_
        intro w11 hs6 hz6
        replace hB := gb_tr hB hs6
        replace hb1 := hb1.gb hs6
        refine ⟨fun W_ => Blk W_ g1 25 [.int .u64 ep, .int .i64 seq, .int .i64 first, .int .i64 (hs 0), .int .i64 (hs 1), .int .i64 (hs 2), .int .i64 (hs 3)] ∧ True, [0, 1, 2, 3, 4, 5, 6, 7, 8, 9, 10, 11, 12, 13, 14, 15, 16, 17], ?_⟩
        refine T_takeA (i := 0) rfl rfl (by kernel_rfl) (by kernel_rfl) (by kernel_rfl) (Y_of (fun _ ⟨hb1, _⟩ => R_move rfl)) ⟨hb1, trivial⟩ rfl ?_
        refine T_takeA (i := 1) rfl rfl (by kernel_rfl) (by kernel_rfl) (by kernel_rfl) (Y_of (fun _ ⟨hb1, _⟩ => R_move rfl)) ⟨hb1, trivial⟩ rfl ?_
        by_cases h18 : OkB ep seq first ∧ OkK k first hs
        · refine T_takeA (i := 2) rfl rfl (by kernel_rfl) (by kernel_rfl) (by kernel_rfl) (Y_yes rfl rfl rfl (decide_eq_true h18) (fun _ ⟨hb1, _⟩ => R_move rfl)) ⟨hb1, trivial⟩ rfl ?_
          refine T_takeA (i := 3) rfl rfl (by kernel_rfl) (by kernel_rfl) (by kernel_rfl) (Y_yes rfl rfl rfl (decide_eq_true h18) (fun _ ⟨hb1, _⟩ => R_field (r := 3) rfl fld25_3 rfl)) ⟨hb1, trivial⟩ rfl ?_
          have hl9 : k < 4 := by omega
          refine T_takeA (i := 4) rfl rfl (by kernel_rfl) (by kernel_rfl) (by kernel_rfl) (Y_yes rfl rfl rfl (decide_eq_true h18) (fun _ ⟨hb1, _⟩ => R_indexArr (sz := 1) (o := 3) (a := (k : Int)) (i := k) (r := (3 + k)) rfl rfl (by first | rfl | omega) arr23 hl9 (by first | omega | rfl | simp))) ⟨hb1, trivial⟩ rfl ?_
          refine T_takeA (i := 5) rfl rfl (by kernel_rfl) (by kernel_rfl) (by kernel_rfl) (Y_yes rfl rfl rfl (decide_eq_true h18) (fun _ ⟨hb1, _⟩ => R_load1 rfl scl3 (hb1.cell (four_at (pre := [.int .u64 ep, .int .i64 seq, .int .i64 first]) (post := []) (f := hs) (k := .i64) hl9)))) ⟨hb1, trivial⟩ rfl ?_
          refine T_takeA (i := 6) rfl rfl (by kernel_rfl) (by kernel_rfl) (by kernel_rfl) (Y_yes rfl rfl rfl (decide_eq_true h18) (fun _ ⟨hb1, _⟩ => R_geq rfl rfl)) ⟨hb1, trivial⟩ rfl ?_
          refine T_takeA (i := 7) rfl rfl (by kernel_rfl) (by kernel_rfl) (by kernel_rfl) (Y_of (fun _ ⟨hb1, _⟩ => R_pickT rfl (decide_eq_true h18) rfl)) ⟨hb1, trivial⟩ rfl ?_
          refine T_takeA (i := 8) rfl rfl (by kernel_rfl) (by kernel_rfl) (by kernel_rfl) (Y_of (fun _ ⟨hb1, _⟩ => R_move rfl)) ⟨hb1, trivial⟩ rfl ?_
          by_cases h19 : 0 ≤ (hs k)
          · refine T_takeA (i := 9) rfl rfl (by kernel_rfl) (by kernel_rfl) (by kernel_rfl) (Y_yes rfl rfl rfl (decide_eq_true h19) (fun _ ⟨hb1, _⟩ => R_move rfl)) ⟨hb1, trivial⟩ rfl ?_
            refine T_takeA (i := 10) rfl rfl (by kernel_rfl) (by kernel_rfl) (by kernel_rfl) (Y_yes rfl rfl rfl (decide_eq_true h19) (fun _ ⟨hb1, _⟩ => R_field (r := 3) rfl fld25_3 rfl)) ⟨hb1, trivial⟩ rfl ?_
            have hl10 : k < 4 := by omega
            refine T_takeA (i := 11) rfl rfl (by kernel_rfl) (by kernel_rfl) (by kernel_rfl) (Y_yes rfl rfl rfl (decide_eq_true h19) (fun _ ⟨hb1, _⟩ => R_indexArr (sz := 1) (o := 3) (a := (k : Int)) (i := k) (r := (3 + k)) rfl rfl (by first | rfl | omega) arr23 hl10 (by first | omega | rfl | simp))) ⟨hb1, trivial⟩ rfl ?_
            refine T_takeA (i := 12) rfl rfl (by kernel_rfl) (by kernel_rfl) (by kernel_rfl) (Y_yes rfl rfl rfl (decide_eq_true h19) (fun _ ⟨hb1, _⟩ => R_load1 rfl scl3 (hb1.cell (four_at (pre := [.int .u64 ep, .int .i64 seq, .int .i64 first]) (post := []) (f := hs) (k := .i64) hl10)))) ⟨hb1, trivial⟩ rfl ?_
            refine T_takeA (i := 13) rfl rfl (by kernel_rfl) (by kernel_rfl) (by kernel_rfl) (Y_yes rfl rfl rfl (decide_eq_true h19) (fun _ ⟨hb1, _⟩ => R_field (r := 2) rfl fld25_2 rfl)) ⟨hb1, trivial⟩ rfl ?_
            refine T_takeA (i := 14) rfl rfl (by kernel_rfl) (by kernel_rfl) (by kernel_rfl) (Y_yes rfl rfl rfl (decide_eq_true h19) (fun _ ⟨hb1, _⟩ => R_load1 rfl scl3 (hb1.cell (i := 2) rfl))) ⟨hb1, trivial⟩ rfl ?_
            refine T_takeA (i := 15) rfl rfl (by kernel_rfl) (by kernel_rfl) (by kernel_rfl) (Y_yes rfl rfl rfl (decide_eq_true h19) (fun _ ⟨hb1, _⟩ => R_lss rfl rfl)) ⟨hb1, trivial⟩ rfl ?_
            refine T_takeA (i := 16) rfl rfl (by kernel_rfl) (by kernel_rfl) (by kernel_rfl) (Y_of (fun _ ⟨hb1, _⟩ => R_pickT rfl (decide_eq_true h19) rfl)) ⟨hb1, trivial⟩ rfl ?_
            refine T_takeA (i := 17) rfl rfl (by kernel_rfl) (by kernel_rfl) (by kernel_rfl) (Y_of (fun _ ⟨hb1, _⟩ => R_assign rfl)) ⟨hb1, trivial⟩ rfl ?_
            refine T_done (by kernel_rfl) (CalmE.normal ?_)
            refine N_in (N_then (C_reg rfl ?_))
            refine L_run (R_move rfl) rfl ?_
            refine L_run (R_add64 rfl rfl (by omega)) rfl ?_
            refine L_run (R_assign rfl) rfl ?_
            refine L_nil (N_then ?_)
            have hyb := h18
            have e_ : Value.bool (decide ((hs k) < first)) = .bool (decide (OkB ep seq first ∧ OkK (k + 1) first hs)) := by
              first
                | exact bD (Iff.trans (by unfold OkB; omega) okB0.symm)
                | exact bT (okB0.2 (by unfold OkB; omega))
                | exact bF (fun h_ => by have q_ := okB0.1 h_; unfold OkB at q_; omega)
                | exact bF (fun h_ => hnb (okS.1 h_).1)
                | exact bF (fun h_ => by have q_ := (okS.1 h_).2; omega)
                | exact bD (Iff.trans ⟨fun q_ => ⟨hyb, by omega, q_⟩, fun q_ => q_.2.2⟩ okS.symm)
            exact ⟨4 - (k + 1), by omega, _, (k + 1), Ac_frg ⟨rfl, rfl, (agr rfl e_), (agr rfl (by first | rfl | (congr 1; omega) | (congr 1; simp; done) | (congr 1; simp only [IntKind.wrap_u64, IntKind.wrap_i64, IntKind.wrap_u8]; omega) | (congr 1 <;> omega))), trivial⟩, hB, hb1, (by omega), rfl⟩
          · refine T_takeA (i := 9) rfl rfl (by kernel_rfl) (by kernel_rfl) (by kernel_rfl) (Y_no rfl rfl rfl (decide_eq_false h19)) ⟨hb1, trivial⟩ rfl ?_
            refine T_takeA (i := 10) rfl rfl (by kernel_rfl) (by kernel_rfl) (by kernel_rfl) (Y_no rfl rfl rfl (decide_eq_false h19)) ⟨hb1, trivial⟩ rfl ?_
            refine T_takeA (i := 11) rfl rfl (by kernel_rfl) (by kernel_rfl) (by kernel_rfl) (Y_no rfl rfl rfl (decide_eq_false h19)) ⟨hb1, trivial⟩ rfl ?_
            refine T_takeA (i := 12) rfl rfl (by kernel_rfl) (by kernel_rfl) (by kernel_rfl) (Y_no rfl rfl rfl (decide_eq_false h19)) ⟨hb1, trivial⟩ rfl ?_
            refine T_takeA (i := 13) rfl rfl (by kernel_rfl) (by kernel_rfl) (by kernel_rfl) (Y_no rfl rfl rfl (decide_eq_false h19)) ⟨hb1, trivial⟩ rfl ?_
            refine T_takeA (i := 14) rfl rfl (by kernel_rfl) (by kernel_rfl) (by kernel_rfl) (Y_no rfl rfl rfl (decide_eq_false h19)) ⟨hb1, trivial⟩ rfl ?_
            refine T_takeA (i := 15) rfl rfl (by kernel_rfl) (by kernel_rfl) (by kernel_rfl) (Y_no rfl rfl rfl (decide_eq_false h19)) ⟨hb1, trivial⟩ rfl ?_
            refine T_takeA (i := 16) rfl rfl (by kernel_rfl) (by kernel_rfl) (by kernel_rfl) (Y_of (fun _ ⟨hb1, _⟩ => R_pickF rfl (decide_eq_false h19) rfl)) ⟨hb1, trivial⟩ rfl ?_
            refine T_takeA (i := 17) rfl rfl (by kernel_rfl) (by kernel_rfl) (by kernel_rfl) (Y_of (fun _ ⟨hb1, _⟩ => R_assign rfl)) ⟨hb1, trivial⟩ rfl ?_
            refine T_done (by kernel_rfl) (CalmE.normal ?_)
            refine N_in (N_then (C_reg rfl ?_))
            refine L_run (R_move rfl) rfl ?_
            refine L_run (R_add64 rfl rfl (by omega)) rfl ?_
            refine L_run (R_assign rfl) rfl ?_
            refine L_nil (N_then ?_)
            have hyb := h18
            have e_ : Value.bool false = .bool (decide (OkB ep seq first ∧ OkK (k + 1) first hs)) := by
              first
                | exact bD (Iff.trans (by unfold OkB; omega) okB0.symm)
                | exact bT (okB0.2 (by unfold OkB; omega))
                | exact bF (fun h_ => by have q_ := okB0.1 h_; unfold OkB at q_; omega)
                | exact bF (fun h_ => hnb (okS.1 h_).1)
                | exact bF (fun h_ => by have q_ := (okS.1 h_).2; omega)
                | exact bD (Iff.trans ⟨fun q_ => ⟨hyb, by omega, q_⟩, fun q_ => q_.2.2⟩ okS.symm)
            exact ⟨4 - (k + 1), by omega, _, (k + 1), Ac_frg ⟨rfl, rfl, (agr rfl e_), (agr rfl (by first | rfl | (congr 1; omega) | (congr 1; simp; done) | (congr 1; simp only [IntKind.wrap_u64, IntKind.wrap_i64, IntKind.wrap_u8]; omega) | (congr 1 <;> omega))), trivial⟩, hB, hb1, (by omega), rfl⟩
        · refine T_takeA (i := 2) rfl rfl (by kernel_rfl) (by kernel_rfl) (by kernel_rfl) (Y_no rfl rfl rfl (decide_eq_false h18)) ⟨hb1, trivial⟩ rfl ?_
          refine T_takeA (i := 3) rfl rfl (by kernel_rfl) (by kernel_rfl) (by kernel_rfl) (Y_no rfl rfl rfl (decide_eq_false h18)) ⟨hb1, trivial⟩ rfl ?_
          refine T_takeA (i := 4) rfl rfl (by kernel_rfl) (by kernel_rfl) (by kernel_rfl) (Y_no rfl rfl rfl (decide_eq_false h18)) ⟨hb1, trivial⟩ rfl ?_
          refine T_takeA (i := 5) rfl rfl (by kernel_rfl) (by kernel_rfl) (by kernel_rfl) (Y_no rfl rfl rfl (decide_eq_false h18)) ⟨hb1, trivial⟩ rfl ?_
          refine T_takeA (i := 6) rfl rfl (by kernel_rfl) (by kernel_rfl) (by kernel_rfl) (Y_no rfl rfl rfl (decide_eq_false h18)) ⟨hb1, trivial⟩ rfl ?_
          refine T_takeA (i := 7) rfl rfl (by kernel_rfl) (by kernel_rfl) (by kernel_rfl) (Y_of (fun _ ⟨hb1, _⟩ => R_pickF rfl (decide_eq_false h18) rfl)) ⟨hb1, trivial⟩ rfl ?_
          refine T_takeA (i := 8) rfl rfl (by kernel_rfl) (by kernel_rfl) (by kernel_rfl) (Y_of (fun _ ⟨hb1, _⟩ => R_move rfl)) ⟨hb1, trivial⟩ rfl ?_
          refine T_takeA (i := 9) rfl rfl (by kernel_rfl) (by kernel_rfl) (by kernel_rfl) (Y_no rfl rfl rfl rfl) ⟨hb1, trivial⟩ rfl ?_
          refine T_takeA (i := 10) rfl rfl (by kernel_rfl) (by kernel_rfl) (by kernel_rfl) (Y_no rfl rfl rfl rfl) ⟨hb1, trivial⟩ rfl ?_
          refine T_takeA (i := 11) rfl rfl (by kernel_rfl) (by kernel_rfl) (by kernel_rfl) (Y_no rfl rfl rfl rfl) ⟨hb1, trivial⟩ rfl ?_
          refine T_takeA (i := 12) rfl rfl (by kernel_rfl) (by kernel_rfl) (by kernel_rfl) (Y_no rfl rfl rfl rfl) ⟨hb1, trivial⟩ rfl ?_
          refine T_takeA (i := 13) rfl rfl (by kernel_rfl) (by kernel_rfl) (by kernel_rfl) (Y_no rfl rfl rfl rfl) ⟨hb1, trivial⟩ rfl ?_
          refine T_takeA (i := 14) rfl rfl (by kernel_rfl) (by kernel_rfl) (by kernel_rfl) (Y_no rfl rfl rfl rfl) ⟨hb1, trivial⟩ rfl ?_
          refine T_takeA (i := 15) rfl rfl (by kernel_rfl) (by kernel_rfl) (by kernel_rfl) (Y_no rfl rfl rfl rfl) ⟨hb1, trivial⟩ rfl ?_
          refine T_takeA (i := 16) rfl rfl (by kernel_rfl) (by kernel_rfl) (by kernel_rfl) (Y_of (fun _ ⟨hb1, _⟩ => R_pickF rfl rfl rfl)) ⟨hb1, trivial⟩ rfl ?_
          refine T_takeA (i := 17) rfl rfl (by kernel_rfl) (by kernel_rfl) (by kernel_rfl) (Y_of (fun _ ⟨hb1, _⟩ => R_assign rfl)) ⟨hb1, trivial⟩ rfl ?_
          refine T_done (by kernel_rfl) (CalmE.normal ?_)
          refine N_in (N_then (C_reg rfl ?_))
          refine L_run (R_move rfl) rfl ?_
          refine L_run (R_add64 rfl rfl (by omega)) rfl ?_
          refine L_run (R_assign rfl) rfl ?_
          refine L_nil (N_then ?_)
          have hnb := h18
          have e_ : Value.bool false = .bool (decide (OkB ep seq first ∧ OkK (k + 1) first hs)) := by
            first
              | exact bD (Iff.trans (by unfold OkB; omega) okB0.symm)
              | exact bT (okB0.2 (by unfold OkB; omega))
              | exact bF (fun h_ => by have q_ := okB0.1 h_; unfold OkB at q_; omega)
              | exact bF (fun h_ => hnb (okS.1 h_).1)
              | exact bF (fun h_ => by have q_ := (okS.1 h_).2; omega)
              | exact bD (Iff.trans ⟨fun q_ => ⟨hyb, by omega, q_⟩, fun q_ => q_.2.2⟩ okS.symm)
          exact ⟨4 - (k + 1), by omega, _, (k + 1), Ac_frg ⟨rfl, rfl, (agr rfl e_), (agr rfl (by first | rfl | (congr 1; omega) | (congr 1; simp; done) | (congr 1; simp only [IntKind.wrap_u64, IntKind.wrap_i64, IntKind.wrap_u8]; omega) | (congr 1 <;> omega))), trivial⟩, hB, hb1, (by omega), rfl⟩
      · refine C_exit (X_then (X_then (X_hit (N_then (C_seq (C_reg rfl ?_))))))
        refine L_run (R_move rfl) rfl ?_
        refine L_run (R_assign rfl) rfl ?_
        refine L_nil (N_then (C_ret ?_))
        refine ret1 Tryd.results17 rfl ?_
        obtain rfl : k = 4 := by omega
        exact ⟨hB, rfl⟩

theorem law25_Few {w : World} {t1 lo hi hi2 : Nat} {A : Option Addr} {c : Nat} {l : List SegD} (hS : Sli t1 lo hi w A (fl encG l)) (hD : DeepG hi2 w l) (hb : l.length ≤ 2000000000000) :
    Runs Tryd.prog 4 #[.slice A l.length c] w (fun v w' => w.grownBy w' none ∧ v = .bool (decide (FewL l))) := by
  have hB := gb_refl w none
  replace hD : DeepG w.heap.size w l := fun y hy => (hD y hy).top
  replace hS := hS.top
  refine enter Tryd.func4 Tryd.ntmps4 rfl rfl ?_
  refine C_seq (C_reg rfl ?_)
  refine L_run (R_assign rfl) rfl ?_
  refine L_nil (N_then (C_seq (C_reg rfl ?_)))
  refine L_run (R_assign rfl) rfl ?_
  refine L_nil (N_then (C_seq (C_seq (C_reg rfl ?_))))
  refine L_run (R_assign rfl) rfl ?_
  refine L_nil (N_then (C_block ?_))
  refine C_loop (fun m_ a_ w_ => ∃ (σ_ : Nat → Value) (i : Nat), a_ = Ac 49 σ_ [] [(0, .slice A l.length c), (2, .bool false), (3, .int .i64 (cnt (l.take i) : Int)), (4, .int .i64 (i : Int))] ∧ w.grownBy w_ none ∧ Sli t1 lo w.heap.size w_ A (fl encG l) ∧ DeepG w.heap.size w_ l ∧ (i ≤ l.length) ∧ (∀ g ∈ l.take i, FewG g) ∧ (cnt (l.take i) ≤ 60 * i) ∧ l.length - i = m_) (l.length - 0) ?_ ?_
  · exact ⟨_, 0, Ac_frg ⟨rfl, rfl, (agr rfl (by first | rfl | (congr 1; omega) | (congr 1; simp; done) | (congr 1; simp only [IntKind.wrap_u64, IntKind.wrap_i64, IntKind.wrap_u8]; omega) | (congr 1 <;> omega))), (agr rfl (by first | rfl | (congr 1; omega) | (congr 1; simp; done) | (congr 1; simp only [IntKind.wrap_u64, IntKind.wrap_i64, IntKind.wrap_u8]; omega) | (congr 1 <;> omega))), trivial⟩, hB, hS, hD, (by omega), (by intro g hg; simp at hg), (by simp [cnt]), rfl⟩
  · clear hB
    clear hS hD
    rintro m_ a_ w1 ⟨σ_, i, rfl, hB, hS, hD, hk, hg_, hcn, rfl⟩
    refine C_seq (C_seq (C_reg rfl ?_))
    refine L_run (R_move rfl) rfl ?_
    refine L_run (R_move rfl) rfl ?_
    refine L_run (R_lenSl rfl slc30) rfl ?_
    refine L_run (R_lss rfl rfl) rfl ?_
    refine L_nil (N_then ?_)
    refine C_if rfl (fun h1 => ?_) (fun h1 => ?_)
    · refine C_skip (N_then (C_seq (C_block (C_seq (C_seq (C_reg rfl ?_))))))
      refine L_run (R_move rfl) rfl ?_
      refine L_run (R_move rfl) rfl ?_
      have hli : i < l.length := by first | omega | (simp; omega)
      refine T_index (xs := l) (i := i) EncG rfl rfl (by first | rfl | omega) slc30 hli hS rfl ?_
      intro g1 o1 ha1
      refine L_run (R_field rfl fld29_1 rfl) rfl ?_
      refine L_run (R_load1 rfl scl26 (ha1 7 _ rfl)) rfl ?_
      refine L_run (R_lenSl rfl slc26) rfl ?_
      refine L_run (R_gtr rfl rfl) rfl ?_
      refine L_nil (N_then ?_)
      refine C_if rfl (fun h2 => ?_) (fun h2 => ?_)
      · refine C_seq (C_reg rfl ?_)
        refine L_run (R_assign rfl) rfl ?_
        refine L_nil (N_then (C_ret (R_then (R_in (R_then (R_then (R_in (R_then ?_))))))))
        refine ret1 Tryd.results4 rfl ?_
        exact ⟨hB, bF (fun h => by have q_ := (h.1 _ (List.getElem_mem hli)).1; omega)⟩
      · refine C_skip (N_then (C_seq (C_reg rfl ?_)))
        refine L_run (R_assign rfl) rfl ?_
        refine L_nil (N_then (C_block ?_))
        refine C_loop (fun m_ a_ w_ => ∃ (σ_ : Nat → Value) (k : Nat), a_ = Ac 49 σ_ [] [(0, .slice A l.length c), (2, .bool false), (3, .int .i64 ((cnt (l.take i) + k : Nat) : Int)), (4, .int .i64 (i : Int)), (5, .int .i64 (k : Int))] ∧ w.grownBy w_ none ∧ Sli t1 lo w.heap.size w_ A (fl encG l) ∧ DeepG w.heap.size w_ l ∧ At w_ g1 o1 [.int .u64 ((l[i]).ep), .int .i64 ((l[i]).seq), .int .i64 ((l[i]).first), .int .i64 ((l[i]).hs 0), .int .i64 ((l[i]).hs 1), .int .i64 ((l[i]).hs 2), .int .i64 ((l[i]).hs 3), .slice ((l[i]).ra) ((l[i]).recs.length) ((l[i]).rc), .slice ((l[i]).pa) ((l[i]).pn) ((l[i]).pc), .int .i64 ((l[i]).en), .int .i64 ((l[i]).kind)] ∧ (k ≤ (l[i]).recs.length) ∧ (∀ r ∈ (l[i]).recs.take k, r.dn ≤ 600) ∧ (l[i]).recs.length - k = m_) ((l[i]).recs.length - 0) ?_ ?_
        · exact ⟨_, 0, Ac_frg ⟨rfl, rfl, (agr rfl (by first | rfl | (congr 1; omega) | (congr 1; simp; done) | (congr 1; simp only [IntKind.wrap_u64, IntKind.wrap_i64, IntKind.wrap_u8]; omega) | (congr 1 <;> omega))), rfl, (agr rfl (by first | rfl | (congr 1; omega) | (congr 1; simp; done) | (congr 1; simp only [IntKind.wrap_u64, IntKind.wrap_i64, IntKind.wrap_u8]; omega) | (congr 1 <;> omega))), trivial⟩, hB, hS, hD, ha1, (by omega), (by intro r hr; simp at hr), rfl⟩
        · clear hB
          clear hS hD ha1
          rintro m_ a_ w2 ⟨σ_, k, rfl, hB, hS, hD, ha1, hk2, hr_, rfl⟩
          refine C_seq (C_seq (C_reg rfl ?_))
          refine L_run (R_move rfl) rfl ?_
          refine L_run (R_move rfl) rfl ?_
          refine L_run (R_move rfl) rfl ?_
          have hl2 : i < l.length := by first | omega | (simp; omega)
          refine T_index (xs := l) (i := i) EncG rfl rfl (by first | rfl | omega) slc30 hl2 hS rfl ?_
          intro g2 o2 ha2
          refine L_run (R_field rfl fld29_1 rfl) rfl ?_
          refine L_run (R_load1 rfl scl26 (ha2 7 _ rfl)) rfl ?_
          refine L_run (R_lenSl rfl slc26) rfl ?_
          refine L_run (R_lss rfl rfl) rfl ?_
          refine L_nil (N_then ?_)
          refine C_if rfl (fun h3 => ?_) (fun h3 => ?_)
          · refine C_skip (N_then (C_seq (C_block (C_seq (C_seq (C_reg rfl ?_))))))
            refine L_run (R_move rfl) rfl ?_
            refine L_run (R_move rfl) rfl ?_
            have hl3 : i < l.length := by first | omega | (simp; omega)
            refine T_index (xs := l) (i := i) EncG rfl rfl (by first | rfl | omega) slc30 hl3 hS rfl ?_
            intro g3 o3 ha3
            refine L_run (R_field rfl fld29_1 rfl) rfl ?_
            refine L_run (R_load1 rfl scl26 (ha3 7 _ rfl)) rfl ?_
            refine L_run (R_move rfl) rfl ?_
            have hlr : k < ((l[i]).recs).length := by first | omega | (simp; omega)
            refine T_index (xs := (l[i]).recs) (i := k) EncR rfl rfl (by first | rfl | omega) slc26 hlr (hD.get (i := i) (by first | assumption | omega | (simp; omega))) rfl ?_
            intro g4 o4 ha4
            refine L_run (R_field rfl fld48_4 rfl) rfl ?_
            refine L_run (R_load1 rfl scl46 (ha4 4 _ rfl)) rfl ?_
            refine L_run (R_lenSl rfl slc46) rfl ?_
            refine L_run (R_gtr rfl rfl) rfl ?_
            refine L_nil (N_then ?_)
            refine C_if rfl (fun h4 => ?_) (fun h4 => ?_)
            · refine C_seq (C_reg rfl ?_)
              refine L_run (R_assign rfl) rfl ?_
              refine L_nil (N_then (C_ret (R_then (R_in (R_then (R_then (R_in (R_in (R_then (R_then (R_in (R_then ?_))))))))))))
              refine ret1 Tryd.results4 rfl ?_
              exact ⟨hB, bF (fun h => by have q_ := (h.1 _ (List.getElem_mem hli)).2 _ (List.getElem_mem hlr); omega)⟩
            · refine C_skip (N_then (C_reg rfl ?_))
              refine L_run (R_move rfl) rfl ?_
              refine L_run (R_add64 rfl rfl (by omega)) rfl ?_
              refine L_run (R_assign rfl) rfl ?_
              refine L_nil (N_in (N_then (C_reg rfl ?_)))
              refine L_run (R_move rfl) rfl ?_
              refine L_run (R_add64 rfl rfl (by omega)) rfl ?_
              refine L_run (R_assign rfl) rfl ?_
              refine L_nil (N_then ?_)
              exact ⟨(l[i]).recs.length - (k + 1), by omega, _, (k + 1), Ac_frg ⟨rfl, rfl, (agr rfl (by first | rfl | (congr 1; omega) | (congr 1; simp; done) | (congr 1; simp only [IntKind.wrap_u64, IntKind.wrap_i64, IntKind.wrap_u8]; omega) | (congr 1 <;> omega))), rfl, (agr rfl (by first | rfl | (congr 1; omega) | (congr 1; simp; done) | (congr 1; simp only [IntKind.wrap_u64, IntKind.wrap_i64, IntKind.wrap_u8]; omega) | (congr 1 <;> omega))), trivial⟩, hB, hS, hD, ha1, (by omega), (fewr_succ hr_ hlr (by omega)), rfl⟩
          · refine C_exit (X_then (X_then (X_hit (N_in (N_then (C_reg rfl ?_))))))
            refine L_run (R_move rfl) rfl ?_
            refine L_run (R_add64 rfl rfl (by omega)) rfl ?_
            refine L_run (R_assign rfl) rfl ?_
            refine L_nil (N_then ?_)
            have hcs := cnt_succ hli
            exact ⟨l.length - (i + 1), by omega, _, (i + 1), Ac_frg ⟨rfl, rfl, (agr rfl (by first | rfl | (congr 1; omega) | (congr 1; simp; done) | (congr 1; simp only [IntKind.wrap_u64, IntKind.wrap_i64, IntKind.wrap_u8]; omega) | (congr 1 <;> omega))), (agr rfl (by first | rfl | (congr 1; omega) | (congr 1; simp; done) | (congr 1; simp only [IntKind.wrap_u64, IntKind.wrap_i64, IntKind.wrap_u8]; omega) | (congr 1 <;> omega))), trivial⟩, hB, hS, hD, (by omega), (fewg_succ hg_ hli ⟨by omega, by have q_ := hr_; rw [List.take_of_length_le (by omega)] at q_; exact q_⟩), (by omega), rfl⟩
    · refine C_exit (X_then (X_then (X_hit (N_then (C_seq (C_reg rfl ?_))))))
      refine L_run (R_move rfl) rfl ?_
      refine L_run (R_lenSl rfl slc30) rfl ?_
      refine L_run (R_leq rfl rfl) rfl ?_
      refine L_run (R_move rfl) rfl ?_
      refine L_splitD (p := (l.length : Int) ≤ 10) (fun h5 => ?_) (fun h5 => ?_)
      · refine L_yes rfl rfl rfl (decide_eq_true h5) ?_
        refine L_run (R_move rfl) rfl ?_
        refine L_yes rfl rfl rfl (decide_eq_true h5) ?_
        refine L_run (R_leq rfl rfl) rfl ?_
        refine L_run (R_pickT rfl (decide_eq_true h5) rfl) rfl ?_
        refine L_run (R_assign rfl) rfl ?_
        refine L_nil (N_then (C_ret ?_))
        refine ret1 Tryd.results4 rfl ?_
        rw [List.take_of_length_le (by omega)] at *
        exact ⟨hB, bD ⟨fun h => ⟨hg_, by omega, by omega⟩, fun h => by have := h.2; omega⟩⟩
      · refine L_no rfl rfl rfl (decide_eq_false h5) rfl ?_
        refine L_no rfl rfl rfl (decide_eq_false h5) rfl ?_
        refine L_run (R_pickF rfl (decide_eq_false h5) rfl) rfl ?_
        refine L_run (R_assign rfl) rfl ?_
        refine L_nil (N_then (C_ret ?_))
        refine ret1 Tryd.results4 rfl ?_
        rw [List.take_of_length_le (by omega)] at *
        exact ⟨hB, bF (fun h => by have := h.2; omega)⟩

theorem law25_Own {w : World} {t1 lo hi : Nat} {A : Option Addr} {c : Nat} {l : List SegD} (hS : Sli t1 lo hi w A (fl encG l)) (hb : l.length ≤ 1000000) :
    Runs Tryd.prog 11 #[.slice A l.length c] w (fun v w' => w.grownBy w' none ∧ ∃ A' c', v = .slice A' l.length c' ∧ World.ownsRow w' w.heap.size 33 11 (.slice A' l.length c') l.length (fl encG l)) := by
  have hB := gb_refl w none
  replace hS := hS.top
  refine enter Tryd.func11 Tryd.ntmps11 rfl rfl ?_
  refine C_seq (C_reg rfl ?_)
  refine L_run (R_assign rfl) rfl ?_
  refine L_nil (N_then (C_seq (C_reg rfl ?_)))
  refine L_run (R_assign rfl) rfl ?_
  refine L_nil (N_then (C_seq (C_seq (C_reg rfl ?_))))
  refine L_run (R_assign rfl) rfl ?_
  refine L_nil (N_then (C_block ?_))
  refine C_loop (fun m_ a_ w_ => ∃ (σ_ : Nat → Value) (A' : Option Addr) (c' : Nat) (k : Nat), a_ = Ac 19 σ_ [] [(0, .slice A l.length c), (2, .slice none 0 0), (3, .slice A' ((l.take k).length) c'), (4, .int .i64 (k : Int))] ∧ w.grownBy w_ none ∧ Sli t1 lo w.heap.size w_ A (fl encG l) ∧ World.ownsRow w_ w.heap.size 33 11 (.slice A' (l.take k).length c') (l.take k).length (fl encG (l.take k)) ∧ (k ≤ l.length) ∧ l.length - k = m_) (l.length - 0) ?_ ?_
  · exact ⟨_, none, 0, 0, Ac_frg ⟨rfl, rfl, (agr rfl (by first | rfl | (congr 1; omega) | (congr 1; simp; done) | (congr 1; simp only [IntKind.wrap_u64, IntKind.wrap_i64, IntKind.wrap_u8]; omega) | (congr 1 <;> omega))), (agr rfl (by first | rfl | (congr 1; omega) | (congr 1; simp; done) | (congr 1; simp only [IntKind.wrap_u64, IntKind.wrap_i64, IntKind.wrap_u8]; omega) | (congr 1 <;> omega))), trivial⟩, hB, hS, (own_nil w.heap.size 33 11 _), (Nat.zero_le _), rfl⟩
  · clear hB
    clear hS
    rintro m_ a_ w1 ⟨σ_, A', c', k, rfl, hB, hS, ho, hk, rfl⟩
    refine C_seq (C_seq (C_reg rfl ?_))
    refine L_run (R_move rfl) rfl ?_
    refine L_run (R_move rfl) rfl ?_
    refine L_run (R_lenSl rfl slc30) rfl ?_
    refine L_run (R_lss rfl rfl) rfl ?_
    refine L_nil (N_then ?_)
    refine C_if rfl (fun h1 => ?_) (fun h1 => ?_)
    · refine C_skip (N_then (C_seq (C_block (C_reg rfl ?_))))
      refine L_run (R_move rfl) rfl ?_
      refine L_run (R_move rfl) rfl ?_
      refine L_run (R_move rfl) rfl ?_
      have hli : k < l.length := by first | omega | (simp; omega)
      refine T_index (xs := l) (i := k) EncG rfl rfl (by first | rfl | omega) slc30 hli hS rfl ?_
      intro g1 o1 ha1
      refine L_run (R_loadA (vs := [.int .u64 ((l[k]).ep), .int .i64 ((l[k]).seq), .int .i64 ((l[k]).first), .int .i64 ((l[k]).hs 0), .int .i64 ((l[k]).hs 1), .int .i64 ((l[k]).hs 2), .int .i64 ((l[k]).hs 3), .slice ((l[k]).ra) ((l[k]).recs.length) ((l[k]).rc), .slice ((l[k]).pa) ((l[k]).pn) ((l[k]).pc), .int .i64 ((l[k]).en), .int .i64 ((l[k]).kind)]) rfl agg29 (At.pre ha1 rfl) rfl) rfl ?_
      refine L_buildSlice (pv := [(0, .agg #[.int .u64 ((l[k]).ep), .int .i64 ((l[k]).seq), .int .i64 ((l[k]).first), .int .i64 ((l[k]).hs 0), .int .i64 ((l[k]).hs 1), .int .i64 ((l[k]).hs 2), .int .i64 ((l[k]).hs 3), .slice ((l[k]).ra) ((l[k]).recs.length) ((l[k]).rc), .slice ((l[k]).pa) ((l[k]).pn) ((l[k]).pc), .int .i64 ((l[k]).en), .int .i64 ((l[k]).kind)])]) (cs := [.int .u64 ((l[k]).ep), .int .i64 ((l[k]).seq), .int .i64 ((l[k]).first), .int .i64 ((l[k]).hs 0), .int .i64 ((l[k]).hs 1), .int .i64 ((l[k]).hs 2), .int .i64 ((l[k]).hs 3), .slice ((l[k]).ra) ((l[k]).recs.length) ((l[k]).rc), .slice ((l[k]).pa) ((l[k]).pn) ((l[k]).pc), .int .i64 ((l[k]).en), .int .i64 ((l[k]).kind)]) slc43 zer33 rfl rfl (by kernel_rfl) rfl ?_
      intro g2 w2 eg1 hb1 hs1 hz1
      have ge1 : w.heap.size ≤ g2 := eg_ge hB eg1
      have hap1 : ∀ k_, (Value.slice A' (l.take k).length c').ownBlock = some k_ → k_ ≠ g2 := fun k_ hk => by have h_ := (World.ownsRow.lt ho k_ hk).2; omega
      replace hB := gb_tr hB hs1
      replace hS := hS.gb hs1
      replace ho := own_gb ho hs1
      replace ha1 := At.gb ha1 hs1 (by simp)
      refine T_append (xs := l.take k) (ys := [(l[k])]) EncG slc43 rfl rfl ho (Blk.sli (m := 0) hb1) (by rw [List.length_take]; simp; omega) (by have := hB.size; omega) rfl ?_
      intro A_1 c_1 w3 ho1 hs2 hat1
      replace hB := gb_tro hB ho hs2 (Nat.le_refl _)
      replace hS := hS.grown hs2 (fun k hk => .inr (Nat.le_trans (Nat.le_refl _) (World.ownsRow.lt ho k hk).1))
      refine L_run (R_assign rfl) rfl ?_
      refine L_nil (N_in (N_then (C_reg rfl ?_)))
      refine L_run (R_move rfl) rfl ?_
      refine L_run (R_add64 rfl rfl (by omega)) rfl ?_
      refine L_run (R_assign rfl) rfl ?_
      refine L_nil (N_then ?_)
      have e_ : (l.take k) ++ ([(l[k])]) = l.take (k + 1) := (List.take_succ_eq_append_getElem hli).symm
      rw [e_] at ho1 ⊢
      exact ⟨l.length - (k + 1), by omega, _, A_1, c_1, (k + 1), Ac_frg ⟨rfl, rfl, rfl, (agr rfl (by first | rfl | (congr 1; omega) | (congr 1; simp; done) | (congr 1; simp only [IntKind.wrap_u64, IntKind.wrap_i64, IntKind.wrap_u8]; omega) | (congr 1 <;> omega))), trivial⟩, hB, hS, ho1, (by omega), rfl⟩
    · refine C_exit (X_then (X_then (X_hit (N_then (C_seq (C_reg rfl ?_))))))
      refine L_run (R_move rfl) rfl ?_
      refine L_run (R_assign rfl) rfl ?_
      refine L_nil (N_then (C_ret ?_))
      refine ret1 Tryd.results11 rfl ?_
      have e_ : l.take k = l := List.take_of_length_le (by omega)
      rw [e_] at ho ⊢; exact ⟨hB, _, _, rfl, (own_lo ho (Nat.le_refl _))⟩

def NeedL (l : List SegD) : Prop := 0 < l.length ∧ ∀ h : l.length - 1 < l.length, (l[l.length - 1]'h).kind ≠ 1
instance (l : List SegD) : Decidable (NeedL l) := by unfold NeedL; infer_instance
theorem needs_ok {w : World} {t1 lo hi : Nat} {A : Option Addr} {c : Nat} {l : List SegD} (hS : Sli t1 lo hi w A (fl encG l)) (hb : l.length ≤ 1000000) :
    Runs Tryd.prog 10 #[.slice A l.length c] w (fun v w' => w.grownBy w' none ∧ v = .bool (decide (NeedL l))) := by
  have hB := gb_refl w none
  replace hS := hS.top
  refine enter Tryd.func10 Tryd.ntmps10 rfl rfl ?_
  refine C_seq (C_reg rfl ?_)
  refine L_run (R_assign rfl) rfl ?_
  refine L_nil (N_then (C_seq (C_reg rfl ?_)))
  refine L_run (R_move rfl) rfl ?_
  refine L_run (R_lenSl rfl slc43) rfl ?_
  refine L_run (R_gtr rfl rfl) rfl ?_
  refine L_run (R_move rfl) rfl ?_
  refine L_splitD (p := 0 < (l.length : Int)) (fun h1 => ?_) (fun h1 => ?_)
  · refine L_yes rfl rfl rfl (decide_eq_true h1) ?_
    refine L_run (R_move rfl) rfl ?_
    refine L_yes rfl rfl rfl (decide_eq_true h1) ?_
    refine L_run (R_move rfl) rfl ?_
    refine L_yes rfl rfl rfl (decide_eq_true h1) ?_
    refine L_run (R_lenSl rfl slc43) rfl ?_
    refine L_yes rfl rfl rfl (decide_eq_true h1) ?_
    refine L_run (R_sub64 rfl rfl (by omega)) rfl ?_
    refine L_yes rfl rfl rfl (decide_eq_true h1) ?_
    have hl1 : (l.length - 1) < l.length := by first | omega | (simp; omega)
    refine T_index (xs := l) (i := (l.length - 1)) EncG rfl rfl (by first | rfl | omega) slc43 hl1 hS rfl ?_
    intro g1 o1 ha1
    refine L_yes rfl rfl rfl (decide_eq_true h1) ?_
    refine L_run (R_field rfl fld33_4 rfl) rfl ?_
    refine L_yes rfl rfl rfl (decide_eq_true h1) ?_
    refine L_run (R_load1 rfl scl3 (ha1 10 _ rfl)) rfl ?_
    refine L_yes rfl rfl rfl (decide_eq_true h1) ?_
    refine L_run (R_neq rfl rfl) rfl ?_
    refine L_run (R_pickT rfl (decide_eq_true h1) rfl) rfl ?_
    refine L_run (R_assign rfl) rfl ?_
    refine L_nil (N_then (C_ret ?_))
    refine ret1 Tryd.results10 rfl ?_
    exact ⟨hB, bD ⟨fun h_ => ⟨by omega, fun _ => h_⟩, fun h_ => h_.2 (by omega)⟩⟩
  · refine L_no rfl rfl rfl (decide_eq_false h1) rfl ?_
    refine L_no rfl rfl rfl (decide_eq_false h1) rfl ?_
    refine L_no rfl rfl rfl (decide_eq_false h1) rfl ?_
    refine L_no rfl rfl rfl (decide_eq_false h1) rfl ?_
    refine L_no rfl rfl rfl (decide_eq_false h1) rfl ?_
    refine L_no rfl rfl rfl (decide_eq_false h1) rfl ?_
    refine L_no rfl rfl rfl (decide_eq_false h1) rfl ?_
    refine L_no rfl rfl rfl (decide_eq_false h1) rfl ?_
    refine L_run (R_pickF rfl (decide_eq_false h1) rfl) rfl ?_
    refine L_run (R_assign rfl) rfl ?_
    refine L_nil (N_then (C_ret ?_))
    refine ret1 Tryd.results10 rfl ?_
    exact ⟨hB, bF (fun h_ => by first | (have q_ := h_.1; omega) | exact absurd (h_.2 (by omega)) (by assumption))⟩

end Go.Proofs.YtbpjdcpfphnccaaDoor
