/-
  Contracts of the package record and of its reference: a record's bytes.
-/
import Derived.Test.YtbpjdcpfphnccaaDoorTj
namespace Go.Proofs.YtbpjdcpfphnccaaDoor
open Go.RowKit Gw Pl
set_option linter.unusedVariables false
set_option linter.unusedSimpArgs false
theorem agg48 : aggB Tryd.prog 48 5 = true := by kernel_rfl
theorem cb22 : callB Tryd.prog 22 = true := by kernel_rfl
theorem cb23 : callB Tryd.prog 23 = true := by kernel_rfl
theorem cb24 : callB Tryd.prog 24 = true := by kernel_rfl
theorem cb27 : callB Tryd.prog 27 = true := by kernel_rfl
theorem cb28 : callB Tryd.prog 28 = true := by kernel_rfl
theorem cb33 : callB Tryd.prog 33 = true := by kernel_rfl
theorem cb38 : callB Tryd.prog 38 = true := by kernel_rfl
theorem fld48_0 : fldB Tryd.prog 48 0 0 = true := by kernel_rfl
theorem fld48_1 : fldB Tryd.prog 48 1 1 = true := by kernel_rfl
theorem fld48_2 : fldB Tryd.prog 48 2 2 = true := by kernel_rfl
theorem fld48_3 : fldB Tryd.prog 48 3 3 = true := by kernel_rfl
theorem fld48_4 : fldB Tryd.prog 48 4 4 = true := by kernel_rfl
/-! ### records -/
def RecOk (kind chain lsn prev : Int) : Prop := 1 ≤ kind ∧ kind ≤ 9 ∧ 0 ≤ chain ∧ chain ≤ 3 ∧ 1 ≤ lsn ∧ lsn ≤ 2147483647 ∧ 0 ≤ prev ∧ prev < lsn
instance {kind chain lsn prev : Int} : Decidable (RecOk kind chain lsn prev) := by unfold RecOk; infer_instance
def recB (kind chain lsn prev : Int) (xs : List UInt8) : List UInt8 := (([UInt8.ofNat kind.toNat, UInt8.ofNat chain.toNat] ++ vput lsn.toNat) ++ vput (lsn - prev).toNat) ++ xs
def RecFit (kind chain lsn prev : Int) (xs : List UInt8) : Prop := RecOk kind chain lsn prev ∧ (recB kind chain lsn prev xs).length ≤ 512
instance {kind chain lsn prev : Int} {xs : List UInt8} : Decidable (RecFit kind chain lsn prev xs) := by unfold RecFit; infer_instance
def recY (kind chain lsn prev : Int) (xs : List UInt8) : List UInt8 := if RecFit kind chain lsn prev xs then recB kind chain lsn prev xs else []
theorem recY_no {kind chain lsn prev : Int} {xs : List UInt8} (h : ¬ RecFit kind chain lsn prev xs) : recY kind chain lsn prev xs = [] := if_neg h
theorem recY_yes {kind chain lsn prev : Int} {xs : List UInt8} (h : RecFit kind chain lsn prev xs) : recY kind chain lsn prev xs = recB kind chain lsn prev xs := if_pos h
theorem recY_len {kind chain lsn prev : Int} {xs : List UInt8} : (recY kind chain lsn prev xs).length ≤ 512 := by
  unfold recY
  split
  · rename_i h; exact h.2
  · exact Nat.zero_le _
theorem recB_len {kind chain lsn prev : Int} {xs : List UInt8} : (recB kind chain lsn prev xs).length = 2 + (vput lsn.toNat).length + (vput (lsn - prev).toNat).length + xs.length := by simp only [recB, List.length_append, List.length_cons, List.length_nil]
theorem u8_int {z : Int} (h : 0 ≤ z ∧ z ≤ 255) : Value.int .u8 (IntKind.u8.wrap z) = .int .u8 ((UInt8.ofNat z.toNat).toNat : Int) := by
  obtain ⟨n, rfl⟩ : ∃ n : Nat, z = (n : Int) := ⟨z.toNat, by omega⟩
  rw [Int.toNat_natCast]
  refine congrArg (Value.int .u8) ?_
  rw [IntKind.wrap_u8, n256 _ (by omega)]
  omega
theorem u64_int {z : Int} (h : 0 ≤ z ∧ z ≤ 9223372036854775807) : Value.int .u64 (IntKind.u64.wrap z) = .int .u64 ((z.toNat : Nat) : Int) := by
  refine congrArg (Value.int .u64) ?_
  rw [IntKind.wrap_u64]
  omega
theorem vput_div {m : Nat} (h : 128 ≤ m) : (vput m).length = (vput (m / 128)).length + 1 := by rw [vput_ge h]; rfl
theorem rec_right {w : World} {kind chain lsn prev : Int} {A : Option Addr} {c : Nat} {n : Nat} :
    Runs Tryd.prog 22 #[.agg #[.int .i64 kind, .int .i64 chain, .int .i64 lsn, .int .i64 prev, .slice A n c]] w (fun v w' => w.grownBy w' none ∧ v = .bool (decide (RecOk kind chain lsn prev))) := by
  have hB := gb_refl w none
  refine enter Tryd.func22 Tryd.ntmps22 rfl rfl ?_
  refine C_seq (C_reg rfl ?_)
  refine L_box (cs := [.int .i64 kind, .int .i64 chain, .int .i64 lsn, .int .i64 prev, .slice A n c]) rfl rfl rfl ?_
  intro g1 w1 eg1 hb1 hs1 hz1
  have ge1 : w.heap.size ≤ g1 := eg_ge hB eg1
  replace hB := gb_tr hB hs1
  refine L_run (R_assign rfl) rfl ?_
  refine L_nil (N_then (C_seq (C_block (C_seq (C_reg rfl ?_)))))
  refine L_run (R_field (r := 0) rfl fld48_0 rfl) rfl ?_
  refine L_run (R_load1 rfl scl3 (hb1.cell (i := 0) rfl)) rfl ?_
  refine L_run (R_lss rfl rfl) rfl ?_
  refine L_run (R_move rfl) rfl ?_
  refine L_splitD (p := kind < 1) (fun h1 => ?_) (fun h1 => ?_)
  · refine L_no rfl rfl rfl (decide_eq_true h1) rfl ?_
    refine L_no rfl rfl rfl (decide_eq_true h1) rfl ?_
    refine L_no rfl rfl rfl (decide_eq_true h1) rfl ?_
    refine L_run (R_pickT rfl (decide_eq_true h1) rfl) rfl ?_
    refine L_run (R_assign rfl) rfl ?_
    refine L_nil (N_then (C_condT rfl rfl (C_seq (C_reg rfl ?_))))
    refine L_run (R_assign rfl) rfl ?_
    refine L_nil (N_then (C_ret (R_in (R_then ?_))))
    refine ret1 Tryd.results22 rfl ?_
    first
      | (exfalso; omega)
      | (exact ⟨hB, by first | (rw [bF' (by unfold RecOk; omega)]) | (rw [bT' (by unfold RecOk; omega)]) | exact bD (by unfold RecOk; omega)⟩)
  · refine L_yes rfl rfl rfl (decide_eq_false h1) ?_
    refine L_run (R_field (r := 0) rfl fld48_0 rfl) rfl ?_
    refine L_yes rfl rfl rfl (decide_eq_false h1) ?_
    refine L_run (R_load1 rfl scl3 (hb1.cell (i := 0) rfl)) rfl ?_
    refine L_yes rfl rfl rfl (decide_eq_false h1) ?_
    refine L_run (R_gtr rfl rfl) rfl ?_
    refine L_run (R_pickF rfl (decide_eq_false h1) rfl) rfl ?_
    refine L_run (R_assign rfl) rfl ?_
    refine L_nil (N_then ?_)
    refine C_if rfl (fun h2 => ?_) (fun h2 => ?_)
    · refine C_seq (C_reg rfl ?_)
      refine L_run (R_assign rfl) rfl ?_
      refine L_nil (N_then (C_ret (R_in (R_then ?_))))
      refine ret1 Tryd.results22 rfl ?_
      first
        | (exfalso; omega)
        | (exact ⟨hB, by first | (rw [bF' (by unfold RecOk; omega)]) | (rw [bT' (by unfold RecOk; omega)]) | exact bD (by unfold RecOk; omega)⟩)
    · refine C_seq (C_reg rfl ?_)
      refine L_run (R_field (r := 1) rfl fld48_1 rfl) rfl ?_
      refine L_run (R_load1 rfl scl3 (hb1.cell (i := 1) rfl)) rfl ?_
      refine L_run (R_lss rfl rfl) rfl ?_
      refine L_run (R_move rfl) rfl ?_
      refine L_splitD (p := chain < 0) (fun h3 => ?_) (fun h3 => ?_)
      · refine L_no rfl rfl rfl (decide_eq_true h3) rfl ?_
        refine L_no rfl rfl rfl (decide_eq_true h3) rfl ?_
        refine L_no rfl rfl rfl (decide_eq_true h3) rfl ?_
        refine L_run (R_pickT rfl (decide_eq_true h3) rfl) rfl ?_
        refine L_run (R_assign rfl) rfl ?_
        refine L_nil (N_then (C_condT rfl rfl (C_seq (C_reg rfl ?_))))
        refine L_run (R_assign rfl) rfl ?_
        refine L_nil (N_then (C_ret (R_in (R_then ?_))))
        refine ret1 Tryd.results22 rfl ?_
        first
          | (exfalso; omega)
          | (exact ⟨hB, by first | (rw [bF' (by unfold RecOk; omega)]) | (rw [bT' (by unfold RecOk; omega)]) | exact bD (by unfold RecOk; omega)⟩)
      · refine L_yes rfl rfl rfl (decide_eq_false h3) ?_
        refine L_run (R_field (r := 1) rfl fld48_1 rfl) rfl ?_
        refine L_yes rfl rfl rfl (decide_eq_false h3) ?_
        refine L_run (R_load1 rfl scl3 (hb1.cell (i := 1) rfl)) rfl ?_
        refine L_yes rfl rfl rfl (decide_eq_false h3) ?_
        refine L_run (R_geq rfl rfl) rfl ?_
        refine L_run (R_pickF rfl (decide_eq_false h3) rfl) rfl ?_
        refine L_run (R_assign rfl) rfl ?_
        refine L_nil (N_then ?_)
        refine C_if rfl (fun h4 => ?_) (fun h4 => ?_)
        · refine C_seq (C_reg rfl ?_)
          refine L_run (R_assign rfl) rfl ?_
          refine L_nil (N_then (C_ret (R_in (R_then ?_))))
          refine ret1 Tryd.results22 rfl ?_
          first
            | (exfalso; omega)
            | (exact ⟨hB, by first | (rw [bF' (by unfold RecOk; omega)]) | (rw [bT' (by unfold RecOk; omega)]) | exact bD (by unfold RecOk; omega)⟩)
        · refine C_seq (C_reg rfl ?_)
          refine L_run (R_field (r := 2) rfl fld48_2 rfl) rfl ?_
          refine L_run (R_load1 rfl scl3 (hb1.cell (i := 2) rfl)) rfl ?_
          refine L_run (R_lss rfl rfl) rfl ?_
          refine L_run (R_move rfl) rfl ?_
          refine L_splitD (p := lsn < 1) (fun h5 => ?_) (fun h5 => ?_)
          · refine L_no rfl rfl rfl (decide_eq_true h5) rfl ?_
            refine L_no rfl rfl rfl (decide_eq_true h5) rfl ?_
            refine L_no rfl rfl rfl (decide_eq_true h5) rfl ?_
            refine L_run (R_pickT rfl (decide_eq_true h5) rfl) rfl ?_
            refine L_run (R_assign rfl) rfl ?_
            refine L_nil (N_then (C_condT rfl rfl (C_seq (C_reg rfl ?_))))
            refine L_run (R_assign rfl) rfl ?_
            refine L_nil (N_then (C_ret (R_in (R_then ?_))))
            refine ret1 Tryd.results22 rfl ?_
            first
              | (exfalso; omega)
              | (exact ⟨hB, by first | (rw [bF' (by unfold RecOk; omega)]) | (rw [bT' (by unfold RecOk; omega)]) | exact bD (by unfold RecOk; omega)⟩)
          · refine L_yes rfl rfl rfl (decide_eq_false h5) ?_
            refine L_run (R_field (r := 2) rfl fld48_2 rfl) rfl ?_
            refine L_yes rfl rfl rfl (decide_eq_false h5) ?_
            refine L_run (R_load1 rfl scl3 (hb1.cell (i := 2) rfl)) rfl ?_
            refine L_yes rfl rfl rfl (decide_eq_false h5) ?_
            refine L_run (R_gtr rfl rfl) rfl ?_
            refine L_run (R_pickF rfl (decide_eq_false h5) rfl) rfl ?_
            refine L_run (R_assign rfl) rfl ?_
            refine L_nil (N_then ?_)
            refine C_if rfl (fun h6 => ?_) (fun h6 => ?_)
            · refine C_seq (C_reg rfl ?_)
              refine L_run (R_assign rfl) rfl ?_
              refine L_nil (N_then (C_ret (R_in (R_then ?_))))
              refine ret1 Tryd.results22 rfl ?_
              first
                | (exfalso; omega)
                | (exact ⟨hB, by first | (rw [bF' (by unfold RecOk; omega)]) | (rw [bT' (by unfold RecOk; omega)]) | exact bD (by unfold RecOk; omega)⟩)
            · refine C_skip (N_in (N_then (C_seq (C_reg rfl ?_))))
              refine L_run (R_field (r := 3) rfl fld48_3 rfl) rfl ?_
              refine L_run (R_load1 rfl scl3 (hb1.cell (i := 3) rfl)) rfl ?_
              refine L_run (R_geq rfl rfl) rfl ?_
              refine L_run (R_move rfl) rfl ?_
              refine L_splitD (p := 0 ≤ prev) (fun h7 => ?_) (fun h7 => ?_)
              · refine L_yes rfl rfl rfl (decide_eq_true h7) ?_
                refine L_run (R_field (r := 3) rfl fld48_3 rfl) rfl ?_
                refine L_yes rfl rfl rfl (decide_eq_true h7) ?_
                refine L_run (R_load1 rfl scl3 (hb1.cell (i := 3) rfl)) rfl ?_
                refine L_yes rfl rfl rfl (decide_eq_true h7) ?_
                refine L_run (R_field (r := 2) rfl fld48_2 rfl) rfl ?_
                refine L_yes rfl rfl rfl (decide_eq_true h7) ?_
                refine L_run (R_load1 rfl scl3 (hb1.cell (i := 2) rfl)) rfl ?_
                refine L_yes rfl rfl rfl (decide_eq_true h7) ?_
                refine L_run (R_lss rfl rfl) rfl ?_
                refine L_run (R_pickT rfl (decide_eq_true h7) rfl) rfl ?_
                refine L_run (R_assign rfl) rfl ?_
                refine L_nil (N_then (C_ret ?_))
                refine ret1 Tryd.results22 rfl ?_
                first
                  | (exfalso; omega)
                  | (exact ⟨hB, by first | (rw [bF' (by unfold RecOk; omega)]) | (rw [bT' (by unfold RecOk; omega)]) | exact bD (by unfold RecOk; omega)⟩)
              · refine L_no rfl rfl rfl (decide_eq_false h7) rfl ?_
                refine L_no rfl rfl rfl (decide_eq_false h7) rfl ?_
                refine L_no rfl rfl rfl (decide_eq_false h7) rfl ?_
                refine L_no rfl rfl rfl (decide_eq_false h7) rfl ?_
                refine L_no rfl rfl rfl (decide_eq_false h7) rfl ?_
                refine L_run (R_pickF rfl (decide_eq_false h7) rfl) rfl ?_
                refine L_run (R_assign rfl) rfl ?_
                refine L_nil (N_then (C_ret ?_))
                refine ret1 Tryd.results22 rfl ?_
                first
                  | (exfalso; omega)
                  | (exact ⟨hB, by first | (rw [bF' (by unfold RecOk; omega)]) | (rw [bT' (by unfold RecOk; omega)]) | exact bD (by unfold RecOk; omega)⟩)

theorem rec_right11 {w : World} {kind chain lsn prev : Int} {A : Option Addr} {c : Nat} {n : Nat} :
    Runs Tryd.prog 27 #[.agg #[.int .i64 kind, .int .i64 chain, .int .i64 lsn, .int .i64 prev, .slice A n c]] w (fun v w' => w.grownBy w' none ∧ v = .bool (decide (RecOk kind chain lsn prev))) := by
  have hB := gb_refl w none
  refine enter Tryd.func27 Tryd.ntmps27 rfl rfl ?_
  refine C_seq (C_reg rfl ?_)
  refine L_box (cs := [.int .i64 kind, .int .i64 chain, .int .i64 lsn, .int .i64 prev, .slice A n c]) rfl rfl rfl ?_
  intro g1 w1 eg1 hb1 hs1 hz1
  have ge1 : w.heap.size ≤ g1 := eg_ge hB eg1
  replace hB := gb_tr hB hs1
  refine L_run (R_assign rfl) rfl ?_
  refine L_nil (N_then (C_seq (C_reg rfl ?_)))
  refine L_run (R_field (r := 0) rfl fld48_0 rfl) rfl ?_
  refine L_run (R_load1 rfl scl3 (hb1.cell (i := 0) rfl)) rfl ?_
  refine L_run (R_geq rfl rfl) rfl ?_
  refine L_run (R_move rfl) rfl ?_
  refine L_splitD (p := 1 ≤ kind) (fun h1 => ?_) (fun h1 => ?_)
  · refine L_yes rfl rfl rfl (decide_eq_true h1) ?_
    refine L_run (R_field (r := 0) rfl fld48_0 rfl) rfl ?_
    refine L_yes rfl rfl rfl (decide_eq_true h1) ?_
    refine L_run (R_load1 rfl scl3 (hb1.cell (i := 0) rfl)) rfl ?_
    refine L_yes rfl rfl rfl (decide_eq_true h1) ?_
    refine L_run (R_leq rfl rfl) rfl ?_
    refine L_run (R_pickT rfl (decide_eq_true h1) rfl) rfl ?_
    refine L_run (R_move rfl) rfl ?_
    refine L_splitD (p := kind ≤ 9) (fun h2 => ?_) (fun h2 => ?_)
    · refine L_yes rfl rfl rfl (decide_eq_true h2) ?_
      refine L_run (R_field (r := 1) rfl fld48_1 rfl) rfl ?_
      refine L_yes rfl rfl rfl (decide_eq_true h2) ?_
      refine L_run (R_load1 rfl scl3 (hb1.cell (i := 1) rfl)) rfl ?_
      refine L_yes rfl rfl rfl (decide_eq_true h2) ?_
      refine L_run (R_geq rfl rfl) rfl ?_
      refine L_run (R_pickT rfl (decide_eq_true h2) rfl) rfl ?_
      refine L_run (R_move rfl) rfl ?_
      refine L_splitD (p := 0 ≤ chain) (fun h3 => ?_) (fun h3 => ?_)
      · refine L_yes rfl rfl rfl (decide_eq_true h3) ?_
        refine L_run (R_field (r := 1) rfl fld48_1 rfl) rfl ?_
        refine L_yes rfl rfl rfl (decide_eq_true h3) ?_
        refine L_run (R_load1 rfl scl3 (hb1.cell (i := 1) rfl)) rfl ?_
        refine L_yes rfl rfl rfl (decide_eq_true h3) ?_
        refine L_run (R_leq rfl rfl) rfl ?_
        refine L_run (R_pickT rfl (decide_eq_true h3) rfl) rfl ?_
        refine L_run (R_move rfl) rfl ?_
        refine L_splitD (p := chain ≤ 3) (fun h4 => ?_) (fun h4 => ?_)
        · refine L_yes rfl rfl rfl (decide_eq_true h4) ?_
          refine L_run (R_field (r := 2) rfl fld48_2 rfl) rfl ?_
          refine L_yes rfl rfl rfl (decide_eq_true h4) ?_
          refine L_run (R_load1 rfl scl3 (hb1.cell (i := 2) rfl)) rfl ?_
          refine L_yes rfl rfl rfl (decide_eq_true h4) ?_
          refine L_run (R_geq rfl rfl) rfl ?_
          refine L_run (R_pickT rfl (decide_eq_true h4) rfl) rfl ?_
          refine L_run (R_move rfl) rfl ?_
          refine L_splitD (p := 1 ≤ lsn) (fun h5 => ?_) (fun h5 => ?_)
          · refine L_yes rfl rfl rfl (decide_eq_true h5) ?_
            refine L_run (R_field (r := 2) rfl fld48_2 rfl) rfl ?_
            refine L_yes rfl rfl rfl (decide_eq_true h5) ?_
            refine L_run (R_load1 rfl scl3 (hb1.cell (i := 2) rfl)) rfl ?_
            refine L_yes rfl rfl rfl (decide_eq_true h5) ?_
            refine L_run (R_leq rfl rfl) rfl ?_
            refine L_run (R_pickT rfl (decide_eq_true h5) rfl) rfl ?_
            refine L_run (R_move rfl) rfl ?_
            refine L_splitD (p := lsn ≤ 2147483647) (fun h6 => ?_) (fun h6 => ?_)
            · refine L_yes rfl rfl rfl (decide_eq_true h6) ?_
              refine L_run (R_field (r := 3) rfl fld48_3 rfl) rfl ?_
              refine L_yes rfl rfl rfl (decide_eq_true h6) ?_
              refine L_run (R_load1 rfl scl3 (hb1.cell (i := 3) rfl)) rfl ?_
              refine L_yes rfl rfl rfl (decide_eq_true h6) ?_
              refine L_run (R_geq rfl rfl) rfl ?_
              refine L_run (R_pickT rfl (decide_eq_true h6) rfl) rfl ?_
              refine L_run (R_move rfl) rfl ?_
              refine L_splitD (p := 0 ≤ prev) (fun h7 => ?_) (fun h7 => ?_)
              · refine L_yes rfl rfl rfl (decide_eq_true h7) ?_
                refine L_run (R_field (r := 3) rfl fld48_3 rfl) rfl ?_
                refine L_yes rfl rfl rfl (decide_eq_true h7) ?_
                refine L_run (R_load1 rfl scl3 (hb1.cell (i := 3) rfl)) rfl ?_
                refine L_yes rfl rfl rfl (decide_eq_true h7) ?_
                refine L_run (R_field (r := 2) rfl fld48_2 rfl) rfl ?_
                refine L_yes rfl rfl rfl (decide_eq_true h7) ?_
                refine L_run (R_load1 rfl scl3 (hb1.cell (i := 2) rfl)) rfl ?_
                refine L_yes rfl rfl rfl (decide_eq_true h7) ?_
                refine L_run (R_lss rfl rfl) rfl ?_
                refine L_run (R_pickT rfl (decide_eq_true h7) rfl) rfl ?_
                refine L_run (R_assign rfl) rfl ?_
                refine L_nil (N_then (C_ret ?_))
                refine ret1 Tryd.results27 rfl ?_
                first
                  | (exfalso; omega)
                  | (exact ⟨hB, by first | (rw [bF' (by unfold RecOk; omega)]) | (rw [bT' (by unfold RecOk; omega)]) | exact bD (by unfold RecOk; omega)⟩)
              · refine L_no rfl rfl rfl (decide_eq_false h7) rfl ?_
                refine L_no rfl rfl rfl (decide_eq_false h7) rfl ?_
                refine L_no rfl rfl rfl (decide_eq_false h7) rfl ?_
                refine L_no rfl rfl rfl (decide_eq_false h7) rfl ?_
                refine L_no rfl rfl rfl (decide_eq_false h7) rfl ?_
                refine L_run (R_pickF rfl (decide_eq_false h7) rfl) rfl ?_
                refine L_run (R_assign rfl) rfl ?_
                refine L_nil (N_then (C_ret ?_))
                refine ret1 Tryd.results27 rfl ?_
                first
                  | (exfalso; omega)
                  | (exact ⟨hB, by first | (rw [bF' (by unfold RecOk; omega)]) | (rw [bT' (by unfold RecOk; omega)]) | exact bD (by unfold RecOk; omega)⟩)
            · refine L_no rfl rfl rfl (decide_eq_false h6) rfl ?_
              refine L_no rfl rfl rfl (decide_eq_false h6) rfl ?_
              refine L_no rfl rfl rfl (decide_eq_false h6) rfl ?_
              refine L_run (R_pickF rfl (decide_eq_false h6) rfl) rfl ?_
              refine L_run (R_move rfl) rfl ?_
              refine L_no rfl rfl rfl rfl rfl ?_
              refine L_no rfl rfl rfl rfl rfl ?_
              refine L_no rfl rfl rfl rfl rfl ?_
              refine L_no rfl rfl rfl rfl rfl ?_
              refine L_no rfl rfl rfl rfl rfl ?_
              refine L_run (R_pickF rfl rfl rfl) rfl ?_
              refine L_run (R_assign rfl) rfl ?_
              refine L_nil (N_then (C_ret ?_))
              refine ret1 Tryd.results27 rfl ?_
              first
                | (exfalso; omega)
                | (exact ⟨hB, by first | (rw [bF' (by unfold RecOk; omega)]) | (rw [bT' (by unfold RecOk; omega)]) | exact bD (by unfold RecOk; omega)⟩)
          · refine L_no rfl rfl rfl (decide_eq_false h5) rfl ?_
            refine L_no rfl rfl rfl (decide_eq_false h5) rfl ?_
            refine L_no rfl rfl rfl (decide_eq_false h5) rfl ?_
            refine L_run (R_pickF rfl (decide_eq_false h5) rfl) rfl ?_
            refine L_run (R_move rfl) rfl ?_
            refine L_no rfl rfl rfl rfl rfl ?_
            refine L_no rfl rfl rfl rfl rfl ?_
            refine L_no rfl rfl rfl rfl rfl ?_
            refine L_run (R_pickF rfl rfl rfl) rfl ?_
            refine L_run (R_move rfl) rfl ?_
            refine L_no rfl rfl rfl rfl rfl ?_
            refine L_no rfl rfl rfl rfl rfl ?_
            refine L_no rfl rfl rfl rfl rfl ?_
            refine L_no rfl rfl rfl rfl rfl ?_
            refine L_no rfl rfl rfl rfl rfl ?_
            refine L_run (R_pickF rfl rfl rfl) rfl ?_
            refine L_run (R_assign rfl) rfl ?_
            refine L_nil (N_then (C_ret ?_))
            refine ret1 Tryd.results27 rfl ?_
            first
              | (exfalso; omega)
              | (exact ⟨hB, by first | (rw [bF' (by unfold RecOk; omega)]) | (rw [bT' (by unfold RecOk; omega)]) | exact bD (by unfold RecOk; omega)⟩)
        · refine L_no rfl rfl rfl (decide_eq_false h4) rfl ?_
          refine L_no rfl rfl rfl (decide_eq_false h4) rfl ?_
          refine L_no rfl rfl rfl (decide_eq_false h4) rfl ?_
          refine L_run (R_pickF rfl (decide_eq_false h4) rfl) rfl ?_
          refine L_run (R_move rfl) rfl ?_
          refine L_no rfl rfl rfl rfl rfl ?_
          refine L_no rfl rfl rfl rfl rfl ?_
          refine L_no rfl rfl rfl rfl rfl ?_
          refine L_run (R_pickF rfl rfl rfl) rfl ?_
          refine L_run (R_move rfl) rfl ?_
          refine L_no rfl rfl rfl rfl rfl ?_
          refine L_no rfl rfl rfl rfl rfl ?_
          refine L_no rfl rfl rfl rfl rfl ?_
          refine L_run (R_pickF rfl rfl rfl) rfl ?_
          refine L_run (R_move rfl) rfl ?_
          refine L_no rfl rfl rfl rfl rfl ?_
          refine L_no rfl rfl rfl rfl rfl ?_
          refine L_no rfl rfl rfl rfl rfl ?_
          refine L_no rfl rfl rfl rfl rfl ?_
          refine L_no rfl rfl rfl rfl rfl ?_
          refine L_run (R_pickF rfl rfl rfl) rfl ?_
          refine L_run (R_assign rfl) rfl ?_
          refine L_nil (N_then (C_ret ?_))
          refine ret1 Tryd.results27 rfl ?_
          first
            | (exfalso; omega)
            | (exact ⟨hB, by first | (rw [bF' (by unfold RecOk; omega)]) | (rw [bT' (by unfold RecOk; omega)]) | exact bD (by unfold RecOk; omega)⟩)
      · refine L_no rfl rfl rfl (decide_eq_false h3) rfl ?_
        refine L_no rfl rfl rfl (decide_eq_false h3) rfl ?_
        refine L_no rfl rfl rfl (decide_eq_false h3) rfl ?_
        refine L_run (R_pickF rfl (decide_eq_false h3) rfl) rfl ?_
        refine L_run (R_move rfl) rfl ?_
        refine L_no rfl rfl rfl rfl rfl ?_
        refine L_no rfl rfl rfl rfl rfl ?_
        refine L_no rfl rfl rfl rfl rfl ?_
        refine L_run (R_pickF rfl rfl rfl) rfl ?_
        refine L_run (R_move rfl) rfl ?_
        refine L_no rfl rfl rfl rfl rfl ?_
        refine L_no rfl rfl rfl rfl rfl ?_
        refine L_no rfl rfl rfl rfl rfl ?_
        refine L_run (R_pickF rfl rfl rfl) rfl ?_
        refine L_run (R_move rfl) rfl ?_
        refine L_no rfl rfl rfl rfl rfl ?_
        refine L_no rfl rfl rfl rfl rfl ?_
        refine L_no rfl rfl rfl rfl rfl ?_
        refine L_run (R_pickF rfl rfl rfl) rfl ?_
        refine L_run (R_move rfl) rfl ?_
        refine L_no rfl rfl rfl rfl rfl ?_
        refine L_no rfl rfl rfl rfl rfl ?_
        refine L_no rfl rfl rfl rfl rfl ?_
        refine L_no rfl rfl rfl rfl rfl ?_
        refine L_no rfl rfl rfl rfl rfl ?_
        refine L_run (R_pickF rfl rfl rfl) rfl ?_
        refine L_run (R_assign rfl) rfl ?_
        refine L_nil (N_then (C_ret ?_))
        refine ret1 Tryd.results27 rfl ?_
        first
          | (exfalso; omega)
          | (exact ⟨hB, by first | (rw [bF' (by unfold RecOk; omega)]) | (rw [bT' (by unfold RecOk; omega)]) | exact bD (by unfold RecOk; omega)⟩)
    · refine L_no rfl rfl rfl (decide_eq_false h2) rfl ?_
      refine L_no rfl rfl rfl (decide_eq_false h2) rfl ?_
      refine L_no rfl rfl rfl (decide_eq_false h2) rfl ?_
      refine L_run (R_pickF rfl (decide_eq_false h2) rfl) rfl ?_
      refine L_run (R_move rfl) rfl ?_
      refine L_no rfl rfl rfl rfl rfl ?_
      refine L_no rfl rfl rfl rfl rfl ?_
      refine L_no rfl rfl rfl rfl rfl ?_
      refine L_run (R_pickF rfl rfl rfl) rfl ?_
      refine L_run (R_move rfl) rfl ?_
      refine L_no rfl rfl rfl rfl rfl ?_
      refine L_no rfl rfl rfl rfl rfl ?_
      refine L_no rfl rfl rfl rfl rfl ?_
      refine L_run (R_pickF rfl rfl rfl) rfl ?_
      refine L_run (R_move rfl) rfl ?_
      refine L_no rfl rfl rfl rfl rfl ?_
      refine L_no rfl rfl rfl rfl rfl ?_
      refine L_no rfl rfl rfl rfl rfl ?_
      refine L_run (R_pickF rfl rfl rfl) rfl ?_
      refine L_run (R_move rfl) rfl ?_
      refine L_no rfl rfl rfl rfl rfl ?_
      refine L_no rfl rfl rfl rfl rfl ?_
      refine L_no rfl rfl rfl rfl rfl ?_
      refine L_run (R_pickF rfl rfl rfl) rfl ?_
      refine L_run (R_move rfl) rfl ?_
      refine L_no rfl rfl rfl rfl rfl ?_
      refine L_no rfl rfl rfl rfl rfl ?_
      refine L_no rfl rfl rfl rfl rfl ?_
      refine L_no rfl rfl rfl rfl rfl ?_
      refine L_no rfl rfl rfl rfl rfl ?_
      refine L_run (R_pickF rfl rfl rfl) rfl ?_
      refine L_run (R_assign rfl) rfl ?_
      refine L_nil (N_then (C_ret ?_))
      refine ret1 Tryd.results27 rfl ?_
      first
        | (exfalso; omega)
        | (exact ⟨hB, by first | (rw [bF' (by unfold RecOk; omega)]) | (rw [bT' (by unfold RecOk; omega)]) | exact bD (by unfold RecOk; omega)⟩)
  · refine L_no rfl rfl rfl (decide_eq_false h1) rfl ?_
    refine L_no rfl rfl rfl (decide_eq_false h1) rfl ?_
    refine L_no rfl rfl rfl (decide_eq_false h1) rfl ?_
    refine L_run (R_pickF rfl (decide_eq_false h1) rfl) rfl ?_
    refine L_run (R_move rfl) rfl ?_
    refine L_no rfl rfl rfl rfl rfl ?_
    refine L_no rfl rfl rfl rfl rfl ?_
    refine L_no rfl rfl rfl rfl rfl ?_
    refine L_run (R_pickF rfl rfl rfl) rfl ?_
    refine L_run (R_move rfl) rfl ?_
    refine L_no rfl rfl rfl rfl rfl ?_
    refine L_no rfl rfl rfl rfl rfl ?_
    refine L_no rfl rfl rfl rfl rfl ?_
    refine L_run (R_pickF rfl rfl rfl) rfl ?_
    refine L_run (R_move rfl) rfl ?_
    refine L_no rfl rfl rfl rfl rfl ?_
    refine L_no rfl rfl rfl rfl rfl ?_
    refine L_no rfl rfl rfl rfl rfl ?_
    refine L_run (R_pickF rfl rfl rfl) rfl ?_
    refine L_run (R_move rfl) rfl ?_
    refine L_no rfl rfl rfl rfl rfl ?_
    refine L_no rfl rfl rfl rfl rfl ?_
    refine L_no rfl rfl rfl rfl rfl ?_
    refine L_run (R_pickF rfl rfl rfl) rfl ?_
    refine L_run (R_move rfl) rfl ?_
    refine L_no rfl rfl rfl rfl rfl ?_
    refine L_no rfl rfl rfl rfl rfl ?_
    refine L_no rfl rfl rfl rfl rfl ?_
    refine L_run (R_pickF rfl rfl rfl) rfl ?_
    refine L_run (R_move rfl) rfl ?_
    refine L_no rfl rfl rfl rfl rfl ?_
    refine L_no rfl rfl rfl rfl rfl ?_
    refine L_no rfl rfl rfl rfl rfl ?_
    refine L_no rfl rfl rfl rfl rfl ?_
    refine L_no rfl rfl rfl rfl rfl ?_
    refine L_run (R_pickF rfl rfl rfl) rfl ?_
    refine L_run (R_assign rfl) rfl ?_
    refine L_nil (N_then (C_ret ?_))
    refine ret1 Tryd.results27 rfl ?_
    first
      | (exfalso; omega)
      | (exact ⟨hB, by first | (rw [bF' (by unfold RecOk; omega)]) | (rw [bT' (by unfold RecOk; omega)]) | exact bD (by unfold RecOk; omega)⟩)

theorem v_put {w : World} {t1 lo hi : Nat} {A : Option Addr} {c : Nat} {bs : List UInt8} {m : Nat} (hS : Sli t1 lo hi w A (fl encB bs)) (hm : m < 18446744073709551616) (hb : bs.length + 10 ≤ 140737488355328) :
    Runs Tryd.prog 24 #[.slice A bs.length c, .int .u64 (m : Int)] w (fun v w' => w.grownBy w' none ∧ ∃ A' c', v = .slice A' (bs ++ vput m).length c' ∧ World.ownsRow w' w.heap.size 5 1 (.slice A' (bs ++ vput m).length c') (bs ++ vput m).length (fl encB (bs ++ vput m))) := by
  have hB := gb_refl w none
  replace hS := hS.top
  refine enter Tryd.func24 Tryd.ntmps24 rfl rfl ?_
  refine C_seq (C_reg rfl ?_)
  refine L_run (R_assign rfl) rfl ?_
  refine L_nil (N_then (C_seq (C_reg rfl ?_)))
  refine L_buildSlice (pv := []) (cs := []) slc46 zer5 rfl rfl (by kernel_rfl) rfl ?_
  intro g1 w1 eg1 hb1 hs1 hz1
  have ge1 : w.heap.size ≤ g1 := eg_ge hB eg1
  replace hB := gb_tr hB hs1
  replace hS := hS.gb hs1
  refine L_run (R_move rfl) rfl ?_
  have hlo1 : g1 ≤ w1.heap.size := Nat.le_of_lt hb1.lt
  have ho1 : World.ownsRow w1 g1 5 1 (.slice (some ⟨g1, 0, none⟩) ([] : List UInt8).length 0) ([] : List UInt8).length (fl encB []) := Blk.own (sz := 1) (m := 0) hb1 (by decide) rfl (Nat.le_refl _)
  refine T_append (xs := []) (ys := bs) EncB slc46 rfl rfl ho1 hS (by first | omega | (simp; done) | (simp; omega)) hlo1 rfl ?_
  intro A_1 c_1 w2 ho2 hs2 hat1
  replace hB := gb_tro hB ho1 hs2 ge1
  replace hS := hS.grown hs2 (fun k hk => .inr (Nat.le_trans ge1 (World.ownsRow.lt ho1 k hk).1))
  replace hlo1 := Nat.le_trans hlo1 hs2.size
  simp only [List.nil_append] at ho2 ⊢
  refine L_run (R_assign rfl) rfl ?_
  refine L_nil (N_then (C_seq (C_block ?_)))
  refine C_loop (fun m_ a_ w_ => ∃ (σ_ : Nat → Value) (A' : Option Addr) (c' : Nat) (acc : List UInt8) (m' : Nat), a_ = Ac 24 σ_ [] [(1, .int .u64 (m' : Int)), (5, .slice A' acc.length c')] ∧ w.grownBy w_ none ∧ World.ownsRow w_ w.heap.size 5 1 (.slice A' acc.length c') acc.length (fl encB acc) ∧ (acc ++ vput m' = bs ++ vput m) ∧ (m' < 18446744073709551616) ∧ m' = m_) (m) ?_ ?_
  · exact ⟨_, A_1, c_1, bs, m, Ac_frg ⟨rfl, rfl, trivial⟩, hB, (own_lo ho2 ge1), rfl, hm, rfl⟩
  · clear hB
    clear hS hlo1 ho2
    rintro m_ a_ w3 ⟨σ_, A', c', acc, m', rfl, hB, ho, hinv, hm', rfl⟩
    refine C_seq (C_seq (C_reg rfl ?_))
    refine L_run (R_move rfl) rfl ?_
    refine L_run (R_geq rfl rfl) rfl ?_
    refine L_nil (N_then ?_)
    refine C_if rfl (fun h1 => ?_) (fun h1 => ?_)
    · refine C_skip (N_then (C_block (C_seq (C_reg rfl ?_))))
      refine L_run (R_move rfl) rfl ?_
      refine L_run (R_move rfl) rfl ?_
      refine L_run (R_conv rfl any22 int5) rfl ?_
      refine L_run (R_eqv (R_or rfl rfl) (v' := .int .u8 ((UInt8.ofNat (m' % 128 + 128)).toNat : Int)) (or128 m')) rfl ?_
      refine L_buildSlice (pv := [(0, .int .u8 ((UInt8.ofNat (m' % 128 + 128)).toNat : Int))]) (cs := [.int .u8 ((UInt8.ofNat (m' % 128 + 128)).toNat : Int)]) slc46 zer5 rfl rfl (by kernel_rfl) rfl ?_
      intro g2 w4 eg2 hb2 hs3 hz2
      have ge2 : w.heap.size ≤ g2 := eg_ge hB eg2
      have hap1 : ∀ k_, (Value.slice A' acc.length c').ownBlock = some k_ → k_ ≠ g2 := fun k_ hk => by have h_ := (World.ownsRow.lt ho k_ hk).2; omega
      replace hB := gb_tr hB hs3
      replace ho := own_gb ho hs3
      refine T_append (xs := acc) (ys := [(UInt8.ofNat (m' % 128 + 128))]) EncB slc46 rfl rfl ho (Blk.sli (m := 0) hb2) (by have h1 := congrArg List.length hinv; have h2 := vput_pos m'; have h3 := vput_len hm; simp at h1 ⊢; omega) (by have := hB.size; omega) rfl ?_
      intro A_2 c_2 w5 ho3 hs4 hat2
      replace hB := gb_tro hB ho hs4 (Nat.le_refl _)
      refine L_run (R_assign rfl) rfl ?_
      refine L_nil (N_then (C_reg rfl ?_))
      refine L_run (R_move rfl) rfl ?_
      refine L_run (R_eqv (R_shr rfl rfl (by first | decide | omega)) (v' := .int .u64 ((m' / 128 : Nat) : Int)) (shr7 m')) rfl ?_
      refine L_run (R_assign rfl) rfl ?_
      refine L_nil (N_in (N_then ?_))
      exact ⟨(m' / 128), by omega, _, A_2, c_2, acc ++ ([(UInt8.ofNat (m' % 128 + 128))]), (m' / 128), Ac_frg ⟨(agr rfl (by first | rfl | (congr 1; omega) | (congr 1; simp; done) | (congr 1; simp only [IntKind.wrap_u64, IntKind.wrap_i64, IntKind.wrap_u8]; omega) | (congr 1 <;> omega))), rfl, trivial⟩, hB, ho3, (by rw [← hinv, vput_ge (m := m') (by omega)]; simp), (by omega), rfl⟩
    · refine C_exit (X_then (X_then (X_hit (N_then (C_seq (C_reg rfl ?_))))))
      refine L_run (R_move rfl) rfl ?_
      refine L_run (R_move rfl) rfl ?_
      refine L_run (R_eqv (R_conv rfl any22 int5) (v' := .int .u8 ((UInt8.ofNat m').toNat : Int)) (u8_of m' (by omega))) rfl ?_
      refine L_buildSlice (pv := [(0, .int .u8 ((UInt8.ofNat m').toNat : Int))]) (cs := [.int .u8 ((UInt8.ofNat m').toNat : Int)]) slc46 zer5 rfl rfl (by kernel_rfl) rfl ?_
      intro g3 w6 eg3 hb3 hs5 hz3
      have ge3 : w.heap.size ≤ g3 := eg_ge hB eg3
      have hap2 : ∀ k_, (Value.slice A' acc.length c').ownBlock = some k_ → k_ ≠ g3 := fun k_ hk => by have h_ := (World.ownsRow.lt ho k_ hk).2; omega
      replace hB := gb_tr hB hs5
      replace ho := own_gb ho hs5
      refine T_append (xs := acc) (ys := [(UInt8.ofNat m')]) EncB slc46 rfl rfl ho (Blk.sli (m := 0) hb3) (by have h1 := congrArg List.length hinv; have h2 := vput_pos m'; have h3 := vput_len hm; simp at h1 ⊢; omega) (by have := hB.size; omega) rfl ?_
      intro A_3 c_3 w7 ho4 hs6 hat3
      replace hB := gb_tro hB ho hs6 (Nat.le_refl _)
      refine L_run (R_assign rfl) rfl ?_
      refine L_nil (N_then (C_ret ?_))
      refine ret1 Tryd.results24 rfl ?_
      have e_ : acc ++ [UInt8.ofNat m'] = bs ++ vput m := by rw [← hinv, vput_lt (by omega)]
      rw [← e_]; exact ⟨hB, _, _, rfl, ho4⟩

theorem v_put2 {w : World} {t1 lo hi : Nat} {A : Option Addr} {c : Nat} {bs : List UInt8} {m : Nat} (hS : Sli t1 lo hi w A (fl encB bs)) (hm : m < 18446744073709551616) (hb : bs.length + 10 ≤ 140737488355328) :
    Runs Tryd.prog 38 #[.slice A bs.length c, .int .u64 (m : Int)] w (fun v w' => w.grownBy w' none ∧ ∃ A' c', v = .slice A' (bs ++ vput m).length c' ∧ World.ownsRow w' w.heap.size 5 1 (.slice A' (bs ++ vput m).length c') (bs ++ vput m).length (fl encB (bs ++ vput m))) := by
  have hB := gb_refl w none
  replace hS := hS.top
  refine enter Tryd.func38 Tryd.ntmps38 rfl rfl ?_
  refine C_seq (C_reg rfl ?_)
  refine L_run (R_assign rfl) rfl ?_
  refine L_nil (N_then (C_seq (C_reg rfl ?_)))
  refine L_buildSlice (pv := []) (cs := []) slc46 zer5 rfl rfl (by kernel_rfl) rfl ?_
  intro g1 w1 eg1 hb1 hs1 hz1
  have ge1 : w.heap.size ≤ g1 := eg_ge hB eg1
  replace hB := gb_tr hB hs1
  replace hS := hS.gb hs1
  refine L_run (R_move rfl) rfl ?_
  have hlo1 : g1 ≤ w1.heap.size := Nat.le_of_lt hb1.lt
  have ho1 : World.ownsRow w1 g1 5 1 (.slice (some ⟨g1, 0, none⟩) ([] : List UInt8).length 0) ([] : List UInt8).length (fl encB []) := Blk.own (sz := 1) (m := 0) hb1 (by decide) rfl (Nat.le_refl _)
  refine T_append (xs := []) (ys := bs) EncB slc46 rfl rfl ho1 hS (by first | omega | (simp; done) | (simp; omega)) hlo1 rfl ?_
  intro A_1 c_1 w2 ho2 hs2 hat1
  replace hB := gb_tro hB ho1 hs2 ge1
  replace hS := hS.grown hs2 (fun k hk => .inr (Nat.le_trans ge1 (World.ownsRow.lt ho1 k hk).1))
  replace hlo1 := Nat.le_trans hlo1 hs2.size
  simp only [List.nil_append] at ho2 ⊢
  refine L_run (R_assign rfl) rfl ?_
  refine L_nil (N_then (C_seq (C_block ?_)))
  refine C_loop (fun m_ a_ w_ => ∃ (σ_ : Nat → Value) (A' : Option Addr) (c' : Nat) (acc : List UInt8) (m' : Nat), a_ = Ac 26 σ_ [] [(1, .int .u64 (m' : Int)), (5, .slice A' acc.length c')] ∧ w.grownBy w_ none ∧ World.ownsRow w_ w.heap.size 5 1 (.slice A' acc.length c') acc.length (fl encB acc) ∧ (acc ++ vput m' = bs ++ vput m) ∧ (m' < 18446744073709551616) ∧ m' = m_) (m) ?_ ?_
  · exact ⟨_, A_1, c_1, bs, m, Ac_frg ⟨rfl, rfl, trivial⟩, hB, (own_lo ho2 ge1), rfl, hm, rfl⟩
  · clear hB
    clear hS hlo1 ho2
    rintro m_ a_ w3 ⟨σ_, A', c', acc, m', rfl, hB, ho, hinv, hm', rfl⟩
    refine C_seq (C_seq (C_reg rfl ?_))
    refine L_run (R_move rfl) rfl ?_
    refine L_run (R_eqv (R_quo rfl rfl (by first | decide | omega)) (v' := .int .u64 ((m' / 128 : Nat) : Int)) (quo128 m' hm')) rfl ?_
    refine L_run (R_gtr rfl rfl) rfl ?_
    refine L_nil (N_then ?_)
    refine C_if rfl (fun h1 => ?_) (fun h1 => ?_)
    · refine C_skip (N_then (C_block (C_seq (C_reg rfl ?_))))
      refine L_run (R_move rfl) rfl ?_
      refine L_run (R_move rfl) rfl ?_
      refine L_run (R_eqv (R_rem rfl rfl (by first | decide | omega)) (v' := .int .u64 ((m' % 128 : Nat) : Int)) (rem128 m')) rfl ?_
      refine L_run (R_eqv (R_add rfl rfl) (v' := .int .u64 ((m' % 128 + 128 : Nat) : Int)) (add128 m')) rfl ?_
      refine L_run (R_eqv (R_conv rfl any22 int5) (v' := .int .u8 ((UInt8.ofNat (m' % 128 + 128)).toNat : Int)) (u8_of _ (by omega))) rfl ?_
      refine L_buildSlice (pv := [(0, .int .u8 ((UInt8.ofNat (m' % 128 + 128)).toNat : Int))]) (cs := [.int .u8 ((UInt8.ofNat (m' % 128 + 128)).toNat : Int)]) slc46 zer5 rfl rfl (by kernel_rfl) rfl ?_
      intro g2 w4 eg2 hb2 hs3 hz2
      have ge2 : w.heap.size ≤ g2 := eg_ge hB eg2
      have hap1 : ∀ k_, (Value.slice A' acc.length c').ownBlock = some k_ → k_ ≠ g2 := fun k_ hk => by have h_ := (World.ownsRow.lt ho k_ hk).2; omega
      replace hB := gb_tr hB hs3
      replace ho := own_gb ho hs3
      refine T_append (xs := acc) (ys := [(UInt8.ofNat (m' % 128 + 128))]) EncB slc46 rfl rfl ho (Blk.sli (m := 0) hb2) (by have h1 := congrArg List.length hinv; have h2 := vput_pos m'; have h3 := vput_len hm; simp at h1 ⊢; omega) (by have := hB.size; omega) rfl ?_
      intro A_2 c_2 w5 ho3 hs4 hat2
      replace hB := gb_tro hB ho hs4 (Nat.le_refl _)
      refine L_run (R_assign rfl) rfl ?_
      refine L_nil (N_then (C_reg rfl ?_))
      refine L_run (R_move rfl) rfl ?_
      refine L_run (R_eqv (R_quo rfl rfl (by first | decide | omega)) (v' := .int .u64 ((m' / 128 : Nat) : Int)) (quo128 m' hm')) rfl ?_
      refine L_run (R_assign rfl) rfl ?_
      refine L_nil (N_in (N_then ?_))
      exact ⟨(m' / 128), by omega, _, A_2, c_2, acc ++ ([(UInt8.ofNat (m' % 128 + 128))]), (m' / 128), Ac_frg ⟨(agr rfl (by first | rfl | (congr 1; omega) | (congr 1; simp; done) | (congr 1; simp only [IntKind.wrap_u64, IntKind.wrap_i64, IntKind.wrap_u8]; omega) | (congr 1 <;> omega))), rfl, trivial⟩, hB, ho3, (by rw [← hinv, vput_ge (m := m') (by omega)]; simp), (by omega), rfl⟩
    · refine C_exit (X_then (X_then (X_hit (N_then (C_seq (C_reg rfl ?_))))))
      refine L_run (R_move rfl) rfl ?_
      refine L_run (R_move rfl) rfl ?_
      refine L_run (R_eqv (R_conv rfl any22 int5) (v' := .int .u8 ((UInt8.ofNat m').toNat : Int)) (u8_of m' (by omega))) rfl ?_
      refine L_buildSlice (pv := [(0, .int .u8 ((UInt8.ofNat m').toNat : Int))]) (cs := [.int .u8 ((UInt8.ofNat m').toNat : Int)]) slc46 zer5 rfl rfl (by kernel_rfl) rfl ?_
      intro g3 w6 eg3 hb3 hs5 hz3
      have ge3 : w.heap.size ≤ g3 := eg_ge hB eg3
      have hap2 : ∀ k_, (Value.slice A' acc.length c').ownBlock = some k_ → k_ ≠ g3 := fun k_ hk => by have h_ := (World.ownsRow.lt ho k_ hk).2; omega
      replace hB := gb_tr hB hs5
      replace ho := own_gb ho hs5
      refine T_append (xs := acc) (ys := [(UInt8.ofNat m')]) EncB slc46 rfl rfl ho (Blk.sli (m := 0) hb3) (by have h1 := congrArg List.length hinv; have h2 := vput_pos m'; have h3 := vput_len hm; simp at h1 ⊢; omega) (by have := hB.size; omega) rfl ?_
      intro A_3 c_3 w7 ho4 hs6 hat3
      replace hB := gb_tro hB ho hs6 (Nat.le_refl _)
      refine L_run (R_assign rfl) rfl ?_
      refine L_nil (N_then (C_ret ?_))
      refine ret1 Tryd.results38 rfl ?_
      have e_ : acc ++ [UInt8.ofNat m'] = bs ++ vput m := by rw [← hinv, vput_lt (by omega)]
      rw [← e_]; exact ⟨hB, _, _, rfl, ho4⟩

theorem v_size {w : World} {m : Nat} (hm : m < 18446744073709551616) :
    Runs Tryd.prog 33 #[.int .u64 (m : Int)] w (fun v w' => w.grownBy w' none ∧ v = .int .i64 (((vput m).length : Nat) : Int)) := by
  have hB := gb_refl w none
  have hvl := vput_len hm
  refine enter Tryd.func33 Tryd.ntmps33 rfl rfl ?_
  refine C_seq (C_reg rfl ?_)
  refine L_run (R_assign rfl) rfl ?_
  refine L_nil (N_then (C_seq (C_reg rfl ?_)))
  refine L_run (R_assign rfl) rfl ?_
  refine L_nil (N_then (C_seq (C_block ?_)))
  refine C_loop (fun m_ a_ w_ => ∃ (σ_ : Nat → Value) (m' : Nat) (i : Nat), a_ = Ac 11 σ_ [] [(0, .int .u64 (m' : Int)), (2, .int .i64 0), (3, .int .i64 (i : Int))] ∧ w.grownBy w_ none ∧ (m' < 18446744073709551616) ∧ (i + (vput m').length = 1 + (vput m).length) ∧ (1 ≤ i) ∧ m' = m_) (m) ?_ ?_
  · exact ⟨_, m, 1, Ac_frg ⟨rfl, rfl, (agr rfl (by first | rfl | (congr 1; omega) | (congr 1; simp; done) | (congr 1; simp only [IntKind.wrap_u64, IntKind.wrap_i64, IntKind.wrap_u8]; omega) | (congr 1 <;> omega))), trivial⟩, hB, (by omega), rfl, (by omega), rfl⟩
  · clear hB
    rintro m_ a_ w1 ⟨σ_, m', i, rfl, hB, hm', hlen, hi0, rfl⟩
    refine C_seq (C_seq (C_reg rfl ?_))
    refine L_run (R_move rfl) rfl ?_
    refine L_run (R_geq rfl rfl) rfl ?_
    refine L_nil (N_then ?_)
    refine C_if rfl (fun h1 => ?_) (fun h1 => ?_)
    · refine C_skip (N_then (C_block (C_seq (C_reg rfl ?_))))
      refine L_run (R_move rfl) rfl ?_
      refine L_run (R_add64 rfl rfl (by have h_ := vput_pos m'; omega)) rfl ?_
      refine L_run (R_assign rfl) rfl ?_
      refine L_nil (N_then (C_reg rfl ?_))
      refine L_run (R_move rfl) rfl ?_
      refine L_run (R_eqv (R_shr rfl rfl (by first | decide | omega)) (v' := .int .u64 ((m' / 128 : Nat) : Int)) (shr7 m')) rfl ?_
      refine L_run (R_assign rfl) rfl ?_
      refine L_nil (N_in (N_then ?_))
      exact ⟨(m' / 128), by omega, _, (m' / 128), (i + 1), Ac_frg ⟨(agr rfl (by first | rfl | (congr 1; omega) | (congr 1; simp; done) | (congr 1; simp only [IntKind.wrap_u64, IntKind.wrap_i64, IntKind.wrap_u8]; omega) | (congr 1 <;> omega))), rfl, (agr rfl (by first | rfl | (congr 1; omega) | (congr 1; simp; done) | (congr 1; simp only [IntKind.wrap_u64, IntKind.wrap_i64, IntKind.wrap_u8]; omega) | (congr 1 <;> omega))), trivial⟩, hB, (by omega), (by have h_ := vput_div (m := m') (by omega); omega), (by omega), rfl⟩
    · refine C_exit (X_then (X_then (X_hit (N_then (C_seq (C_reg rfl ?_))))))
      refine L_run (R_move rfl) rfl ?_
      refine L_run (R_assign rfl) rfl ?_
      refine L_nil (N_then (C_ret ?_))
      refine ret1 Tryd.results33 rfl ?_
      first
        | (exfalso; omega)
        | (have e_ : (vput m').length = 1 := by rw [vput_lt (by omega)]; rfl
           exact ⟨hB, congrArg (Value.int .i64) (by omega)⟩)

theorem rec_size {w : World} {kind chain lsn prev : Int} {A : Option Addr} {c : Nat} {xs : List UInt8} (hok : RecOk kind chain lsn prev) (hl : xs.length ≤ 1000000) :
    Runs Tryd.prog 23 #[.agg #[.int .i64 kind, .int .i64 chain, .int .i64 lsn, .int .i64 prev, .slice A xs.length c]] w (fun v w' => w.grownBy w' none ∧ v = .int .i64 (((recB kind chain lsn prev xs).length : Nat) : Int)) := by
  have hB := gb_refl w none
  have hok_ := hok
  unfold RecOk at hok_
  have hv1 := vput_len (m := lsn.toNat) (by omega)
  have hv2 := vput_len (m := (lsn - prev).toNat) (by omega)
  refine enter Tryd.func23 Tryd.ntmps23 rfl rfl ?_
  refine C_seq (C_reg rfl ?_)
  refine L_box (cs := [.int .i64 kind, .int .i64 chain, .int .i64 lsn, .int .i64 prev, .slice A xs.length c]) rfl rfl rfl ?_
  intro g1 w1 eg1 hb1 hs1 hz1
  have ge1 : w.heap.size ≤ g1 := eg_ge hB eg1
  replace hB := gb_tr hB hs1
  refine L_run (R_assign rfl) rfl ?_
  refine L_nil (N_then (C_seq (C_seq (C_reg rfl ?_))))
  refine L_run (R_loadA (vs := [.int .i64 kind, .int .i64 chain, .int .i64 lsn, .int .i64 prev, .slice A xs.length c]) rfl agg48 (At.pre (hb1.at_ 0) rfl) rfl) rfl ?_
  refine L_call rfl cb22 (rec_right (kind := kind) (chain := chain) (lsn := lsn) (prev := prev)) rfl ?_
  rintro _ w2 ⟨hs2, rfl⟩
  replace hB := gb_tr hB hs2
  replace hb1 := hb1.gb hs2
  refine L_run (R_notD rfl) rfl ?_
  refine L_nil (N_then (C_condF rfl (decide_eq_false (fun hn => hn hok)) (C_skip (N_then (C_seq ?_)))))
  refine C_draw2 rfl mix ?_
  intro w3 hs3 hz2
  replace hB := gb_tr hB hs3
  replace hb1 := hb1.gb hs3
  refine ⟨fun W_ => Blk W_ g1 48 [.int .i64 kind, .int .i64 chain, .int .i64 lsn, .int .i64 prev, .slice A xs.length c] ∧ True, [0, 1, 2, 4, 5, 6, 7, 8, 9, 10, 12, 13, 14, 15, 16, 17], ?_⟩
  refine T_takeA (i := 0) rfl rfl (by kernel_rfl) (by kernel_rfl) (by kernel_rfl) (Y_of (fun _ ⟨hb1, _⟩ => R_field (r := 2) rfl fld48_2 rfl)) ⟨hb1, trivial⟩ rfl ?_
  refine T_takeA (i := 1) rfl rfl (by kernel_rfl) (by kernel_rfl) (by kernel_rfl) (Y_of (fun _ ⟨hb1, _⟩ => R_load1 rfl scl3 (hb1.cell (i := 2) rfl))) ⟨hb1, trivial⟩ rfl ?_
  refine T_takeA (i := 2) rfl rfl (by kernel_rfl) (by kernel_rfl) (by kernel_rfl) (Y_of (fun _ ⟨hb1, _⟩ => R_eqv (R_conv rfl any3 int22) (v' := .int .u64 ((lsn.toNat : Nat) : Int)) (u64_int (by omega)))) ⟨hb1, trivial⟩ rfl ?_
  refine T_takeA (i := 5) rfl rfl (by kernel_rfl) (by kernel_rfl) (by kernel_rfl) (Y_of (fun _ ⟨hb1, _⟩ => R_field (r := 2) rfl fld48_2 rfl)) ⟨hb1, trivial⟩ rfl ?_
  refine T_takeA (i := 6) rfl rfl (by kernel_rfl) (by kernel_rfl) (by kernel_rfl) (Y_of (fun _ ⟨hb1, _⟩ => R_load1 rfl scl3 (hb1.cell (i := 2) rfl))) ⟨hb1, trivial⟩ rfl ?_
  refine T_takeA (i := 7) rfl rfl (by kernel_rfl) (by kernel_rfl) (by kernel_rfl) (Y_of (fun _ ⟨hb1, _⟩ => R_field (r := 3) rfl fld48_3 rfl)) ⟨hb1, trivial⟩ rfl ?_
  refine T_takeA (i := 8) rfl rfl (by kernel_rfl) (by kernel_rfl) (by kernel_rfl) (Y_of (fun _ ⟨hb1, _⟩ => R_load1 rfl scl3 (hb1.cell (i := 3) rfl))) ⟨hb1, trivial⟩ rfl ?_
  refine T_takeA (i := 9) rfl rfl (by kernel_rfl) (by kernel_rfl) (by kernel_rfl) (Y_of (fun _ ⟨hb1, _⟩ => R_sub64 rfl rfl (by omega))) ⟨hb1, trivial⟩ rfl ?_
  refine T_takeA (i := 10) rfl rfl (by kernel_rfl) (by kernel_rfl) (by kernel_rfl) (Y_of (fun _ ⟨hb1, _⟩ => R_eqv (R_conv rfl any3 int22) (v' := .int .u64 (((lsn - prev).toNat : Nat) : Int)) (u64_int (by omega)))) ⟨hb1, trivial⟩ rfl ?_
  refine T_takeA (i := 13) rfl rfl (by kernel_rfl) (by kernel_rfl) (by kernel_rfl) (Y_of (fun _ ⟨hb1, _⟩ => R_field (r := 4) rfl fld48_4 rfl)) ⟨hb1, trivial⟩ rfl ?_
  refine T_takeA (i := 14) rfl rfl (by kernel_rfl) (by kernel_rfl) (by kernel_rfl) (Y_of (fun _ ⟨hb1, _⟩ => R_load1 rfl scl46 (hb1.cell (i := 4) rfl))) ⟨hb1, trivial⟩ rfl ?_
  refine T_takeA (i := 15) rfl rfl (by kernel_rfl) (by kernel_rfl) (by kernel_rfl) (Y_of (fun _ ⟨hb1, _⟩ => R_lenSl rfl slc46)) ⟨hb1, trivial⟩ rfl ?_
  refine T_all (rs := [3]) (by kernel_rfl) rfl (all1 (O_one rfl ?_))
  refine L_call rfl cb33 (v_size (m := lsn.toNat) (by omega)) rfl ?_
  rintro _ w4 ⟨hs4, rfl⟩
  replace hB := gb_tr hB hs4
  replace hb1 := hb1.gb hs4
  refine L_nil (N_then ⟨fun hN_ => ⟨hb1, trivial⟩, ?_⟩)
  refine T_takeA (i := 4) rfl rfl (by kernel_rfl) (by kernel_rfl) (by kernel_rfl) (Y_of (fun _ ⟨hb1, _⟩ => R_add64 rfl rfl (by omega))) ⟨hb1, trivial⟩ rfl ?_
  refine T_all (rs := [11]) (by kernel_rfl) rfl (all1 (O_one rfl ?_))
  refine L_call rfl cb33 (v_size (m := ((lsn - prev).toNat)) (by omega)) rfl ?_
  rintro _ w5 ⟨hs5, rfl⟩
  replace hB := gb_tr hB hs5
  replace hb1 := hb1.gb hs5
  refine L_nil (N_then ⟨fun hN_ => ⟨hb1, trivial⟩, ?_⟩)
  refine T_takeA (i := 12) rfl rfl (by kernel_rfl) (by kernel_rfl) (by kernel_rfl) (Y_of (fun _ ⟨hb1, _⟩ => R_add64 rfl rfl (by omega))) ⟨hb1, trivial⟩ rfl ?_
  refine T_takeA (i := 16) rfl rfl (by kernel_rfl) (by kernel_rfl) (by kernel_rfl) (Y_of (fun _ ⟨hb1, _⟩ => R_add64 rfl rfl (by omega))) ⟨hb1, trivial⟩ rfl ?_
  refine T_takeA (i := 17) rfl rfl (by kernel_rfl) (by kernel_rfl) (by kernel_rfl) (Y_of (fun _ ⟨hb1, _⟩ => R_assign rfl)) ⟨hb1, trivial⟩ rfl ?_
  refine T_done (by kernel_rfl) (CalmE.normal ?_)
  refine N_then (C_ret ?_)
  refine ret1 Tryd.results23 rfl ?_
  first
    | (exfalso; omega)
    | (exact ⟨hB, congrArg (Value.int .i64) (by rw [recB_len]; omega)⟩)

theorem bytes11 {w : World} {t1 lo hi : Nat} {kind chain lsn prev : Int} {A : Option Addr} {c : Nat} {xs : List UInt8} (hok : RecOk kind chain lsn prev) (hS : Sli t1 lo hi w A (fl encB xs)) (hl : xs.length ≤ 1000000) :
    Runs Tryd.prog 28 #[.agg #[.int .i64 kind, .int .i64 chain, .int .i64 lsn, .int .i64 prev, .slice A xs.length c]] w (fun v w' => w.grownBy w' none ∧ ∃ A' c', v = .slice A' (recB kind chain lsn prev xs).length c' ∧ World.ownsRow w' w.heap.size 5 1 (.slice A' (recB kind chain lsn prev xs).length c') (recB kind chain lsn prev xs).length (fl encB (recB kind chain lsn prev xs))) := by
  have hB := gb_refl w none
  have hok_ := hok
  unfold RecOk at hok_
  have hv1 := vput_len (m := lsn.toNat) (by omega)
  have hv2 := vput_len (m := (lsn - prev).toNat) (by omega)
  replace hS := hS.top
  refine enter Tryd.func28 Tryd.ntmps28 rfl rfl ?_
  refine C_seq (C_reg rfl ?_)
  refine L_box (cs := [.int .i64 kind, .int .i64 chain, .int .i64 lsn, .int .i64 prev, .slice A xs.length c]) rfl rfl rfl ?_
  intro g1 w1 eg1 hb1 hs1 hz1
  have ge1 : w.heap.size ≤ g1 := eg_ge hB eg1
  replace hB := gb_tr hB hs1
  replace hS := hS.gb hs1
  refine L_run (R_assign rfl) rfl ?_
  refine L_nil (N_then (C_seq (C_reg rfl ?_)))
  refine L_run (R_field (r := 0) rfl fld48_0 rfl) rfl ?_
  refine L_run (R_load1 rfl scl3 (hb1.cell (i := 0) rfl)) rfl ?_
  refine L_run (R_eqv (R_conv rfl any3 int5) (v' := .int .u8 ((UInt8.ofNat kind.toNat).toNat : Int)) (u8_int (by omega))) rfl ?_
  refine L_run (R_field (r := 1) rfl fld48_1 rfl) rfl ?_
  refine L_run (R_load1 rfl scl3 (hb1.cell (i := 1) rfl)) rfl ?_
  refine L_run (R_eqv (R_conv rfl any3 int5) (v' := .int .u8 ((UInt8.ofNat chain.toNat).toNat : Int)) (u8_int (by omega))) rfl ?_
  refine L_buildSlice (pv := [(0, .int .u8 ((UInt8.ofNat kind.toNat).toNat : Int)), (1, .int .u8 ((UInt8.ofNat chain.toNat).toNat : Int))]) (cs := [.int .u8 ((UInt8.ofNat kind.toNat).toNat : Int), .int .u8 ((UInt8.ofNat chain.toNat).toNat : Int)]) slc46 zer5 rfl rfl (by kernel_rfl) rfl ?_
  intro g2 w2 eg2 hb2 hs2 hz2
  have ge2 : w.heap.size ≤ g2 := eg_ge hB eg2
  have lt1 : g1 < g2 := lt_of_eg hb1.lt eg2
  replace hB := gb_tr hB hs2
  replace hS := hS.gb hs2
  replace hb1 := hb1.gb hs2
  refine L_run (R_field (r := 2) rfl fld48_2 rfl) rfl ?_
  refine L_run (R_load1 rfl scl3 (hb1.cell (i := 2) rfl)) rfl ?_
  refine L_run (R_eqv (R_conv rfl any3 int22) (v' := .int .u64 ((lsn.toNat : Nat) : Int)) (u64_int (by omega))) rfl ?_
  have ge3 : w.heap.size ≤ w2.heap.size := hB.size
  refine L_call rfl cb38 (v_put2 (bs := [(UInt8.ofNat kind.toNat), (UInt8.ofNat chain.toNat)]) (m := lsn.toNat) (Blk.sli (m := 0) hb2) (by omega) (by simp only [List.length_append, List.length_cons, List.length_nil]; omega)) rfl ?_
  rintro _ w3 ⟨hs3, A_1, c_1, rfl, ho1⟩
  have lb1 : g2 < w2.heap.size := hb2.lt
  replace hB := gb_tr hB hs3
  replace hS := hS.gb hs3
  replace hb1 := hb1.gb hs3
  replace hb2 := hb2.gb hs3
  have hap1 : ∀ k_, (Value.slice A_1 ([(UInt8.ofNat kind.toNat), (UInt8.ofNat chain.toNat)] ++ vput lsn.toNat).length c_1).ownBlock = some k_ → k_ ≠ g2 := fun k_ hk => by have h_ := (World.ownsRow.lt ho1 k_ hk).1; omega
  have hlo1 : w2.heap.size ≤ w3.heap.size := hs3.size
  refine L_run (R_assign rfl) rfl ?_
  refine L_nil (N_then (C_seq (C_reg rfl ?_)))
  refine L_run (R_move rfl) rfl ?_
  refine L_run (R_field (r := 2) rfl fld48_2 rfl) rfl ?_
  refine L_run (R_load1 rfl scl3 (hb1.cell (i := 2) rfl)) rfl ?_
  refine L_run (R_field (r := 3) rfl fld48_3 rfl) rfl ?_
  refine L_run (R_load1 rfl scl3 (hb1.cell (i := 3) rfl)) rfl ?_
  refine L_run (R_sub64 rfl rfl (by omega)) rfl ?_
  refine L_run (R_eqv (R_conv rfl any3 int22) (v' := .int .u64 (((lsn - prev).toNat : Nat) : Int)) (u64_int (by omega))) rfl ?_
  have ge4 : w.heap.size ≤ w3.heap.size := hB.size
  refine L_call rfl cb38 (v_put2 (bs := [(UInt8.ofNat kind.toNat), (UInt8.ofNat chain.toNat)] ++ vput lsn.toNat) (m := ((lsn - prev).toNat)) (own_of ho1).2.2 (by omega) (by simp only [List.length_append, List.length_cons, List.length_nil]; omega)) rfl ?_
  rintro _ w4 ⟨hs4, A_2, c_2, rfl, ho2⟩
  have lb2 : g2 < w3.heap.size := hb2.lt
  replace hB := gb_tr hB hs4
  replace hS := hS.gb hs4
  replace hb1 := hb1.gb hs4
  replace hb2 := hb2.gb hs4
  replace ho1 := own_gb ho1 hs4
  replace hlo1 := Nat.le_trans hlo1 hs4.size
  have hap2 : ∀ k_, (Value.slice A_2 ([(UInt8.ofNat kind.toNat), (UInt8.ofNat chain.toNat)] ++ vput lsn.toNat ++ vput ((lsn - prev).toNat)).length c_2).ownBlock = some k_ → k_ ≠ g2 := fun k_ hk => by have h_ := (World.ownsRow.lt ho2 k_ hk).1; omega
  have hlo2 : w3.heap.size ≤ w4.heap.size := hs4.size
  refine L_run (R_assign rfl) rfl ?_
  refine L_nil (N_then (C_seq (C_reg rfl ?_)))
  refine L_run (R_move rfl) rfl ?_
  refine L_run (R_field (r := 4) rfl fld48_4 rfl) rfl ?_
  refine L_run (R_load1 rfl scl46 (hb1.cell (i := 4) rfl)) rfl ?_
  refine T_append (xs := [(UInt8.ofNat kind.toNat), (UInt8.ofNat chain.toNat)] ++ vput lsn.toNat ++ vput ((lsn - prev).toNat)) (ys := xs) EncB slc46 rfl rfl ho2 hS (by simp only [List.length_append, List.length_cons, List.length_nil]; omega) hlo2 rfl ?_
  intro A_3 c_3 w5 ho3 hs5 hat1
  have lt2 := hb2.lt
  replace hB := gb_tro hB ho2 hs5 ge4
  replace hS := hS.grown hs5 (fun k hk => .inr (Nat.le_trans ge4 (World.ownsRow.lt ho2 k hk).1))
  replace hb1 := blk_own hb1 ho2 rfl hs5
  replace hb2 := hb2.grown hs5 (fun e_ => hap2 _ e_.symm rfl)
  replace hlo1 := Nat.le_trans hlo1 hs5.size
  replace hlo2 := Nat.le_trans hlo2 hs5.size
  have hap3 : ∀ k_, (Value.slice A_3 (([(UInt8.ofNat kind.toNat), (UInt8.ofNat chain.toNat)] ++ vput lsn.toNat ++ vput ((lsn - prev).toNat)) ++ xs).length c_3).ownBlock = some k_ → k_ ≠ g2 := fun k_ hk => by rcases hat1 with h_ | h_ <;> rw [h_] at hk <;> first | exact hap2 k_ hk | (injection hk with hk; omega)
  refine L_run (R_assign rfl) rfl ?_
  refine L_nil (N_then (C_ret ?_))
  refine ret1 Tryd.results28 rfl ?_
  exact ⟨hB, _, _, rfl, (own_lo ho3 ge4)⟩

theorem renc_y {w : World} {t1 lo hi : Nat} {kind chain lsn prev : Int} {A : Option Addr} {c : Nat} {xs : List UInt8} (hS : Sli t1 lo hi w A (fl encB xs)) (hl : xs.length ≤ 1000000) (hok : RecOk kind chain lsn prev) :
    Runs Tryd.prog 13 #[.agg #[.int .i64 kind, .int .i64 chain, .int .i64 lsn, .int .i64 prev, .slice A xs.length c]] w (fun v w' => w.grownBy w' none ∧ ∃ A' c' e, v = .tuple #[.slice A' (recY kind chain lsn prev xs).length c', .int .i64 e] ∧ (e = 0 ↔ RecFit kind chain lsn prev xs) ∧ World.ownsRow w' w.heap.size 5 1 (.slice A' (recY kind chain lsn prev xs).length c') (recY kind chain lsn prev xs).length (fl encB (recY kind chain lsn prev xs))) := by
  have hB := gb_refl w none
  have hok_ := hok
  unfold RecOk at hok_
  have hv1 := vput_len (m := lsn.toNat) (by omega)
  have hv2 := vput_len (m := (lsn - prev).toNat) (by omega)
  replace hS := hS.top
  refine enter Tryd.func13 Tryd.ntmps13 rfl rfl ?_
  refine C_seq (C_reg rfl ?_)
  refine L_box (cs := [.int .i64 kind, .int .i64 chain, .int .i64 lsn, .int .i64 prev, .slice A xs.length c]) rfl rfl rfl ?_
  intro g1 w1 eg1 hb1 hs1 hz1
  have ge1 : w.heap.size ≤ g1 := eg_ge hB eg1
  replace hB := gb_tr hB hs1
  replace hS := hS.gb hs1
  refine L_run (R_assign rfl) rfl ?_
  refine L_run (R_assign rfl) rfl ?_
  refine L_nil (N_then (C_seq (C_block (C_seq (C_reg rfl ?_)))))
  refine L_run (R_loadA (vs := [.int .i64 kind, .int .i64 chain, .int .i64 lsn, .int .i64 prev, .slice A xs.length c]) rfl agg48 (At.pre (hb1.at_ 0) rfl) rfl) rfl ?_
  refine L_call rfl cb22 (rec_right (kind := kind) (chain := chain) (lsn := lsn) (prev := prev)) rfl ?_
  rintro _ w2 ⟨hs2, rfl⟩
  replace hB := gb_tr hB hs2
  replace hS := hS.gb hs2
  replace hb1 := hb1.gb hs2
  refine L_run (R_notD rfl) rfl ?_
  refine L_run (R_assign rfl) rfl ?_
  refine L_nil (N_then (C_condF rfl (decide_eq_false (fun hn => hn hok)) (C_seq (C_reg rfl ?_))))
  refine L_run (R_loadA (vs := [.int .i64 kind, .int .i64 chain, .int .i64 lsn, .int .i64 prev, .slice A xs.length c]) rfl agg48 (At.pre (hb1.at_ 0) rfl) rfl) rfl ?_
  refine L_call rfl cb23 (rec_size (kind := kind) (chain := chain) (lsn := lsn) (prev := prev) (xs := xs) hok hl) rfl ?_
  rintro _ w3 ⟨hs3, rfl⟩
  replace hB := gb_tr hB hs3
  replace hS := hS.gb hs3
  replace hb1 := hb1.gb hs3
  refine L_run (R_gtr rfl rfl) rfl ?_
  refine L_run (R_assign rfl) rfl ?_
  refine L_nil (N_then ?_)
  refine C_if rfl (fun h1 => ?_) (fun h1 => ?_)
  · refine C_seq (C_reg rfl ?_)
    refine L_run (R_assign rfl) rfl ?_
    refine L_run (R_assign rfl) rfl ?_
    refine L_nil (N_then (C_ret (R_in (R_then ?_))))
    refine ret2 Tryd.results13 rfl rfl ?_
    have hf_ : ¬ RecFit kind chain lsn prev xs := (fun h_ => by have q_ := h_.2; omega)
    rw [recY_no hf_]; exact ⟨hB, none, 0, 5, rfl, ⟨fun h_ => absurd h_ (by decide), fun h_ => absurd h_ hf_⟩, own_nil _ _ _ _⟩
  · refine C_skip (N_in (N_then (C_seq (C_reg rfl ?_))))
    refine L_run (R_field (r := 0) rfl fld48_0 rfl) rfl ?_
    refine L_run (R_load1 rfl scl3 (hb1.cell (i := 0) rfl)) rfl ?_
    refine L_run (R_eqv (R_conv rfl any3 int5) (v' := .int .u8 ((UInt8.ofNat kind.toNat).toNat : Int)) (u8_int (by omega))) rfl ?_
    refine L_run (R_field (r := 1) rfl fld48_1 rfl) rfl ?_
    refine L_run (R_load1 rfl scl3 (hb1.cell (i := 1) rfl)) rfl ?_
    refine L_run (R_eqv (R_conv rfl any3 int5) (v' := .int .u8 ((UInt8.ofNat chain.toNat).toNat : Int)) (u8_int (by omega))) rfl ?_
    refine L_buildSlice (pv := [(0, .int .u8 ((UInt8.ofNat kind.toNat).toNat : Int)), (1, .int .u8 ((UInt8.ofNat chain.toNat).toNat : Int))]) (cs := [.int .u8 ((UInt8.ofNat kind.toNat).toNat : Int), .int .u8 ((UInt8.ofNat chain.toNat).toNat : Int)]) slc46 zer5 rfl rfl (by kernel_rfl) rfl ?_
    intro g2 w4 eg2 hb2 hs4 hz2
    have ge2 : w.heap.size ≤ g2 := eg_ge hB eg2
    have lt1 : g1 < g2 := lt_of_eg hb1.lt eg2
    replace hB := gb_tr hB hs4
    replace hS := hS.gb hs4
    replace hb1 := hb1.gb hs4
    refine L_run (R_field (r := 2) rfl fld48_2 rfl) rfl ?_
    refine L_run (R_load1 rfl scl3 (hb1.cell (i := 2) rfl)) rfl ?_
    refine L_run (R_eqv (R_conv rfl any3 int22) (v' := .int .u64 ((lsn.toNat : Nat) : Int)) (u64_int (by omega))) rfl ?_
    have ge3 : w.heap.size ≤ w4.heap.size := hB.size
    refine L_call rfl cb24 (v_put (bs := [(UInt8.ofNat kind.toNat), (UInt8.ofNat chain.toNat)]) (m := lsn.toNat) (Blk.sli (m := 0) hb2) (by omega) (by simp only [List.length_append, List.length_cons, List.length_nil]; omega)) rfl ?_
    rintro _ w5 ⟨hs5, A_1, c_1, rfl, ho1⟩
    have lb1 : g2 < w4.heap.size := hb2.lt
    replace hB := gb_tr hB hs5
    replace hS := hS.gb hs5
    replace hb1 := hb1.gb hs5
    replace hb2 := hb2.gb hs5
    have hap1 : ∀ k_, (Value.slice A_1 ([(UInt8.ofNat kind.toNat), (UInt8.ofNat chain.toNat)] ++ vput lsn.toNat).length c_1).ownBlock = some k_ → k_ ≠ g2 := fun k_ hk => by have h_ := (World.ownsRow.lt ho1 k_ hk).1; omega
    have hlo1 : w4.heap.size ≤ w5.heap.size := hs5.size
    refine L_run (R_assign rfl) rfl ?_
    refine L_nil (N_then (C_seq (C_reg rfl ?_)))
    refine L_run (R_move rfl) rfl ?_
    refine L_run (R_field (r := 2) rfl fld48_2 rfl) rfl ?_
    refine L_run (R_load1 rfl scl3 (hb1.cell (i := 2) rfl)) rfl ?_
    refine L_run (R_field (r := 3) rfl fld48_3 rfl) rfl ?_
    refine L_run (R_load1 rfl scl3 (hb1.cell (i := 3) rfl)) rfl ?_
    refine L_run (R_sub64 rfl rfl (by omega)) rfl ?_
    refine L_run (R_eqv (R_conv rfl any3 int22) (v' := .int .u64 (((lsn - prev).toNat : Nat) : Int)) (u64_int (by omega))) rfl ?_
    have ge4 : w.heap.size ≤ w5.heap.size := hB.size
    refine L_call rfl cb24 (v_put (bs := [(UInt8.ofNat kind.toNat), (UInt8.ofNat chain.toNat)] ++ vput lsn.toNat) (m := ((lsn - prev).toNat)) (own_of ho1).2.2 (by omega) (by simp only [List.length_append, List.length_cons, List.length_nil]; omega)) rfl ?_
    rintro _ w6 ⟨hs6, A_2, c_2, rfl, ho2⟩
    have lb2 : g2 < w5.heap.size := hb2.lt
    replace hB := gb_tr hB hs6
    replace hS := hS.gb hs6
    replace hb1 := hb1.gb hs6
    replace hb2 := hb2.gb hs6
    replace ho1 := own_gb ho1 hs6
    replace hlo1 := Nat.le_trans hlo1 hs6.size
    have hap2 : ∀ k_, (Value.slice A_2 ([(UInt8.ofNat kind.toNat), (UInt8.ofNat chain.toNat)] ++ vput lsn.toNat ++ vput ((lsn - prev).toNat)).length c_2).ownBlock = some k_ → k_ ≠ g2 := fun k_ hk => by have h_ := (World.ownsRow.lt ho2 k_ hk).1; omega
    have hlo2 : w5.heap.size ≤ w6.heap.size := hs6.size
    refine L_run (R_assign rfl) rfl ?_
    refine L_nil (N_then (C_seq (C_reg rfl ?_)))
    refine L_run (R_move rfl) rfl ?_
    refine L_run (R_field (r := 4) rfl fld48_4 rfl) rfl ?_
    refine L_run (R_load1 rfl scl46 (hb1.cell (i := 4) rfl)) rfl ?_
    refine T_append (xs := [(UInt8.ofNat kind.toNat), (UInt8.ofNat chain.toNat)] ++ vput lsn.toNat ++ vput ((lsn - prev).toNat)) (ys := xs) EncB slc46 rfl rfl ho2 hS (by simp only [List.length_append, List.length_cons, List.length_nil]; omega) hlo2 rfl ?_
    intro A_3 c_3 w7 ho3 hs7 hat1
    have lt2 := hb2.lt
    replace hB := gb_tro hB ho2 hs7 ge4
    replace hS := hS.grown hs7 (fun k hk => .inr (Nat.le_trans ge4 (World.ownsRow.lt ho2 k hk).1))
    replace hb1 := blk_own hb1 ho2 rfl hs7
    replace hb2 := hb2.grown hs7 (fun e_ => hap2 _ e_.symm rfl)
    replace hlo1 := Nat.le_trans hlo1 hs7.size
    replace hlo2 := Nat.le_trans hlo2 hs7.size
    have hap3 : ∀ k_, (Value.slice A_3 (([(UInt8.ofNat kind.toNat), (UInt8.ofNat chain.toNat)] ++ vput lsn.toNat ++ vput ((lsn - prev).toNat)) ++ xs).length c_3).ownBlock = some k_ → k_ ≠ g2 := fun k_ hk => by rcases hat1 with h_ | h_ <;> rw [h_] at hk <;> first | exact hap2 k_ hk | (injection hk with hk; omega)
    refine L_run (R_assign rfl) rfl ?_
    refine L_run (R_assign rfl) rfl ?_
    refine L_nil (N_then (C_ret ?_))
    refine ret2 Tryd.results13 rfl rfl ?_
    have hf_ : RecFit kind chain lsn prev xs := ⟨hok, by omega⟩
    rw [recY_yes hf_]; exact ⟨hB, _, _, 0, rfl, ⟨fun _ => hf_, fun _ => rfl⟩, (own_lo ho3 ge4)⟩

theorem renc_n {w : World} {t1 lo hi : Nat} {kind chain lsn prev : Int} {A : Option Addr} {c : Nat} {xs : List UInt8} (hS : Sli t1 lo hi w A (fl encB xs)) (hl : xs.length ≤ 1000000) (hok : ¬ RecOk kind chain lsn prev) :
    Runs Tryd.prog 13 #[.agg #[.int .i64 kind, .int .i64 chain, .int .i64 lsn, .int .i64 prev, .slice A xs.length c]] w (fun v w' => w.grownBy w' none ∧ ∃ A' c' e, v = .tuple #[.slice A' (recY kind chain lsn prev xs).length c', .int .i64 e] ∧ (e = 0 ↔ RecFit kind chain lsn prev xs) ∧ World.ownsRow w' w.heap.size 5 1 (.slice A' (recY kind chain lsn prev xs).length c') (recY kind chain lsn prev xs).length (fl encB (recY kind chain lsn prev xs))) := by
  have hB := gb_refl w none
  replace hS := hS.top
  refine enter Tryd.func13 Tryd.ntmps13 rfl rfl ?_
  refine C_seq (C_reg rfl ?_)
  refine L_box (cs := [.int .i64 kind, .int .i64 chain, .int .i64 lsn, .int .i64 prev, .slice A xs.length c]) rfl rfl rfl ?_
  intro g1 w1 eg1 hb1 hs1 hz1
  have ge1 : w.heap.size ≤ g1 := eg_ge hB eg1
  replace hB := gb_tr hB hs1
  replace hS := hS.gb hs1
  refine L_run (R_assign rfl) rfl ?_
  refine L_run (R_assign rfl) rfl ?_
  refine L_nil (N_then (C_seq (C_block (C_seq (C_reg rfl ?_)))))
  refine L_run (R_loadA (vs := [.int .i64 kind, .int .i64 chain, .int .i64 lsn, .int .i64 prev, .slice A xs.length c]) rfl agg48 (At.pre (hb1.at_ 0) rfl) rfl) rfl ?_
  refine L_call rfl cb22 (rec_right (kind := kind) (chain := chain) (lsn := lsn) (prev := prev)) rfl ?_
  rintro _ w2 ⟨hs2, rfl⟩
  replace hB := gb_tr hB hs2
  replace hS := hS.gb hs2
  replace hb1 := hb1.gb hs2
  refine L_run (R_notD rfl) rfl ?_
  refine L_run (R_assign rfl) rfl ?_
  refine L_nil (N_then (C_condT rfl (decide_eq_true hok) (C_seq (C_reg rfl ?_))))
  refine L_run (R_assign rfl) rfl ?_
  refine L_run (R_assign rfl) rfl ?_
  refine L_nil (N_then (C_ret (R_in (R_then ?_))))
  refine ret2 Tryd.results13 rfl rfl ?_
  have hf_ : ¬ RecFit kind chain lsn prev xs := (fun h_ => hok h_.1)
  rw [recY_no hf_]; exact ⟨hB, none, 0, 13, rfl, ⟨fun h_ => absurd h_ (by decide), fun h_ => absurd h_ hf_⟩, own_nil _ _ _ _⟩

theorem renc_ok {w : World} {t1 lo hi : Nat} {kind chain lsn prev : Int} {A : Option Addr} {c : Nat} {xs : List UInt8} (hS : Sli t1 lo hi w A (fl encB xs)) (hl : xs.length ≤ 1000000) :
    Runs Tryd.prog 13 #[.agg #[.int .i64 kind, .int .i64 chain, .int .i64 lsn, .int .i64 prev, .slice A xs.length c]] w (fun v w' => w.grownBy w' none ∧ ∃ A' c' e, v = .tuple #[.slice A' (recY kind chain lsn prev xs).length c', .int .i64 e] ∧ (e = 0 ↔ RecFit kind chain lsn prev xs) ∧ World.ownsRow w' w.heap.size 5 1 (.slice A' (recY kind chain lsn prev xs).length c') (recY kind chain lsn prev xs).length (fl encB (recY kind chain lsn prev xs))) := by
  by_cases hok : RecOk kind chain lsn prev
  · exact renc_y hS hl hok
  · exact renc_n hS hl hok
theorem renc11_y {w : World} {t1 lo hi : Nat} {kind chain lsn prev : Int} {A : Option Addr} {c : Nat} {xs : List UInt8} (hS : Sli t1 lo hi w A (fl encB xs)) (hl : xs.length ≤ 1000000) (hok : RecOk kind chain lsn prev) :
    Runs Tryd.prog 18 #[.agg #[.int .i64 kind, .int .i64 chain, .int .i64 lsn, .int .i64 prev, .slice A xs.length c]] w (fun v w' => w.grownBy w' none ∧ ∃ A' c' e, v = .tuple #[.slice A' (recY kind chain lsn prev xs).length c', .int .i64 e] ∧ (e = 0 ↔ RecFit kind chain lsn prev xs) ∧ World.ownsRow w' w.heap.size 5 1 (.slice A' (recY kind chain lsn prev xs).length c') (recY kind chain lsn prev xs).length (fl encB (recY kind chain lsn prev xs))) := by
  have hB := gb_refl w none
  have hok_ := hok
  unfold RecOk at hok_
  have hv1 := vput_len (m := lsn.toNat) (by omega)
  have hv2 := vput_len (m := (lsn - prev).toNat) (by omega)
  replace hS := hS.top
  refine enter Tryd.func18 Tryd.ntmps18 rfl rfl ?_
  refine C_seq (C_reg rfl ?_)
  refine L_box (cs := [.int .i64 kind, .int .i64 chain, .int .i64 lsn, .int .i64 prev, .slice A xs.length c]) rfl rfl rfl ?_
  intro g1 w1 eg1 hb1 hs1 hz1
  have ge1 : w.heap.size ≤ g1 := eg_ge hB eg1
  replace hB := gb_tr hB hs1
  replace hS := hS.gb hs1
  refine L_run (R_assign rfl) rfl ?_
  refine L_run (R_assign rfl) rfl ?_
  refine L_nil (N_then (C_seq (C_seq (C_reg rfl ?_))))
  refine L_run (R_loadA (vs := [.int .i64 kind, .int .i64 chain, .int .i64 lsn, .int .i64 prev, .slice A xs.length c]) rfl agg48 (At.pre (hb1.at_ 0) rfl) rfl) rfl ?_
  refine L_call rfl cb27 (rec_right11 (kind := kind) (chain := chain) (lsn := lsn) (prev := prev)) rfl ?_
  rintro _ w2 ⟨hs2, rfl⟩
  replace hB := gb_tr hB hs2
  replace hS := hS.gb hs2
  replace hb1 := hb1.gb hs2
  refine L_run (R_notD rfl) rfl ?_
  refine L_nil (N_then (C_condF rfl (decide_eq_false (fun hn => hn hok)) (C_skip (N_then (C_seq (C_seq (C_reg rfl ?_)))))))
  refine L_run (R_loadA (vs := [.int .i64 kind, .int .i64 chain, .int .i64 lsn, .int .i64 prev, .slice A xs.length c]) rfl agg48 (At.pre (hb1.at_ 0) rfl) rfl) rfl ?_
  have ge2 : w.heap.size ≤ w2.heap.size := hB.size
  refine L_call rfl cb28 (bytes11 (kind := kind) (chain := chain) (lsn := lsn) (prev := prev) (xs := xs) hok hS hl) rfl ?_
  rintro _ w3 ⟨hs3, A_1, c_1, rfl, ho1⟩
  replace hB := gb_tr hB hs3
  replace hS := hS.gb hs3
  replace hb1 := hb1.gb hs3
  have hlo1 : w2.heap.size ≤ w3.heap.size := hs3.size
  refine L_run (R_lenSl rfl slc46) rfl ?_
  refine L_run (R_gtr rfl rfl) rfl ?_
  refine L_nil (N_then ?_)
  refine C_if rfl (fun h1 => ?_) (fun h1 => ?_)
  · refine C_seq (C_reg rfl ?_)
    refine L_run (R_assign rfl) rfl ?_
    refine L_run (R_assign rfl) rfl ?_
    refine L_nil (N_then (C_ret (R_then ?_)))
    refine ret2 Tryd.results18 rfl rfl ?_
    have hf_ : ¬ RecFit kind chain lsn prev xs := (fun h_ => by have q_ := h_.2; omega)
    rw [recY_no hf_]; exact ⟨hB, none, 0, 5, rfl, ⟨fun h_ => absurd h_ (by decide), fun h_ => absurd h_ hf_⟩, own_nil _ _ _ _⟩
  · refine C_skip (N_then (C_seq (C_reg rfl ?_)))
    refine L_run (R_loadA (vs := [.int .i64 kind, .int .i64 chain, .int .i64 lsn, .int .i64 prev, .slice A xs.length c]) rfl agg48 (At.pre (hb1.at_ 0) rfl) rfl) rfl ?_
    have ge3 : w.heap.size ≤ w3.heap.size := hB.size
    refine L_call rfl cb28 (bytes11 (kind := kind) (chain := chain) (lsn := lsn) (prev := prev) (xs := xs) hok hS hl) rfl ?_
    rintro _ w4 ⟨hs4, A_2, c_2, rfl, ho2⟩
    replace hB := gb_tr hB hs4
    replace hS := hS.gb hs4
    replace hb1 := hb1.gb hs4
    replace ho1 := own_gb ho1 hs4
    replace hlo1 := Nat.le_trans hlo1 hs4.size
    have hlo2 : w3.heap.size ≤ w4.heap.size := hs4.size
    refine L_run (R_assign rfl) rfl ?_
    refine L_run (R_assign rfl) rfl ?_
    refine L_nil (N_then (C_ret ?_))
    refine ret2 Tryd.results18 rfl rfl ?_
    have hf_ : RecFit kind chain lsn prev xs := ⟨hok, by omega⟩
    rw [recY_yes hf_]; exact ⟨hB, _, _, 0, rfl, ⟨fun _ => hf_, fun _ => rfl⟩, (own_lo ho2 ge3)⟩

theorem renc11_n {w : World} {t1 lo hi : Nat} {kind chain lsn prev : Int} {A : Option Addr} {c : Nat} {xs : List UInt8} (hS : Sli t1 lo hi w A (fl encB xs)) (hl : xs.length ≤ 1000000) (hok : ¬ RecOk kind chain lsn prev) :
    Runs Tryd.prog 18 #[.agg #[.int .i64 kind, .int .i64 chain, .int .i64 lsn, .int .i64 prev, .slice A xs.length c]] w (fun v w' => w.grownBy w' none ∧ ∃ A' c' e, v = .tuple #[.slice A' (recY kind chain lsn prev xs).length c', .int .i64 e] ∧ (e = 0 ↔ RecFit kind chain lsn prev xs) ∧ World.ownsRow w' w.heap.size 5 1 (.slice A' (recY kind chain lsn prev xs).length c') (recY kind chain lsn prev xs).length (fl encB (recY kind chain lsn prev xs))) := by
  have hB := gb_refl w none
  replace hS := hS.top
  refine enter Tryd.func18 Tryd.ntmps18 rfl rfl ?_
  refine C_seq (C_reg rfl ?_)
  refine L_box (cs := [.int .i64 kind, .int .i64 chain, .int .i64 lsn, .int .i64 prev, .slice A xs.length c]) rfl rfl rfl ?_
  intro g1 w1 eg1 hb1 hs1 hz1
  have ge1 : w.heap.size ≤ g1 := eg_ge hB eg1
  replace hB := gb_tr hB hs1
  replace hS := hS.gb hs1
  refine L_run (R_assign rfl) rfl ?_
  refine L_run (R_assign rfl) rfl ?_
  refine L_nil (N_then (C_seq (C_seq (C_reg rfl ?_))))
  refine L_run (R_loadA (vs := [.int .i64 kind, .int .i64 chain, .int .i64 lsn, .int .i64 prev, .slice A xs.length c]) rfl agg48 (At.pre (hb1.at_ 0) rfl) rfl) rfl ?_
  refine L_call rfl cb27 (rec_right11 (kind := kind) (chain := chain) (lsn := lsn) (prev := prev)) rfl ?_
  rintro _ w2 ⟨hs2, rfl⟩
  replace hB := gb_tr hB hs2
  replace hS := hS.gb hs2
  replace hb1 := hb1.gb hs2
  refine L_run (R_notD rfl) rfl ?_
  refine L_nil (N_then (C_condT rfl (decide_eq_true hok) (C_seq (C_reg rfl ?_))))
  refine L_run (R_assign rfl) rfl ?_
  refine L_run (R_assign rfl) rfl ?_
  refine L_nil (N_then (C_ret (R_then ?_)))
  refine ret2 Tryd.results18 rfl rfl ?_
  have hf_ : ¬ RecFit kind chain lsn prev xs := (fun h_ => hok h_.1)
  rw [recY_no hf_]; exact ⟨hB, none, 0, 13, rfl, ⟨fun h_ => absurd h_ (by decide), fun h_ => absurd h_ hf_⟩, own_nil _ _ _ _⟩

theorem renc11_ok {w : World} {t1 lo hi : Nat} {kind chain lsn prev : Int} {A : Option Addr} {c : Nat} {xs : List UInt8} (hS : Sli t1 lo hi w A (fl encB xs)) (hl : xs.length ≤ 1000000) :
    Runs Tryd.prog 18 #[.agg #[.int .i64 kind, .int .i64 chain, .int .i64 lsn, .int .i64 prev, .slice A xs.length c]] w (fun v w' => w.grownBy w' none ∧ ∃ A' c' e, v = .tuple #[.slice A' (recY kind chain lsn prev xs).length c', .int .i64 e] ∧ (e = 0 ↔ RecFit kind chain lsn prev xs) ∧ World.ownsRow w' w.heap.size 5 1 (.slice A' (recY kind chain lsn prev xs).length c') (recY kind chain lsn prev xs).length (fl encB (recY kind chain lsn prev xs))) := by
  by_cases hok : RecOk kind chain lsn prev
  · exact renc11_y hS hl hok
  · exact renc11_n hS hl hok
end Go.Proofs.YtbpjdcpfphnccaaDoor
