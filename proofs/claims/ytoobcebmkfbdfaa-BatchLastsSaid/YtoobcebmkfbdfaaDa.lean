/-
  Contracts of the packages varint, field, op and batch, as far as a batch is read.
-/
import Derived.Test.YtoobcebmkfbdfaaRows
import Derived.Test.YtoobcebmkfbdfaaVq
import Derived.Test.YtoobcebmkfbdfaaGk
namespace Go.Proofs.Ytoobcebmkfbdfaa
open Go.RowKit Gw Pl
set_option linter.unusedVariables false
set_option linter.unusedSimpArgs false
theorem agg128 : aggB Try.prog 128 3 = true := by kernel_rfl
theorem any224 : anyB Try.prog 224 = true := by kernel_rfl
theorem any5 : anyB Try.prog 5 = true := by kernel_rfl
theorem cb132 : callB Try.prog 132 = true := by kernel_rfl
theorem cb133 : callB Try.prog 133 = true := by kernel_rfl
theorem cb150 : callB Try.prog 150 = true := by kernel_rfl
theorem cb160 : callB Try.prog 160 = true := by kernel_rfl
theorem cb165 : callB Try.prog 165 = true := by kernel_rfl
theorem cb192 : callB Try.prog 192 = true := by kernel_rfl
theorem cb72 : callB Try.prog 72 = true := by kernel_rfl
theorem eqg128 : Try.prog.eqGuardType Try.prog.depth 128 = false := by kernel_rfl
theorem fld128_0 : fldB Try.prog 128 0 0 = true := by kernel_rfl
theorem fld128_1 : fldB Try.prog 128 1 1 = true := by kernel_rfl
theorem fld128_2 : fldB Try.prog 128 2 2 = true := by kernel_rfl
theorem fld244_0 : fldB Try.prog 244 0 0 = true := by kernel_rfl
theorem fld244_1 : fldB Try.prog 244 1 1 = true := by kernel_rfl
theorem fld244_2 : fldB Try.prog 244 2 2 = true := by kernel_rfl
theorem int224 : intB Try.prog 224 .u64 = true := by kernel_rfl
theorem int3 : intB Try.prog 3 .i64 = true := by kernel_rfl
theorem int5 : intB Try.prog 5 .u8 = true := by kernel_rfl
theorem mix : Try.prog.follows .mixedOrders = true := by kernel_rfl
theorem scl28 : sclB Try.prog 28 = true := by kernel_rfl
theorem scl3 : sclB Try.prog 3 = true := by kernel_rfl
theorem scl35 : sclB Try.prog 35 = true := by kernel_rfl
theorem scl5 : sclB Try.prog 5 = true := by kernel_rfl
theorem scl9 : sclB Try.prog 9 = true := by kernel_rfl
theorem sih128 : Try.prog.stoodInHeld 128 = false := by kernel_rfl
theorem slc22 : slcB Try.prog 22 128 3 40 = true := by kernel_rfl
theorem slc28 : slcB Try.prog 28 5 1 1 = true := by kernel_rfl
theorem str9 : strB Try.prog 9 = true := by kernel_rfl
theorem sz128 : szB Try.prog 128 3 = true := by kernel_rfl
theorem sz3 : szB Try.prog 3 1 = true := by kernel_rfl
theorem sz35 : szB Try.prog 35 1 = true := by kernel_rfl
theorem sz9 : szB Try.prog 9 1 = true := by kernel_rfl
theorem und128 : Try.prog.underlying 128 = some (.struct #[⟨ "Kind", 3, 0, false, "", "", 0⟩, ⟨ "Key", 9, 1, false, "", "", 8⟩, ⟨ "Val", 9, 2, false, "", "", 24⟩]) := by kernel_rfl
theorem zer128 : (Try.prog.info? 128).bind (·.zero) = some (.agg #[.int .i64 0, .string (⟨#[]⟩), .string (⟨#[]⟩)]) := by kernel_rfl
theorem zer5 : (Try.prog.info? 5).bind (·.zero) = some (.int .u8 0) := by kernel_rfl
theorem varint_Get {w : World} {t1 lo hi : Nat} {A : Option Addr} {c : Nat} {bs : List UInt8} (hS : Sli t1 lo hi w A (fl encB bs)) (hb : bs.length ≤ 140737488355328) :
    Runs Try.prog 160 #[.slice A bs.length c] w (fun v w' => w.grownBy w' none ∧ v = .tuple #[.int .u64 ((vget bs).1 : Int), .int .i64 ((vget bs).2.1 : Int), .int .i64 (vget bs).2.2]) := by
  have hB := gb_refl w none
  replace hS := hS.top
  refine enter Try.func160 Try.ntmps160 rfl rfl ?_
  refine C_seq (C_reg ?_)
  refine L_run (R_assign rfl) rfl ?_
  refine L_run (R_assign rfl) rfl ?_
  refine L_run (R_assign rfl) rfl ?_
  refine L_nil (N_then (C_seq (C_reg ?_)))
  refine L_run (R_assign rfl) rfl ?_
  refine L_nil (N_then (C_seq (C_seq (C_reg ?_))))
  refine L_run (R_move rfl) rfl ?_
  refine L_run (R_lenSl rfl slc28) rfl ?_
  refine L_run (R_move rfl) rfl ?_
  refine L_nil (N_then (C_block ?_))
  refine C_loop (fun m_ a_ w_ => ∃ (σ_ : Nat → Value) (k : Nat) (n : Nat), a_ = Ac 41 σ_ [] [(0, .slice A bs.length c), (5, .int .u64 (n : Int)), (8, .slice A bs.length c), (9, .int .i64 (bs.length : Int)), (10, .int .i64 (k : Int))] ∧ w.grownBy w_ none ∧ Sli t1 lo w.heap.size w_ A (fl encB bs) ∧ (k ≤ bs.length) ∧ (k ≤ 9) ∧ (n < 128 ^ k) ∧ (vgo k n (bs.drop k) = vget bs) ∧ bs.length - k = m_) (bs.length - 0) ?_ ?_
  · exact ⟨_, 0, 0, Ac_frg ⟨rfl, (agr rfl (by first | rfl | (congr 1; omega) | (congr 1; simp; done) | (congr 1; simp only [IntKind.wrap_u64, IntKind.wrap_i64, IntKind.wrap_u8]; omega) | (congr 1 <;> omega))), rfl, rfl, (agr rfl (by first | rfl | (congr 1; omega) | (congr 1; simp; done) | (congr 1; simp only [IntKind.wrap_u64, IntKind.wrap_i64, IntKind.wrap_u8]; omega) | (congr 1 <;> omega))), trivial⟩, hB, hS, (by omega), (by omega), (by omega), (by rw [List.drop_zero]; rfl), rfl⟩
  · clear hB
    clear hS
    rintro m_ a_ w1 ⟨σ_, k, n, rfl, hB, hS, hk, h9, hn, hv, rfl⟩
    refine C_seq (C_reg ?_)
    refine L_run (R_lss rfl rfl) rfl ?_
    refine L_nil (N_then (C_seq ?_))
    refine C_if rfl (fun h1 => ?_) (fun h1 => ?_)
    · refine C_skip (N_then (C_seq (C_block (C_seq (C_reg ?_)))))
      refine L_run (R_move rfl) rfl ?_
      have hl1 : k < bs.length := by first | omega | (simp; omega)
      refine T_index (xs := bs) (i := k) EncB rfl rfl (by first | rfl | omega) slc28 hl1 hS rfl ?_
      intro g1 o1 ha1
      refine L_run (R_load1 rfl scl5 (ha1 0 _ rfl)) rfl ?_
      refine L_run (R_assign rfl) rfl ?_
      refine L_run (R_assign rfl) rfl ?_
      refine L_nil (N_then (C_seq (C_seq (C_reg ?_))))
      refine L_run (R_move rfl) rfl ?_
      refine L_run (R_eql rfl rfl) rfl ?_
      refine L_run (R_move rfl) rfl ?_
      refine L_splitD (p := (k : Int) = 9) (fun h2 => ?_) (fun h2 => ?_)
      · refine L_yes rfl rfl rfl (decide_eq_true h2) ?_
        refine L_run (R_move rfl) rfl ?_
        refine L_yes rfl rfl rfl (decide_eq_true h2) ?_
        refine L_run (R_gtr rfl rfl) rfl ?_
        refine L_run (R_pickT rfl (decide_eq_true h2) rfl) rfl ?_
        refine L_nil (N_then ?_)
        refine C_if rfl (fun h3 => ?_) (fun h3 => ?_)
        · refine C_seq (C_reg ?_)
          refine L_run (R_assign rfl) rfl ?_
          refine L_run (R_assign rfl) rfl ?_
          refine L_run (R_assign rfl) rfl ?_
          refine L_nil (N_then (C_ret (R_then (R_in (R_then (R_then (R_in (R_then ?_))))))))
          refine ret3 Try.results160 rfl rfl rfl ?_
          first
            | (exfalso; omega)
            | (have e_ : vget bs = (0, 0, 4) := by (rw [← hv, List.drop_eq_getElem_cons hl1, vgo]; first | rw [if_pos (by omega)] | rw [if_neg (by omega), if_pos (by omega), if_pos (by omega)] | rw [if_neg (by omega), if_pos (by omega), if_neg (by omega)])
               rw [e_]
               exact ⟨hB, rfl⟩)
        · refine C_skip (N_then (C_seq (C_reg ?_)))
          refine L_run (R_move rfl) rfl ?_
          refine L_run (R_move rfl) rfl ?_
          refine L_run (R_eqv (R_and rfl rfl) (v' := .int .u8 ((bs[k].toNat % 128 : Nat) : Int)) (and127 _)) rfl ?_
          refine L_run (R_eqv (R_conv rfl any5 int224) (v' := .int .u64 ((bs[k].toNat % 128 : Nat) : Int)) (congrArg _ (w64n (by omega)))) rfl ?_
          refine L_run (R_move rfl) rfl ?_
          refine L_run (R_mul64 rfl rfl (by omega)) rfl ?_
          refine L_run (R_eqv (R_shl rfl rfl (by first | decide | omega)) (v' := .int .u64 ((bs[k].toNat % 128 * 128 ^ k : Nat) : Int)) (shl7 h9 (by have := vfit hn h9 (c := bs[k]) (by omega); omega))) rfl ?_
          refine L_run (R_eqv (R_or rfl rfl) (v' := .int .u64 ((n + bs[k].toNat % 128 * 128 ^ k : Nat) : Int)) (or_add hn (vfit hn h9 (by omega)))) rfl ?_
          refine L_run (R_assign rfl) rfl ?_
          refine L_nil (N_then (C_seq (C_reg ?_)))
          refine L_run (R_move rfl) rfl ?_
          refine L_run (R_lss rfl rfl) rfl ?_
          refine L_nil (N_then ?_)
          refine C_if rfl (fun h4 => ?_) (fun h4 => ?_)
          · refine C_seq (C_seq (C_reg ?_))
            refine L_run (R_move rfl) rfl ?_
            refine L_run (R_eql rfl rfl) rfl ?_
            refine L_run (R_move rfl) rfl ?_
            refine L_splitD (p := ((bs[k]).toNat : Int) = 0) (fun h5 => ?_) (fun h5 => ?_)
            · refine L_yes rfl rfl rfl (decide_eq_true h5) ?_
              refine L_run (R_move rfl) rfl ?_
              refine L_yes rfl rfl rfl (decide_eq_true h5) ?_
              refine L_run (R_gtr rfl rfl) rfl ?_
              refine L_run (R_pickT rfl (decide_eq_true h5) rfl) rfl ?_
              refine L_nil (N_then ?_)
              refine C_if rfl (fun h6 => ?_) (fun h6 => ?_)
              · refine C_seq (C_reg ?_)
                refine L_run (R_assign rfl) rfl ?_
                refine L_run (R_assign rfl) rfl ?_
                refine L_run (R_assign rfl) rfl ?_
                refine L_nil (N_then (C_ret (R_then (R_in (R_then (R_then (R_in (R_then ?_))))))))
                refine ret3 Try.results160 rfl rfl rfl ?_
                first
                  | (exfalso; omega)
                  | (have e_ : vget bs = (0, 0, 2) := by (rw [← hv, List.drop_eq_getElem_cons hl1, vgo]; first | rw [if_pos (by omega)] | rw [if_neg (by omega), if_pos (by omega), if_pos (by omega)] | rw [if_neg (by omega), if_pos (by omega), if_neg (by omega)])
                     rw [e_]
                     exact ⟨hB, rfl⟩)
              · refine C_skip (N_then (C_seq (C_reg ?_)))
                refine L_run (R_move rfl) rfl ?_
                refine L_run (R_move rfl) rfl ?_
                refine L_run (R_add64 rfl rfl (by omega)) rfl ?_
                refine L_run (R_assign rfl) rfl ?_
                refine L_run (R_assign rfl) rfl ?_
                refine L_run (R_assign rfl) rfl ?_
                refine L_nil (N_then (C_ret (R_in (R_then (R_then (R_in (R_then ?_)))))))
                refine ret3 Try.results160 rfl rfl rfl ?_
                first
                  | (exfalso; omega)
                  | (have e_ : vget bs = ((n + bs[k].toNat % 128 * 128 ^ k), (k + 1), 0) := by (rw [← hv, List.drop_eq_getElem_cons hl1, vgo]; first | rw [if_pos (by omega)] | rw [if_neg (by omega), if_pos (by omega), if_pos (by omega)] | rw [if_neg (by omega), if_pos (by omega), if_neg (by omega)])
                     rw [e_]
                     exact ⟨hB, rfl⟩)
            · refine L_no rfl rfl rfl (decide_eq_false h5) rfl ?_
              refine L_no rfl rfl rfl (decide_eq_false h5) rfl ?_
              refine L_run (R_pickF rfl (decide_eq_false h5) rfl) rfl ?_
              refine L_nil (N_then (C_condF rfl rfl (C_skip (N_then (C_seq (C_reg ?_))))))
              refine L_run (R_move rfl) rfl ?_
              refine L_run (R_move rfl) rfl ?_
              refine L_run (R_add64 rfl rfl (by omega)) rfl ?_
              refine L_run (R_assign rfl) rfl ?_
              refine L_run (R_assign rfl) rfl ?_
              refine L_run (R_assign rfl) rfl ?_
              refine L_nil (N_then (C_ret (R_in (R_then (R_then (R_in (R_then ?_)))))))
              refine ret3 Try.results160 rfl rfl rfl ?_
              first
                | (exfalso; omega)
                | (have e_ : vget bs = ((n + bs[k].toNat % 128 * 128 ^ k), (k + 1), 0) := by (rw [← hv, List.drop_eq_getElem_cons hl1, vgo]; first | rw [if_pos (by omega)] | rw [if_neg (by omega), if_pos (by omega), if_pos (by omega)] | rw [if_neg (by omega), if_pos (by omega), if_neg (by omega)])
                   rw [e_]
                   exact ⟨hB, rfl⟩)
          · refine C_skip (N_in (N_then (C_reg ?_)))
            refine L_run (R_add64 rfl rfl (by omega)) rfl ?_
            refine L_run (R_move rfl) rfl ?_
            refine L_nil (N_then ?_)
            exact ⟨bs.length - (k + 1), by omega, _, (k + 1), (n + bs[k].toNat % 128 * 128 ^ k), Ac_frg ⟨rfl, (agr rfl (by first | rfl | (congr 1; omega) | (congr 1; simp; done) | (congr 1; simp only [IntKind.wrap_u64, IntKind.wrap_i64, IntKind.wrap_u8]; omega) | (congr 1 <;> omega))), rfl, rfl, (agr rfl (by first | rfl | (congr 1; omega) | (congr 1; simp; done) | (congr 1; simp only [IntKind.wrap_u64, IntKind.wrap_i64, IntKind.wrap_u8]; omega) | (congr 1 <;> omega))), trivial⟩, hB, hS, (by omega), (by omega), (vstep hn), (by rw [← hv, List.drop_eq_getElem_cons hl1, vgo, if_neg (by omega), if_neg (by omega)]), rfl⟩
      · refine L_no rfl rfl rfl (decide_eq_false h2) rfl ?_
        refine L_no rfl rfl rfl (decide_eq_false h2) rfl ?_
        refine L_run (R_pickF rfl (decide_eq_false h2) rfl) rfl ?_
        refine L_nil (N_then (C_condF rfl rfl (C_skip (N_then (C_seq (C_reg ?_))))))
        refine L_run (R_move rfl) rfl ?_
        refine L_run (R_move rfl) rfl ?_
        refine L_run (R_eqv (R_and rfl rfl) (v' := .int .u8 ((bs[k].toNat % 128 : Nat) : Int)) (and127 _)) rfl ?_
        refine L_run (R_eqv (R_conv rfl any5 int224) (v' := .int .u64 ((bs[k].toNat % 128 : Nat) : Int)) (congrArg _ (w64n (by omega)))) rfl ?_
        refine L_run (R_move rfl) rfl ?_
        refine L_run (R_mul64 rfl rfl (by omega)) rfl ?_
        refine L_run (R_eqv (R_shl rfl rfl (by first | decide | omega)) (v' := .int .u64 ((bs[k].toNat % 128 * 128 ^ k : Nat) : Int)) (shl7 h9 (by have := vfit hn h9 (c := bs[k]) (by omega); omega))) rfl ?_
        refine L_run (R_eqv (R_or rfl rfl) (v' := .int .u64 ((n + bs[k].toNat % 128 * 128 ^ k : Nat) : Int)) (or_add hn (vfit hn h9 (by omega)))) rfl ?_
        refine L_run (R_assign rfl) rfl ?_
        refine L_nil (N_then (C_seq (C_reg ?_)))
        refine L_run (R_move rfl) rfl ?_
        refine L_run (R_lss rfl rfl) rfl ?_
        refine L_nil (N_then ?_)
        refine C_if rfl (fun h7 => ?_) (fun h7 => ?_)
        · refine C_seq (C_seq (C_reg ?_))
          refine L_run (R_move rfl) rfl ?_
          refine L_run (R_eql rfl rfl) rfl ?_
          refine L_run (R_move rfl) rfl ?_
          refine L_splitD (p := ((bs[k]).toNat : Int) = 0) (fun h8 => ?_) (fun h8 => ?_)
          · refine L_yes rfl rfl rfl (decide_eq_true h8) ?_
            refine L_run (R_move rfl) rfl ?_
            refine L_yes rfl rfl rfl (decide_eq_true h8) ?_
            refine L_run (R_gtr rfl rfl) rfl ?_
            refine L_run (R_pickT rfl (decide_eq_true h8) rfl) rfl ?_
            refine L_nil (N_then ?_)
            refine C_if rfl (fun h9 => ?_) (fun h9 => ?_)
            · refine C_seq (C_reg ?_)
              refine L_run (R_assign rfl) rfl ?_
              refine L_run (R_assign rfl) rfl ?_
              refine L_run (R_assign rfl) rfl ?_
              refine L_nil (N_then (C_ret (R_then (R_in (R_then (R_then (R_in (R_then ?_))))))))
              refine ret3 Try.results160 rfl rfl rfl ?_
              first
                | (exfalso; omega)
                | (have e_ : vget bs = (0, 0, 2) := by (rw [← hv, List.drop_eq_getElem_cons hl1, vgo]; first | rw [if_pos (by omega)] | rw [if_neg (by omega), if_pos (by omega), if_pos (by omega)] | rw [if_neg (by omega), if_pos (by omega), if_neg (by omega)])
                   rw [e_]
                   exact ⟨hB, rfl⟩)
            · refine C_skip (N_then (C_seq (C_reg ?_)))
              refine L_run (R_move rfl) rfl ?_
              refine L_run (R_move rfl) rfl ?_
              refine L_run (R_add64 rfl rfl (by omega)) rfl ?_
              refine L_run (R_assign rfl) rfl ?_
              refine L_run (R_assign rfl) rfl ?_
              refine L_run (R_assign rfl) rfl ?_
              refine L_nil (N_then (C_ret (R_in (R_then (R_then (R_in (R_then ?_)))))))
              refine ret3 Try.results160 rfl rfl rfl ?_
              first
                | (exfalso; omega)
                | (have e_ : vget bs = ((n + bs[k].toNat % 128 * 128 ^ k), (k + 1), 0) := by (rw [← hv, List.drop_eq_getElem_cons hl1, vgo]; first | rw [if_pos (by omega)] | rw [if_neg (by omega), if_pos (by omega), if_pos (by omega)] | rw [if_neg (by omega), if_pos (by omega), if_neg (by omega)])
                   rw [e_]
                   exact ⟨hB, rfl⟩)
          · refine L_no rfl rfl rfl (decide_eq_false h8) rfl ?_
            refine L_no rfl rfl rfl (decide_eq_false h8) rfl ?_
            refine L_run (R_pickF rfl (decide_eq_false h8) rfl) rfl ?_
            refine L_nil (N_then (C_condF rfl rfl (C_skip (N_then (C_seq (C_reg ?_))))))
            refine L_run (R_move rfl) rfl ?_
            refine L_run (R_move rfl) rfl ?_
            refine L_run (R_add64 rfl rfl (by omega)) rfl ?_
            refine L_run (R_assign rfl) rfl ?_
            refine L_run (R_assign rfl) rfl ?_
            refine L_run (R_assign rfl) rfl ?_
            refine L_nil (N_then (C_ret (R_in (R_then (R_then (R_in (R_then ?_)))))))
            refine ret3 Try.results160 rfl rfl rfl ?_
            first
              | (exfalso; omega)
              | (have e_ : vget bs = ((n + bs[k].toNat % 128 * 128 ^ k), (k + 1), 0) := by (rw [← hv, List.drop_eq_getElem_cons hl1, vgo]; first | rw [if_pos (by omega)] | rw [if_neg (by omega), if_pos (by omega), if_pos (by omega)] | rw [if_neg (by omega), if_pos (by omega), if_neg (by omega)])
                 rw [e_]
                 exact ⟨hB, rfl⟩)
        · refine C_skip (N_in (N_then (C_reg ?_)))
          refine L_run (R_add64 rfl rfl (by omega)) rfl ?_
          refine L_run (R_move rfl) rfl ?_
          refine L_nil (N_then ?_)
          exact ⟨bs.length - (k + 1), by omega, _, (k + 1), (n + bs[k].toNat % 128 * 128 ^ k), Ac_frg ⟨rfl, (agr rfl (by first | rfl | (congr 1; omega) | (congr 1; simp; done) | (congr 1; simp only [IntKind.wrap_u64, IntKind.wrap_i64, IntKind.wrap_u8]; omega) | (congr 1 <;> omega))), rfl, rfl, (agr rfl (by first | rfl | (congr 1; omega) | (congr 1; simp; done) | (congr 1; simp only [IntKind.wrap_u64, IntKind.wrap_i64, IntKind.wrap_u8]; omega) | (congr 1 <;> omega))), trivial⟩, hB, hS, (by omega), (by omega), (vstep hn), (by rw [← hv, List.drop_eq_getElem_cons hl1, vgo, if_neg (by omega), if_neg (by omega)]), rfl⟩
    · refine C_exit (X_then (X_then (X_hit (N_then (C_seq (C_reg ?_))))))
      refine L_run (R_assign rfl) rfl ?_
      refine L_run (R_assign rfl) rfl ?_
      refine L_run (R_assign rfl) rfl ?_
      refine L_nil (N_then (C_ret ?_))
      refine ret3 Try.results160 rfl rfl rfl ?_
      first
        | (exfalso; omega)
        | (have e_ : vget bs = (0, 0, 1) := by rw [← hv, List.drop_of_length_le (by omega), vgo]
           rw [e_]
           exact ⟨hB, rfl⟩)

theorem field_Get {w : World} {t1 lo hi : Nat} {A : Option Addr} {c : Nat} {bs : List UInt8} (hS : Sli t1 lo hi w A (fl encB bs)) (hb : bs.length ≤ 140737488355328) (hc : bs.length ≤ c) :
    Runs Try.prog 192 #[.slice A bs.length c] w (fun v w' => w.grownBy w' none ∧ ∃ A' c', v = .tuple #[.slice A' (fget bs).1.length c', .int .i64 ((fget bs).2.1 : Int), .int .i64 (fget bs).2.2] ∧ World.ownsRow w' w.heap.size 5 1 (.slice A' (fget bs).1.length c') (fget bs).1.length (fl encB (fget bs).1)) := by
  have hB := gb_refl w none
  obtain ⟨vb1, vb2, vb3, vb4, vb5⟩ := vget_bound bs
  replace hS := hS.top
  refine enter Try.func192 Try.ntmps192 rfl rfl ?_
  refine C_seq (C_reg ?_)
  refine L_run (R_assign rfl) rfl ?_
  refine L_run (R_assign rfl) rfl ?_
  refine L_run (R_assign rfl) rfl ?_
  refine L_nil (N_then (C_seq (C_reg ?_)))
  refine L_run (R_move rfl) rfl ?_
  refine L_call rfl cb160 (varint_Get (bs := bs) hS (by first | omega | (simp; done) | (simp; omega))) rfl ?_
  rintro _ w1 ⟨hs1, rfl⟩
  replace hB := gb_tr hB hs1
  replace hS := hS.gb hs1
  refine L_run (R_move rfl) rfl ?_
  refine L_run (R_extract rfl rfl) rfl ?_
  refine L_run (R_extract rfl rfl) rfl ?_
  refine L_run (R_extract rfl rfl) rfl ?_
  refine L_run (R_assign rfl) rfl ?_
  refine L_run (R_assign rfl) rfl ?_
  refine L_run (R_assign rfl) rfl ?_
  refine L_nil (N_then (C_seq (C_seq (C_reg ?_))))
  refine L_run (R_move rfl) rfl ?_
  refine L_run (R_neq rfl rfl) rfl ?_
  refine L_nil (N_then ?_)
  refine C_if rfl (fun h1 => ?_) (fun h1 => ?_)
  · refine C_seq (C_reg ?_)
    refine L_run (R_move rfl) rfl ?_
    refine L_run (R_assign rfl) rfl ?_
    refine L_run (R_assign rfl) rfl ?_
    refine L_run (R_assign rfl) rfl ?_
    refine L_nil (N_then (C_ret (R_then ?_)))
    refine ret3 Try.results192 rfl rfl rfl ?_
    first
      | (exfalso; omega)
      | (have e_ : fget bs = ([], 0, (vget bs).2.2) := by unfold fget; first | rw [if_pos (by omega)] | rw [if_neg (by omega), if_pos (by omega)] | rw [if_neg (by omega), if_neg (by omega), if_pos (by omega)]
         rw [e_]
         exact ⟨hB, none, 0, rfl, own_nil _ _ _ _⟩)
  · refine C_skip (N_then (C_seq (C_seq (C_reg ?_))))
    refine L_run (R_move rfl) rfl ?_
    refine L_run (R_gtr rfl rfl) rfl ?_
    refine L_nil (N_then ?_)
    refine C_if rfl (fun h2 => ?_) (fun h2 => ?_)
    · refine C_seq (C_reg ?_)
      refine L_run (R_assign rfl) rfl ?_
      refine L_run (R_assign rfl) rfl ?_
      refine L_run (R_assign rfl) rfl ?_
      refine L_nil (N_then (C_ret (R_then ?_)))
      refine ret3 Try.results192 rfl rfl rfl ?_
      first
        | (exfalso; omega)
        | (have e_ : fget bs = ([], 0, 5) := by unfold fget; first | rw [if_pos (by omega)] | rw [if_neg (by omega), if_pos (by omega)] | rw [if_neg (by omega), if_neg (by omega), if_pos (by omega)]
           rw [e_]
           exact ⟨hB, none, 0, rfl, own_nil _ _ _ _⟩)
    · refine C_skip (N_then (C_seq (C_reg ?_)))
      refine L_run (R_move rfl) rfl ?_
      refine L_run (R_move rfl) rfl ?_
      refine L_run (R_eqv (R_conv rfl any224 int3) (v' := .int .i64 ((vget bs).1 : Int)) (congrArg _ (i64_fit (by omega)))) rfl ?_
      refine L_run (R_add64 rfl rfl (by omega)) rfl ?_
      refine L_run (R_assign rfl) rfl ?_
      refine L_nil (N_then (C_seq (C_seq (C_reg ?_))))
      refine L_run (R_move rfl) rfl ?_
      refine L_run (R_move rfl) rfl ?_
      refine L_run (R_lenSl rfl slc28) rfl ?_
      refine L_run (R_gtr rfl rfl) rfl ?_
      refine L_nil (N_then ?_)
      refine C_if rfl (fun h3 => ?_) (fun h3 => ?_)
      · refine C_seq (C_reg ?_)
        refine L_run (R_assign rfl) rfl ?_
        refine L_run (R_assign rfl) rfl ?_
        refine L_run (R_assign rfl) rfl ?_
        refine L_nil (N_then (C_ret (R_then ?_)))
        refine ret3 Try.results192 rfl rfl rfl ?_
        first
          | (exfalso; omega)
          | (have e_ : fget bs = ([], 0, 1) := by unfold fget; first | rw [if_pos (by omega)] | rw [if_neg (by omega), if_pos (by omega)] | rw [if_neg (by omega), if_neg (by omega), if_pos (by omega)]
             rw [e_]
             exact ⟨hB, none, 0, rfl, own_nil _ _ _ _⟩)
      · refine C_skip (N_then (C_seq (C_reg ?_)))
        refine L_buildSlice (pv := []) (cs := []) slc28 zer5 rfl rfl (by kernel_rfl) rfl ?_
        intro g1 w2 eg1 hb1 hs2 hz1
        have ge1 : w.heap.size ≤ g1 := eg_ge hB eg1
        replace hB := gb_tr hB hs2
        replace hS := hS.gb hs2
        refine L_run (R_move rfl) rfl ?_
        refine L_run (R_move rfl) rfl ?_
        refine L_run (R_move rfl) rfl ?_
        refine L_run (R_move rfl) rfl ?_
        refine T_slLHM (xs := bs) (i := (vget bs).2.1) (j := ((vget bs).2.1 + (vget bs).1)) (r := ((vget bs).2.1 + (vget bs).1)) EncB rfl rfl rfl rfl (by first | rfl | omega) (by first | rfl | omega) (by first | rfl | omega) slc28 (by first | omega | (simp; done) | (simp; omega)) (by first | omega | (simp; done) | (simp; omega)) (by first | omega | (simp; done) | (simp; omega)) (by first | omega | (simp; done) | (simp; omega)) hS rfl ?_
        intro A_1 hS_1
        have hlo1 : g1 ≤ w2.heap.size := Nat.le_of_lt hb1.lt
        have ho1 : World.ownsRow w2 g1 5 1 (.slice (some ⟨g1, 0, none⟩) ([] : List UInt8).length 0) ([] : List UInt8).length (fl encB []) := Blk.own (sz := 1) (m := 0) hb1 (by decide) rfl (Nat.le_refl _)
        refine T_append (xs := []) (ys := (bs.drop ((vget bs).2.1)).take (((vget bs).2.1 + (vget bs).1) - ((vget bs).2.1))) EncB slc28 rfl rfl ho1 hS_1 (by first | omega | (simp; done) | (simp; omega)) hlo1 rfl ?_
        intro A_2 c_1 w3 ho2 hs3 hat1
        replace hB := gb_tro hB ho1 hs3 ge1
        replace hS := hS.grown hs3 (fun k hk => .inr (Nat.le_trans ge1 (World.ownsRow.lt ho1 k hk).1))
        replace hS_1 := hS_1.grown hs3 (fun k hk => .inr (Nat.le_trans ge1 (World.ownsRow.lt ho1 k hk).1))
        replace hlo1 := Nat.le_trans hlo1 hs3.size
        simp only [List.nil_append] at ho2 ⊢
        refine L_run (R_move rfl) rfl ?_
        refine L_run (R_assign rfl) rfl ?_
        refine L_run (R_assign rfl) rfl ?_
        refine L_run (R_assign rfl) rfl ?_
        refine L_nil (N_then (C_ret ?_))
        refine ret3 Try.results192 rfl rfl rfl ?_
        first
          | (exfalso; omega)
          | (have e_ : fget bs = ((bs.drop ((vget bs).2.1)).take (((vget bs).2.1 + (vget bs).1) - ((vget bs).2.1)), (((vget bs).2.1) + ((vget bs).1)), 0) := by unfold fget; rw [if_neg (by omega), if_neg (by omega), if_neg (by omega)]; congr 3; omega
             rw [e_]
             exact ⟨hB, _, _, rfl, (own_lo ho2 ge1)⟩)

theorem op_Right {w : World} {k : Int} {key val : ByteArray} :
    Runs Try.prog 150 #[.agg #[.int .i64 k, .string key, .string val]] w (fun v w' => w.grownBy w' none ∧ v = .bool (decide (OkOp k key val))) := by
  have hB := gb_refl w none
  refine enter Try.func150 Try.ntmps150 rfl rfl ?_
  refine C_seq (C_reg ?_)
  refine L_box (cs := [.int .i64 k, .string key, .string val]) rfl rfl rfl ?_
  intro g1 w1 eg1 hb1 hs1 hz1
  have ge1 : w.heap.size ≤ g1 := eg_ge hB eg1
  replace hB := gb_tr hB hs1
  refine L_run (R_assign rfl) rfl ?_
  refine L_nil (N_then (C_seq (C_seq (C_reg ?_))))
  refine L_run (R_field (r := 1) rfl fld128_1 rfl) rfl ?_
  refine L_run (R_load1 rfl scl9 (hb1.cell (i := 1) rfl)) rfl ?_
  refine L_run (R_lenS rfl str9) rfl ?_
  refine L_run (R_lss rfl rfl) rfl ?_
  refine L_run (R_move rfl) rfl ?_
  refine L_splitD (p := (key.size : Int) < 1) (fun h1 => ?_) (fun h1 => ?_)
  · refine L_no rfl rfl rfl (decide_eq_true h1) rfl ?_
    refine L_no rfl rfl rfl (decide_eq_true h1) rfl ?_
    refine L_no rfl rfl rfl (decide_eq_true h1) rfl ?_
    refine L_no rfl rfl rfl (decide_eq_true h1) rfl ?_
    refine L_run (R_pickT rfl (decide_eq_true h1) rfl) rfl ?_
    refine L_nil (N_then (C_condT rfl rfl (C_seq (C_reg ?_))))
    refine L_run (R_assign rfl) rfl ?_
    refine L_nil (N_then (C_ret (R_then ?_)))
    refine ret1 Try.results150 rfl ?_
    first
      | (exfalso; omega)
      | (exact ⟨hB, bF (by unfold OkOp; first | omega | (simp only [empty_iff] at *; omega))⟩)
  · refine L_yes rfl rfl rfl (decide_eq_false h1) ?_
    refine L_run (R_field (r := 1) rfl fld128_1 rfl) rfl ?_
    refine L_yes rfl rfl rfl (decide_eq_false h1) ?_
    refine L_run (R_load1 rfl scl9 (hb1.cell (i := 1) rfl)) rfl ?_
    refine L_yes rfl rfl rfl (decide_eq_false h1) ?_
    refine L_run (R_lenS rfl str9) rfl ?_
    refine L_yes rfl rfl rfl (decide_eq_false h1) ?_
    refine L_run (R_gtr rfl rfl) rfl ?_
    refine L_run (R_pickF rfl (decide_eq_false h1) rfl) rfl ?_
    refine L_nil (N_then ?_)
    refine C_if rfl (fun h2 => ?_) (fun h2 => ?_)
    · refine C_seq (C_reg ?_)
      refine L_run (R_assign rfl) rfl ?_
      refine L_nil (N_then (C_ret (R_then ?_)))
      refine ret1 Try.results150 rfl ?_
      first
        | (exfalso; omega)
        | (exact ⟨hB, bF (by unfold OkOp; first | omega | (simp only [empty_iff] at *; omega))⟩)
    · refine C_skip (N_then (C_seq (C_seq (C_reg ?_))))
      refine L_run (R_field (r := 0) rfl fld128_0 rfl) rfl ?_
      refine L_run (R_load1 rfl scl3 (hb1.cell (i := 0) rfl)) rfl ?_
      refine L_nil (N_then (C_block (C_seq (C_reg ?_))))
      refine L_run (R_eql rfl rfl) rfl ?_
      refine L_run (R_assign rfl) rfl ?_
      refine L_nil (N_then ?_)
      refine C_if rfl (fun h3 => ?_) (fun h3 => ?_)
      · refine C_seq (C_reg ?_)
        refine L_run (R_field (r := 2) rfl fld128_2 rfl) rfl ?_
        refine L_run (R_load1 rfl scl9 (hb1.cell (i := 2) rfl)) rfl ?_
        refine L_run (R_lenS rfl str9) rfl ?_
        refine L_run (R_leq rfl rfl) rfl ?_
        refine L_run (R_assign rfl) rfl ?_
        refine L_nil (N_then (C_ret (R_in (R_then ?_))))
        refine ret1 Try.results150 rfl ?_
        first
          | (exfalso; omega)
          | (exact ⟨hB, bD (by unfold OkOp; first | omega | (simp only [empty_iff]; omega))⟩)
      · refine C_seq (C_reg ?_)
        refine L_run (R_eql rfl rfl) rfl ?_
        refine L_run (R_assign rfl) rfl ?_
        refine L_nil (N_then ?_)
        refine C_if rfl (fun h4 => ?_) (fun h4 => ?_)
        · refine C_seq (C_reg ?_)
          refine L_run (R_field (r := 2) rfl fld128_2 rfl) rfl ?_
          refine L_run (R_load1 rfl scl9 (hb1.cell (i := 2) rfl)) rfl ?_
          refine L_run (R_eqlS rfl rfl) rfl ?_
          refine L_run (R_assign rfl) rfl ?_
          refine L_nil (N_then (C_ret (R_in (R_then ?_))))
          refine ret1 Try.results150 rfl ?_
          first
            | (exfalso; omega)
            | (exact ⟨hB, bD (by unfold OkOp; first | omega | (simp only [empty_iff]; omega))⟩)
        · refine C_skip (N_in (N_then (C_seq (C_reg ?_))))
          refine L_run (R_assign rfl) rfl ?_
          refine L_nil (N_then (C_ret ?_))
          refine ret1 Try.results150 rfl ?_
          first
            | (exfalso; omega)
            | (exact ⟨hB, bF (by unfold OkOp; first | omega | (simp only [empty_iff] at *; omega))⟩)

theorem reader_text {w : World} {g t1 lo hi : Nat} {A : Option Addr} {c a : Nat} {e : Int} {bs : List UInt8} (hb : Blk w g 244 [.slice A bs.length c, .int .i64 (a : Int), .int .i64 e]) (hS : Sli t1 lo hi w A (fl encB bs)) (hgi : hi ≤ g) (hl : bs.length ≤ 140737488355328) (ha : a ≤ bs.length) (hc : bs.length ≤ c) :
    Runs Try.prog 165 #[.pointer (some ⟨g, 0, none⟩)] w (fun v w' => w.grownBy w' (some g) ∧ v = .string ⟨(txt a e bs).1.toArray⟩ ∧ Blk w' g 244 [.slice A bs.length c, .int .i64 ((txt a e bs).2.1 : Int), .int .i64 (txt a e bs).2.2]) := by
  have hB := gb_refl w (some g)
  obtain ⟨fb1, fb2, fb3, fb4⟩ := fget_bound (bs.drop a)
  rw [List.length_drop] at fb1 fb4
  refine enter Try.func165 Try.ntmps165 rfl rfl ?_
  refine C_seq (C_reg ?_)
  refine L_run (R_assign rfl) rfl ?_
  refine L_nil (N_then (C_seq (C_seq (C_reg ?_))))
  refine L_run (R_move rfl) rfl ?_
  refine L_run (R_nilck rfl) rfl ?_
  refine L_run (R_field (r := 2) rfl fld244_2 rfl) rfl ?_
  refine L_run (R_load1 rfl scl35 (hb.cell (i := 2) rfl)) rfl ?_
  refine L_run (R_neq rfl rfl) rfl ?_
  refine L_nil (N_then ?_)
  refine C_if rfl (fun h1 => ?_) (fun h1 => ?_)
  · refine C_seq (C_reg ?_)
    refine L_run (R_assign rfl) rfl ?_
    refine L_nil (N_then (C_ret (R_then ?_)))
    refine ret1 Try.results165 rfl ?_
    refine ⟨hB, ?_⟩
    have e_ : txt a e bs = ([], a, e) := by unfold txt; rw [if_pos (by omega)]
    rw [e_]; exact ⟨rfl, hb⟩
  · refine C_skip (N_then (C_seq ?_))
    refine C_draw2 mix ?_
    intro w1 hs1 hz1
    replace hB := gb_tr hB hs1
    replace hb := hb.gb hs1
    replace hS := hS.gb hs1
    refine ⟨fun W_ => Blk W_ g 244 [.slice A bs.length c, .int .i64 (a : Int), .int .i64 e] ∧ True, [0, 1, 2, 3, 4, 5, 6, 7, 10, 11, 12, 13, 14, 15, 16], ?_⟩
    refine T_takeA (i := 0) rfl rfl (by kernel_rfl) (by kernel_rfl) (by kernel_rfl) (Y_of (fun _ ⟨hb, _⟩ => R_move rfl)) ⟨hb, trivial⟩ rfl ?_
    refine T_takeA (i := 1) rfl rfl (by kernel_rfl) (by kernel_rfl) (by kernel_rfl) (Y_of (fun _ ⟨hb, _⟩ => R_nilck rfl)) ⟨hb, trivial⟩ rfl ?_
    refine T_takeA (i := 2) rfl rfl (by kernel_rfl) (by kernel_rfl) (by kernel_rfl) (Y_of (fun _ ⟨hb, _⟩ => R_field (r := 0) rfl fld244_0 rfl)) ⟨hb, trivial⟩ rfl ?_
    refine T_takeA (i := 3) rfl rfl (by kernel_rfl) (by kernel_rfl) (by kernel_rfl) (Y_of (fun _ ⟨hb, _⟩ => R_load1 rfl scl28 (hb.cell (i := 0) rfl))) ⟨hb, trivial⟩ rfl ?_
    refine T_takeA (i := 4) rfl rfl (by kernel_rfl) (by kernel_rfl) (by kernel_rfl) (Y_of (fun _ ⟨hb, _⟩ => R_move rfl)) ⟨hb, trivial⟩ rfl ?_
    refine T_takeA (i := 5) rfl rfl (by kernel_rfl) (by kernel_rfl) (by kernel_rfl) (Y_of (fun _ ⟨hb, _⟩ => R_nilck rfl)) ⟨hb, trivial⟩ rfl ?_
    refine T_takeA (i := 6) rfl rfl (by kernel_rfl) (by kernel_rfl) (by kernel_rfl) (Y_of (fun _ ⟨hb, _⟩ => R_field (r := 1) rfl fld244_1 rfl)) ⟨hb, trivial⟩ rfl ?_
    refine T_takeA (i := 7) rfl rfl (by kernel_rfl) (by kernel_rfl) (by kernel_rfl) (Y_of (fun _ ⟨hb, _⟩ => R_load1 rfl scl3 (hb.cell (i := 1) rfl))) ⟨hb, trivial⟩ rfl ?_
    refine T_all (rs := [8]) (by kernel_rfl) rfl (all1 (O_one rfl ?_))
    refine T_slL (xs := bs) (i := a) EncB rfl rfl (by first | rfl | omega) slc28 (by first | omega | (simp; done) | (simp; omega)) (by first | omega | (simp; done) | (simp; omega)) hS rfl ?_
    intro A_1 hS_1
    refine L_nil (N_then ⟨fun hN_ => ⟨hb, trivial⟩, ?_⟩)
    refine T_all (rs := [9]) (by kernel_rfl) rfl (all1 (O_one rfl ?_))
    have ge1 : w.heap.size ≤ w1.heap.size := hB.size
    refine L_call rfl cb192 (field_Get (bs := (bs.drop a)) hS_1 (by simp; omega) (by simp; omega)) rfl ?_
    rintro _ w2 ⟨hs2, A_2, c_1, rfl, ho1⟩
    replace hB := gb_tr hB hs2
    replace hb := hb.gb hs2
    replace hS := hS.gb hs2
    replace hS_1 := hS_1.gb hs2
    have hlo1 : w1.heap.size ≤ w2.heap.size := hs2.size
    refine L_nil (N_then ⟨fun hN_ => ⟨hb, trivial⟩, ?_⟩)
    refine T_takeA (i := 10) rfl rfl (by kernel_rfl) (by kernel_rfl) (by kernel_rfl) (Y_of (fun _ ⟨hb, _⟩ => R_move rfl)) ⟨hb, trivial⟩ rfl ?_
    refine T_takeA (i := 11) rfl rfl (by kernel_rfl) (by kernel_rfl) (by kernel_rfl) (Y_of (fun _ ⟨hb, _⟩ => R_extract rfl rfl)) ⟨hb, trivial⟩ rfl ?_
    refine T_takeA (i := 12) rfl rfl (by kernel_rfl) (by kernel_rfl) (by kernel_rfl) (Y_of (fun _ ⟨hb, _⟩ => R_extract rfl rfl)) ⟨hb, trivial⟩ rfl ?_
    refine T_takeA (i := 13) rfl rfl (by kernel_rfl) (by kernel_rfl) (by kernel_rfl) (Y_of (fun _ ⟨hb, _⟩ => R_extract rfl rfl)) ⟨hb, trivial⟩ rfl ?_
    refine T_takeA (i := 14) rfl rfl (by kernel_rfl) (by kernel_rfl) (by kernel_rfl) (Y_of (fun _ ⟨hb, _⟩ => R_assign rfl)) ⟨hb, trivial⟩ rfl ?_
    refine T_takeA (i := 15) rfl rfl (by kernel_rfl) (by kernel_rfl) (by kernel_rfl) (Y_of (fun _ ⟨hb, _⟩ => R_assign rfl)) ⟨hb, trivial⟩ rfl ?_
    refine T_takeA (i := 16) rfl rfl (by kernel_rfl) (by kernel_rfl) (by kernel_rfl) (Y_of (fun _ ⟨hb, _⟩ => R_assign rfl)) ⟨hb, trivial⟩ rfl ?_
    refine T_done (by kernel_rfl) (NoPanic.normal ?_)
    refine N_then (C_seq (C_reg ?_))
    refine L_run (R_move rfl) rfl ?_
    refine L_run (R_move rfl) rfl ?_
    refine L_run (R_move rfl) rfl ?_
    refine L_run (R_nilck rfl) rfl ?_
    refine L_run (R_field (r := 1) rfl fld244_1 rfl) rfl ?_
    refine L_run (R_load1 rfl scl3 (hb.cell (i := 1) rfl)) rfl ?_
    refine L_run (R_move rfl) rfl ?_
    refine L_run (R_eqv (R_add64 rfl rfl (by omega)) (v' := .int .i64 ((a + (fget (bs.drop a)).2.1 : Nat) : Int)) (by congr 1)) rfl ?_
    refine L_run (R_move rfl) rfl ?_
    refine L_run (R_nilck rfl) rfl ?_
    refine L_run (R_field (r := 1) rfl fld244_1 rfl) rfl ?_
    refine L_st1 rfl rfl rfl sz3 hb rfl ?_
    intro w3 hb1 hs3 hz2
    replace hB := gb_trans hB hs3
    replace hS := hS.old hs3 hgi
    replace hS_1 := hS_1.grown hs3 (by rintro _ ⟨rfl⟩; omega)
    replace ho1 := own_other ho1 hb rfl hs3
    replace hlo1 := Nat.le_trans hlo1 hs3.size
    refine L_run (R_nilck rfl) rfl ?_
    refine L_run (R_field (r := 2) rfl fld244_2 rfl) rfl ?_
    refine L_st1 rfl rfl rfl sz35 hb1 rfl ?_
    intro w4 hb2 hs4 hz3
    replace hB := gb_trans hB hs4
    replace hS := hS.old hs4 hgi
    replace hS_1 := hS_1.grown hs4 (by rintro _ ⟨rfl⟩; omega)
    replace ho1 := own_other ho1 hb1 rfl hs4
    replace hlo1 := Nat.le_trans hlo1 hs4.size
    refine L_nil (N_then (C_seq (C_reg ?_)))
    refine L_run (R_move rfl) rfl ?_
    refine L_run (R_b2s' (bs := (fget (bs.drop a)).1) rfl slc28 int5 str9 (own_of ho1).2.2) rfl ?_
    refine L_run (R_assign rfl) rfl ?_
    refine L_nil (N_then (C_ret ?_))
    refine ret1 Try.results165 rfl ?_
    refine ⟨hB, ?_⟩
    have e_ : txt a e bs = ((fget (bs.drop a)).1, a + (fget (bs.drop a)).2.1, (fget (bs.drop a)).2.2) := by unfold txt; rw [if_neg (by omega)]
    rw [e_]; exact ⟨rfl, hb2⟩

theorem op_Get {w : World} {t1 lo hi : Nat} {A : Option Addr} {c : Nat} {bs : List UInt8} (hS : Sli t1 lo hi w A (fl encB bs)) (hl : bs.length ≤ 140737488355328) (hc : bs.length ≤ c) :
    Runs Try.prog 132 #[.slice A bs.length c] w (fun v w' => w.grownBy w' none ∧ v = .tuple #[.agg #[.int .i64 (oget bs).1.1, .string (oget bs).1.2.1, .string (oget bs).1.2.2], .int .i64 ((oget bs).2.1 : Int), .int .i64 (oget bs).2.2]) := by
  have hB := gb_refl w none
  replace hS := hS.top
  refine enter Try.func132 Try.ntmps132 rfl rfl ?_
  refine C_seq (C_reg ?_)
  refine L_alloc (cs := [.int .i64 0, .string (⟨#[]⟩), .string (⟨#[]⟩)]) zer128 rfl rfl ?_
  intro g1 w1 eg1 hb1 hs1 hz1
  have ge1 : w.heap.size ≤ g1 := eg_ge hB eg1
  replace hB := gb_tr hB hs1
  replace hS := hS.gb hs1
  refine L_run (R_assign rfl) rfl ?_
  refine L_run (R_assign rfl) rfl ?_
  refine L_nil (N_then (C_seq (C_seq (C_reg ?_))))
  refine L_run (R_move rfl) rfl ?_
  refine L_run (R_lenSl rfl slc28) rfl ?_
  refine L_run (R_eql rfl rfl) rfl ?_
  refine L_nil (N_then ?_)
  refine C_if rfl (fun h1 => ?_) (fun h1 => ?_)
  · refine C_seq (C_reg ?_)
    refine L_run (R_build (pv := []) (cs := [.int .i64 0, .string (⟨#[]⟩), .string (⟨#[]⟩)]) rfl (by kernel_rfl)) rfl ?_
    refine L_stA (vs := [.int .i64 0, .string (⟨#[]⟩), .string (⟨#[]⟩)]) rfl rfl rfl sz128 rfl hb1 rfl ?_
    intro w2 hb2 hs2 hz2
    replace hB := gb_trg hB hs2 ge1
    replace hS := hS.old hs2 ge1
    refine L_run (R_assign rfl) rfl ?_
    refine L_run (R_assign rfl) rfl ?_
    refine L_nil (N_then (C_ret (R_then ?_)))
    refine retC2 (vs := [.int .i64 0, .string (⟨#[]⟩), .string (⟨#[]⟩)]) Try.results132 rfl agg128 (At.pre (hb2.at_ 0) rfl) rfl rfl rfl ?_
    refine ⟨hB, ?_⟩
    have e_ : oget bs = ((0, ⟨#[]⟩, ⟨#[]⟩), 0, 1) := by
      have : bs = [] := List.eq_nil_of_length_eq_zero (by omega)
      subst this; rfl
    rw [e_]; rfl
  · refine C_skip (N_then (C_seq (C_reg ?_)))
    refine L_run (R_move rfl) rfl ?_
    have hl1 : 0 < bs.length := by first | omega | (simp; omega)
    refine T_index (xs := bs) (i := 0) EncB rfl rfl (by first | rfl | omega) slc28 hl1 hS rfl ?_
    intro g2 o1 ha1
    refine L_run (R_load1 rfl scl5 (ha1 0 _ rfl)) rfl ?_
    refine L_run (R_eqv (R_conv rfl any5 int3) (v' := .int .i64 (bs[0].toNat : Int)) (congrArg _ (i64_fit (by have := bs[0].toNat_lt; omega)))) rfl ?_
    refine L_run (R_build (pv := [(0, .int .i64 (bs[0].toNat : Int))]) (cs := [.int .i64 (bs[0].toNat : Int), .string (⟨#[]⟩), .string (⟨#[]⟩)]) rfl (by kernel_rfl)) rfl ?_
    refine L_alloc (cs := [.int .i64 0, .string (⟨#[]⟩), .string (⟨#[]⟩)]) zer128 rfl rfl ?_
    intro g3 w3 eg2 hb3 hs3 hz3
    have ge2 : w.heap.size ≤ g3 := eg_ge hB eg2
    have lt1 : g1 < g3 := lt_of_eg hb1.lt eg2
    replace hB := gb_tr hB hs3
    replace hS := hS.gb hs3
    replace hb1 := hb1.gb hs3
    replace ha1 := At.gb ha1 hs3 (by simp)
    refine L_stA (vs := [.int .i64 (bs[0].toNat : Int), .string (⟨#[]⟩), .string (⟨#[]⟩)]) rfl rfl rfl sz128 rfl hb3 rfl ?_
    intro w4 hb4 hs4 hz4
    replace hB := gb_trg hB hs4 ge2
    replace hS := hS.old hs4 ge2
    replace hb1 := hb1.grown hs4 (ne_lt lt1)
    refine L_nil (N_then (C_seq (C_seq (C_reg ?_))))
    refine L_run (R_field (r := 0) rfl fld128_0 rfl) rfl ?_
    refine L_run (R_load1 rfl scl3 (hb4.cell (i := 0) rfl)) rfl ?_
    refine L_run (R_neq rfl rfl) rfl ?_
    refine L_run (R_move rfl) rfl ?_
    refine L_splitD (p := (bs[0].toNat : Int) ≠ 1) (fun h2 => ?_) (fun h2 => ?_)
    · refine L_yes rfl rfl rfl (decide_eq_true h2) ?_
      refine L_run (R_field (r := 0) rfl fld128_0 rfl) rfl ?_
      refine L_yes rfl rfl rfl (decide_eq_true h2) ?_
      refine L_run (R_load1 rfl scl3 (hb4.cell (i := 0) rfl)) rfl ?_
      refine L_yes rfl rfl rfl (decide_eq_true h2) ?_
      refine L_run (R_neq rfl rfl) rfl ?_
      refine L_run (R_pickT rfl (decide_eq_true h2) rfl) rfl ?_
      refine L_nil (N_then ?_)
      refine C_if rfl (fun h3 => ?_) (fun h3 => ?_)
      · refine C_seq (C_reg ?_)
        refine L_run (R_build (pv := []) (cs := [.int .i64 0, .string (⟨#[]⟩), .string (⟨#[]⟩)]) rfl (by kernel_rfl)) rfl ?_
        refine L_stA (vs := [.int .i64 0, .string (⟨#[]⟩), .string (⟨#[]⟩)]) rfl rfl rfl sz128 rfl hb1 rfl ?_
        intro w5 hb5 hs5 hz5
        replace hB := gb_trg hB hs5 ge1
        replace hS := hS.old hs5 ge1
        replace hb4 := hb4.grown hs5 (ne_gt lt1)
        refine L_run (R_assign rfl) rfl ?_
        refine L_run (R_assign rfl) rfl ?_
        refine L_nil (N_then (C_ret (R_then ?_)))
        refine retC2 (vs := [.int .i64 0, .string (⟨#[]⟩), .string (⟨#[]⟩)]) Try.results132 rfl agg128 (At.pre (hb5.at_ 0) rfl) rfl rfl rfl ?_
        refine ⟨hB, ?_⟩
        first
          | (exfalso; omega)
          | (have e_ : oget bs = ((0, ⟨#[]⟩, ⟨#[]⟩), 0, 2) := by
               first
                 | exact oget_k (by omega) (by omega)
                 | exact oget_e (by omega) (by omega) (oval_2 (by omega)) (by omega)
                 | exact oget_n (by omega) (by omega) (oval_2 (by omega)) (by omega) (by assumption)
                 | exact oget_y (by omega) (by omega) (oval_2 (by omega)) (by omega) (by assumption)
             rw [e_] <;> rfl)
      · refine C_skip (N_then (C_seq (C_reg ?_)))
        refine L_run (R_move rfl) rfl ?_
        refine L_run (R_build (pv := [(0, .slice A bs.length c), (1, .int .i64 1)]) (cs := [.slice A bs.length c, .int .i64 1, .int .i64 0]) rfl (by kernel_rfl)) rfl ?_
        refine L_box (cs := [.slice A bs.length c, .int .i64 1, .int .i64 0]) rfl rfl rfl ?_
        intro g4 w6 eg3 hb6 hs6 hz6
        have ge3 : w.heap.size ≤ g4 := eg_ge hB eg3
        have lt2 : g1 < g4 := lt_of_eg hb1.lt eg3
        have lt3 : g3 < g4 := lt_of_eg hb4.lt eg3
        replace hB := gb_tr hB hs6
        replace hS := hS.gb hs6
        replace hb1 := hb1.gb hs6
        replace hb4 := hb4.gb hs6
        refine L_run (R_assign rfl) rfl ?_
        refine L_nil (N_then (C_seq (C_reg ?_)))
        refine L_run (R_move rfl) rfl ?_
        refine L_run (R_makeFunc rfl rfl) rfl ?_
        refine L_run (R_assign rfl) rfl ?_
        refine L_nil (N_then (C_seq (C_reg ?_)))
        refine L_run (R_move rfl) rfl ?_
        refine L_callV (first := [.pointer (some ⟨g4, 0, none⟩)]) (cap := []) rfl rfl cb165 (reader_text (bs := bs) (a := 1) hb6 hS ge3 (by first | omega | (simp; done) | (simp; omega)) (by first | omega | exact (txt_bound (by omega)).1) (by first | omega | (simp; done) | (simp; omega))) rfl ?_
        rintro _ w7 ⟨hs7, rfl, hb7⟩
        replace hB := gb_trg hB hs7 ge3
        replace hS := hS.old hs7 ge3
        replace hb1 := hb1.grown hs7 (ne_lt lt2)
        replace hb4 := hb4.grown hs7 (ne_lt lt3)
        refine L_run (R_field (r := 1) rfl fld128_1 rfl) rfl ?_
        refine L_st1 rfl rfl rfl sz9 hb4 rfl ?_
        intro w8 hb8 hs8 hz7
        replace hB := gb_trg hB hs8 ge2
        replace hS := hS.old hs8 ge2
        replace hb1 := hb1.grown hs8 (ne_lt lt1)
        replace hb7 := hb7.grown hs8 (ne_gt lt3)
        refine L_nil (N_then (C_seq (C_seq (C_reg ?_))))
        refine L_run (R_field (r := 0) rfl fld128_0 rfl) rfl ?_
        refine L_run (R_load1 rfl scl3 (hb8.cell (i := 0) rfl)) rfl ?_
        refine L_run (R_eql rfl rfl) rfl ?_
        refine L_nil (N_then (C_condF rfl (decide_eq_false h2) (C_skip (N_then (C_seq (C_seq (C_reg ?_)))))))
        refine L_run (R_move rfl) rfl ?_
        refine L_run (R_nilck rfl) rfl ?_
        refine L_run (R_field (r := 2) rfl fld244_2 rfl) rfl ?_
        refine L_run (R_load1 rfl scl35 (hb7.cell (i := 2) rfl)) rfl ?_
        refine L_run (R_eql rfl rfl) rfl ?_
        refine L_run (R_move rfl) rfl ?_
        refine L_splitD (p := (txt 1 0 bs).2.2 = 0) (fun h4 => ?_) (fun h4 => ?_)
        · refine L_yes rfl rfl rfl (decide_eq_true h4) ?_
          refine L_run (R_loadA (vs := [.int .i64 (bs[0].toNat : Int), .string (⟨(txt 1 0 bs).1.toArray⟩), .string (⟨#[]⟩)]) rfl agg128 (At.pre (hb8.at_ 0) rfl) rfl) rfl ?_
          refine L_yes rfl rfl rfl (decide_eq_true h4) ?_
          refine L_call rfl cb150 (op_Right) rfl ?_
          rintro _ w9 ⟨hs9, rfl⟩
          replace hB := gb_tr hB hs9
          replace hS := hS.gb hs9
          replace hb1 := hb1.gb hs9
          replace hb8 := hb8.gb hs9
          replace hb7 := hb7.gb hs9
          refine L_yes rfl rfl rfl (decide_eq_true h4) ?_
          refine L_run (R_notD rfl) rfl ?_
          refine L_run (R_pickT rfl (decide_eq_true h4) rfl) rfl ?_
          refine L_nil (N_then ?_)
          refine C_ifN rfl (fun h5 => ?_) (fun h5 => ?_)
          · refine C_reg ?_
            refine L_run (R_move rfl) rfl ?_
            refine L_run (R_nilck rfl) rfl ?_
            refine L_run (R_field (r := 2) rfl fld244_2 rfl) rfl ?_
            refine L_st1 rfl rfl rfl sz35 hb7 rfl ?_
            intro w10 hb9 hs10 hz8
            replace hB := gb_trg hB hs10 ge3
            replace hS := hS.old hs10 ge3
            replace hb1 := hb1.grown hs10 (ne_lt lt2)
            replace hb8 := hb8.grown hs10 (ne_lt lt3)
            refine L_nil (N_then (C_seq (C_seq (C_reg ?_))))
            refine L_run (R_move rfl) rfl ?_
            refine L_run (R_nilck rfl) rfl ?_
            refine L_run (R_field (r := 2) rfl fld244_2 rfl) rfl ?_
            refine L_run (R_load1 rfl scl35 (hb9.cell (i := 2) rfl)) rfl ?_
            refine L_run (R_eqv (R_neq rfl rfl) (v' := .bool true) rfl) rfl ?_
            refine L_nil (N_then (C_condT rfl rfl (C_seq ?_)))
            refine C_draw2 mix ?_
            intro w11 hs11 hz9
            replace hB := gb_tr hB hs11
            replace hS := hS.gb hs11
            replace hb1 := hb1.gb hs11
            replace hb8 := hb8.gb hs11
            replace hb9 := hb9.gb hs11
            refine ⟨fun W_ => Blk W_ g4 244 [.slice A bs.length c, .int .i64 ((txt 1 0 bs).2.1 : Int), .int .i64 2] ∧ True, [0, 1, 2, 3, 4, 6, 7], ?_⟩
            refine T_takeA (i := 0) rfl rfl (by kernel_rfl) (by kernel_rfl) (by kernel_rfl) (Y_of (fun _ ⟨hb9, _⟩ => R_build (pv := []) (cs := [.int .i64 0, .string (⟨#[]⟩), .string (⟨#[]⟩)]) rfl (by kernel_rfl))) ⟨hb9, trivial⟩ rfl ?_
            refine T_takeA (i := 1) rfl rfl (by kernel_rfl) (by kernel_rfl) (by kernel_rfl) (Y_of (fun _ ⟨hb9, _⟩ => R_move rfl)) ⟨hb9, trivial⟩ rfl ?_
            refine T_takeA (i := 2) rfl rfl (by kernel_rfl) (by kernel_rfl) (by kernel_rfl) (Y_of (fun _ ⟨hb9, _⟩ => R_nilck rfl)) ⟨hb9, trivial⟩ rfl ?_
            refine T_takeA (i := 3) rfl rfl (by kernel_rfl) (by kernel_rfl) (by kernel_rfl) (Y_of (fun _ ⟨hb9, _⟩ => R_field (r := 2) rfl fld244_2 rfl)) ⟨hb9, trivial⟩ rfl ?_
            refine T_takeA (i := 4) rfl rfl (by kernel_rfl) (by kernel_rfl) (by kernel_rfl) (Y_of (fun _ ⟨hb9, _⟩ => R_load1 rfl scl35 (hb9.cell (i := 2) rfl))) ⟨hb9, trivial⟩ rfl ?_
            refine T_all (rs := [5]) (by kernel_rfl) rfl (all1 (O_one rfl ?_))
            refine L_stA (vs := [.int .i64 0, .string (⟨#[]⟩), .string (⟨#[]⟩)]) rfl rfl rfl sz128 rfl hb1 rfl ?_
            intro w12 hb10 hs12 hz10
            replace hB := gb_trg hB hs12 ge1
            replace hS := hS.old hs12 ge1
            replace hb8 := hb8.grown hs12 (ne_gt lt1)
            replace hb9 := hb9.grown hs12 (ne_gt lt2)
            refine L_nil (N_then ⟨fun hN_ => ⟨hb9, trivial⟩, ?_⟩)
            refine T_takeA (i := 6) rfl rfl (by kernel_rfl) (by kernel_rfl) (by kernel_rfl) (Y_of (fun _ ⟨hb9, _⟩ => R_assign rfl)) ⟨hb9, trivial⟩ rfl ?_
            refine T_takeA (i := 7) rfl rfl (by kernel_rfl) (by kernel_rfl) (by kernel_rfl) (Y_of (fun _ ⟨hb9, _⟩ => R_assign rfl)) ⟨hb9, trivial⟩ rfl ?_
            refine T_done (by kernel_rfl) (NoPanic.normal ?_)
            refine N_then (C_ret (R_then ?_))
            refine retC2 (vs := [.int .i64 0, .string (⟨#[]⟩), .string (⟨#[]⟩)]) Try.results132 rfl agg128 (At.pre (hb10.at_ 0) rfl) rfl rfl rfl ?_
            refine ⟨hB, ?_⟩
            first
              | (exfalso; omega)
              | (have e_ : oget bs = ((0, ⟨#[]⟩, ⟨#[]⟩), 0, 2) := by
                   first
                     | exact oget_k (by omega) (by omega)
                     | exact oget_e (by omega) (by omega) (oval_2 (by omega)) (by omega)
                     | exact oget_n (by omega) (by omega) (oval_2 (by omega)) (by omega) (by assumption)
                     | exact oget_y (by omega) (by omega) (oval_2 (by omega)) (by omega) (by assumption)
                 rw [e_] <;> rfl)
          · refine C_skip (N_then (C_seq (C_seq (C_reg ?_))))
            refine L_run (R_move rfl) rfl ?_
            refine L_run (R_nilck rfl) rfl ?_
            refine L_run (R_field (r := 2) rfl fld244_2 rfl) rfl ?_
            refine L_run (R_load1 rfl scl35 (hb7.cell (i := 2) rfl)) rfl ?_
            refine L_run (R_neq rfl rfl) rfl ?_
            refine L_nil (N_then (C_condF rfl (decide_eq_false (fun hn => hn h4)) (C_skip (N_then (C_seq ?_)))))
            refine C_draw2 mix ?_
            intro w13 hs13 hz11
            replace hB := gb_tr hB hs13
            replace hS := hS.gb hs13
            replace hb1 := hb1.gb hs13
            replace hb8 := hb8.gb hs13
            replace hb7 := hb7.gb hs13
            refine ⟨fun W_ => Blk W_ g3 128 [.int .i64 (bs[0].toNat : Int), .string (⟨(txt 1 0 bs).1.toArray⟩), .string (⟨#[]⟩)] ∧ Blk W_ g4 244 [.slice A bs.length c, .int .i64 ((txt 1 0 bs).2.1 : Int), .int .i64 ((txt 1 0 bs).2.2)] ∧ True, [0, 1, 2, 3, 4, 6, 7], ?_⟩
            refine T_takeA (i := 0) rfl rfl (by kernel_rfl) (by kernel_rfl) (by kernel_rfl) (Y_of (fun _ ⟨hb8, hb7, _⟩ => R_loadA (vs := [.int .i64 (bs[0].toNat : Int), .string (⟨(txt 1 0 bs).1.toArray⟩), .string (⟨#[]⟩)]) rfl agg128 (At.pre (hb8.at_ 0) rfl) rfl)) ⟨hb8, hb7, trivial⟩ rfl ?_
            refine T_takeA (i := 1) rfl rfl (by kernel_rfl) (by kernel_rfl) (by kernel_rfl) (Y_of (fun _ ⟨hb8, hb7, _⟩ => R_move rfl)) ⟨hb8, hb7, trivial⟩ rfl ?_
            refine T_takeA (i := 2) rfl rfl (by kernel_rfl) (by kernel_rfl) (by kernel_rfl) (Y_of (fun _ ⟨hb8, hb7, _⟩ => R_nilck rfl)) ⟨hb8, hb7, trivial⟩ rfl ?_
            refine T_takeA (i := 3) rfl rfl (by kernel_rfl) (by kernel_rfl) (by kernel_rfl) (Y_of (fun _ ⟨hb8, hb7, _⟩ => R_field (r := 1) rfl fld244_1 rfl)) ⟨hb8, hb7, trivial⟩ rfl ?_
            refine T_takeA (i := 4) rfl rfl (by kernel_rfl) (by kernel_rfl) (by kernel_rfl) (Y_of (fun _ ⟨hb8, hb7, _⟩ => R_load1 rfl scl3 (hb7.cell (i := 1) rfl))) ⟨hb8, hb7, trivial⟩ rfl ?_
            refine T_all (rs := [5]) (by kernel_rfl) rfl (all1 (O_one rfl ?_))
            refine L_stA (vs := [.int .i64 (bs[0].toNat : Int), .string (⟨(txt 1 0 bs).1.toArray⟩), .string (⟨#[]⟩)]) rfl rfl rfl sz128 rfl hb1 rfl ?_
            intro w14 hb11 hs14 hz12
            replace hB := gb_trg hB hs14 ge1
            replace hS := hS.old hs14 ge1
            replace hb8 := hb8.grown hs14 (ne_gt lt1)
            replace hb7 := hb7.grown hs14 (ne_gt lt2)
            refine L_nil (N_then ⟨fun hN_ => ⟨hb8, hb7, trivial⟩, ?_⟩)
            refine T_takeA (i := 6) rfl rfl (by kernel_rfl) (by kernel_rfl) (by kernel_rfl) (Y_of (fun _ ⟨hb8, hb7, _⟩ => R_assign rfl)) ⟨hb8, hb7, trivial⟩ rfl ?_
            refine T_takeA (i := 7) rfl rfl (by kernel_rfl) (by kernel_rfl) (by kernel_rfl) (Y_of (fun _ ⟨hb8, hb7, _⟩ => R_assign rfl)) ⟨hb8, hb7, trivial⟩ rfl ?_
            refine T_done (by kernel_rfl) (NoPanic.normal ?_)
            refine N_then (C_ret ?_)
            refine retC2 (vs := [.int .i64 (bs[0].toNat : Int), .string (⟨(txt 1 0 bs).1.toArray⟩), .string (⟨#[]⟩)]) Try.results132 rfl agg128 (At.pre (hb11.at_ 0) rfl) rfl rfl rfl ?_
            refine ⟨hB, ?_⟩
            first
              | (exfalso; omega)
              | (have e_ : oget bs = (((bs[0].toNat : Int), ⟨(txt 1 0 bs).1.toArray⟩, ⟨#[]⟩), ((txt 1 0 bs).2.1), 0) := by
                   first
                     | exact oget_k (by omega) (by omega)
                     | exact oget_e (by omega) (by omega) (oval_2 (by omega)) (by omega)
                     | exact oget_n (by omega) (by omega) (oval_2 (by omega)) (by omega) (by assumption)
                     | exact oget_y (by omega) (by omega) (oval_2 (by omega)) (by omega) (by assumption)
                 rw [e_] <;> rfl)
        · refine L_no rfl rfl rfl (decide_eq_false h4) rfl ?_
          refine L_no rfl rfl rfl (decide_eq_false h4) rfl ?_
          refine L_no rfl rfl rfl (decide_eq_false h4) rfl ?_
          refine L_run (R_pickF rfl (decide_eq_false h4) rfl) rfl ?_
          refine L_nil (N_then (C_condF rfl rfl (C_skip (N_then (C_seq (C_seq (C_reg ?_)))))))
          refine L_run (R_move rfl) rfl ?_
          refine L_run (R_nilck rfl) rfl ?_
          refine L_run (R_field (r := 2) rfl fld244_2 rfl) rfl ?_
          refine L_run (R_load1 rfl scl35 (hb7.cell (i := 2) rfl)) rfl ?_
          refine L_run (R_neq rfl rfl) rfl ?_
          refine L_nil (N_then (C_condT rfl (decide_eq_true h4) (C_seq ?_)))
          refine C_draw2 mix ?_
          intro w15 hs15 hz13
          replace hB := gb_tr hB hs15
          replace hS := hS.gb hs15
          replace hb1 := hb1.gb hs15
          replace hb8 := hb8.gb hs15
          replace hb7 := hb7.gb hs15
          refine ⟨fun W_ => Blk W_ g4 244 [.slice A bs.length c, .int .i64 ((txt 1 0 bs).2.1 : Int), .int .i64 ((txt 1 0 bs).2.2)] ∧ True, [0, 1, 2, 3, 4, 6, 7], ?_⟩
          refine T_takeA (i := 0) rfl rfl (by kernel_rfl) (by kernel_rfl) (by kernel_rfl) (Y_of (fun _ ⟨hb7, _⟩ => R_build (pv := []) (cs := [.int .i64 0, .string (⟨#[]⟩), .string (⟨#[]⟩)]) rfl (by kernel_rfl))) ⟨hb7, trivial⟩ rfl ?_
          refine T_takeA (i := 1) rfl rfl (by kernel_rfl) (by kernel_rfl) (by kernel_rfl) (Y_of (fun _ ⟨hb7, _⟩ => R_move rfl)) ⟨hb7, trivial⟩ rfl ?_
          refine T_takeA (i := 2) rfl rfl (by kernel_rfl) (by kernel_rfl) (by kernel_rfl) (Y_of (fun _ ⟨hb7, _⟩ => R_nilck rfl)) ⟨hb7, trivial⟩ rfl ?_
          refine T_takeA (i := 3) rfl rfl (by kernel_rfl) (by kernel_rfl) (by kernel_rfl) (Y_of (fun _ ⟨hb7, _⟩ => R_field (r := 2) rfl fld244_2 rfl)) ⟨hb7, trivial⟩ rfl ?_
          refine T_takeA (i := 4) rfl rfl (by kernel_rfl) (by kernel_rfl) (by kernel_rfl) (Y_of (fun _ ⟨hb7, _⟩ => R_load1 rfl scl35 (hb7.cell (i := 2) rfl))) ⟨hb7, trivial⟩ rfl ?_
          refine T_all (rs := [5]) (by kernel_rfl) rfl (all1 (O_one rfl ?_))
          refine L_stA (vs := [.int .i64 0, .string (⟨#[]⟩), .string (⟨#[]⟩)]) rfl rfl rfl sz128 rfl hb1 rfl ?_
          intro w16 hb12 hs16 hz14
          replace hB := gb_trg hB hs16 ge1
          replace hS := hS.old hs16 ge1
          replace hb8 := hb8.grown hs16 (ne_gt lt1)
          replace hb7 := hb7.grown hs16 (ne_gt lt2)
          refine L_nil (N_then ⟨fun hN_ => ⟨hb7, trivial⟩, ?_⟩)
          refine T_takeA (i := 6) rfl rfl (by kernel_rfl) (by kernel_rfl) (by kernel_rfl) (Y_of (fun _ ⟨hb7, _⟩ => R_assign rfl)) ⟨hb7, trivial⟩ rfl ?_
          refine T_takeA (i := 7) rfl rfl (by kernel_rfl) (by kernel_rfl) (by kernel_rfl) (Y_of (fun _ ⟨hb7, _⟩ => R_assign rfl)) ⟨hb7, trivial⟩ rfl ?_
          refine T_done (by kernel_rfl) (NoPanic.normal ?_)
          refine N_then (C_ret (R_then ?_))
          refine retC2 (vs := [.int .i64 0, .string (⟨#[]⟩), .string (⟨#[]⟩)]) Try.results132 rfl agg128 (At.pre (hb12.at_ 0) rfl) rfl rfl rfl ?_
          refine ⟨hB, ?_⟩
          first
            | (exfalso; omega)
            | (have e_ : oget bs = ((0, ⟨#[]⟩, ⟨#[]⟩), 0, (txt 1 0 bs).2.2) := by
                 first
                   | exact oget_k (by omega) (by omega)
                   | exact oget_e (by omega) (by omega) (oval_2 (by omega)) (by omega)
                   | exact oget_n (by omega) (by omega) (oval_2 (by omega)) (by omega) (by assumption)
                   | exact oget_y (by omega) (by omega) (oval_2 (by omega)) (by omega) (by assumption)
               rw [e_] <;> rfl)
    · refine L_no rfl rfl rfl (decide_eq_false h2) rfl ?_
      refine L_no rfl rfl rfl (decide_eq_false h2) rfl ?_
      refine L_no rfl rfl rfl (decide_eq_false h2) rfl ?_
      refine L_run (R_pickF rfl (decide_eq_false h2) rfl) rfl ?_
      refine L_nil (N_then (C_condF rfl rfl (C_skip (N_then (C_seq (C_reg ?_))))))
      refine L_run (R_move rfl) rfl ?_
      refine L_run (R_build (pv := [(0, .slice A bs.length c), (1, .int .i64 1)]) (cs := [.slice A bs.length c, .int .i64 1, .int .i64 0]) rfl (by kernel_rfl)) rfl ?_
      refine L_box (cs := [.slice A bs.length c, .int .i64 1, .int .i64 0]) rfl rfl rfl ?_
      intro g5 w17 eg4 hb13 hs17 hz15
      have ge4 : w.heap.size ≤ g5 := eg_ge hB eg4
      have lt4 : g1 < g5 := lt_of_eg hb1.lt eg4
      have lt5 : g3 < g5 := lt_of_eg hb4.lt eg4
      replace hB := gb_tr hB hs17
      replace hS := hS.gb hs17
      replace hb1 := hb1.gb hs17
      replace hb4 := hb4.gb hs17
      refine L_run (R_assign rfl) rfl ?_
      refine L_nil (N_then (C_seq (C_reg ?_)))
      refine L_run (R_move rfl) rfl ?_
      refine L_run (R_makeFunc rfl rfl) rfl ?_
      refine L_run (R_assign rfl) rfl ?_
      refine L_nil (N_then (C_seq (C_reg ?_)))
      refine L_run (R_move rfl) rfl ?_
      refine L_callV (first := [.pointer (some ⟨g5, 0, none⟩)]) (cap := []) rfl rfl cb165 (reader_text (bs := bs) (a := 1) hb13 hS ge4 (by first | omega | (simp; done) | (simp; omega)) (by first | omega | exact (txt_bound (by omega)).1) (by first | omega | (simp; done) | (simp; omega))) rfl ?_
      rintro _ w18 ⟨hs18, rfl, hb14⟩
      replace hB := gb_trg hB hs18 ge4
      replace hS := hS.old hs18 ge4
      replace hb1 := hb1.grown hs18 (ne_lt lt4)
      replace hb4 := hb4.grown hs18 (ne_lt lt5)
      refine L_run (R_field (r := 1) rfl fld128_1 rfl) rfl ?_
      refine L_st1 rfl rfl rfl sz9 hb4 rfl ?_
      intro w19 hb15 hs19 hz16
      replace hB := gb_trg hB hs19 ge2
      replace hS := hS.old hs19 ge2
      replace hb1 := hb1.grown hs19 (ne_lt lt1)
      replace hb14 := hb14.grown hs19 (ne_gt lt5)
      refine L_nil (N_then (C_seq (C_seq (C_reg ?_))))
      refine L_run (R_field (r := 0) rfl fld128_0 rfl) rfl ?_
      refine L_run (R_load1 rfl scl3 (hb15.cell (i := 0) rfl)) rfl ?_
      refine L_run (R_eql rfl rfl) rfl ?_
      refine L_nil (N_then (C_condT rfl (decide_eq_true (Decidable.not_not.1 h2)) (C_reg ?_)))
      refine L_run (R_move rfl) rfl ?_
      refine L_callV (first := [.pointer (some ⟨g5, 0, none⟩)]) (cap := []) rfl rfl cb165 (reader_text (bs := bs) (a := ((txt 1 0 bs).2.1)) hb14 hS ge4 (by first | omega | (simp; done) | (simp; omega)) (by first | omega | exact (txt_bound (by omega)).1) (by first | omega | (simp; done) | (simp; omega))) rfl ?_
      rintro _ w20 ⟨hs20, rfl, hb16⟩
      replace hB := gb_trg hB hs20 ge4
      replace hS := hS.old hs20 ge4
      replace hb1 := hb1.grown hs20 (ne_lt lt4)
      replace hb15 := hb15.grown hs20 (ne_lt lt5)
      refine L_run (R_field (r := 2) rfl fld128_2 rfl) rfl ?_
      refine L_st1 rfl rfl rfl sz9 hb15 rfl ?_
      intro w21 hb17 hs21 hz17
      replace hB := gb_trg hB hs21 ge2
      replace hS := hS.old hs21 ge2
      replace hb1 := hb1.grown hs21 (ne_lt lt1)
      replace hb16 := hb16.grown hs21 (ne_gt lt5)
      refine L_nil (N_then (C_seq (C_seq (C_reg ?_))))
      refine L_run (R_move rfl) rfl ?_
      refine L_run (R_nilck rfl) rfl ?_
      refine L_run (R_field (r := 2) rfl fld244_2 rfl) rfl ?_
      refine L_run (R_load1 rfl scl35 (hb16.cell (i := 2) rfl)) rfl ?_
      refine L_run (R_eql rfl rfl) rfl ?_
      refine L_run (R_move rfl) rfl ?_
      refine L_splitD (p := (txt ((txt 1 0 bs).2.1) ((txt 1 0 bs).2.2) bs).2.2 = 0) (fun h6 => ?_) (fun h6 => ?_)
      · refine L_yes rfl rfl rfl (decide_eq_true h6) ?_
        refine L_run (R_loadA (vs := [.int .i64 (bs[0].toNat : Int), .string (⟨(txt 1 0 bs).1.toArray⟩), .string (⟨(txt ((txt 1 0 bs).2.1) ((txt 1 0 bs).2.2) bs).1.toArray⟩)]) rfl agg128 (At.pre (hb17.at_ 0) rfl) rfl) rfl ?_
        refine L_yes rfl rfl rfl (decide_eq_true h6) ?_
        refine L_call rfl cb150 (op_Right) rfl ?_
        rintro _ w22 ⟨hs22, rfl⟩
        replace hB := gb_tr hB hs22
        replace hS := hS.gb hs22
        replace hb1 := hb1.gb hs22
        replace hb17 := hb17.gb hs22
        replace hb16 := hb16.gb hs22
        refine L_yes rfl rfl rfl (decide_eq_true h6) ?_
        refine L_run (R_notD rfl) rfl ?_
        refine L_run (R_pickT rfl (decide_eq_true h6) rfl) rfl ?_
        refine L_nil (N_then ?_)
        refine C_ifN rfl (fun h7 => ?_) (fun h7 => ?_)
        · refine C_reg ?_
          refine L_run (R_move rfl) rfl ?_
          refine L_run (R_nilck rfl) rfl ?_
          refine L_run (R_field (r := 2) rfl fld244_2 rfl) rfl ?_
          refine L_st1 rfl rfl rfl sz35 hb16 rfl ?_
          intro w23 hb18 hs23 hz18
          replace hB := gb_trg hB hs23 ge4
          replace hS := hS.old hs23 ge4
          replace hb1 := hb1.grown hs23 (ne_lt lt4)
          replace hb17 := hb17.grown hs23 (ne_lt lt5)
          refine L_nil (N_then (C_seq (C_seq (C_reg ?_))))
          refine L_run (R_move rfl) rfl ?_
          refine L_run (R_nilck rfl) rfl ?_
          refine L_run (R_field (r := 2) rfl fld244_2 rfl) rfl ?_
          refine L_run (R_load1 rfl scl35 (hb18.cell (i := 2) rfl)) rfl ?_
          refine L_run (R_eqv (R_neq rfl rfl) (v' := .bool true) rfl) rfl ?_
          refine L_nil (N_then (C_condT rfl rfl (C_seq ?_)))
          refine C_draw2 mix ?_
          intro w24 hs24 hz19
          replace hB := gb_tr hB hs24
          replace hS := hS.gb hs24
          replace hb1 := hb1.gb hs24
          replace hb17 := hb17.gb hs24
          replace hb18 := hb18.gb hs24
          refine ⟨fun W_ => Blk W_ g5 244 [.slice A bs.length c, .int .i64 ((txt ((txt 1 0 bs).2.1) ((txt 1 0 bs).2.2) bs).2.1 : Int), .int .i64 2] ∧ True, [0, 1, 2, 3, 4, 6, 7], ?_⟩
          refine T_takeA (i := 0) rfl rfl (by kernel_rfl) (by kernel_rfl) (by kernel_rfl) (Y_of (fun _ ⟨hb18, _⟩ => R_build (pv := []) (cs := [.int .i64 0, .string (⟨#[]⟩), .string (⟨#[]⟩)]) rfl (by kernel_rfl))) ⟨hb18, trivial⟩ rfl ?_
          refine T_takeA (i := 1) rfl rfl (by kernel_rfl) (by kernel_rfl) (by kernel_rfl) (Y_of (fun _ ⟨hb18, _⟩ => R_move rfl)) ⟨hb18, trivial⟩ rfl ?_
          refine T_takeA (i := 2) rfl rfl (by kernel_rfl) (by kernel_rfl) (by kernel_rfl) (Y_of (fun _ ⟨hb18, _⟩ => R_nilck rfl)) ⟨hb18, trivial⟩ rfl ?_
          refine T_takeA (i := 3) rfl rfl (by kernel_rfl) (by kernel_rfl) (by kernel_rfl) (Y_of (fun _ ⟨hb18, _⟩ => R_field (r := 2) rfl fld244_2 rfl)) ⟨hb18, trivial⟩ rfl ?_
          refine T_takeA (i := 4) rfl rfl (by kernel_rfl) (by kernel_rfl) (by kernel_rfl) (Y_of (fun _ ⟨hb18, _⟩ => R_load1 rfl scl35 (hb18.cell (i := 2) rfl))) ⟨hb18, trivial⟩ rfl ?_
          refine T_all (rs := [5]) (by kernel_rfl) rfl (all1 (O_one rfl ?_))
          refine L_stA (vs := [.int .i64 0, .string (⟨#[]⟩), .string (⟨#[]⟩)]) rfl rfl rfl sz128 rfl hb1 rfl ?_
          intro w25 hb19 hs25 hz20
          replace hB := gb_trg hB hs25 ge1
          replace hS := hS.old hs25 ge1
          replace hb17 := hb17.grown hs25 (ne_gt lt1)
          replace hb18 := hb18.grown hs25 (ne_gt lt4)
          refine L_nil (N_then ⟨fun hN_ => ⟨hb18, trivial⟩, ?_⟩)
          refine T_takeA (i := 6) rfl rfl (by kernel_rfl) (by kernel_rfl) (by kernel_rfl) (Y_of (fun _ ⟨hb18, _⟩ => R_assign rfl)) ⟨hb18, trivial⟩ rfl ?_
          refine T_takeA (i := 7) rfl rfl (by kernel_rfl) (by kernel_rfl) (by kernel_rfl) (Y_of (fun _ ⟨hb18, _⟩ => R_assign rfl)) ⟨hb18, trivial⟩ rfl ?_
          refine T_done (by kernel_rfl) (NoPanic.normal ?_)
          refine N_then (C_ret (R_then ?_))
          refine retC2 (vs := [.int .i64 0, .string (⟨#[]⟩), .string (⟨#[]⟩)]) Try.results132 rfl agg128 (At.pre (hb19.at_ 0) rfl) rfl rfl rfl ?_
          refine ⟨hB, ?_⟩
          first
            | (exfalso; omega)
            | (have e_ : oget bs = ((0, ⟨#[]⟩, ⟨#[]⟩), 0, 2) := by
                 first
                   | exact oget_k (by omega) (by omega)
                   | exact oget_e (by omega) (by omega) (oval_1 (by omega)) (by omega)
                   | exact oget_n (by omega) (by omega) (oval_1 (by omega)) (by omega) (by assumption)
                   | exact oget_y (by omega) (by omega) (oval_1 (by omega)) (by omega) (by assumption)
               rw [e_] <;> rfl)
        · refine C_skip (N_then (C_seq (C_seq (C_reg ?_))))
          refine L_run (R_move rfl) rfl ?_
          refine L_run (R_nilck rfl) rfl ?_
          refine L_run (R_field (r := 2) rfl fld244_2 rfl) rfl ?_
          refine L_run (R_load1 rfl scl35 (hb16.cell (i := 2) rfl)) rfl ?_
          refine L_run (R_neq rfl rfl) rfl ?_
          refine L_nil (N_then (C_condF rfl (decide_eq_false (fun hn => hn h6)) (C_skip (N_then (C_seq ?_)))))
          refine C_draw2 mix ?_
          intro w26 hs26 hz21
          replace hB := gb_tr hB hs26
          replace hS := hS.gb hs26
          replace hb1 := hb1.gb hs26
          replace hb17 := hb17.gb hs26
          replace hb16 := hb16.gb hs26
          refine ⟨fun W_ => Blk W_ g3 128 [.int .i64 (bs[0].toNat : Int), .string (⟨(txt 1 0 bs).1.toArray⟩), .string (⟨(txt ((txt 1 0 bs).2.1) ((txt 1 0 bs).2.2) bs).1.toArray⟩)] ∧ Blk W_ g5 244 [.slice A bs.length c, .int .i64 ((txt ((txt 1 0 bs).2.1) ((txt 1 0 bs).2.2) bs).2.1 : Int), .int .i64 ((txt ((txt 1 0 bs).2.1) ((txt 1 0 bs).2.2) bs).2.2)] ∧ True, [0, 1, 2, 3, 4, 6, 7], ?_⟩
          refine T_takeA (i := 0) rfl rfl (by kernel_rfl) (by kernel_rfl) (by kernel_rfl) (Y_of (fun _ ⟨hb17, hb16, _⟩ => R_loadA (vs := [.int .i64 (bs[0].toNat : Int), .string (⟨(txt 1 0 bs).1.toArray⟩), .string (⟨(txt ((txt 1 0 bs).2.1) ((txt 1 0 bs).2.2) bs).1.toArray⟩)]) rfl agg128 (At.pre (hb17.at_ 0) rfl) rfl)) ⟨hb17, hb16, trivial⟩ rfl ?_
          refine T_takeA (i := 1) rfl rfl (by kernel_rfl) (by kernel_rfl) (by kernel_rfl) (Y_of (fun _ ⟨hb17, hb16, _⟩ => R_move rfl)) ⟨hb17, hb16, trivial⟩ rfl ?_
          refine T_takeA (i := 2) rfl rfl (by kernel_rfl) (by kernel_rfl) (by kernel_rfl) (Y_of (fun _ ⟨hb17, hb16, _⟩ => R_nilck rfl)) ⟨hb17, hb16, trivial⟩ rfl ?_
          refine T_takeA (i := 3) rfl rfl (by kernel_rfl) (by kernel_rfl) (by kernel_rfl) (Y_of (fun _ ⟨hb17, hb16, _⟩ => R_field (r := 1) rfl fld244_1 rfl)) ⟨hb17, hb16, trivial⟩ rfl ?_
          refine T_takeA (i := 4) rfl rfl (by kernel_rfl) (by kernel_rfl) (by kernel_rfl) (Y_of (fun _ ⟨hb17, hb16, _⟩ => R_load1 rfl scl3 (hb16.cell (i := 1) rfl))) ⟨hb17, hb16, trivial⟩ rfl ?_
          refine T_all (rs := [5]) (by kernel_rfl) rfl (all1 (O_one rfl ?_))
          refine L_stA (vs := [.int .i64 (bs[0].toNat : Int), .string (⟨(txt 1 0 bs).1.toArray⟩), .string (⟨(txt ((txt 1 0 bs).2.1) ((txt 1 0 bs).2.2) bs).1.toArray⟩)]) rfl rfl rfl sz128 rfl hb1 rfl ?_
          intro w27 hb20 hs27 hz22
          replace hB := gb_trg hB hs27 ge1
          replace hS := hS.old hs27 ge1
          replace hb17 := hb17.grown hs27 (ne_gt lt1)
          replace hb16 := hb16.grown hs27 (ne_gt lt4)
          refine L_nil (N_then ⟨fun hN_ => ⟨hb17, hb16, trivial⟩, ?_⟩)
          refine T_takeA (i := 6) rfl rfl (by kernel_rfl) (by kernel_rfl) (by kernel_rfl) (Y_of (fun _ ⟨hb17, hb16, _⟩ => R_assign rfl)) ⟨hb17, hb16, trivial⟩ rfl ?_
          refine T_takeA (i := 7) rfl rfl (by kernel_rfl) (by kernel_rfl) (by kernel_rfl) (Y_of (fun _ ⟨hb17, hb16, _⟩ => R_assign rfl)) ⟨hb17, hb16, trivial⟩ rfl ?_
          refine T_done (by kernel_rfl) (NoPanic.normal ?_)
          refine N_then (C_ret ?_)
          refine retC2 (vs := [.int .i64 (bs[0].toNat : Int), .string (⟨(txt 1 0 bs).1.toArray⟩), .string (⟨(txt ((txt 1 0 bs).2.1) ((txt 1 0 bs).2.2) bs).1.toArray⟩)]) Try.results132 rfl agg128 (At.pre (hb20.at_ 0) rfl) rfl rfl rfl ?_
          refine ⟨hB, ?_⟩
          first
            | (exfalso; omega)
            | (have e_ : oget bs = (((bs[0].toNat : Int), ⟨(txt 1 0 bs).1.toArray⟩, ⟨(txt ((txt 1 0 bs).2.1) ((txt 1 0 bs).2.2) bs).1.toArray⟩), ((txt ((txt 1 0 bs).2.1) ((txt 1 0 bs).2.2) bs).2.1), 0) := by
                 first
                   | exact oget_k (by omega) (by omega)
                   | exact oget_e (by omega) (by omega) (oval_1 (by omega)) (by omega)
                   | exact oget_n (by omega) (by omega) (oval_1 (by omega)) (by omega) (by assumption)
                   | exact oget_y (by omega) (by omega) (oval_1 (by omega)) (by omega) (by assumption)
               rw [e_] <;> rfl)
      · refine L_no rfl rfl rfl (decide_eq_false h6) rfl ?_
        refine L_no rfl rfl rfl (decide_eq_false h6) rfl ?_
        refine L_no rfl rfl rfl (decide_eq_false h6) rfl ?_
        refine L_run (R_pickF rfl (decide_eq_false h6) rfl) rfl ?_
        refine L_nil (N_then (C_condF rfl rfl (C_skip (N_then (C_seq (C_seq (C_reg ?_)))))))
        refine L_run (R_move rfl) rfl ?_
        refine L_run (R_nilck rfl) rfl ?_
        refine L_run (R_field (r := 2) rfl fld244_2 rfl) rfl ?_
        refine L_run (R_load1 rfl scl35 (hb16.cell (i := 2) rfl)) rfl ?_
        refine L_run (R_neq rfl rfl) rfl ?_
        refine L_nil (N_then (C_condT rfl (decide_eq_true h6) (C_seq ?_)))
        refine C_draw2 mix ?_
        intro w28 hs28 hz23
        replace hB := gb_tr hB hs28
        replace hS := hS.gb hs28
        replace hb1 := hb1.gb hs28
        replace hb17 := hb17.gb hs28
        replace hb16 := hb16.gb hs28
        refine ⟨fun W_ => Blk W_ g5 244 [.slice A bs.length c, .int .i64 ((txt ((txt 1 0 bs).2.1) ((txt 1 0 bs).2.2) bs).2.1 : Int), .int .i64 ((txt ((txt 1 0 bs).2.1) ((txt 1 0 bs).2.2) bs).2.2)] ∧ True, [0, 1, 2, 3, 4, 6, 7], ?_⟩
        refine T_takeA (i := 0) rfl rfl (by kernel_rfl) (by kernel_rfl) (by kernel_rfl) (Y_of (fun _ ⟨hb16, _⟩ => R_build (pv := []) (cs := [.int .i64 0, .string (⟨#[]⟩), .string (⟨#[]⟩)]) rfl (by kernel_rfl))) ⟨hb16, trivial⟩ rfl ?_
        refine T_takeA (i := 1) rfl rfl (by kernel_rfl) (by kernel_rfl) (by kernel_rfl) (Y_of (fun _ ⟨hb16, _⟩ => R_move rfl)) ⟨hb16, trivial⟩ rfl ?_
        refine T_takeA (i := 2) rfl rfl (by kernel_rfl) (by kernel_rfl) (by kernel_rfl) (Y_of (fun _ ⟨hb16, _⟩ => R_nilck rfl)) ⟨hb16, trivial⟩ rfl ?_
        refine T_takeA (i := 3) rfl rfl (by kernel_rfl) (by kernel_rfl) (by kernel_rfl) (Y_of (fun _ ⟨hb16, _⟩ => R_field (r := 2) rfl fld244_2 rfl)) ⟨hb16, trivial⟩ rfl ?_
        refine T_takeA (i := 4) rfl rfl (by kernel_rfl) (by kernel_rfl) (by kernel_rfl) (Y_of (fun _ ⟨hb16, _⟩ => R_load1 rfl scl35 (hb16.cell (i := 2) rfl))) ⟨hb16, trivial⟩ rfl ?_
        refine T_all (rs := [5]) (by kernel_rfl) rfl (all1 (O_one rfl ?_))
        refine L_stA (vs := [.int .i64 0, .string (⟨#[]⟩), .string (⟨#[]⟩)]) rfl rfl rfl sz128 rfl hb1 rfl ?_
        intro w29 hb21 hs29 hz24
        replace hB := gb_trg hB hs29 ge1
        replace hS := hS.old hs29 ge1
        replace hb17 := hb17.grown hs29 (ne_gt lt1)
        replace hb16 := hb16.grown hs29 (ne_gt lt4)
        refine L_nil (N_then ⟨fun hN_ => ⟨hb16, trivial⟩, ?_⟩)
        refine T_takeA (i := 6) rfl rfl (by kernel_rfl) (by kernel_rfl) (by kernel_rfl) (Y_of (fun _ ⟨hb16, _⟩ => R_assign rfl)) ⟨hb16, trivial⟩ rfl ?_
        refine T_takeA (i := 7) rfl rfl (by kernel_rfl) (by kernel_rfl) (by kernel_rfl) (Y_of (fun _ ⟨hb16, _⟩ => R_assign rfl)) ⟨hb16, trivial⟩ rfl ?_
        refine T_done (by kernel_rfl) (NoPanic.normal ?_)
        refine N_then (C_ret (R_then ?_))
        refine retC2 (vs := [.int .i64 0, .string (⟨#[]⟩), .string (⟨#[]⟩)]) Try.results132 rfl agg128 (At.pre (hb21.at_ 0) rfl) rfl rfl rfl ?_
        refine ⟨hB, ?_⟩
        first
          | (exfalso; omega)
          | (have e_ : oget bs = ((0, ⟨#[]⟩, ⟨#[]⟩), 0, (txt ((txt 1 0 bs).2.1) ((txt 1 0 bs).2.2) bs).2.2) := by
               first
                 | exact oget_k (by omega) (by omega)
                 | exact oget_e (by omega) (by omega) (oval_1 (by omega)) (by omega)
                 | exact oget_n (by omega) (by omega) (oval_1 (by omega)) (by omega) (by assumption)
                 | exact oget_y (by omega) (by omega) (oval_1 (by omega)) (by omega) (by assumption)
             rw [e_] <;> rfl)

theorem ref10_Same {w : World} {t1 t2 lo hi lo2 hi2 : Nat} {A A2 : Option Addr} {c c2 : Nat} {a b : List Opd} (hS : Sli t1 lo hi w A (fl encOp a)) (hF : Sli t2 lo2 hi2 w A2 (fl encOp b)) (hb : a.length ≤ 140737488355328) :
    Runs Try.prog 14 #[.slice A a.length c, .slice A2 b.length c2] w (fun v w' => w.grownBy w' none ∧ v = .bool (decide (a = b))) := by
  have hB := gb_refl w none
  replace hS := hS.top
  replace hF := hF.top
  refine enter Try.func14 Try.ntmps14 rfl rfl ?_
  refine C_seq (C_reg ?_)
  refine L_run (R_assign rfl) rfl ?_
  refine L_nil (N_then (C_seq (C_seq (C_reg ?_))))
  refine L_run (R_move rfl) rfl ?_
  refine L_run (R_lenSl rfl slc22) rfl ?_
  refine L_run (R_move rfl) rfl ?_
  refine L_run (R_lenSl rfl slc22) rfl ?_
  refine L_run (R_neq rfl rfl) rfl ?_
  refine L_nil (N_then ?_)
  refine C_if rfl (fun h1 => ?_) (fun h1 => ?_)
  · refine C_seq (C_reg ?_)
    refine L_run (R_assign rfl) rfl ?_
    refine L_nil (N_then (C_ret (R_then ?_)))
    refine ret1 Try.results14 rfl ?_
    exact ⟨hB, bF (by rintro rfl; omega)⟩
  · refine C_skip (N_then (C_seq (C_seq (C_reg ?_))))
    refine L_run (R_assign rfl) rfl ?_
    refine L_nil (N_then (C_block ?_))
    refine C_loop (fun m_ a_ w_ => ∃ (σ_ : Nat → Value) (k : Nat), a_ = Ac 26 σ_ [] [(0, .slice A a.length c), (1, .slice A2 b.length c2), (5, .int .i64 (k : Int))] ∧ w.grownBy w_ none ∧ Sli t1 lo w.heap.size w_ A (fl encOp a) ∧ Sli t2 lo2 w.heap.size w_ A2 (fl encOp b) ∧ (k ≤ a.length) ∧ (a.take k = b.take k) ∧ a.length - k = m_) (a.length - 0) ?_ ?_
    · exact ⟨_, 0, Ac_frg ⟨rfl, rfl, (agr rfl (by first | rfl | (congr 1; omega) | (congr 1; simp; done) | (congr 1; simp only [IntKind.wrap_u64, IntKind.wrap_i64, IntKind.wrap_u8]; omega) | (congr 1 <;> omega))), trivial⟩, hB, hS, hF, (by omega), rfl, rfl⟩
    · clear hB
      clear hS hF
      rintro m_ a_ w1 ⟨σ_, k, rfl, hB, hS, hF, hk, hk2, rfl⟩
      refine C_seq (C_seq (C_reg ?_))
      refine L_run (R_move rfl) rfl ?_
      refine L_run (R_move rfl) rfl ?_
      refine L_run (R_lenSl rfl slc22) rfl ?_
      refine L_run (R_lss rfl rfl) rfl ?_
      refine L_nil (N_then ?_)
      refine C_if rfl (fun h2 => ?_) (fun h2 => ?_)
      · refine C_skip (N_then (C_seq (C_block (C_seq ?_))))
        refine C_draw2 mix ?_
        intro w2 hs1 hz1
        replace hB := gb_tr hB hs1
        replace hS := hS.gb hs1
        replace hF := hF.gb hs1
        have hl1 : k < a.length := by first | omega | (simp; omega)
        obtain ⟨g1, o1, r1, eA1, er1, ha1⟩ := Sli.place' (xs := a) (i := k) EncOp hS hl1 rfl
        have hl2 : k < b.length := by first | omega | (simp; omega)
        obtain ⟨g2, o2, r2, eA2, er2, ha2⟩ := Sli.place' (xs := b) (i := k) EncOp hF hl2 rfl
        refine ⟨fun W_ => At W_ g1 r1 [.int .i64 ((a[k]).kind), .string ((a[k]).key), .string ((a[k]).val)] ∧ At W_ g2 r2 [.int .i64 ((b[k]).kind), .string ((b[k]).key), .string ((b[k]).val)] ∧ True, [0, 1, 2, 3, 4, 5, 6, 7, 8], ?_⟩
        refine T_takeA (i := 0) rfl rfl (by kernel_rfl) (by kernel_rfl) (by kernel_rfl) (Y_of (fun _ ⟨ha1, ha2, _⟩ => R_move rfl)) ⟨ha1, ha2, trivial⟩ rfl ?_
        refine T_takeA (i := 1) rfl rfl (by kernel_rfl) (by kernel_rfl) (by kernel_rfl) (Y_of (fun _ ⟨ha1, ha2, _⟩ => R_move rfl)) ⟨ha1, ha2, trivial⟩ rfl ?_
        refine T_takeA (i := 2) rfl rfl (by kernel_rfl) (by kernel_rfl) (by kernel_rfl) (Y_of (fun _ ⟨ha1, ha2, _⟩ => R_indexE rfl rfl (by first | rfl | omega) slc22 hl1 eA1 er1)) ⟨ha1, ha2, trivial⟩ rfl ?_
        refine T_takeA (i := 3) rfl rfl (by kernel_rfl) (by kernel_rfl) (by kernel_rfl) (Y_of (fun _ ⟨ha1, ha2, _⟩ => R_loadA (vs := [.int .i64 ((a[k]).kind), .string ((a[k]).key), .string ((a[k]).val)]) rfl agg128 (At.pre ha1 rfl) rfl)) ⟨ha1, ha2, trivial⟩ rfl ?_
        refine T_takeA (i := 4) rfl rfl (by kernel_rfl) (by kernel_rfl) (by kernel_rfl) (Y_of (fun _ ⟨ha1, ha2, _⟩ => R_move rfl)) ⟨ha1, ha2, trivial⟩ rfl ?_
        refine T_takeA (i := 5) rfl rfl (by kernel_rfl) (by kernel_rfl) (by kernel_rfl) (Y_of (fun _ ⟨ha1, ha2, _⟩ => R_move rfl)) ⟨ha1, ha2, trivial⟩ rfl ?_
        refine T_takeA (i := 6) rfl rfl (by kernel_rfl) (by kernel_rfl) (by kernel_rfl) (Y_of (fun _ ⟨ha1, ha2, _⟩ => R_indexE rfl rfl (by first | rfl | omega) slc22 hl2 eA2 er2)) ⟨ha1, ha2, trivial⟩ rfl ?_
        refine T_takeA (i := 7) rfl rfl (by kernel_rfl) (by kernel_rfl) (by kernel_rfl) (Y_of (fun _ ⟨ha1, ha2, _⟩ => R_loadA (vs := [.int .i64 ((b[k]).kind), .string ((b[k]).key), .string ((b[k]).val)]) rfl agg128 (At.pre ha2 rfl) rfl)) ⟨ha1, ha2, trivial⟩ rfl ?_
        refine T_takeA (i := 8) rfl rfl (by kernel_rfl) (by kernel_rfl) (by kernel_rfl) (Y_of (fun _ ⟨ha1, ha2, _⟩ => R_neqA rfl rfl eqg128 (eqs_struct und128 sih128 (eqf_cons (by decide) scl3 rfl rfl (eqs_int int3) (eqf_cons (by decide) scl9 rfl rfl (eqs_str str9) (eqf_cons (by decide) scl9 rfl rfl (eqs_str str9) eqf_nil)))))) ⟨ha1, ha2, trivial⟩ rfl ?_
        refine T_done (by kernel_rfl) (NoPanic.normal ?_)
        refine N_then ?_
        refine C_ifN rfl (fun h3 => ?_) (fun h3 => ?_)
        · refine C_seq (C_reg ?_)
          refine L_run (R_assign rfl) rfl ?_
          refine L_nil (N_then (C_ret (R_in (R_then (R_then (R_in (R_then ?_)))))))
          refine ret1 Try.results14 rfl ?_
          exact ⟨hB, bF (by rintro rfl; simp at *)⟩
        · refine C_skip (N_in (N_then (C_reg ?_)))
          refine L_run (R_move rfl) rfl ?_
          refine L_run (R_add64 rfl rfl (by omega)) rfl ?_
          refine L_run (R_assign rfl) rfl ?_
          refine L_nil (N_then ?_)
          exact ⟨a.length - (k + 1), by omega, _, (k + 1), Ac_frg ⟨rfl, rfl, (agr rfl (by first | rfl | (congr 1; omega) | (congr 1; simp; done) | (congr 1; simp only [IntKind.wrap_u64, IntKind.wrap_i64, IntKind.wrap_u8]; omega) | (congr 1 <;> omega))), trivial⟩, hB, hS, hF, (by omega), (take_snoc_eq hk2 (by omega) (by omega) (by assumption)), rfl⟩
      · refine C_exit (X_then (X_then (X_hit (N_then (C_seq (C_reg ?_))))))
        refine L_run (R_assign rfl) rfl ?_
        refine L_nil (N_then (C_ret ?_))
        refine ret1 Try.results14 rfl ?_
        exact ⟨hB, bT (by rw [List.take_of_length_le (by omega), List.take_of_length_le (by omega)] at hk2; exact hk2)⟩

theorem batch_Right {w : World} {t1 lo hi : Nat} {A : Option Addr} {c : Nat} {l : List Opd} (hS : Sli t1 lo hi w A (fl encOp l)) (hb : l.length ≤ 140737488355328) :
    Runs Try.prog 133 #[.slice A l.length c] w (fun v w' => w.grownBy w' none ∧ v = .bool (decide (OkL l))) := by
  have hB := gb_refl w none
  replace hS := hS.top
  refine enter Try.func133 Try.ntmps133 rfl rfl ?_
  refine C_seq (C_reg ?_)
  refine L_run (R_assign rfl) rfl ?_
  refine L_nil (N_then (C_seq (C_seq (C_reg ?_))))
  refine L_run (R_move rfl) rfl ?_
  refine L_run (R_lenSl rfl slc22) rfl ?_
  refine L_run (R_move rfl) rfl ?_
  refine L_nil (N_then (C_block ?_))
  refine C_loop (fun m_ a_ w_ => ∃ (σ_ : Nat → Value) (k : Nat), a_ = Ac 23 σ_ [] [(0, .slice A l.length c), (2, .bool false), (5, .slice A l.length c), (6, .int .i64 (l.length : Int)), (7, .int .i64 (k : Int))] ∧ w.grownBy w_ none ∧ Sli t1 lo w.heap.size w_ A (fl encOp l) ∧ (k ≤ l.length) ∧ (∀ o ∈ l.take k, OkOp o.kind o.key o.val) ∧ l.length - k = m_) (l.length - 0) ?_ ?_
  · exact ⟨_, 0, Ac_frg ⟨rfl, rfl, rfl, rfl, (agr rfl (by first | rfl | (congr 1; omega) | (congr 1; simp; done) | (congr 1; simp only [IntKind.wrap_u64, IntKind.wrap_i64, IntKind.wrap_u8]; omega) | (congr 1 <;> omega))), trivial⟩, hB, hS, (by omega), (by intro o ho; simp at ho), rfl⟩
  · clear hB
    clear hS
    rintro m_ a_ w1 ⟨σ_, k, rfl, hB, hS, hk, hall, rfl⟩
    refine C_seq (C_reg ?_)
    refine L_run (R_lss rfl rfl) rfl ?_
    refine L_nil (N_then (C_seq ?_))
    refine C_if rfl (fun h1 => ?_) (fun h1 => ?_)
    · refine C_skip (N_then (C_seq (C_block (C_seq (C_reg ?_)))))
      have hk1 : k < l.length := by first | omega | (simp; omega)
      refine T_index (xs := l) (i := k) EncOp rfl rfl (by first | rfl | omega) slc22 hk1 hS rfl ?_
      intro g1 o1 ha1
      refine L_run (R_loadA (vs := [.int .i64 ((l[k]).kind), .string ((l[k]).key), .string ((l[k]).val)]) rfl agg128 (At.pre ha1 rfl) rfl) rfl ?_
      refine L_alloc (cs := [.int .i64 0, .string (⟨#[]⟩), .string (⟨#[]⟩)]) zer128 rfl rfl ?_
      intro g2 w2 eg1 hb1 hs1 hz1
      have ge1 : w.heap.size ≤ g2 := eg_ge hB eg1
      replace hB := gb_tr hB hs1
      replace hS := hS.gb hs1
      replace ha1 := At.gb ha1 hs1 (by simp)
      refine L_stA (vs := [.int .i64 ((l[k]).kind), .string ((l[k]).key), .string ((l[k]).val)]) rfl rfl rfl sz128 rfl hb1 rfl ?_
      intro w3 hb2 hs2 hz2
      replace hB := gb_trg hB hs2 ge1
      replace hS := hS.old hs2 ge1
      refine L_nil (N_then (C_seq (C_reg ?_)))
      refine L_run (R_loadA (vs := [.int .i64 ((l[k]).kind), .string ((l[k]).key), .string ((l[k]).val)]) rfl agg128 (At.pre (hb2.at_ 0) rfl) rfl) rfl ?_
      refine L_call rfl cb150 (op_Right) rfl ?_
      rintro _ w4 ⟨hs3, rfl⟩
      replace hB := gb_tr hB hs3
      replace hS := hS.gb hs3
      replace hb2 := hb2.gb hs3
      refine L_run (R_notD rfl) rfl ?_
      refine L_nil (N_then ?_)
      refine C_ifN rfl (fun h2 => ?_) (fun h2 => ?_)
      · refine C_seq (C_reg ?_)
        refine L_run (R_assign rfl) rfl ?_
        refine L_nil (N_then (C_ret (R_in (R_then (R_then (R_in (R_then ?_)))))))
        refine ret1 Try.results133 rfl ?_
        exact ⟨hB, bF (fun h => absurd (h.1 _ (List.getElem_mem _)) (by assumption))⟩
      · refine C_skip (N_in (N_then (C_reg ?_)))
        refine L_run (R_add64 rfl rfl (by omega)) rfl ?_
        refine L_run (R_move rfl) rfl ?_
        refine L_nil (N_then ?_)
        exact ⟨l.length - (k + 1), by omega, _, (k + 1), Ac_frg ⟨rfl, rfl, rfl, rfl, (agr rfl (by first | rfl | (congr 1; omega) | (congr 1; simp; done) | (congr 1; simp only [IntKind.wrap_u64, IntKind.wrap_i64, IntKind.wrap_u8]; omega) | (congr 1 <;> omega))), trivial⟩, hB, hS, (by omega), (OkL_take hall hk1 (by assumption)), rfl⟩
    · refine C_exit (X_then (X_then (X_hit (N_then (C_seq (C_reg ?_))))))
      refine L_run (R_move rfl) rfl ?_
      refine L_run (R_lenSl rfl slc22) rfl ?_
      refine L_run (R_geq rfl rfl) rfl ?_
      refine L_run (R_move rfl) rfl ?_
      refine L_splitD (p := 1 ≤ (l.length : Int)) (fun h3 => ?_) (fun h3 => ?_)
      · refine L_yes rfl rfl rfl (decide_eq_true h3) ?_
        refine L_run (R_move rfl) rfl ?_
        refine L_yes rfl rfl rfl (decide_eq_true h3) ?_
        refine L_run (R_lenSl rfl slc22) rfl ?_
        refine L_yes rfl rfl rfl (decide_eq_true h3) ?_
        refine L_run (R_leq rfl rfl) rfl ?_
        refine L_run (R_pickT rfl (decide_eq_true h3) rfl) rfl ?_
        refine L_run (R_assign rfl) rfl ?_
        refine L_nil (N_then (C_ret ?_))
        refine ret1 Try.results133 rfl ?_
        rw [List.take_of_length_le (by omega)] at hall
        exact ⟨hB, bD ⟨fun h => ⟨hall, by omega, by omega⟩, fun h => by have := h.2; omega⟩⟩
      · refine L_no rfl rfl rfl (decide_eq_false h3) rfl ?_
        refine L_no rfl rfl rfl (decide_eq_false h3) rfl ?_
        refine L_no rfl rfl rfl (decide_eq_false h3) rfl ?_
        refine L_run (R_pickF rfl (decide_eq_false h3) rfl) rfl ?_
        refine L_run (R_assign rfl) rfl ?_
        refine L_nil (N_then (C_ret ?_))
        refine ret1 Try.results133 rfl ?_
        rw [List.take_of_length_le (by omega)] at hall
        exact ⟨hB, bF (fun h => by have := h.2; omega)⟩

theorem batch_Decode {w : World} {t1 lo hi : Nat} {A : Option Addr} {c : Nat} {bs : List UInt8} (hS : Sli t1 lo hi w A (fl encB bs)) (hb : bs.length ≤ 1000000) (hc : bs.length ≤ c) :
    Runs Try.prog 72 #[.slice A bs.length c] w (fun v w' => w.grownBy w' none ∧ ∃ A' c', v = .tuple #[.slice A' (bget bs).1.length c', .int .i64 (bget bs).2] ∧ World.ownsRow w' w.heap.size 128 3 (.slice A' (bget bs).1.length c') (bget bs).1.length (fl encOp (bget bs).1)) := by
  have hB := gb_refl w none
  have hob_ := fun (n : Nat) (h : (oget (bs.drop n)).2.2 = 0) => oget_bound h
  replace hS := hS.top
  refine enter Try.func72 Try.ntmps72 rfl rfl ?_
  refine C_seq (C_reg ?_)
  refine L_run (R_assign rfl) rfl ?_
  refine L_run (R_assign rfl) rfl ?_
  refine L_nil (N_then (C_seq (C_reg ?_)))
  refine L_run (R_assign rfl) rfl ?_
  refine L_nil (N_then (C_seq (C_block ?_)))
  refine C_loop (fun m_ a_ w_ => ∃ (σ_ : Nat → Value) (A' : Option Addr) (c' : Nat) (n : Nat) (A2 : Option Addr) (c2 : Nat) (acc : List Opd) (f : Nat), a_ = Ac 31 σ_ [] [(0, .slice A' ((bs.drop n).length) c'), (2, .slice none 0 0), (3, .int .i64 0), (4, .slice A2 acc.length c2)] ∧ w.grownBy w_ none ∧ Sli t1 lo w.heap.size w_ A' (fl encB (bs.drop n)) ∧ World.ownsRow w_ w.heap.size 128 3 (.slice A2 acc.length c2) acc.length (fl encOp acc) ∧ (n ≤ bs.length) ∧ ((bs.drop n).length ≤ c') ∧ ((bs.drop n).length ≤ f) ∧ (bgo f acc (bs.drop n) = bgo bs.length [] bs) ∧ (acc.length ≤ n) ∧ bs.length - n = m_) (bs.length - 0) ?_ ?_
  · exact ⟨_, A, c, 0, none, 0, ([] : List Opd), bs.length, Ac_frg ⟨(agr rfl (by first | rfl | (congr 1; omega) | (congr 1; simp; done) | (congr 1; simp only [IntKind.wrap_u64, IntKind.wrap_i64, IntKind.wrap_u8]; omega) | (congr 1 <;> omega))), rfl, rfl, (agr rfl (by first | rfl | (congr 1; omega) | (congr 1; simp; done) | (congr 1; simp only [IntKind.wrap_u64, IntKind.wrap_i64, IntKind.wrap_u8]; omega) | (congr 1 <;> omega))), trivial⟩, hB, hS, (own_nil w.heap.size 128 3 _), (by omega), (by simpa using hc), (by simp), rfl, (by simp), rfl⟩
  · clear hB
    clear hS
    rintro m_ a_ w1 ⟨σ_, A', c', n, A2, c2, acc, f, rfl, hB, hS', ho, hn, hcap, hf, hv, hac, rfl⟩
    refine C_seq (C_seq (C_reg ?_))
    refine L_run (R_move rfl) rfl ?_
    refine L_run (R_lenSl rfl slc28) rfl ?_
    refine L_run (R_gtr rfl rfl) rfl ?_
    refine L_nil (N_then ?_)
    refine C_if rfl (fun h1 => ?_) (fun h1 => ?_)
    · refine C_skip (N_then (C_block (C_seq (C_reg ?_))))
      refine L_run (R_move rfl) rfl ?_
      refine L_call rfl cb132 (op_Get (bs := (bs.drop n)) hS' (by rw [List.length_drop]; omega) (by first | omega | (simp; done) | (simp; omega))) rfl ?_
      rintro _ w2 ⟨hs1, rfl⟩
      replace hB := gb_tr hB hs1
      replace hS' := hS'.gb hs1
      replace ho := own_gb ho hs1
      refine L_run (R_move rfl) rfl ?_
      refine L_run (R_extract rfl rfl) rfl ?_
      refine L_run (R_extract rfl rfl) rfl ?_
      refine L_run (R_extract rfl rfl) rfl ?_
      refine L_alloc (cs := [.int .i64 0, .string (⟨#[]⟩), .string (⟨#[]⟩)]) zer128 rfl rfl ?_
      intro g1 w3 eg1 hb1 hs2 hz1
      have ge1 : w.heap.size ≤ g1 := eg_ge hB eg1
      have hap1 : ∀ k_, (Value.slice A2 acc.length c2).ownBlock = some k_ → k_ ≠ g1 := fun k_ hk => by have h_ := (World.ownsRow.lt ho k_ hk).2; omega
      replace hB := gb_tr hB hs2
      replace hS' := hS'.gb hs2
      replace ho := own_gb ho hs2
      refine L_stA (vs := [.int .i64 ((oget (bs.drop n)).1.1), .string ((oget (bs.drop n)).1.2.1), .string ((oget (bs.drop n)).1.2.2)]) rfl rfl rfl sz128 rfl hb1 rfl ?_
      intro w4 hb2 hs3 hz2
      replace hB := gb_trg hB hs3 ge1
      replace hS' := hS'.old hs3 ge1
      replace ho := ho.kept hs3 (.inr (fun e_ => hap1 _ e_ rfl))
      refine L_run (R_assign rfl) rfl ?_
      refine L_run (R_assign rfl) rfl ?_
      refine L_nil (N_then (C_seq (C_seq (C_reg ?_))))
      refine L_run (R_move rfl) rfl ?_
      refine L_run (R_neq rfl rfl) rfl ?_
      refine L_nil (N_then ?_)
      refine C_if rfl (fun h2 => ?_) (fun h2 => ?_)
      · refine C_seq (C_reg ?_)
        refine L_run (R_move rfl) rfl ?_
        refine L_run (R_assign rfl) rfl ?_
        refine L_run (R_assign rfl) rfl ?_
        refine L_nil (N_then (C_ret (R_then (R_in (R_then (R_in (R_then ?_)))))))
        refine ret2 Try.results72 rfl rfl ?_
        have e_ : bget bs = ([], (oget (bs.drop n)).2.2) := bget_e (x := []) (by rw [← hv]; exact bgo_err (by rw [List.length_drop] at *; omega) hf (by omega)) (by omega)
        rw [e_]; exact ⟨hB, none, 0, rfl, own_nil _ _ _ _⟩
      · refine C_skip (N_then ?_)
        refine C_draw2 mix ?_
        intro w5 hs4 hz3
        replace hB := gb_tr hB hs4
        replace hS' := hS'.gb hs4
        replace ho := own_gb ho hs4
        replace hb2 := hb2.gb hs4
        refine ⟨fun W_ => Blk W_ g1 128 [.int .i64 ((oget (bs.drop n)).1.1), .string ((oget (bs.drop n)).1.2.1), .string ((oget (bs.drop n)).1.2.2)] ∧ True, [0, 1, 4, 5, 7, 8], ?_⟩
        refine T_takeA (i := 0) rfl rfl (by kernel_rfl) (by kernel_rfl) (by kernel_rfl) (Y_of (fun _ ⟨hb2, _⟩ => R_move rfl)) ⟨hb2, trivial⟩ rfl ?_
        refine T_takeA (i := 1) rfl rfl (by kernel_rfl) (by kernel_rfl) (by kernel_rfl) (Y_of (fun _ ⟨hb2, _⟩ => R_loadA (vs := [.int .i64 ((oget (bs.drop n)).1.1), .string ((oget (bs.drop n)).1.2.1), .string ((oget (bs.drop n)).1.2.2)]) rfl agg128 (At.pre (hb2.at_ 0) rfl) rfl)) ⟨hb2, trivial⟩ rfl ?_
        refine T_takeA (i := 4) rfl rfl (by kernel_rfl) (by kernel_rfl) (by kernel_rfl) (Y_of (fun _ ⟨hb2, _⟩ => R_move rfl)) ⟨hb2, trivial⟩ rfl ?_
        refine T_takeA (i := 5) rfl rfl (by kernel_rfl) (by kernel_rfl) (by kernel_rfl) (Y_of (fun _ ⟨hb2, _⟩ => R_move rfl)) ⟨hb2, trivial⟩ rfl ?_
        refine T_all (rs := [2, 6]) (by kernel_rfl) rfl (all2 (O_one rfl ?_) (O_one rfl ?_))
        · refine L_buildSlice (pv := [(0, .agg #[.int .i64 ((oget (bs.drop n)).1.1), .string ((oget (bs.drop n)).1.2.1), .string ((oget (bs.drop n)).1.2.2)])]) (cs := [.int .i64 ((oget (bs.drop n)).1.1), .string ((oget (bs.drop n)).1.2.1), .string ((oget (bs.drop n)).1.2.2)]) slc22 zer128 rfl rfl (by kernel_rfl) rfl ?_
          intro g2 w6 eg2 hb3 hs5 hz4
          have ge2 : w.heap.size ≤ g2 := eg_ge hB eg2
          have lt1 : g1 < g2 := lt_of_eg hb2.lt eg2
          have hap2 : ∀ k_, (Value.slice A2 acc.length c2).ownBlock = some k_ → k_ ≠ g2 := fun k_ hk => by have h_ := (World.ownsRow.lt ho k_ hk).2; omega
          replace hB := gb_tr hB hs5
          replace hS' := hS'.gb hs5
          replace ho := own_gb ho hs5
          replace hb2 := hb2.gb hs5
          refine L_nil (N_then ⟨fun hN_ => ⟨hb2, trivial⟩, ?_⟩)
          refine T_all (rs := [3, 6]) (by kernel_rfl) rfl (all2 (O_one rfl ?_) (O_one rfl ?_))
          · refine T_append (xs := acc) (ys := [(⟨(oget (bs.drop n)).1.1, (oget (bs.drop n)).1.2.1, (oget (bs.drop n)).1.2.2⟩ : Opd)]) EncOp slc22 rfl rfl ho (Blk.sli (m := 0) hb3) (by simp; omega) (by have := hB.size; omega) rfl ?_
            intro A_1 c_1 w7 ho1 hs6 hat1
            have lt2 := hb2.lt
            replace hB := gb_tro hB ho hs6 (Nat.le_refl _)
            replace hS' := hS'.grown hs6 (fun k hk => .inr (Nat.le_trans (Nat.le_refl _) (World.ownsRow.lt ho k hk).1))
            replace hb2 := hb2.grown hs6 (fun e_ => hap1 _ e_.symm rfl)
            have hap3 : ∀ k_, (Value.slice A_1 (acc ++ ([(⟨(oget (bs.drop n)).1.1, (oget (bs.drop n)).1.2.1, (oget (bs.drop n)).1.2.2⟩ : Opd)])).length c_1).ownBlock = some k_ → k_ ≠ g1 := fun k_ hk => by rcases hat1 with h_ | h_ <;> rw [h_] at hk <;> first | exact hap1 k_ hk | (injection hk with hk; omega)
            refine L_nil (N_then ⟨fun hN_ => ⟨hb2, trivial⟩, ?_⟩)
            refine T_takeA (i := 7) rfl rfl (by kernel_rfl) (by kernel_rfl) (by kernel_rfl) (Y_of (fun _ ⟨hb2, _⟩ => R_assign rfl)) ⟨hb2, trivial⟩ rfl ?_
            refine T_all (rs := [6]) (by kernel_rfl) rfl (all1 (O_one rfl ?_))
            refine T_slL (xs := bs.drop n) (i := ((oget (bs.drop n)).2.1)) EncB rfl rfl (by first | rfl | omega) slc28 (oget_bound (bs := bs.drop n) (by omega)).2 (by first | omega | (simp; done) | (simp; omega)) hS' rfl ?_
            intro A_2 hS_1
            refine L_nil (N_then ⟨fun hN_ => ⟨hb2, trivial⟩, ?_⟩)
            refine T_takeA (i := 8) rfl rfl (by kernel_rfl) (by kernel_rfl) (by kernel_rfl) (Y_of (fun _ ⟨hb2, _⟩ => R_assign rfl)) ⟨hb2, trivial⟩ rfl ?_
            refine T_done (by kernel_rfl) (NoPanic.normal ?_)
            refine N_in (N_then ?_)
            have hob := oget_bound (bs := bs.drop n) (by omega)
            rw [List.length_drop] at hob
            have hst := bgo_step (acc := acc) (f := f) (bs := bs.drop n) (by rw [List.length_drop]; omega) hf (by omega)
            rw [List.drop_drop] at hst
            have e_ : (bs.drop n).drop (oget (bs.drop n)).2.1 = bs.drop (n + (oget (bs.drop n)).2.1) := List.drop_drop
            rw [e_] at hS_1 ⊢
            exact ⟨bs.length - (n + (oget (bs.drop n)).2.1), by omega, _, A_2, (c' - ((oget (bs.drop n)).2.1)), (n + (oget (bs.drop n)).2.1), A_1, c_1, (acc ++ [op1 (bs.drop n)]), (f - 1), Ac_frg ⟨rfl, rfl, rfl, (agr rfl (by first | rfl | (congr 1; omega) | (congr 1; simp; done) | (congr 1; simp only [IntKind.wrap_u64, IntKind.wrap_i64, IntKind.wrap_u8]; omega) | (congr 1 <;> omega))), trivial⟩, hB, hS_1, ho1, (by omega), (by rw [List.length_drop] at *; omega), (by rw [List.length_drop] at *; omega), (hst.symm.trans hv), (by rw [List.length_append, List.length_singleton]; omega), rfl⟩
          · refine T_slL (xs := bs.drop n) (i := ((oget (bs.drop n)).2.1)) EncB rfl rfl (by first | rfl | omega) slc28 (oget_bound (bs := bs.drop n) (by omega)).2 (by first | omega | (simp; done) | (simp; omega)) hS' rfl ?_
            intro A_3 hS_2
            refine L_nil (N_then ⟨fun hN_ => ⟨hb2, trivial⟩, ?_⟩)
            refine T_all (rs := [3]) (by kernel_rfl) rfl (all1 (O_one rfl ?_))
            refine T_append (xs := acc) (ys := [(⟨(oget (bs.drop n)).1.1, (oget (bs.drop n)).1.2.1, (oget (bs.drop n)).1.2.2⟩ : Opd)]) EncOp slc22 rfl rfl ho (Blk.sli (m := 0) hb3) (by simp; omega) (by have := hB.size; omega) rfl ?_
            intro A_4 c_2 w8 ho2 hs7 hat2
            have lt3 := hb2.lt
            replace hB := gb_tro hB ho hs7 (Nat.le_refl _)
            replace hS' := hS'.grown hs7 (fun k hk => .inr (Nat.le_trans (Nat.le_refl _) (World.ownsRow.lt ho k hk).1))
            replace hb2 := hb2.grown hs7 (fun e_ => hap1 _ e_.symm rfl)
            replace hS_2 := hS_2.grown hs7 (fun k hk => .inr (Nat.le_trans (Nat.le_refl _) (World.ownsRow.lt ho k hk).1))
            have hap4 : ∀ k_, (Value.slice A_4 (acc ++ ([(⟨(oget (bs.drop n)).1.1, (oget (bs.drop n)).1.2.1, (oget (bs.drop n)).1.2.2⟩ : Opd)])).length c_2).ownBlock = some k_ → k_ ≠ g1 := fun k_ hk => by rcases hat2 with h_ | h_ <;> rw [h_] at hk <;> first | exact hap1 k_ hk | (injection hk with hk; omega)
            refine L_nil (N_then ⟨fun hN_ => ⟨hb2, trivial⟩, ?_⟩)
            refine T_takeA (i := 7) rfl rfl (by kernel_rfl) (by kernel_rfl) (by kernel_rfl) (Y_of (fun _ ⟨hb2, _⟩ => R_assign rfl)) ⟨hb2, trivial⟩ rfl ?_
            refine T_takeA (i := 8) rfl rfl (by kernel_rfl) (by kernel_rfl) (by kernel_rfl) (Y_of (fun _ ⟨hb2, _⟩ => R_assign rfl)) ⟨hb2, trivial⟩ rfl ?_
            refine T_done (by kernel_rfl) (NoPanic.normal ?_)
            refine N_in (N_then ?_)
            have hob := oget_bound (bs := bs.drop n) (by omega)
            rw [List.length_drop] at hob
            have hst := bgo_step (acc := acc) (f := f) (bs := bs.drop n) (by rw [List.length_drop]; omega) hf (by omega)
            rw [List.drop_drop] at hst
            have e_ : (bs.drop n).drop (oget (bs.drop n)).2.1 = bs.drop (n + (oget (bs.drop n)).2.1) := List.drop_drop
            rw [e_] at hS_2 ⊢
            exact ⟨bs.length - (n + (oget (bs.drop n)).2.1), by omega, _, A_3, (c' - ((oget (bs.drop n)).2.1)), (n + (oget (bs.drop n)).2.1), A_4, c_2, (acc ++ [op1 (bs.drop n)]), (f - 1), Ac_frg ⟨rfl, rfl, rfl, (agr rfl (by first | rfl | (congr 1; omega) | (congr 1; simp; done) | (congr 1; simp only [IntKind.wrap_u64, IntKind.wrap_i64, IntKind.wrap_u8]; omega) | (congr 1 <;> omega))), trivial⟩, hB, hS_2, ho2, (by omega), (by rw [List.length_drop] at *; omega), (by rw [List.length_drop] at *; omega), (hst.symm.trans hv), (by rw [List.length_append, List.length_singleton]; omega), rfl⟩
        · refine T_slL (xs := bs.drop n) (i := ((oget (bs.drop n)).2.1)) EncB rfl rfl (by first | rfl | omega) slc28 (oget_bound (bs := bs.drop n) (by omega)).2 (by first | omega | (simp; done) | (simp; omega)) hS' rfl ?_
          intro A_5 hS_3
          refine L_nil (N_then ⟨fun hN_ => ⟨hb2, trivial⟩, ?_⟩)
          refine T_all (rs := [2]) (by kernel_rfl) rfl (all1 (O_one rfl ?_))
          refine L_buildSlice (pv := [(0, .agg #[.int .i64 ((oget (bs.drop n)).1.1), .string ((oget (bs.drop n)).1.2.1), .string ((oget (bs.drop n)).1.2.2)])]) (cs := [.int .i64 ((oget (bs.drop n)).1.1), .string ((oget (bs.drop n)).1.2.1), .string ((oget (bs.drop n)).1.2.2)]) slc22 zer128 rfl rfl (by kernel_rfl) rfl ?_
          intro g3 w9 eg3 hb4 hs8 hz5
          have ge3 : w.heap.size ≤ g3 := eg_ge hB eg3
          have lt4 : g1 < g3 := lt_of_eg hb2.lt eg3
          have hap5 : ∀ k_, (Value.slice A2 acc.length c2).ownBlock = some k_ → k_ ≠ g3 := fun k_ hk => by have h_ := (World.ownsRow.lt ho k_ hk).2; omega
          replace hB := gb_tr hB hs8
          replace hS' := hS'.gb hs8
          replace ho := own_gb ho hs8
          replace hb2 := hb2.gb hs8
          replace hS_3 := hS_3.gb hs8
          refine L_nil (N_then ⟨fun hN_ => ⟨hb2, trivial⟩, ?_⟩)
          refine T_all (rs := [3]) (by kernel_rfl) rfl (all1 (O_one rfl ?_))
          refine T_append (xs := acc) (ys := [(⟨(oget (bs.drop n)).1.1, (oget (bs.drop n)).1.2.1, (oget (bs.drop n)).1.2.2⟩ : Opd)]) EncOp slc22 rfl rfl ho (Blk.sli (m := 0) hb4) (by simp; omega) (by have := hB.size; omega) rfl ?_
          intro A_6 c_3 w10 ho3 hs9 hat3
          have lt5 := hb2.lt
          replace hB := gb_tro hB ho hs9 (Nat.le_refl _)
          replace hS' := hS'.grown hs9 (fun k hk => .inr (Nat.le_trans (Nat.le_refl _) (World.ownsRow.lt ho k hk).1))
          replace hb2 := hb2.grown hs9 (fun e_ => hap1 _ e_.symm rfl)
          replace hS_3 := hS_3.grown hs9 (fun k hk => .inr (Nat.le_trans (Nat.le_refl _) (World.ownsRow.lt ho k hk).1))
          have hap6 : ∀ k_, (Value.slice A_6 (acc ++ ([(⟨(oget (bs.drop n)).1.1, (oget (bs.drop n)).1.2.1, (oget (bs.drop n)).1.2.2⟩ : Opd)])).length c_3).ownBlock = some k_ → k_ ≠ g1 := fun k_ hk => by rcases hat3 with h_ | h_ <;> rw [h_] at hk <;> first | exact hap1 k_ hk | (injection hk with hk; omega)
          refine L_nil (N_then ⟨fun hN_ => ⟨hb2, trivial⟩, ?_⟩)
          refine T_takeA (i := 7) rfl rfl (by kernel_rfl) (by kernel_rfl) (by kernel_rfl) (Y_of (fun _ ⟨hb2, _⟩ => R_assign rfl)) ⟨hb2, trivial⟩ rfl ?_
          refine T_takeA (i := 8) rfl rfl (by kernel_rfl) (by kernel_rfl) (by kernel_rfl) (Y_of (fun _ ⟨hb2, _⟩ => R_assign rfl)) ⟨hb2, trivial⟩ rfl ?_
          refine T_done (by kernel_rfl) (NoPanic.normal ?_)
          refine N_in (N_then ?_)
          have hob := oget_bound (bs := bs.drop n) (by omega)
          rw [List.length_drop] at hob
          have hst := bgo_step (acc := acc) (f := f) (bs := bs.drop n) (by rw [List.length_drop]; omega) hf (by omega)
          rw [List.drop_drop] at hst
          have e_ : (bs.drop n).drop (oget (bs.drop n)).2.1 = bs.drop (n + (oget (bs.drop n)).2.1) := List.drop_drop
          rw [e_] at hS_3 ⊢
          exact ⟨bs.length - (n + (oget (bs.drop n)).2.1), by omega, _, A_5, (c' - ((oget (bs.drop n)).2.1)), (n + (oget (bs.drop n)).2.1), A_6, c_3, (acc ++ [op1 (bs.drop n)]), (f - 1), Ac_frg ⟨rfl, rfl, rfl, (agr rfl (by first | rfl | (congr 1; omega) | (congr 1; simp; done) | (congr 1; simp only [IntKind.wrap_u64, IntKind.wrap_i64, IntKind.wrap_u8]; omega) | (congr 1 <;> omega))), trivial⟩, hB, hS_3, ho3, (by omega), (by rw [List.length_drop] at *; omega), (by rw [List.length_drop] at *; omega), (hst.symm.trans hv), (by rw [List.length_append, List.length_singleton]; omega), rfl⟩
    · refine C_exit (X_then (X_then (X_hit (N_then (C_seq (C_seq (C_reg ?_)))))))
      refine L_run (R_move rfl) rfl ?_
      refine L_call rfl cb133 (batch_Right (l := acc) (own_of ho).2.2 (by omega)) rfl ?_
      rintro _ w11 ⟨hs10, rfl⟩
      replace hB := gb_tr hB hs10
      replace hS' := hS'.gb hs10
      replace ho := own_gb ho hs10
      refine L_run (R_notD rfl) rfl ?_
      refine L_nil (N_then ?_)
      refine C_ifN rfl (fun h3 => ?_) (fun h3 => ?_)
      · refine C_seq (C_reg ?_)
        refine L_run (R_assign rfl) rfl ?_
        refine L_run (R_assign rfl) rfl ?_
        refine L_nil (N_then (C_ret (R_then ?_)))
        refine ret2 Try.results72 rfl rfl ?_
        have e_ : bget bs = ([], 2) := bget_n (x := acc) (by rw [← hv]; exact bgo_nil (by simp at *; omega)) (by assumption)
        rw [e_]; exact ⟨hB, none, 0, rfl, own_nil _ _ _ _⟩
      · refine C_skip (N_then (C_seq (C_reg ?_)))
        refine L_run (R_move rfl) rfl ?_
        refine L_run (R_assign rfl) rfl ?_
        refine L_run (R_assign rfl) rfl ?_
        refine L_nil (N_then (C_ret ?_))
        refine ret2 Try.results72 rfl rfl ?_
        have e_ : bget bs = (acc, 0) := bget_y (by rw [← hv]; exact bgo_nil (by simp at *; omega)) (by assumption)
        rw [e_]; exact ⟨hB, _, _, rfl, (own_lo ho (Nat.le_refl _))⟩

theorem awake12 {w : World} :
    Runs Try.prog 12 #[] w (fun v w' => w.grownBy w' none ∧ v = .bool true) := by
  have hB := gb_refl w none
  have hG := bget_ex
  refine enter Try.func12 Try.ntmps12 rfl rfl ?_
  refine C_seq (C_reg ?_)
  refine L_run (R_assign rfl) rfl ?_
  refine L_nil (N_then (C_seq (C_reg ?_)))
  refine L_buildSlice (pv := [(0, .int .u8 2), (1, .int .u8 1), (2, .int .u8 97), (3, .int .u8 1), (4, .int .u8 1), (5, .int .u8 98), (6, .int .u8 0)]) (cs := [.int .u8 2, .int .u8 1, .int .u8 97, .int .u8 1, .int .u8 1, .int .u8 98, .int .u8 0]) slc28 zer5 rfl rfl (by kernel_rfl) rfl ?_
  intro g1 w1 eg1 hb1 hs1 hz1
  have ge1 : w.heap.size ≤ g1 := eg_ge hB eg1
  replace hB := gb_tr hB hs1
  refine L_mark rfl slc28 int5 hb1 rfl ?_
  intro w2 hS_1 hs2 hz2
  replace hB := gb_trg hB hs2 ge1
  have hS_1 : Sli 5 g1 (g1 + 1) w2 (some ⟨g1, 0, none⟩) (fl encB [2, 1, 97, 1, 1, 98, 0]) := hS_1
  have ge2 : w.heap.size ≤ w2.heap.size := hB.size
  refine L_call rfl cb72 (batch_Decode (bs := ([2, 1, 97, 1, 1, 98, 0])) hS_1 (by first | omega | (simp; done) | (simp; omega)) (by first | omega | (simp; done) | (simp; omega))) rfl ?_
  rintro _ w3 ⟨hs3, A_1, c_1, rfl, ho1⟩
  replace hB := gb_tr hB hs3
  replace hS_1 := hS_1.gb hs3
  have hlo1 : w2.heap.size ≤ w3.heap.size := hs3.size
  refine L_run (R_move rfl) rfl ?_
  refine L_run (R_extract rfl rfl) rfl ?_
  refine L_run (R_extract rfl rfl) rfl ?_
  refine L_run (R_assign rfl) rfl ?_
  refine L_run (R_assign rfl) rfl ?_
  refine L_nil (N_then (C_seq (C_reg ?_)))
  refine L_run (R_move rfl) rfl ?_
  refine L_run (R_eqv (R_eql rfl rfl) (v' := .bool true) (bT' (by rw [hG]))) rfl ?_
  refine L_run (R_move rfl) rfl ?_
  refine L_yes rfl rfl rfl rfl ?_
  refine L_run (R_move rfl) rfl ?_
  refine L_yes rfl rfl rfl rfl ?_
  refine L_run (R_lenSl rfl slc22) rfl ?_
  refine L_yes rfl rfl rfl rfl ?_
  refine L_run (R_eqv (R_eql rfl rfl) (v' := .bool true) (bT' (by rw [hG]; rfl))) rfl ?_
  refine L_run (R_pickT rfl rfl rfl) rfl ?_
  refine L_run (R_move rfl) rfl ?_
  refine L_yes rfl rfl rfl rfl ?_
  refine L_run (R_move rfl) rfl ?_
  refine L_yes rfl rfl rfl rfl ?_
  have hl1 : 1 < ((bget ([2, 1, 97, 1, 1, 98, 0])).1).length := (by rw [hG]; decide)
  refine T_index (xs := (bget ([2, 1, 97, 1, 1, 98, 0])).1) (i := 1) EncOp rfl rfl (by first | rfl | omega) slc22 hl1 (own_of ho1).2.2 rfl ?_
  intro g2 o1 ha1
  refine L_yes rfl rfl rfl rfl ?_
  refine L_run (R_field rfl fld128_1 rfl) rfl ?_
  refine L_yes rfl rfl rfl rfl ?_
  refine L_run (R_load1 rfl scl9 (ha1 1 _ rfl)) rfl ?_
  refine L_yes rfl rfl rfl rfl ?_
  refine L_run (R_eqv (R_eqlS rfl rfl) (v' := .bool true) (bT' (by simp only [hG]; rfl))) rfl ?_
  refine L_run (R_pickT rfl rfl rfl) rfl ?_
  refine L_run (R_assign rfl) rfl ?_
  refine L_nil (N_then (C_ret ?_))
  refine ret1 Try.results12 rfl ?_
  exact ⟨hB, rfl⟩

end Go.Proofs.Ytoobcebmkfbdfaa
