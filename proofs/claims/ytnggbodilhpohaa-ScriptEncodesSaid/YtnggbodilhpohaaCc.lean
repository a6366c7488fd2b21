/-
  Contracts of the package batch and of the reference's own: what is a right batch, what it is written as, what bytes are as a batch.
-/
import Derived.Test.YtnggbodilhpohaaCb
namespace Go.Proofs.Ytnggbodilhpohaa
open Go.RowKit Gw Pl
set_option linter.unusedVariables false
set_option linter.unusedSimpArgs false
theorem cb40 : callB Try.prog 40 = true := by kernel_rfl
theorem cb41 : callB Try.prog 41 = true := by kernel_rfl
theorem cb42 : callB Try.prog 42 = true := by kernel_rfl
theorem cb45 : callB Try.prog 45 = true := by kernel_rfl
theorem cb46 : callB Try.prog 46 = true := by kernel_rfl
theorem cb47 : callB Try.prog 47 = true := by kernel_rfl
theorem batch_Right {w : World} {t1 lo hi : Nat} {A : Option Addr} {c : Nat} {l : List Opd} (hS : Sli t1 lo hi w A (fl encOp l)) (hb : l.length ≤ 140737488355328) :
    Runs Try.prog 45 #[.slice A l.length c] w (fun v w' => w.grownBy w' none ∧ v = .bool (decide (OkL l))) := by
  have hB := gb_refl w none
  replace hS := hS.top
  refine enter Try.func45 Try.ntmps45 rfl rfl ?_
  refine C_seq (C_reg ?_)
  refine L_run (R_assign rfl) rfl ?_
  refine L_nil (N_then (C_seq (C_seq (C_reg ?_))))
  refine L_run (R_move rfl) rfl ?_
  refine L_run (R_lenSl rfl slc22) rfl ?_
  refine L_run (R_move rfl) rfl ?_
  refine L_nil (N_then (C_block ?_))
  refine C_loop (fun m_ a_ w_ => ∃ (σ_ : Nat → Value) (k : Nat), a_ = Ac 23 σ_ [] [(0, .slice A l.length c), (2, .bool false), (5, .slice A l.length c), (6, .int .i64 (l.length : Int)), (7, .int .i64 (k : Int))] ∧ w.grownBy w_ none ∧ Sli t1 lo w.heap.size w_ A (fl encOp l) ∧ (k ≤ l.length) ∧ (∀ o ∈ l.take k, OkOp o.kind o.key o.val) ∧ l.length - k = m_) (l.length - 0) ?_ ?_
  · exact ⟨_, 0, Ac_frg ⟨rfl, rfl, rfl, rfl, (agr rfl (by first | rfl | (congr 1; omega) | (congr 1; simp; done) | (congr 1; simp only [IntKind.wrap_u64, IntKind.wrap_i64, IntKind.wrap_u8]; omega) | (congr 1 <;> omega))), trivial⟩, hB, hS, (by omega), (by intro o ho; simp at ho), rfl⟩
  · clear hB
    clear hS
    rintro m_ a_ w1 ⟨σ_, k, rfl, hB, hS, hk, hall, rfl⟩
    refine C_seq (C_reg ?_)
    refine L_run (R_lss rfl rfl) rfl ?_
    refine L_nil (N_then (C_seq ?_))
    refine C_if rfl (fun h1 => ?_) (fun h1 => ?_)
    · refine C_skip (N_then (C_seq (C_block (C_seq (C_reg ?_)))))
      have hk1 : k < l.length := by first | omega | (simp; omega)
      refine T_index (xs := l) (i := k) EncOp rfl rfl (by first | rfl | omega) slc22 hk1 hS rfl ?_
      intro g1 o1 ha1
      refine L_run (R_loadA (vs := [.int .i64 ((l[k]).kind), .string ((l[k]).key), .string ((l[k]).val)]) rfl agg44 (At.pre ha1 rfl) rfl) rfl ?_
      refine L_alloc (cs := [.int .i64 0, .string (⟨#[]⟩), .string (⟨#[]⟩)]) zer44 rfl rfl ?_
      intro g2 w2 eg1 hb1 hs1 hz1
      have ge1 : w.heap.size ≤ g2 := eg_ge hB eg1
      replace hB := gb_tr hB hs1
      replace hS := hS.gb hs1
      replace ha1 := At.gb ha1 hs1 (by simp)
      refine L_stA (vs := [.int .i64 ((l[k]).kind), .string ((l[k]).key), .string ((l[k]).val)]) rfl rfl rfl sz44 rfl hb1 rfl ?_
      intro w3 hb2 hs2 hz2
      replace hB := gb_trg hB hs2 ge1
      replace hS := hS.old hs2 ge1
      refine L_nil (N_then (C_seq (C_reg ?_)))
      refine L_run (R_loadA (vs := [.int .i64 ((l[k]).kind), .string ((l[k]).key), .string ((l[k]).val)]) rfl agg44 (At.pre (hb2.at_ 0) rfl) rfl) rfl ?_
      refine L_call rfl cb38 (op_Right) rfl ?_
      rintro _ w4 ⟨hs3, rfl⟩
      replace hB := gb_tr hB hs3
      replace hS := hS.gb hs3
      replace hb2 := hb2.gb hs3
      refine L_run (R_notD rfl) rfl ?_
      refine L_nil (N_then ?_)
      refine C_ifN rfl (fun h2 => ?_) (fun h2 => ?_)
      · refine C_seq (C_reg ?_)
        refine L_run (R_assign rfl) rfl ?_
        refine L_nil (N_then (C_ret (R_in (R_then (R_then (R_in (R_then ?_)))))))
        refine ret1 Try.results45 rfl ?_
        exact ⟨hB, bF (fun h => absurd (h.1 _ (List.getElem_mem _)) (by assumption))⟩
      · refine C_skip (N_in (N_then (C_reg ?_)))
        refine L_run (R_add64 rfl rfl (by omega)) rfl ?_
        refine L_run (R_move rfl) rfl ?_
        refine L_nil (N_then ?_)
        exact ⟨l.length - (k + 1), by omega, _, (k + 1), Ac_frg ⟨rfl, rfl, rfl, rfl, (agr rfl (by first | rfl | (congr 1; omega) | (congr 1; simp; done) | (congr 1; simp only [IntKind.wrap_u64, IntKind.wrap_i64, IntKind.wrap_u8]; omega) | (congr 1 <;> omega))), trivial⟩, hB, hS, (by omega), (OkL_take hall hk1 (by assumption)), rfl⟩
    · refine C_exit (X_then (X_then (X_hit (N_then (C_seq (C_reg ?_))))))
      refine L_run (R_move rfl) rfl ?_
      refine L_run (R_lenSl rfl slc22) rfl ?_
      refine L_run (R_geq rfl rfl) rfl ?_
      refine L_run (R_move rfl) rfl ?_
      refine L_splitD (p := 1 ≤ (l.length : Int)) (fun h3 => ?_) (fun h3 => ?_)
      · refine L_yes rfl rfl rfl (decide_eq_true h3) ?_
        refine L_run (R_move rfl) rfl ?_
        refine L_yes rfl rfl rfl (decide_eq_true h3) ?_
        refine L_run (R_lenSl rfl slc22) rfl ?_
        refine L_yes rfl rfl rfl (decide_eq_true h3) ?_
        refine L_run (R_leq rfl rfl) rfl ?_
        refine L_run (R_pickT rfl (decide_eq_true h3) rfl) rfl ?_
        refine L_run (R_assign rfl) rfl ?_
        refine L_nil (N_then (C_ret ?_))
        refine ret1 Try.results45 rfl ?_
        rw [List.take_of_length_le (by omega)] at hall
        exact ⟨hB, bD ⟨fun h => ⟨hall, by omega, by omega⟩, fun h => by have := h.2; omega⟩⟩
      · refine L_no rfl rfl rfl (decide_eq_false h3) rfl ?_
        refine L_no rfl rfl rfl (decide_eq_false h3) rfl ?_
        refine L_no rfl rfl rfl (decide_eq_false h3) rfl ?_
        refine L_run (R_pickF rfl (decide_eq_false h3) rfl) rfl ?_
        refine L_run (R_assign rfl) rfl ?_
        refine L_nil (N_then (C_ret ?_))
        refine ret1 Try.results45 rfl ?_
        rw [List.take_of_length_le (by omega)] at hall
        exact ⟨hB, bF (fun h => by have := h.2; omega)⟩

theorem ref12_Right {w : World} {t1 lo hi : Nat} {A : Option Addr} {c : Nat} {l : List Opd} (hS : Sli t1 lo hi w A (fl encOp l)) (hb : l.length ≤ 140737488355328) :
    Runs Try.prog 46 #[.slice A l.length c] w (fun v w' => w.grownBy w' none ∧ v = .bool (decide (OkL l))) := by
  have hB := gb_refl w none
  replace hS := hS.top
  refine enter Try.func46 Try.ntmps46 rfl rfl ?_
  refine C_seq (C_reg ?_)
  refine L_run (R_assign rfl) rfl ?_
  refine L_nil (N_then (C_seq (C_seq (C_reg ?_))))
  refine L_run (R_assign rfl) rfl ?_
  refine L_nil (N_then (C_block ?_))
  refine C_loop (fun m_ a_ w_ => ∃ (σ_ : Nat → Value) (k : Nat), a_ = Ac 24 σ_ [] [(0, .slice A l.length c), (2, .bool false), (3, .int .i64 (k : Int))] ∧ w.grownBy w_ none ∧ Sli t1 lo w.heap.size w_ A (fl encOp l) ∧ (k ≤ l.length) ∧ (∀ o ∈ l.take k, OkOp o.kind o.key o.val) ∧ l.length - k = m_) (l.length - 0) ?_ ?_
  · exact ⟨_, 0, Ac_frg ⟨rfl, rfl, (agr rfl (by first | rfl | (congr 1; omega) | (congr 1; simp; done) | (congr 1; simp only [IntKind.wrap_u64, IntKind.wrap_i64, IntKind.wrap_u8]; omega) | (congr 1 <;> omega))), trivial⟩, hB, hS, (by omega), (by intro o ho; simp at ho), rfl⟩
  · clear hB
    clear hS
    rintro m_ a_ w1 ⟨σ_, k, rfl, hB, hS, hk, hall, rfl⟩
    refine C_seq (C_seq (C_reg ?_))
    refine L_run (R_move rfl) rfl ?_
    refine L_run (R_move rfl) rfl ?_
    refine L_run (R_lenSl rfl slc22) rfl ?_
    refine L_run (R_lss rfl rfl) rfl ?_
    refine L_nil (N_then ?_)
    refine C_if rfl (fun h1 => ?_) (fun h1 => ?_)
    · refine C_skip (N_then (C_seq (C_block (C_seq (C_reg ?_)))))
      refine L_run (R_move rfl) rfl ?_
      refine L_run (R_move rfl) rfl ?_
      have hk1 : k < l.length := by first | omega | (simp; omega)
      refine T_index (xs := l) (i := k) EncOp rfl rfl (by first | rfl | omega) slc22 hk1 hS rfl ?_
      intro g1 o1 ha1
      refine L_run (R_loadA (vs := [.int .i64 ((l[k]).kind), .string ((l[k]).key), .string ((l[k]).val)]) rfl agg44 (At.pre ha1 rfl) rfl) rfl ?_
      refine L_call rfl cb39 (ref10_Right) rfl ?_
      rintro _ w2 ⟨hs1, rfl⟩
      replace hB := gb_tr hB hs1
      replace hS := hS.gb hs1
      replace ha1 := At.gb ha1 hs1 (by simp)
      refine L_run (R_notD rfl) rfl ?_
      refine L_nil (N_then ?_)
      refine C_ifN rfl (fun h2 => ?_) (fun h2 => ?_)
      · refine C_seq (C_reg ?_)
        refine L_run (R_assign rfl) rfl ?_
        refine L_nil (N_then (C_ret (R_in (R_then (R_then (R_in (R_then ?_)))))))
        refine ret1 Try.results46 rfl ?_
        exact ⟨hB, bF (fun h => absurd (h.1 _ (List.getElem_mem _)) (by assumption))⟩
      · refine C_skip (N_in (N_then (C_reg ?_)))
        refine L_run (R_move rfl) rfl ?_
        refine L_run (R_add64 rfl rfl (by omega)) rfl ?_
        refine L_run (R_assign rfl) rfl ?_
        refine L_nil (N_then ?_)
        exact ⟨l.length - (k + 1), by omega, _, (k + 1), Ac_frg ⟨rfl, rfl, (agr rfl (by first | rfl | (congr 1; omega) | (congr 1; simp; done) | (congr 1; simp only [IntKind.wrap_u64, IntKind.wrap_i64, IntKind.wrap_u8]; omega) | (congr 1 <;> omega))), trivial⟩, hB, hS, (by omega), (OkL_take hall hk1 (by assumption)), rfl⟩
    · refine C_exit (X_then (X_then (X_hit (N_then (C_seq (C_reg ?_))))))
      refine L_run (R_move rfl) rfl ?_
      refine L_run (R_lenSl rfl slc22) rfl ?_
      refine L_run (R_gtr rfl rfl) rfl ?_
      refine L_run (R_move rfl) rfl ?_
      refine L_splitD (p := 0 < (l.length : Int)) (fun h3 => ?_) (fun h3 => ?_)
      · refine L_yes rfl rfl rfl (decide_eq_true h3) ?_
        refine L_run (R_move rfl) rfl ?_
        refine L_yes rfl rfl rfl (decide_eq_true h3) ?_
        refine L_run (R_lenSl rfl slc22) rfl ?_
        refine L_yes rfl rfl rfl (decide_eq_true h3) ?_
        refine L_run (R_leq rfl rfl) rfl ?_
        refine L_run (R_pickT rfl (decide_eq_true h3) rfl) rfl ?_
        refine L_run (R_assign rfl) rfl ?_
        refine L_nil (N_then (C_ret ?_))
        refine ret1 Try.results46 rfl ?_
        rw [List.take_of_length_le (by omega)] at hall
        exact ⟨hB, bD ⟨fun h => ⟨hall, by omega, by omega⟩, fun h => by have := h.2; omega⟩⟩
      · refine L_no rfl rfl rfl (decide_eq_false h3) rfl ?_
        refine L_no rfl rfl rfl (decide_eq_false h3) rfl ?_
        refine L_no rfl rfl rfl (decide_eq_false h3) rfl ?_
        refine L_run (R_pickF rfl (decide_eq_false h3) rfl) rfl ?_
        refine L_run (R_assign rfl) rfl ?_
        refine L_nil (N_then (C_ret ?_))
        refine ret1 Try.results46 rfl ?_
        rw [List.take_of_length_le (by omega)] at hall
        exact ⟨hB, bF (fun h => by have := h.2; omega)⟩

theorem batch_Encode_ok {w : World} {t1 lo hi : Nat} {A : Option Addr} {c : Nat} {l : List Opd} (hS : Sli t1 lo hi w A (fl encOp l)) (hb : l.length ≤ 1000000) (hok : OkL l) :
    Runs Try.prog 44 #[.slice A l.length c] w (fun v w' => w.grownBy w' none ∧ ∃ A' c', v = .tuple #[.slice A' (encs l).length c', .int .i64 0] ∧ World.ownsRow w' w.heap.size 5 1 (.slice A' (encs l).length c') (encs l).length (fl encB (encs l))) := by
  have hB := gb_refl w none
  have hall := hok.1
  have hlen := hok.2.2
  have hE := encs_take hok.1
  replace hS := hS.top
  refine enter Try.func44 Try.ntmps44 rfl rfl ?_
  refine C_seq (C_reg ?_)
  refine L_run (R_assign rfl) rfl ?_
  refine L_run (R_assign rfl) rfl ?_
  refine L_nil (N_then (C_seq (C_seq (C_reg ?_))))
  refine L_run (R_move rfl) rfl ?_
  refine L_call rfl cb45 (batch_Right (l := l) hS (by first | omega | (simp; done) | (simp; omega))) rfl ?_
  rintro _ w1 ⟨hs1, rfl⟩
  replace hB := gb_tr hB hs1
  replace hS := hS.gb hs1
  refine L_run (R_notD rfl) rfl ?_
  refine L_nil (N_then (C_condF rfl (decide_eq_false (fun hn => hn hok)) (C_skip (N_then (C_seq (C_reg ?_))))))
  refine L_run (R_assign rfl) rfl ?_
  refine L_nil (N_then (C_seq (C_seq (C_reg ?_))))
  refine L_run (R_move rfl) rfl ?_
  refine L_run (R_lenSl rfl slc22) rfl ?_
  refine L_run (R_move rfl) rfl ?_
  refine L_nil (N_then (C_block ?_))
  refine C_loop (fun m_ a_ w_ => ∃ (σ_ : Nat → Value) (A' : Option Addr) (c' : Nat) (k : Nat), a_ = Ac 24 σ_ [] [(0, .slice A l.length c), (2, .slice none 0 0), (3, .int .i64 0), (4, .slice A' ((encs (l.take k)).length) c'), (10, .slice A l.length c), (11, .int .i64 (l.length : Int)), (12, .int .i64 (k : Int))] ∧ w.grownBy w_ none ∧ Sli t1 lo w.heap.size w_ A (fl encOp l) ∧ World.ownsRow w_ w.heap.size 5 1 (.slice A' (encs (l.take k)).length c') (encs (l.take k)).length (fl encB (encs (l.take k))) ∧ (k ≤ l.length) ∧ l.length - k = m_) (l.length - 0) ?_ ?_
  · exact ⟨_, none, 0, 0, Ac_frg ⟨rfl, rfl, rfl, (agr rfl (by first | rfl | (congr 1; omega) | (congr 1; simp; done) | (congr 1; simp only [IntKind.wrap_u64, IntKind.wrap_i64, IntKind.wrap_u8]; omega) | (congr 1 <;> omega))), rfl, rfl, (agr rfl (by first | rfl | (congr 1; omega) | (congr 1; simp; done) | (congr 1; simp only [IntKind.wrap_u64, IntKind.wrap_i64, IntKind.wrap_u8]; omega) | (congr 1 <;> omega))), trivial⟩, hB, hS, (own_nil w.heap.size 5 1 _), (Nat.zero_le _), rfl⟩
  · clear hB
    clear hS
    rintro m_ a_ w2 ⟨σ_, A', c', k, rfl, hB, hS, ho, hk, rfl⟩
    refine C_seq (C_reg ?_)
    refine L_run (R_lss rfl rfl) rfl ?_
    refine L_nil (N_then (C_seq ?_))
    refine C_if rfl (fun h1 => ?_) (fun h1 => ?_)
    · refine C_skip (N_then (C_seq (C_block (C_seq (C_reg ?_)))))
      have hl1 : k < l.length := by first | omega | (simp; omega)
      refine T_index (xs := l) (i := k) EncOp rfl rfl (by first | rfl | omega) slc22 hl1 hS rfl ?_
      intro g1 o1 ha1
      refine L_run (R_loadA (vs := [.int .i64 ((l[k]).kind), .string ((l[k]).key), .string ((l[k]).val)]) rfl agg44 (At.pre ha1 rfl) rfl) rfl ?_
      refine L_alloc (cs := [.int .i64 0, .string (⟨#[]⟩), .string (⟨#[]⟩)]) zer44 rfl rfl ?_
      intro g2 w3 eg1 hb1 hs2 hz1
      have ge1 : w.heap.size ≤ g2 := eg_ge hB eg1
      replace hB := gb_tr hB hs2
      replace hS := hS.gb hs2
      replace ho := own_gb ho hs2
      replace ha1 := At.gb ha1 hs2 (by simp)
      refine L_stA (vs := [.int .i64 ((l[k]).kind), .string ((l[k]).key), .string ((l[k]).val)]) rfl rfl rfl sz44 rfl hb1 rfl ?_
      intro w4 hb2 hs3 hz2
      replace hB := gb_trg hB hs3 ge1
      replace hS := hS.old hs3 ge1
      replace ho := own_other ho hb1 rfl hs3
      refine L_nil (N_then (C_reg ?_))
      refine L_run (R_move rfl) rfl ?_
      refine L_run (R_loadA (vs := [.int .i64 ((l[k]).kind), .string ((l[k]).key), .string ((l[k]).val)]) rfl agg44 (At.pre (hb2.at_ 0) rfl) rfl) rfl ?_
      have ge2 : w.heap.size ≤ w4.heap.size := hB.size
      refine L_call rfl cb37 (op_Put_ok (bs := encs (l.take k)) (own_of ho).2.2 (by have := hE k; omega) (hall _ (List.getElem_mem _))) rfl ?_
      rintro _ w5 ⟨hs4, A_1, c_1, rfl, ho1⟩
      replace hB := gb_tr hB hs4
      replace hS := hS.gb hs4
      replace ho := own_gb ho hs4
      replace hb2 := hb2.gb hs4
      have hlo1 : w4.heap.size ≤ w5.heap.size := hs4.size
      refine L_run (R_move rfl) rfl ?_
      refine L_run (R_extract rfl rfl) rfl ?_
      refine L_run (R_extract rfl rfl) rfl ?_
      refine L_run (R_assign rfl) rfl ?_
      refine L_nil (N_in (N_then (C_reg ?_)))
      refine L_run (R_add64 rfl rfl (by omega)) rfl ?_
      refine L_run (R_move rfl) rfl ?_
      refine L_nil (N_then ?_)
      have e_ : (encs (l.take k)) ++ opEnc ((l[k]).kind) ((l[k]).key) ((l[k]).val) = encs (l.take (k + 1)) := (encs_succ hl1).symm
      rw [e_] at ho1 ⊢
      exact ⟨l.length - (k + 1), by omega, _, A_1, c_1, (k + 1), Ac_frg ⟨rfl, rfl, rfl, rfl, rfl, rfl, (agr rfl (by first | rfl | (congr 1; omega) | (congr 1; simp; done) | (congr 1; simp only [IntKind.wrap_u64, IntKind.wrap_i64, IntKind.wrap_u8]; omega) | (congr 1 <;> omega))), trivial⟩, hB, hS, (own_lo ho1 ge2), (by omega), rfl⟩
    · refine C_exit (X_then (X_then (X_hit (N_then (C_seq (C_reg ?_))))))
      refine L_run (R_move rfl) rfl ?_
      refine L_run (R_assign rfl) rfl ?_
      refine L_run (R_assign rfl) rfl ?_
      refine L_nil (N_then (C_ret ?_))
      refine ret2 Try.results44 rfl rfl ?_
      have e_ : encs (l.take k) = encs l := by rw [List.take_of_length_le (by omega)]
      rw [← e_]; exact ⟨hB, _, _, rfl, (own_lo ho (Nat.le_refl _))⟩
theorem batch_Encode_no {w : World} {t1 lo hi : Nat} {A : Option Addr} {c : Nat} {l : List Opd} (hS : Sli t1 lo hi w A (fl encOp l)) (hb : l.length ≤ 1000000) (hok : ¬ OkL l) :
    Runs Try.prog 44 #[.slice A l.length c] w (fun v w' => w.grownBy w' none ∧ ∃ A' c', v = .tuple #[.slice A' ([] : List UInt8).length c', .int .i64 13] ∧ World.ownsRow w' w.heap.size 5 1 (.slice A' ([] : List UInt8).length c') ([] : List UInt8).length (fl encB ([] : List UInt8))) := by
  have hB := gb_refl w none
  replace hS := hS.top
  refine enter Try.func44 Try.ntmps44 rfl rfl ?_
  refine C_seq (C_reg ?_)
  refine L_run (R_assign rfl) rfl ?_
  refine L_run (R_assign rfl) rfl ?_
  refine L_nil (N_then (C_seq (C_seq (C_reg ?_))))
  refine L_run (R_move rfl) rfl ?_
  refine L_call rfl cb45 (batch_Right (l := l) hS (by first | omega | (simp; done) | (simp; omega))) rfl ?_
  rintro _ w1 ⟨hs1, rfl⟩
  replace hB := gb_tr hB hs1
  replace hS := hS.gb hs1
  refine L_run (R_notD rfl) rfl ?_
  refine L_nil (N_then (C_condT rfl (decide_eq_true hok) (C_seq (C_reg ?_))))
  refine L_run (R_assign rfl) rfl ?_
  refine L_run (R_assign rfl) rfl ?_
  refine L_nil (N_then (C_ret (R_then ?_)))
  refine ret2 Try.results44 rfl rfl ?_
  exact ⟨hB, none, 0, rfl, own_nil _ _ _ _⟩

theorem batch_Decode {w : World} {t1 lo hi : Nat} {A : Option Addr} {c : Nat} {bs : List UInt8} (hS : Sli t1 lo hi w A (fl encB bs)) (hb : bs.length ≤ 1000000) (hc : bs.length ≤ c) :
    Runs Try.prog 47 #[.slice A bs.length c] w (fun v w' => w.grownBy w' none ∧ ∃ A' c', v = .tuple #[.slice A' (bget bs).1.length c', .int .i64 (bget bs).2] ∧ World.ownsRow w' w.heap.size 44 3 (.slice A' (bget bs).1.length c') (bget bs).1.length (fl encOp (bget bs).1)) := by
  have hB := gb_refl w none
  have hob_ := fun (n : Nat) (h : (oget (bs.drop n)).2.2 = 0) => oget_bound h
  replace hS := hS.top
  refine enter Try.func47 Try.ntmps47 rfl rfl ?_
  refine C_seq (C_reg ?_)
  refine L_run (R_assign rfl) rfl ?_
  refine L_run (R_assign rfl) rfl ?_
  refine L_nil (N_then (C_seq (C_reg ?_)))
  refine L_run (R_assign rfl) rfl ?_
  refine L_nil (N_then (C_seq (C_block ?_)))
  refine C_loop (fun m_ a_ w_ => ∃ (σ_ : Nat → Value) (A' : Option Addr) (c' : Nat) (n : Nat) (A2 : Option Addr) (c2 : Nat) (acc : List Opd) (f : Nat), a_ = Ac 31 σ_ [] [(0, .slice A' ((bs.drop n).length) c'), (2, .slice none 0 0), (3, .int .i64 0), (4, .slice A2 acc.length c2)] ∧ w.grownBy w_ none ∧ Sli t1 lo w.heap.size w_ A' (fl encB (bs.drop n)) ∧ World.ownsRow w_ w.heap.size 44 3 (.slice A2 acc.length c2) acc.length (fl encOp acc) ∧ (n ≤ bs.length) ∧ ((bs.drop n).length ≤ c') ∧ ((bs.drop n).length ≤ f) ∧ (bgo f acc (bs.drop n) = bgo bs.length [] bs) ∧ (acc.length ≤ n) ∧ bs.length - n = m_) (bs.length - 0) ?_ ?_
  · exact ⟨_, A, c, 0, none, 0, ([] : List Opd), bs.length, Ac_frg ⟨(agr rfl (by first | rfl | (congr 1; omega) | (congr 1; simp; done) | (congr 1; simp only [IntKind.wrap_u64, IntKind.wrap_i64, IntKind.wrap_u8]; omega) | (congr 1 <;> omega))), rfl, rfl, (agr rfl (by first | rfl | (congr 1; omega) | (congr 1; simp; done) | (congr 1; simp only [IntKind.wrap_u64, IntKind.wrap_i64, IntKind.wrap_u8]; omega) | (congr 1 <;> omega))), trivial⟩, hB, hS, (own_nil w.heap.size 44 3 _), (by omega), (by simpa using hc), (by simp), rfl, (by simp), rfl⟩
  · clear hB
    clear hS
    rintro m_ a_ w1 ⟨σ_, A', c', n, A2, c2, acc, f, rfl, hB, hS', ho, hn, hcap, hf, hv, hac, rfl⟩
    refine C_seq (C_seq (C_reg ?_))
    refine L_run (R_move rfl) rfl ?_
    refine L_run (R_lenSl rfl slc42) rfl ?_
    refine L_run (R_gtr rfl rfl) rfl ?_
    refine L_nil (N_then ?_)
    refine C_if rfl (fun h1 => ?_) (fun h1 => ?_)
    · refine C_skip (N_then (C_block (C_seq (C_reg ?_))))
      refine L_run (R_move rfl) rfl ?_
      refine L_call rfl cb41 (op_Get (bs := (bs.drop n)) hS' (by rw [List.length_drop]; omega) (by first | omega | (simp; done) | (simp; omega))) rfl ?_
      rintro _ w2 ⟨hs1, rfl⟩
      replace hB := gb_tr hB hs1
      replace hS' := hS'.gb hs1
      replace ho := own_gb ho hs1
      refine L_run (R_move rfl) rfl ?_
      refine L_run (R_extract rfl rfl) rfl ?_
      refine L_run (R_extract rfl rfl) rfl ?_
      refine L_run (R_extract rfl rfl) rfl ?_
      refine L_alloc (cs := [.int .i64 0, .string (⟨#[]⟩), .string (⟨#[]⟩)]) zer44 rfl rfl ?_
      intro g1 w3 eg1 hb1 hs2 hz1
      have ge1 : w.heap.size ≤ g1 := eg_ge hB eg1
      have hap1 : ∀ k_, (Value.slice A2 acc.length c2).ownBlock = some k_ → k_ ≠ g1 := fun k_ hk => by have h_ := (World.ownsRow.lt ho k_ hk).2; omega
      replace hB := gb_tr hB hs2
      replace hS' := hS'.gb hs2
      replace ho := own_gb ho hs2
      refine L_stA (vs := [.int .i64 ((oget (bs.drop n)).1.1), .string ((oget (bs.drop n)).1.2.1), .string ((oget (bs.drop n)).1.2.2)]) rfl rfl rfl sz44 rfl hb1 rfl ?_
      intro w4 hb2 hs3 hz2
      replace hB := gb_trg hB hs3 ge1
      replace hS' := hS'.old hs3 ge1
      replace ho := ho.kept hs3 (.inr (fun e_ => hap1 _ e_ rfl))
      refine L_run (R_assign rfl) rfl ?_
      refine L_run (R_assign rfl) rfl ?_
      refine L_nil (N_then (C_seq (C_seq (C_reg ?_))))
      refine L_run (R_move rfl) rfl ?_
      refine L_run (R_neq rfl rfl) rfl ?_
      refine L_nil (N_then ?_)
      refine C_if rfl (fun h2 => ?_) (fun h2 => ?_)
      · refine C_seq (C_reg ?_)
        refine L_run (R_move rfl) rfl ?_
        refine L_run (R_assign rfl) rfl ?_
        refine L_run (R_assign rfl) rfl ?_
        refine L_nil (N_then (C_ret (R_then (R_in (R_then (R_in (R_then ?_)))))))
        refine ret2 Try.results47 rfl rfl ?_
        have e_ : bget bs = ([], (oget (bs.drop n)).2.2) := bget_e (x := []) (by rw [← hv]; exact bgo_err (by rw [List.length_drop] at *; omega) hf (by omega)) (by omega)
        rw [e_]; exact ⟨hB, none, 0, rfl, own_nil _ _ _ _⟩
      · refine C_skip (N_then ?_)
        refine C_draw2 mix ?_
        intro w5 hs4 hz3
        replace hB := gb_tr hB hs4
        replace hS' := hS'.gb hs4
        replace ho := own_gb ho hs4
        replace hb2 := hb2.gb hs4
        refine ⟨fun W_ => Blk W_ g1 44 [.int .i64 ((oget (bs.drop n)).1.1), .string ((oget (bs.drop n)).1.2.1), .string ((oget (bs.drop n)).1.2.2)] ∧ True, [0, 1, 4, 5, 7, 8], ?_⟩
        refine T_takeA (i := 0) rfl rfl (by kernel_rfl) (by kernel_rfl) (by kernel_rfl) (Y_of (fun _ ⟨hb2, _⟩ => R_move rfl)) ⟨hb2, trivial⟩ rfl ?_
        refine T_takeA (i := 1) rfl rfl (by kernel_rfl) (by kernel_rfl) (by kernel_rfl) (Y_of (fun _ ⟨hb2, _⟩ => R_loadA (vs := [.int .i64 ((oget (bs.drop n)).1.1), .string ((oget (bs.drop n)).1.2.1), .string ((oget (bs.drop n)).1.2.2)]) rfl agg44 (At.pre (hb2.at_ 0) rfl) rfl)) ⟨hb2, trivial⟩ rfl ?_
        refine T_takeA (i := 4) rfl rfl (by kernel_rfl) (by kernel_rfl) (by kernel_rfl) (Y_of (fun _ ⟨hb2, _⟩ => R_move rfl)) ⟨hb2, trivial⟩ rfl ?_
        refine T_takeA (i := 5) rfl rfl (by kernel_rfl) (by kernel_rfl) (by kernel_rfl) (Y_of (fun _ ⟨hb2, _⟩ => R_move rfl)) ⟨hb2, trivial⟩ rfl ?_
        refine T_all (rs := [2, 6]) (by kernel_rfl) rfl (all2 (O_one rfl ?_) (O_one rfl ?_))
        · refine L_buildSlice (pv := [(0, .agg #[.int .i64 ((oget (bs.drop n)).1.1), .string ((oget (bs.drop n)).1.2.1), .string ((oget (bs.drop n)).1.2.2)])]) (cs := [.int .i64 ((oget (bs.drop n)).1.1), .string ((oget (bs.drop n)).1.2.1), .string ((oget (bs.drop n)).1.2.2)]) slc22 zer44 rfl rfl (by kernel_rfl) rfl ?_
          intro g2 w6 eg2 hb3 hs5 hz4
          have ge2 : w.heap.size ≤ g2 := eg_ge hB eg2
          have lt1 : g1 < g2 := lt_of_eg hb2.lt eg2
          have hap2 : ∀ k_, (Value.slice A2 acc.length c2).ownBlock = some k_ → k_ ≠ g2 := fun k_ hk => by have h_ := (World.ownsRow.lt ho k_ hk).2; omega
          replace hB := gb_tr hB hs5
          replace hS' := hS'.gb hs5
          replace ho := own_gb ho hs5
          replace hb2 := hb2.gb hs5
          refine L_nil (N_then ⟨fun hN_ => ⟨hb2, trivial⟩, ?_⟩)
          refine T_all (rs := [3, 6]) (by kernel_rfl) rfl (all2 (O_one rfl ?_) (O_one rfl ?_))
          · refine T_append (xs := acc) (ys := [(⟨(oget (bs.drop n)).1.1, (oget (bs.drop n)).1.2.1, (oget (bs.drop n)).1.2.2⟩ : Opd)]) EncOp slc22 rfl rfl ho (Blk.sli (m := 0) hb3) (by simp; omega) (by have := hB.size; omega) rfl ?_
            intro A_1 c_1 w7 ho1 hs6 hat1
            have lt2 := hb2.lt
            replace hB := gb_tro hB ho hs6 (Nat.le_refl _)
            replace hS' := hS'.grown hs6 (fun k hk => .inr (Nat.le_trans (Nat.le_refl _) (World.ownsRow.lt ho k hk).1))
            replace hb2 := hb2.grown hs6 (fun e_ => hap1 _ e_.symm rfl)
            have hap3 : ∀ k_, (Value.slice A_1 (acc ++ ([(⟨(oget (bs.drop n)).1.1, (oget (bs.drop n)).1.2.1, (oget (bs.drop n)).1.2.2⟩ : Opd)])).length c_1).ownBlock = some k_ → k_ ≠ g1 := fun k_ hk => by rcases hat1 with h_ | h_ <;> rw [h_] at hk <;> first | exact hap1 k_ hk | (injection hk with hk; omega)
            refine L_nil (N_then ⟨fun hN_ => ⟨hb2, trivial⟩, ?_⟩)
            refine T_takeA (i := 7) rfl rfl (by kernel_rfl) (by kernel_rfl) (by kernel_rfl) (Y_of (fun _ ⟨hb2, _⟩ => R_assign rfl)) ⟨hb2, trivial⟩ rfl ?_
            refine T_all (rs := [6]) (by kernel_rfl) rfl (all1 (O_one rfl ?_))
            refine T_slL (xs := bs.drop n) (i := ((oget (bs.drop n)).2.1)) EncB rfl rfl (by first | rfl | omega) slc42 (oget_bound (bs := bs.drop n) (by omega)).2 (by first | omega | (simp; done) | (simp; omega)) hS' rfl ?_
            intro A_2 hS_1
            refine L_nil (N_then ⟨fun hN_ => ⟨hb2, trivial⟩, ?_⟩)
            refine T_takeA (i := 8) rfl rfl (by kernel_rfl) (by kernel_rfl) (by kernel_rfl) (Y_of (fun _ ⟨hb2, _⟩ => R_assign rfl)) ⟨hb2, trivial⟩ rfl ?_
            refine T_done (by kernel_rfl) (NoPanic.normal ?_)
            refine N_in (N_then ?_)
            have hob := oget_bound (bs := bs.drop n) (by omega)
            rw [List.length_drop] at hob
            have hst := bgo_step (acc := acc) (f := f) (bs := bs.drop n) (by rw [List.length_drop]; omega) hf (by omega)
            rw [List.drop_drop] at hst
            have e_ : (bs.drop n).drop (oget (bs.drop n)).2.1 = bs.drop (n + (oget (bs.drop n)).2.1) := List.drop_drop
            rw [e_] at hS_1 ⊢
            exact ⟨bs.length - (n + (oget (bs.drop n)).2.1), by omega, _, A_2, (c' - ((oget (bs.drop n)).2.1)), (n + (oget (bs.drop n)).2.1), A_1, c_1, (acc ++ [op1 (bs.drop n)]), (f - 1), Ac_frg ⟨rfl, rfl, rfl, (agr rfl (by first | rfl | (congr 1; omega) | (congr 1; simp; done) | (congr 1; simp only [IntKind.wrap_u64, IntKind.wrap_i64, IntKind.wrap_u8]; omega) | (congr 1 <;> omega))), trivial⟩, hB, hS_1, ho1, (by omega), (by rw [List.length_drop] at *; omega), (by rw [List.length_drop] at *; omega), (hst.symm.trans hv), (by rw [List.length_append, List.length_singleton]; omega), rfl⟩
          · refine T_slL (xs := bs.drop n) (i := ((oget (bs.drop n)).2.1)) EncB rfl rfl (by first | rfl | omega) slc42 (oget_bound (bs := bs.drop n) (by omega)).2 (by first | omega | (simp; done) | (simp; omega)) hS' rfl ?_
            intro A_3 hS_2
            refine L_nil (N_then ⟨fun hN_ => ⟨hb2, trivial⟩, ?_⟩)
            refine T_all (rs := [3]) (by kernel_rfl) rfl (all1 (O_one rfl ?_))
            refine T_append (xs := acc) (ys := [(⟨(oget (bs.drop n)).1.1, (oget (bs.drop n)).1.2.1, (oget (bs.drop n)).1.2.2⟩ : Opd)]) EncOp slc22 rfl rfl ho (Blk.sli (m := 0) hb3) (by simp; omega) (by have := hB.size; omega) rfl ?_
            intro A_4 c_2 w8 ho2 hs7 hat2
            have lt3 := hb2.lt
            replace hB := gb_tro hB ho hs7 (Nat.le_refl _)
            replace hS' := hS'.grown hs7 (fun k hk => .inr (Nat.le_trans (Nat.le_refl _) (World.ownsRow.lt ho k hk).1))
            replace hb2 := hb2.grown hs7 (fun e_ => hap1 _ e_.symm rfl)
            replace hS_2 := hS_2.grown hs7 (fun k hk => .inr (Nat.le_trans (Nat.le_refl _) (World.ownsRow.lt ho k hk).1))
            have hap4 : ∀ k_, (Value.slice A_4 (acc ++ ([(⟨(oget (bs.drop n)).1.1, (oget (bs.drop n)).1.2.1, (oget (bs.drop n)).1.2.2⟩ : Opd)])).length c_2).ownBlock = some k_ → k_ ≠ g1 := fun k_ hk => by rcases hat2 with h_ | h_ <;> rw [h_] at hk <;> first | exact hap1 k_ hk | (injection hk with hk; omega)
            refine L_nil (N_then ⟨fun hN_ => ⟨hb2, trivial⟩, ?_⟩)
            refine T_takeA (i := 7) rfl rfl (by kernel_rfl) (by kernel_rfl) (by kernel_rfl) (Y_of (fun _ ⟨hb2, _⟩ => R_assign rfl)) ⟨hb2, trivial⟩ rfl ?_
            refine T_takeA (i := 8) rfl rfl (by kernel_rfl) (by kernel_rfl) (by kernel_rfl) (Y_of (fun _ ⟨hb2, _⟩ => R_assign rfl)) ⟨hb2, trivial⟩ rfl ?_
            refine T_done (by kernel_rfl) (NoPanic.normal ?_)
            refine N_in (N_then ?_)
            have hob := oget_bound (bs := bs.drop n) (by omega)
            rw [List.length_drop] at hob
            have hst := bgo_step (acc := acc) (f := f) (bs := bs.drop n) (by rw [List.length_drop]; omega) hf (by omega)
            rw [List.drop_drop] at hst
            have e_ : (bs.drop n).drop (oget (bs.drop n)).2.1 = bs.drop (n + (oget (bs.drop n)).2.1) := List.drop_drop
            rw [e_] at hS_2 ⊢
            exact ⟨bs.length - (n + (oget (bs.drop n)).2.1), by omega, _, A_3, (c' - ((oget (bs.drop n)).2.1)), (n + (oget (bs.drop n)).2.1), A_4, c_2, (acc ++ [op1 (bs.drop n)]), (f - 1), Ac_frg ⟨rfl, rfl, rfl, (agr rfl (by first | rfl | (congr 1; omega) | (congr 1; simp; done) | (congr 1; simp only [IntKind.wrap_u64, IntKind.wrap_i64, IntKind.wrap_u8]; omega) | (congr 1 <;> omega))), trivial⟩, hB, hS_2, ho2, (by omega), (by rw [List.length_drop] at *; omega), (by rw [List.length_drop] at *; omega), (hst.symm.trans hv), (by rw [List.length_append, List.length_singleton]; omega), rfl⟩
        · refine T_slL (xs := bs.drop n) (i := ((oget (bs.drop n)).2.1)) EncB rfl rfl (by first | rfl | omega) slc42 (oget_bound (bs := bs.drop n) (by omega)).2 (by first | omega | (simp; done) | (simp; omega)) hS' rfl ?_
          intro A_5 hS_3
          refine L_nil (N_then ⟨fun hN_ => ⟨hb2, trivial⟩, ?_⟩)
          refine T_all (rs := [2]) (by kernel_rfl) rfl (all1 (O_one rfl ?_))
          refine L_buildSlice (pv := [(0, .agg #[.int .i64 ((oget (bs.drop n)).1.1), .string ((oget (bs.drop n)).1.2.1), .string ((oget (bs.drop n)).1.2.2)])]) (cs := [.int .i64 ((oget (bs.drop n)).1.1), .string ((oget (bs.drop n)).1.2.1), .string ((oget (bs.drop n)).1.2.2)]) slc22 zer44 rfl rfl (by kernel_rfl) rfl ?_
          intro g3 w9 eg3 hb4 hs8 hz5
          have ge3 : w.heap.size ≤ g3 := eg_ge hB eg3
          have lt4 : g1 < g3 := lt_of_eg hb2.lt eg3
          have hap5 : ∀ k_, (Value.slice A2 acc.length c2).ownBlock = some k_ → k_ ≠ g3 := fun k_ hk => by have h_ := (World.ownsRow.lt ho k_ hk).2; omega
          replace hB := gb_tr hB hs8
          replace hS' := hS'.gb hs8
          replace ho := own_gb ho hs8
          replace hb2 := hb2.gb hs8
          replace hS_3 := hS_3.gb hs8
          refine L_nil (N_then ⟨fun hN_ => ⟨hb2, trivial⟩, ?_⟩)
          refine T_all (rs := [3]) (by kernel_rfl) rfl (all1 (O_one rfl ?_))
          refine T_append (xs := acc) (ys := [(⟨(oget (bs.drop n)).1.1, (oget (bs.drop n)).1.2.1, (oget (bs.drop n)).1.2.2⟩ : Opd)]) EncOp slc22 rfl rfl ho (Blk.sli (m := 0) hb4) (by simp; omega) (by have := hB.size; omega) rfl ?_
          intro A_6 c_3 w10 ho3 hs9 hat3
          have lt5 := hb2.lt
          replace hB := gb_tro hB ho hs9 (Nat.le_refl _)
          replace hS' := hS'.grown hs9 (fun k hk => .inr (Nat.le_trans (Nat.le_refl _) (World.ownsRow.lt ho k hk).1))
          replace hb2 := hb2.grown hs9 (fun e_ => hap1 _ e_.symm rfl)
          replace hS_3 := hS_3.grown hs9 (fun k hk => .inr (Nat.le_trans (Nat.le_refl _) (World.ownsRow.lt ho k hk).1))
          have hap6 : ∀ k_, (Value.slice A_6 (acc ++ ([(⟨(oget (bs.drop n)).1.1, (oget (bs.drop n)).1.2.1, (oget (bs.drop n)).1.2.2⟩ : Opd)])).length c_3).ownBlock = some k_ → k_ ≠ g1 := fun k_ hk => by rcases hat3 with h_ | h_ <;> rw [h_] at hk <;> first | exact hap1 k_ hk | (injection hk with hk; omega)
          refine L_nil (N_then ⟨fun hN_ => ⟨hb2, trivial⟩, ?_⟩)
          refine T_takeA (i := 7) rfl rfl (by kernel_rfl) (by kernel_rfl) (by kernel_rfl) (Y_of (fun _ ⟨hb2, _⟩ => R_assign rfl)) ⟨hb2, trivial⟩ rfl ?_
          refine T_takeA (i := 8) rfl rfl (by kernel_rfl) (by kernel_rfl) (by kernel_rfl) (Y_of (fun _ ⟨hb2, _⟩ => R_assign rfl)) ⟨hb2, trivial⟩ rfl ?_
          refine T_done (by kernel_rfl) (NoPanic.normal ?_)
          refine N_in (N_then ?_)
          have hob := oget_bound (bs := bs.drop n) (by omega)
          rw [List.length_drop] at hob
          have hst := bgo_step (acc := acc) (f := f) (bs := bs.drop n) (by rw [List.length_drop]; omega) hf (by omega)
          rw [List.drop_drop] at hst
          have e_ : (bs.drop n).drop (oget (bs.drop n)).2.1 = bs.drop (n + (oget (bs.drop n)).2.1) := List.drop_drop
          rw [e_] at hS_3 ⊢
          exact ⟨bs.length - (n + (oget (bs.drop n)).2.1), by omega, _, A_5, (c' - ((oget (bs.drop n)).2.1)), (n + (oget (bs.drop n)).2.1), A_6, c_3, (acc ++ [op1 (bs.drop n)]), (f - 1), Ac_frg ⟨rfl, rfl, rfl, (agr rfl (by first | rfl | (congr 1; omega) | (congr 1; simp; done) | (congr 1; simp only [IntKind.wrap_u64, IntKind.wrap_i64, IntKind.wrap_u8]; omega) | (congr 1 <;> omega))), trivial⟩, hB, hS_3, ho3, (by omega), (by rw [List.length_drop] at *; omega), (by rw [List.length_drop] at *; omega), (hst.symm.trans hv), (by rw [List.length_append, List.length_singleton]; omega), rfl⟩
    · refine C_exit (X_then (X_then (X_hit (N_then (C_seq (C_seq (C_reg ?_)))))))
      refine L_run (R_move rfl) rfl ?_
      refine L_call rfl cb45 (batch_Right (l := acc) (own_of ho).2.2 (by omega)) rfl ?_
      rintro _ w11 ⟨hs10, rfl⟩
      replace hB := gb_tr hB hs10
      replace hS' := hS'.gb hs10
      replace ho := own_gb ho hs10
      refine L_run (R_notD rfl) rfl ?_
      refine L_nil (N_then ?_)
      refine C_ifN rfl (fun h3 => ?_) (fun h3 => ?_)
      · refine C_seq (C_reg ?_)
        refine L_run (R_assign rfl) rfl ?_
        refine L_run (R_assign rfl) rfl ?_
        refine L_nil (N_then (C_ret (R_then ?_)))
        refine ret2 Try.results47 rfl rfl ?_
        have e_ : bget bs = ([], 2) := bget_n (x := acc) (by rw [← hv]; exact bgo_nil (by simp at *; omega)) (by assumption)
        rw [e_]; exact ⟨hB, none, 0, rfl, own_nil _ _ _ _⟩
      · refine C_skip (N_then (C_seq (C_reg ?_)))
        refine L_run (R_move rfl) rfl ?_
        refine L_run (R_assign rfl) rfl ?_
        refine L_run (R_assign rfl) rfl ?_
        refine L_nil (N_then (C_ret ?_))
        refine ret2 Try.results47 rfl rfl ?_
        have e_ : bget bs = (acc, 0) := bget_y (by rw [← hv]; exact bgo_nil (by simp at *; omega)) (by assumption)
        rw [e_]; exact ⟨hB, _, _, rfl, (own_lo ho (Nat.le_refl _))⟩

theorem ref12_Decode {w : World} {t1 lo hi : Nat} {A : Option Addr} {c : Nat} {bs : List UInt8} (hS : Sli t1 lo hi w A (fl encB bs)) (hb : bs.length ≤ 1000000) (hc : bs.length ≤ c) :
    Runs Try.prog 49 #[.slice A bs.length c] w (fun v w' => w.grownBy w' none ∧ ∃ A' c', v = .tuple #[.slice A' (bget bs).1.length c', .int .i64 (bget bs).2] ∧ World.ownsRow w' w.heap.size 44 3 (.slice A' (bget bs).1.length c') (bget bs).1.length (fl encOp (bget bs).1)) := by
  have hB := gb_refl w none
  have hob_ := fun (n : Nat) (h : (oget (bs.drop n)).2.2 = 0) => oget_bound h
  replace hS := hS.top
  refine enter Try.func49 Try.ntmps49 rfl rfl ?_
  refine C_seq (C_reg ?_)
  refine L_run (R_assign rfl) rfl ?_
  refine L_run (R_assign rfl) rfl ?_
  refine L_nil (N_then (C_seq (C_reg ?_)))
  refine L_run (R_assign rfl) rfl ?_
  refine L_nil (N_then (C_seq (C_seq (C_reg ?_))))
  refine L_run (R_assign rfl) rfl ?_
  refine L_nil (N_then (C_block ?_))
  refine C_loop (fun m_ a_ w_ => ∃ (σ_ : Nat → Value) (n : Nat) (A2 : Option Addr) (c2 : Nat) (acc : List Opd) (f : Nat), a_ = Ac 35 σ_ [] [(0, .slice A bs.length c), (2, .slice none 0 0), (3, .int .i64 0), (4, .slice A2 acc.length c2), (5, .int .i64 (n : Int))] ∧ w.grownBy w_ none ∧ Sli t1 lo w.heap.size w_ A (fl encB bs) ∧ World.ownsRow w_ w.heap.size 44 3 (.slice A2 acc.length c2) acc.length (fl encOp acc) ∧ (n ≤ bs.length) ∧ ((bs.drop n).length ≤ f) ∧ (bgo f acc (bs.drop n) = bgo bs.length [] bs) ∧ (acc.length ≤ n) ∧ bs.length - n = m_) (bs.length - 0) ?_ ?_
  · exact ⟨_, 0, none, 0, ([] : List Opd), bs.length, Ac_frg ⟨rfl, rfl, rfl, (agr rfl (by first | rfl | (congr 1; omega) | (congr 1; simp; done) | (congr 1; simp only [IntKind.wrap_u64, IntKind.wrap_i64, IntKind.wrap_u8]; omega) | (congr 1 <;> omega))), (agr rfl (by first | rfl | (congr 1; omega) | (congr 1; simp; done) | (congr 1; simp only [IntKind.wrap_u64, IntKind.wrap_i64, IntKind.wrap_u8]; omega) | (congr 1 <;> omega))), trivial⟩, hB, hS, (own_nil w.heap.size 44 3 _), (by omega), (by simp), rfl, (by simp), rfl⟩
  · clear hB
    clear hS
    rintro m_ a_ w1 ⟨σ_, n, A2, c2, acc, f, rfl, hB, hS, ho, hn, hf, hv, hac, rfl⟩
    refine C_seq (C_seq (C_reg ?_))
    refine L_run (R_move rfl) rfl ?_
    refine L_run (R_move rfl) rfl ?_
    refine L_run (R_lenSl rfl slc42) rfl ?_
    refine L_run (R_lss rfl rfl) rfl ?_
    refine L_nil (N_then ?_)
    refine C_if rfl (fun h1 => ?_) (fun h1 => ?_)
    · refine C_skip (N_then (C_block (C_seq (C_reg ?_))))
      refine L_run (R_move rfl) rfl ?_
      refine L_run (R_move rfl) rfl ?_
      refine T_slL (xs := bs) (i := n) EncB rfl rfl (by first | rfl | omega) slc42 (by first | omega | (simp; done) | (simp; omega)) (by first | omega | (simp; done) | (simp; omega)) hS rfl ?_
      intro A_1 hS_1
      refine L_call rfl cb42 (ref10_Get (bs := (bs.drop n)) hS_1 (by rw [List.length_drop]; omega) (by simp; omega)) rfl ?_
      rintro _ w2 ⟨hs1, rfl⟩
      replace hB := gb_tr hB hs1
      replace hS := hS.gb hs1
      replace ho := own_gb ho hs1
      replace hS_1 := hS_1.gb hs1
      refine L_run (R_move rfl) rfl ?_
      refine L_run (R_extract rfl rfl) rfl ?_
      refine L_run (R_extract rfl rfl) rfl ?_
      refine L_run (R_extract rfl rfl) rfl ?_
      refine L_alloc (cs := [.int .i64 0, .string (⟨#[]⟩), .string (⟨#[]⟩)]) zer44 rfl rfl ?_
      intro g1 w3 eg1 hb1 hs2 hz1
      have ge1 : w.heap.size ≤ g1 := eg_ge hB eg1
      have hap1 : ∀ k_, (Value.slice A2 acc.length c2).ownBlock = some k_ → k_ ≠ g1 := fun k_ hk => by have h_ := (World.ownsRow.lt ho k_ hk).2; omega
      replace hB := gb_tr hB hs2
      replace hS := hS.gb hs2
      replace ho := own_gb ho hs2
      replace hS_1 := hS_1.gb hs2
      refine L_stA (vs := [.int .i64 ((oget (bs.drop n)).1.1), .string ((oget (bs.drop n)).1.2.1), .string ((oget (bs.drop n)).1.2.2)]) rfl rfl rfl sz44 rfl hb1 rfl ?_
      intro w4 hb2 hs3 hz2
      replace hB := gb_trg hB hs3 ge1
      replace hS := hS.old hs3 ge1
      replace ho := ho.kept hs3 (.inr (fun e_ => hap1 _ e_ rfl))
      replace hS_1 := hS_1.old hs3 ge1
      refine L_run (R_assign rfl) rfl ?_
      refine L_run (R_assign rfl) rfl ?_
      refine L_nil (N_then (C_seq (C_seq (C_reg ?_))))
      refine L_run (R_move rfl) rfl ?_
      refine L_run (R_neq rfl rfl) rfl ?_
      refine L_nil (N_then ?_)
      refine C_if rfl (fun h2 => ?_) (fun h2 => ?_)
      · refine C_seq (C_reg ?_)
        refine L_run (R_move rfl) rfl ?_
        refine L_run (R_assign rfl) rfl ?_
        refine L_run (R_assign rfl) rfl ?_
        refine L_nil (N_then (C_ret (R_then (R_in (R_then (R_in (R_then ?_)))))))
        refine ret2 Try.results49 rfl rfl ?_
        have e_ : bget bs = ([], (oget (bs.drop n)).2.2) := bget_e (x := []) (by rw [← hv]; exact bgo_err (by rw [List.length_drop] at *; omega) hf (by omega)) (by omega)
        rw [e_]; exact ⟨hB, none, 0, rfl, own_nil _ _ _ _⟩
      · refine C_skip (N_then (C_seq (C_reg ?_)))
        refine L_run (R_move rfl) rfl ?_
        refine L_run (R_loadA (vs := [.int .i64 ((oget (bs.drop n)).1.1), .string ((oget (bs.drop n)).1.2.1), .string ((oget (bs.drop n)).1.2.2)]) rfl agg44 (At.pre (hb2.at_ 0) rfl) rfl) rfl ?_
        refine L_buildSlice (pv := [(0, .agg #[.int .i64 ((oget (bs.drop n)).1.1), .string ((oget (bs.drop n)).1.2.1), .string ((oget (bs.drop n)).1.2.2)])]) (cs := [.int .i64 ((oget (bs.drop n)).1.1), .string ((oget (bs.drop n)).1.2.1), .string ((oget (bs.drop n)).1.2.2)]) slc22 zer44 rfl rfl (by kernel_rfl) rfl ?_
        intro g2 w5 eg2 hb3 hs4 hz3
        have ge2 : w.heap.size ≤ g2 := eg_ge hB eg2
        have lt1 : g1 < g2 := lt_of_eg hb2.lt eg2
        have hap2 : ∀ k_, (Value.slice A2 acc.length c2).ownBlock = some k_ → k_ ≠ g2 := fun k_ hk => by have h_ := (World.ownsRow.lt ho k_ hk).2; omega
        replace hB := gb_tr hB hs4
        replace hS := hS.gb hs4
        replace ho := own_gb ho hs4
        replace hS_1 := hS_1.gb hs4
        replace hb2 := hb2.gb hs4
        refine T_append (xs := acc) (ys := [(⟨(oget (bs.drop n)).1.1, (oget (bs.drop n)).1.2.1, (oget (bs.drop n)).1.2.2⟩ : Opd)]) EncOp slc22 rfl rfl ho (Blk.sli (m := 0) hb3) (by simp; omega) (by have := hB.size; omega) rfl ?_
        intro A_2 c_1 w6 ho1 hs5 hat1
        have lt2 := hb2.lt
        replace hB := gb_tro hB ho hs5 (Nat.le_refl _)
        replace hS := hS.grown hs5 (fun k hk => .inr (Nat.le_trans (Nat.le_refl _) (World.ownsRow.lt ho k hk).1))
        replace hS_1 := hS_1.grown hs5 (fun k hk => .inr (Nat.le_trans (Nat.le_refl _) (World.ownsRow.lt ho k hk).1))
        replace hb2 := hb2.grown hs5 (fun e_ => hap1 _ e_.symm rfl)
        have hap3 : ∀ k_, (Value.slice A_2 (acc ++ ([(⟨(oget (bs.drop n)).1.1, (oget (bs.drop n)).1.2.1, (oget (bs.drop n)).1.2.2⟩ : Opd)])).length c_1).ownBlock = some k_ → k_ ≠ g1 := fun k_ hk => by rcases hat1 with h_ | h_ <;> rw [h_] at hk <;> first | exact hap1 k_ hk | (injection hk with hk; omega)
        refine L_run (R_assign rfl) rfl ?_
        refine L_nil (N_then (C_reg ?_))
        refine L_run (R_move rfl) rfl ?_
        refine L_run (R_move rfl) rfl ?_
        refine L_run (R_add64 rfl rfl (by first | omega | (have h_ := hob_ n (by omega); rw [List.length_drop] at h_; omega))) rfl ?_
        refine L_run (R_assign rfl) rfl ?_
        refine L_nil (N_in (N_then ?_))
        have hob := oget_bound (bs := bs.drop n) (by omega)
        rw [List.length_drop] at hob
        have hst := bgo_step (acc := acc) (f := f) (bs := bs.drop n) (by rw [List.length_drop]; omega) hf (by omega)
        rw [List.drop_drop] at hst
        exact ⟨bs.length - (n + (oget (bs.drop n)).2.1), by omega, _, (n + (oget (bs.drop n)).2.1), A_2, c_1, (acc ++ [op1 (bs.drop n)]), (f - 1), Ac_frg ⟨rfl, rfl, rfl, (agr rfl (by first | rfl | (congr 1; omega) | (congr 1; simp; done) | (congr 1; simp only [IntKind.wrap_u64, IntKind.wrap_i64, IntKind.wrap_u8]; omega) | (congr 1 <;> omega))), (agr rfl (by first | rfl | (congr 1; omega) | (congr 1; simp; done) | (congr 1; simp only [IntKind.wrap_u64, IntKind.wrap_i64, IntKind.wrap_u8]; omega) | (congr 1 <;> omega))), trivial⟩, hB, hS, ho1, (by omega), (by rw [List.length_drop] at *; omega), (hst.symm.trans hv), (by rw [List.length_append, List.length_singleton]; omega), rfl⟩
    · refine C_exit (X_then (X_then (X_hit (N_then (C_seq (C_seq (C_reg ?_)))))))
      refine L_run (R_move rfl) rfl ?_
      refine L_call rfl cb46 (ref12_Right (l := acc) (own_of ho).2.2 (by omega)) rfl ?_
      rintro _ w7 ⟨hs6, rfl⟩
      replace hB := gb_tr hB hs6
      replace hS := hS.gb hs6
      replace ho := own_gb ho hs6
      refine L_run (R_notD rfl) rfl ?_
      refine L_nil (N_then ?_)
      refine C_ifN rfl (fun h3 => ?_) (fun h3 => ?_)
      · refine C_seq (C_reg ?_)
        refine L_run (R_assign rfl) rfl ?_
        refine L_run (R_assign rfl) rfl ?_
        refine L_nil (N_then (C_ret (R_then ?_)))
        refine ret2 Try.results49 rfl rfl ?_
        have e_ : bget bs = ([], 2) := bget_n (x := acc) (by rw [← hv]; exact bgo_nil (by simp at *; omega)) (by assumption)
        rw [e_]; exact ⟨hB, none, 0, rfl, own_nil _ _ _ _⟩
      · refine C_skip (N_then (C_seq (C_reg ?_)))
        refine L_run (R_move rfl) rfl ?_
        refine L_run (R_assign rfl) rfl ?_
        refine L_run (R_assign rfl) rfl ?_
        refine L_nil (N_then (C_ret ?_))
        refine ret2 Try.results49 rfl rfl ?_
        have e_ : bget bs = (acc, 0) := bget_y (by rw [← hv]; exact bgo_nil (by simp at *; omega)) (by assumption)
        rw [e_]; exact ⟨hB, _, _, rfl, (own_lo ho (Nat.le_refl _))⟩

theorem ref12_Bytes {w : World} {t1 lo hi : Nat} {A : Option Addr} {c : Nat} {l : List Opd} (hS : Sli t1 lo hi w A (fl encOp l)) (hb : l.length ≤ 1000000) (hall : ∀ o ∈ l, OkOp o.kind o.key o.val) :
    Runs Try.prog 48 #[.slice A l.length c] w (fun v w' => w.grownBy w' none ∧ ∃ A' c', v = .slice A' (encs l).length c' ∧ World.ownsRow w' w.heap.size 5 1 (.slice A' (encs l).length c') (encs l).length (fl encB (encs l))) := by
  have hB := gb_refl w none
  have hE := encs_take hall
  replace hS := hS.top
  refine enter Try.func48 Try.ntmps48 rfl rfl ?_
  refine C_seq (C_reg ?_)
  refine L_run (R_assign rfl) rfl ?_
  refine L_nil (N_then (C_seq (C_reg ?_)))
  refine L_run (R_assign rfl) rfl ?_
  refine L_nil (N_then (C_seq (C_seq (C_reg ?_))))
  refine L_run (R_assign rfl) rfl ?_
  refine L_nil (N_then (C_block ?_))
  refine C_loop (fun m_ a_ w_ => ∃ (σ_ : Nat → Value) (A' : Option Addr) (c' : Nat) (k : Nat), a_ = Ac 19 σ_ [] [(0, .slice A l.length c), (2, .slice none 0 0), (3, .slice A' ((encs (l.take k)).length) c'), (4, .int .i64 (k : Int))] ∧ w.grownBy w_ none ∧ Sli t1 lo w.heap.size w_ A (fl encOp l) ∧ World.ownsRow w_ w.heap.size 5 1 (.slice A' (encs (l.take k)).length c') (encs (l.take k)).length (fl encB (encs (l.take k))) ∧ (k ≤ l.length) ∧ l.length - k = m_) (l.length - 0) ?_ ?_
  · exact ⟨_, none, 0, 0, Ac_frg ⟨rfl, rfl, (agr rfl (by first | rfl | (congr 1; omega) | (congr 1; simp; done) | (congr 1; simp only [IntKind.wrap_u64, IntKind.wrap_i64, IntKind.wrap_u8]; omega) | (congr 1 <;> omega))), (agr rfl (by first | rfl | (congr 1; omega) | (congr 1; simp; done) | (congr 1; simp only [IntKind.wrap_u64, IntKind.wrap_i64, IntKind.wrap_u8]; omega) | (congr 1 <;> omega))), trivial⟩, hB, hS, (own_nil w.heap.size 5 1 _), (Nat.zero_le _), rfl⟩
  · clear hB
    clear hS
    rintro m_ a_ w1 ⟨σ_, A', c', k, rfl, hB, hS, ho, hk, rfl⟩
    refine C_seq (C_seq (C_reg ?_))
    refine L_run (R_move rfl) rfl ?_
    refine L_run (R_move rfl) rfl ?_
    refine L_run (R_lenSl rfl slc22) rfl ?_
    refine L_run (R_lss rfl rfl) rfl ?_
    refine L_nil (N_then ?_)
    refine C_if rfl (fun h1 => ?_) (fun h1 => ?_)
    · refine C_skip (N_then (C_seq (C_block (C_reg ?_))))
      refine L_run (R_move rfl) rfl ?_
      refine L_run (R_move rfl) rfl ?_
      refine L_run (R_move rfl) rfl ?_
      have hl1 : k < l.length := by first | omega | (simp; omega)
      refine T_index (xs := l) (i := k) EncOp rfl rfl (by first | rfl | omega) slc22 hl1 hS rfl ?_
      intro g1 o1 ha1
      refine L_run (R_loadA (vs := [.int .i64 ((l[k]).kind), .string ((l[k]).key), .string ((l[k]).val)]) rfl agg44 (At.pre ha1 rfl) rfl) rfl ?_
      have ge1 : w.heap.size ≤ w1.heap.size := hB.size
      refine L_call rfl cb40 (ref10_Bytes (k := (l[k]).kind) (key := (l[k]).key) (val := (l[k]).val) (by have h_ := hall _ (List.getElem_mem hl1); unfold OkOp at h_; omega)) rfl ?_
      rintro _ w2 ⟨hs1, A_1, c_1, rfl, ho1⟩
      replace hB := gb_tr hB hs1
      replace hS := hS.gb hs1
      replace ho := own_gb ho hs1
      replace ha1 := At.gb ha1 hs1 (by simp)
      have hlo1 : w1.heap.size ≤ w2.heap.size := hs1.size
      refine T_append (xs := encs (l.take k)) (ys := opEnc ((l[k]).kind) ((l[k]).key) ((l[k]).val)) EncB slc42 rfl rfl ho (own_of ho1).2.2 (by have h_ := hE k; have h2_ := opEnc_len (hall _ (List.getElem_mem hl1)); omega) (by have := hB.size; omega) rfl ?_
      intro A_2 c_2 w3 ho2 hs2 hat1
      replace hB := gb_tro hB ho hs2 (Nat.le_refl _)
      replace hS := hS.grown hs2 (fun k hk => .inr (Nat.le_trans (Nat.le_refl _) (World.ownsRow.lt ho k hk).1))
      replace hlo1 := Nat.le_trans hlo1 hs2.size
      refine L_run (R_assign rfl) rfl ?_
      refine L_nil (N_in (N_then (C_reg ?_)))
      refine L_run (R_move rfl) rfl ?_
      refine L_run (R_add64 rfl rfl (by omega)) rfl ?_
      refine L_run (R_assign rfl) rfl ?_
      refine L_nil (N_then ?_)
      have e_ : (encs (l.take k)) ++ (opEnc ((l[k]).kind) ((l[k]).key) ((l[k]).val)) = encs (l.take (k + 1)) := (encs_succ hl1).symm
      rw [e_] at ho2 ⊢
      exact ⟨l.length - (k + 1), by omega, _, A_2, c_2, (k + 1), Ac_frg ⟨rfl, rfl, rfl, (agr rfl (by first | rfl | (congr 1; omega) | (congr 1; simp; done) | (congr 1; simp only [IntKind.wrap_u64, IntKind.wrap_i64, IntKind.wrap_u8]; omega) | (congr 1 <;> omega))), trivial⟩, hB, hS, ho2, (by omega), rfl⟩
    · refine C_exit (X_then (X_then (X_hit (N_then (C_seq (C_reg ?_))))))
      refine L_run (R_move rfl) rfl ?_
      refine L_run (R_assign rfl) rfl ?_
      refine L_nil (N_then (C_ret ?_))
      refine ret1 Try.results48 rfl ?_
      have e_ : encs (l.take k) = encs l := by rw [List.take_of_length_le (by omega)]
      rw [← e_]; exact ⟨hB, _, _, rfl, (own_lo ho (Nat.le_refl _))⟩

theorem awake12 {w : World} :
    Runs Try.prog 43 #[] w (fun v w' => w.grownBy w' none ∧ v = .bool true) := by
  have hB := gb_refl w none
  have hG := bget_ex
  refine enter Try.func43 Try.ntmps43 rfl rfl ?_
  refine C_seq (C_reg ?_)
  refine L_run (R_assign rfl) rfl ?_
  refine L_nil (N_then (C_seq (C_reg ?_)))
  refine L_buildSlice (pv := [(0, .int .u8 2), (1, .int .u8 1), (2, .int .u8 97), (3, .int .u8 1), (4, .int .u8 1), (5, .int .u8 98), (6, .int .u8 0)]) (cs := [.int .u8 2, .int .u8 1, .int .u8 97, .int .u8 1, .int .u8 1, .int .u8 98, .int .u8 0]) slc42 zer5 rfl rfl (by kernel_rfl) rfl ?_
  intro g1 w1 eg1 hb1 hs1 hz1
  have ge1 : w.heap.size ≤ g1 := eg_ge hB eg1
  replace hB := gb_tr hB hs1
  refine L_mark rfl slc42 int5 hb1 rfl ?_
  intro w2 hS_1 hs2 hz2
  replace hB := gb_trg hB hs2 ge1
  have hS_1 : Sli 5 g1 (g1 + 1) w2 (some ⟨g1, 0, none⟩) (fl encB [2, 1, 97, 1, 1, 98, 0]) := hS_1
  have ge2 : w.heap.size ≤ w2.heap.size := hB.size
  refine L_call rfl cb47 (batch_Decode (bs := ([2, 1, 97, 1, 1, 98, 0])) hS_1 (by first | omega | (simp; done) | (simp; omega)) (by first | omega | (simp; done) | (simp; omega))) rfl ?_
  rintro _ w3 ⟨hs3, A_1, c_1, rfl, ho1⟩
  replace hB := gb_tr hB hs3
  replace hS_1 := hS_1.gb hs3
  have hlo1 : w2.heap.size ≤ w3.heap.size := hs3.size
  refine L_run (R_move rfl) rfl ?_
  refine L_run (R_extract rfl rfl) rfl ?_
  refine L_run (R_extract rfl rfl) rfl ?_
  refine L_run (R_assign rfl) rfl ?_
  refine L_run (R_assign rfl) rfl ?_
  refine L_nil (N_then (C_seq (C_reg ?_)))
  refine L_run (R_move rfl) rfl ?_
  refine L_run (R_eqv (R_eql rfl rfl) (v' := .bool true) (bT' (by rw [hG]))) rfl ?_
  refine L_run (R_move rfl) rfl ?_
  refine L_yes rfl rfl rfl rfl ?_
  refine L_run (R_move rfl) rfl ?_
  refine L_yes rfl rfl rfl rfl ?_
  refine L_run (R_lenSl rfl slc22) rfl ?_
  refine L_yes rfl rfl rfl rfl ?_
  refine L_run (R_eqv (R_eql rfl rfl) (v' := .bool true) (bT' (by rw [hG]; rfl))) rfl ?_
  refine L_run (R_pickT rfl rfl rfl) rfl ?_
  refine L_run (R_move rfl) rfl ?_
  refine L_yes rfl rfl rfl rfl ?_
  refine L_run (R_move rfl) rfl ?_
  refine L_yes rfl rfl rfl rfl ?_
  have hl1 : 1 < ((bget ([2, 1, 97, 1, 1, 98, 0])).1).length := (by rw [hG]; decide)
  refine T_index (xs := (bget ([2, 1, 97, 1, 1, 98, 0])).1) (i := 1) EncOp rfl rfl (by first | rfl | omega) slc22 hl1 (own_of ho1).2.2 rfl ?_
  intro g2 o1 ha1
  refine L_yes rfl rfl rfl rfl ?_
  refine L_run (R_field rfl fld44_1 rfl) rfl ?_
  refine L_yes rfl rfl rfl rfl ?_
  refine L_run (R_load1 rfl scl9 (ha1 1 _ rfl)) rfl ?_
  refine L_yes rfl rfl rfl rfl ?_
  refine L_run (R_eqv (R_eqlS rfl rfl) (v' := .bool true) (bT' (by simp only [hG]; rfl))) rfl ?_
  refine L_run (R_pickT rfl rfl rfl) rfl ?_
  refine L_run (R_assign rfl) rfl ?_
  refine L_nil (N_then (C_ret ?_))
  refine ret1 Try.results43 rfl ?_
  exact ⟨hB, rfl⟩

end Go.Proofs.Ytnggbodilhpohaa
