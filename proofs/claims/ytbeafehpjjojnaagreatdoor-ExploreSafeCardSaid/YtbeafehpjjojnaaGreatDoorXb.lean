/-
  Contracts of the package explore: the worst of some ends, and whether they are safe.
-/
import Derived.Test.YtbeafehpjjojnaaGreatDoorRows
import Derived.Test.YtbeafehpjjojnaaGreatDoorVq
import Derived.Test.YtbeafehpjjojnaaGreatDoorVl
import Derived.Test.YtbeafehpjjojnaaGreatDoorGq
import Derived.Test.YtbeafehpjjojnaaGreatDoorEo
namespace Go.Proofs.YtbeafehpjjojnaaGreatDoor
open Go.RowKit Gw Pl
set_option linter.unusedVariables false
set_option linter.unusedSimpArgs false
theorem agg80 : aggB Tryz.prog 80 7 = true := by kernel_rfl
theorem cb58 : callB Tryz.prog 58 = true := by kernel_rfl
theorem fld80_4 : fldB Tryz.prog 80 4 6 = true := by kernel_rfl
theorem scl3 : sclB Tryz.prog 3 = true := by kernel_rfl
theorem slc76 : slcB Tryz.prog 76 80 7 88 = true := by kernel_rfl
theorem sz80 : szB Tryz.prog 80 7 = true := by kernel_rfl
theorem zer80 : (Tryz.prog.info? 80).bind (·.zero) = some (.agg #[.slice none 0 0, .int .i64 0, .int .i64 0, .int .i64 0, .int .i64 0, .slice none 0 0, .int .i64 0]) := by kernel_rfl
/-- The least of some numbers, or -1. -/
def wst : List Int → Int
  | [] => -1
  | x :: l => l.foldl min x
theorem wst_pos {xs : List Int} (h : 0 < xs.length) : wst xs = (xs.drop 0).foldl min (xs[0]) := by
  match xs, h with
  | x :: l, _ => simp [wst]
theorem wst_step {xs : List Int} {k : Nat} {m v : Int} (h : k < xs.length) (e : m = (xs.drop k).foldl min v) : m = (xs.drop (k + 1)).foldl min (min v xs[k]) := by
  rw [e, List.drop_eq_getElem_cons h]; rfl
theorem wst_end {xs : List Int} {k : Nat} {m v : Int} (h : ¬ k < xs.length) (e : m = (xs.drop k).foldl min v) : v = m := by
  rw [e, List.drop_eq_nil_of_le (by omega)]; rfl
theorem wst_take {xs : List Int} {i : Nat} (h : i < xs.length) : wst (xs.take (i + 1)) = if i = 0 then xs[i] else min (wst (xs.take i)) xs[i] := by
  cases xs with
  | nil => simp at h
  | cons x l =>
    cases i with
    | zero => simp [wst]
    | succ j =>
      have hj : j < l.length := by simpa using h
      rw [if_neg (by omega)]
      simp only [List.take_succ_cons, wst, List.getElem_cons_succ]
      rw [List.take_succ_eq_append_getElem hj, List.foldl_append]
      rfl
theorem wst_next {xs : List Int} {i : Nat} {v v' : Int} (h : i < xs.length) (hv : v = wst (xs.take i)) (hc : ((i = 0 ∨ xs[i] < v) ∧ v' = xs[i]) ∨ (¬ (i = 0 ∨ xs[i] < v) ∧ v' = v)) : v' = wst (xs.take (i + 1)) := by
  rw [wst_take h, ← hv]
  split <;> omega
/-- None is below 0. -/
def AllP (l : List Int) : Prop := ∀ x ∈ l, 0 ≤ x
instance (l : List Int) : Decidable (AllP l) := inferInstanceAs (Decidable (∀ x ∈ l, 0 ≤ x))
theorem all_pre {xs : List Int} {i : Nat} (h : AllP (xs.take (i + 1))) : AllP (xs.take i) := by
  intro x hx
  have : xs.take i = (xs.take (i + 1)).take i := by rw [List.take_take, Nat.min_eq_left (by omega)]
  rw [this] at hx
  exact h x (List.mem_of_mem_take hx)
theorem all_next {xs : List Int} {i : Nat} (hi : i < xs.length) (h : AllP (xs.take i)) : 0 ≤ xs[i] ↔ AllP (xs.take (i + 1)) := by
  constructor
  · intro h0 x hx
    rw [List.take_succ_eq_append_getElem hi] at hx
    rcases List.mem_append.1 hx with hx | hx
    · exact h x hx
    · rw [List.mem_singleton.1 hx]; exact h0
  · intro h0
    exact h0 _ (List.mem_take_iff_getElem.2 ⟨i, by omega, rfl⟩)
theorem wst_all {xs : List Int} (h : ¬ xs.length = 0) : 0 ≤ wst xs ↔ AllP xs := by
  unfold AllP
  have key : ∀ (l : List Int) (x : Int), 0 ≤ l.foldl min x ↔ 0 ≤ x ∧ ∀ y ∈ l, 0 ≤ y := by
    intro l
    induction l with
    | nil => intro x; simp
    | cons a l ih => intro x; rw [List.foldl_cons, ih]; simp only [List.forall_mem_cons]; constructor <;> (intro ⟨p, q⟩; constructor <;> first | omega | (constructor <;> first | omega | exact q) | exact q.2)
  match xs, h with
  | x :: l, _ => simp only [wst, key, List.forall_mem_cons]
  | [], h => simp at h
def encW (n : Int) : List Value := [.slice none 0 0, .int .i64 0, .int .i64 0, .int .i64 0, .int .i64 0, .slice none 0 0, .int .i64 n]
theorem EncW : Enc encW 7 := ⟨fun _ => rfl, fun _ => rfl⟩
theorem worst_ok {w : World} {t1 lo hi : Nat} {A : Option Addr} {c : Nat} {xs : List Int} (hS : Sli t1 lo hi w A (fl encW xs)) (hb : xs.length ≤ 1000000) :
    Runs Tryz.prog 58 #[.slice A xs.length c] w (fun v w' => w.grownBy w' none ∧ v = .int .i64 (wst xs)) := by
  have hB := gb_refl w none
  replace hS := hS.top
  refine enter Tryz.func58 Tryz.ntmps58 rfl rfl ?_
  refine C_seq (C_reg rfl ?_)
  refine L_run (R_assign rfl) rfl ?_
  refine L_nil (N_then (C_seq (C_seq (C_reg rfl ?_))))
  refine L_run (R_move rfl) rfl ?_
  refine L_run (R_lenSl rfl slc76) rfl ?_
  refine L_run (R_eql rfl rfl) rfl ?_
  refine L_nil (N_then ?_)
  refine C_if rfl (fun h1 => ?_) (fun h1 => ?_)
  · refine C_seq (C_reg rfl ?_)
    refine L_run (R_assign rfl) rfl ?_
    refine L_nil (N_then (C_ret (R_then ?_)))
    refine ret1 Tryz.results58 rfl ?_
    exact ⟨hB, by rw [List.eq_nil_of_length_eq_zero (by omega : xs.length = 0)]; rfl⟩
  · refine C_skip (N_then (C_seq (C_reg rfl ?_)))
    refine L_run (R_move rfl) rfl ?_
    have hl1 : 0 < xs.length := by first | omega | (simp; omega)
    refine T_index (xs := xs) (i := 0) EncW rfl rfl (by first | rfl | omega) slc76 hl1 hS rfl ?_
    intro g1 o1 ha1
    refine L_run (R_field rfl fld80_4 rfl) rfl ?_
    refine L_run (R_load1 rfl scl3 (ha1 6 _ rfl)) rfl ?_
    refine L_run (R_assign rfl) rfl ?_
    refine L_nil (N_then (C_seq (C_seq (C_reg rfl ?_))))
    refine L_run (R_move rfl) rfl ?_
    refine L_run (R_lenSl rfl slc76) rfl ?_
    refine L_run (R_move rfl) rfl ?_
    refine L_nil (N_then (C_block ?_))
    refine C_loop (fun m_ a_ w_ => ∃ (σ_ : Nat → Value) (k : Nat) (v : Int), a_ = Ac 25 σ_ [] [(3, .int .i64 v), (13, .slice A xs.length c), (14, .int .i64 (xs.length : Int)), (15, .int .i64 (k : Int))] ∧ w.grownBy w_ none ∧ Sli t1 lo w.heap.size w_ A (fl encW xs) ∧ (k ≤ xs.length) ∧ (wst xs = (xs.drop k).foldl min v) ∧ xs.length - k = m_) (xs.length - 0) ?_ ?_
    · exact ⟨_, 0, xs[0], Ac_frg ⟨rfl, rfl, rfl, (agr rfl (by first | rfl | (congr 1; omega) | (congr 1; simp; done) | (congr 1; simp only [IntKind.wrap_u64, IntKind.wrap_i64, IntKind.wrap_u8]; omega) | (congr 1 <;> omega))), trivial⟩, hB, hS, (by omega), (wst_pos (by omega)), rfl⟩
    · clear hB
      clear hS ha1
      rintro m_ a_ w1 ⟨σ_, k, v, rfl, hB, hS, hk, hv, rfl⟩
      refine C_seq (C_reg rfl ?_)
      refine L_run (R_lss rfl rfl) rfl ?_
      refine L_nil (N_then (C_seq ?_))
      refine C_if rfl (fun h2 => ?_) (fun h2 => ?_)
      · refine C_skip (N_then (C_seq (C_block (C_seq (C_reg rfl ?_)))))
        have hl2 : k < xs.length := by first | omega | (simp; omega)
        refine T_index (xs := xs) (i := k) EncW rfl rfl (by first | rfl | omega) slc76 hl2 hS rfl ?_
        intro g2 o2 ha2
        refine L_run (R_loadA (vs := [.slice none 0 0, .int .i64 0, .int .i64 0, .int .i64 0, .int .i64 0, .slice none 0 0, .int .i64 (xs[k])]) rfl agg80 (At.pre ha2 rfl) rfl) rfl ?_
        refine L_alloc (cs := [.slice none 0 0, .int .i64 0, .int .i64 0, .int .i64 0, .int .i64 0, .slice none 0 0, .int .i64 0]) zer80 rfl rfl ?_
        intro g3 w2 eg1 hb1 hs1 hz1
        have ge1 : w.heap.size ≤ g3 := eg_ge hB eg1
        replace hB := gb_tr hB hs1
        replace hS := hS.gb hs1
        replace ha2 := At.gb ha2 hs1 (by simp)
        refine L_stA (vs := [.slice none 0 0, .int .i64 0, .int .i64 0, .int .i64 0, .int .i64 0, .slice none 0 0, .int .i64 (xs[k])]) rfl rfl rfl sz80 rfl hb1 rfl ?_
        intro w3 hb2 hs2 hz2
        replace hB := gb_trg hB hs2 ge1
        replace hS := hS.old hs2 ge1
        refine L_nil (N_then (C_reg rfl ?_))
        refine L_run (R_move rfl) rfl ?_
        refine L_run (R_field (r := 6) rfl fld80_4 rfl) rfl ?_
        refine L_run (R_load1 rfl scl3 (hb2.cell (i := 6) rfl)) rfl ?_
        refine L_run (R_min2 rfl rfl) rfl ?_
        refine L_run (R_assign rfl) rfl ?_
        refine L_nil (N_in (N_then (C_reg rfl ?_)))
        refine L_run (R_add64 rfl rfl (by omega)) rfl ?_
        refine L_run (R_move rfl) rfl ?_
        refine L_nil (N_then ?_)
        exact ⟨xs.length - (k + 1), by omega, _, (k + 1), (min v xs[k]), Ac_frg ⟨(agr rfl (by first | rfl | (congr 1; omega) | (congr 1; simp; done) | (congr 1; simp only [IntKind.wrap_u64, IntKind.wrap_i64, IntKind.wrap_u8]; omega) | (congr 1 <;> omega))), rfl, rfl, (agr rfl (by first | rfl | (congr 1; omega) | (congr 1; simp; done) | (congr 1; simp only [IntKind.wrap_u64, IntKind.wrap_i64, IntKind.wrap_u8]; omega) | (congr 1 <;> omega))), trivial⟩, hB, hS, (by omega), (wst_step (by omega) hv), rfl⟩
      · refine C_exit (X_then (X_then (X_hit (N_then (C_seq (C_reg rfl ?_))))))
        refine L_run (R_move rfl) rfl ?_
        refine L_run (R_assign rfl) rfl ?_
        refine L_nil (N_then (C_ret ?_))
        refine ret1 Tryz.results58 rfl ?_
        exact ⟨hB, by rw [wst_end (by omega) hv]⟩

theorem safe_ok {w : World} {t1 lo hi : Nat} {A : Option Addr} {c : Nat} {xs : List Int} (hS : Sli t1 lo hi w A (fl encW xs)) (hb : xs.length ≤ 1000000) :
    Runs Tryz.prog 57 #[.slice A xs.length c] w (fun v w' => w.grownBy w' none ∧ v = .bool (decide (AllP xs))) := by
  have hB := gb_refl w none
  replace hS := hS.top
  refine enter Tryz.func57 Tryz.ntmps57 rfl rfl ?_
  refine C_seq (C_reg rfl ?_)
  refine L_run (R_assign rfl) rfl ?_
  refine L_nil (N_then (C_seq (C_reg rfl ?_)))
  refine L_run (R_move rfl) rfl ?_
  refine L_run (R_lenSl rfl slc76) rfl ?_
  refine L_run (R_eql rfl rfl) rfl ?_
  refine L_run (R_move rfl) rfl ?_
  refine L_splitD (p := (xs.length : Int) = 0) (fun h1 => ?_) (fun h1 => ?_)
  · refine L_no rfl rfl rfl (decide_eq_true h1) rfl ?_
    refine L_no rfl rfl rfl (decide_eq_true h1) rfl ?_
    refine L_no rfl rfl rfl (decide_eq_true h1) rfl ?_
    refine L_run (R_eqv (R_pickT rfl (decide_eq_true h1) rfl) (v' := .bool (decide (AllP xs))) (by first | exact bD (wst_all (by omega)) | exact (bT' (by rw [List.eq_nil_of_length_eq_zero (by omega : xs.length = 0)]; simp [AllP])).symm)) rfl ?_
    refine L_run (R_assign rfl) rfl ?_
    refine L_nil (N_then (C_ret ?_))
    refine ret1 Tryz.results57 rfl ?_
    exact ⟨hB, rfl⟩
  · refine L_yes rfl rfl rfl (decide_eq_false h1) ?_
    refine L_run (R_move rfl) rfl ?_
    refine L_yes rfl rfl rfl (decide_eq_false h1) ?_
    refine L_call rfl cb58 (worst_ok (xs := xs) hS hb) rfl ?_
    rintro _ w1 ⟨hs1, rfl⟩
    replace hB := gb_tr hB hs1
    replace hS := hS.gb hs1
    refine L_yes rfl rfl rfl (decide_eq_false h1) ?_
    refine L_run (R_geq rfl rfl) rfl ?_
    refine L_run (R_eqv (R_pickF rfl (decide_eq_false h1) rfl) (v' := .bool (decide (AllP xs))) (by first | exact bD (wst_all (by omega)) | exact (bT' (by rw [List.eq_nil_of_length_eq_zero (by omega : xs.length = 0)]; simp [AllP])).symm)) rfl ?_
    refine L_run (R_assign rfl) rfl ?_
    refine L_nil (N_then (C_ret ?_))
    refine ret1 Tryz.results57 rfl ?_
    exact ⟨hB, rfl⟩

end Go.Proofs.YtbeafehpjjojnaaGreatDoor
