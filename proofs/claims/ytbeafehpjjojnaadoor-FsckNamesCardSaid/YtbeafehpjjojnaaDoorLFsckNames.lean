/-
  For every number and every list of findings the law FsckNames returns true, and changes nothing that was there.
-/
import Derived.Test.YtbeafehpjjojnaaDoorFa
import Derived.Test.YtbeafehpjjojnaaDoorTie
import Derived.Test.YtbeafehpjjojnaaDoorCards
import Derived.WalkKit
import Derived.ProofKit
import Derived.OpenShut
import Derived.ShutString
import Derived.ChangeOld
import Derived.Below
import Derived.SizedLaws
import Derived.LaidMore
import Derived.SevenTiedAt
import Derived.Stop.Joined
namespace Go.Proofs.YtbeafehpjjojnaaDoor.LFsckNames
open Go.RowKit Gw Pl
set_option linter.unusedVariables false
set_option linter.unusedSimpArgs false

theorem walk1 {w : World} {A1 : Option Addr} {c1 : Nat} {xs1 : List Fnd} (hS1 : Sli 0 0 w.heap.size w A1 (fl encF xs1)) (hl1 : xs1.length ≤ c1) (hm1 : c1 * 24 ≤ 140737488351232) (hg1 : ∀ x ∈ xs1, GoodF x) :
    Runs Tryd.prog 3 #[.int .i64 1, .slice A1 xs1.length c1] w (fun v w' => w.grownBy w' none ∧ v = .bool true) := by
  have hB := gb_refl w none
  refine enter Tryd.func3 Tryd.ntmps3 rfl rfl ?_
  refine C_seq (C_reg ?_)
  refine L_run (R_assign rfl) rfl ?_
  refine L_nil (N_then (C_seq (C_seq (C_reg ?_))))
  refine L_run (R_move rfl) rfl ?_
  refine L_run (R_lenSl rfl slc22) rfl ?_
  refine L_run (R_gtr rfl rfl) rfl ?_
  refine L_nil (N_then ?_)
  refine C_if rfl (fun h1 => ?_) (fun h1 => ?_)
  · refine C_seq (C_reg ?_)
    refine L_call rfl cb5 (awake49) rfl ?_
    rintro _ w1 ⟨hs1, rfl⟩
    replace hB := gb_tr hB hs1
    replace hS1 := hS1.gb hs1
    refine L_run (R_assign rfl) rfl ?_
    refine L_nil (N_then (C_ret (R_then ?_)))
    refine ret1 Tryd.results3 rfl ?_
    exact ⟨hB, rfl⟩
  · refine C_skip (N_then (C_seq (C_reg ?_)))
    refine L_run (R_assign rfl) rfl ?_
    refine L_nil (N_then (C_seq (C_seq (C_reg ?_))))
    refine L_run (R_assign rfl) rfl ?_
    refine L_nil (N_then (C_block ?_))
    refine C_loop (fun m_ a_ w_ => ∃ (σ_ : Nat → Value) (A' : Option Addr) (c' : Nat) (k : Nat), a_ = Ac 51 σ_ [] [(0, .int .i64 1), (1, .slice A1 xs1.length c1), (4, .bool false), (5, .slice A' ((xs1.take k).length) c'), (6, .int .i64 (k : Int))] ∧ w.grownBy w_ none ∧ Sli 0 0 w.heap.size w_ A1 (fl encF xs1) ∧ World.ownsRow w_ w.heap.size 26 2 (.slice A' (xs1.take k).length c') (xs1.take k).length (fl encF (xs1.take k)) ∧ (k ≤ xs1.length) ∧ xs1.length - k = m_) (xs1.length - 0) ?_ ?_
    · exact ⟨_, none, 0, 0, Ac_frg ⟨rfl, rfl, rfl, (agr rfl (by first | rfl | (congr 1; omega) | (congr 1; simp; done) | (congr 1; simp only [IntKind.wrap_u64, IntKind.wrap_i64, IntKind.wrap_u8]; omega) | (congr 1 <;> omega))), (agr rfl (by first | rfl | (congr 1; omega) | (congr 1; simp; done) | (congr 1; simp only [IntKind.wrap_u64, IntKind.wrap_i64, IntKind.wrap_u8]; omega) | (congr 1 <;> omega))), trivial⟩, hB, hS1, (own_nil w.heap.size 26 2 _), (Nat.zero_le _), rfl⟩
    · clear hB
      clear hS1
      rintro m_ a_ w2 ⟨σ_, A', c', k, rfl, hB, hS1, ho, hk, rfl⟩
      refine C_seq (C_seq (C_reg ?_))
      refine L_run (R_move rfl) rfl ?_
      refine L_run (R_move rfl) rfl ?_
      refine L_run (R_lenSl rfl slc22) rfl ?_
      refine L_run (R_lss rfl rfl) rfl ?_
      refine L_nil (N_then ?_)
      refine C_if rfl (fun h2 => ?_) (fun h2 => ?_)
      · refine C_skip (N_then (C_seq (C_block (C_reg ?_))))
        refine L_run (R_move rfl) rfl ?_
        refine L_run (R_move rfl) rfl ?_
        refine L_run (R_move rfl) rfl ?_
        have hl1 : k < xs1.length := by first | omega | (simp; omega)
        refine T_index (xs := xs1) (i := k) EncF rfl rfl (by first | rfl | omega) slc22 hl1 hS1 rfl ?_
        intro g1 o1 ha1
        refine L_run (R_loadA (vs := [.string ((xs1[k]).file), .int .i64 ((xs1[k]).code)]) rfl agg27 (At.pre ha1 rfl) rfl) rfl ?_
        refine L_buildSlice (pv := [(0, .agg #[.string ((xs1[k]).file), .int .i64 ((xs1[k]).code)])]) (cs := [.string ((xs1[k]).file), .int .i64 ((xs1[k]).code)]) slc24 zer26 rfl rfl (by kernel_rfl) rfl ?_
        intro g2 w3 eg1 hb1 hs2 hz1
        have ge1 : w.heap.size ≤ g2 := eg_ge hB eg1
        have hap1 : ∀ k_, (Value.slice A' (xs1.take k).length c').ownBlock = some k_ → k_ ≠ g2 := fun k_ hk => by have h_ := (World.ownsRow.lt ho k_ hk).2; omega
        replace hB := gb_tr hB hs2
        replace hS1 := hS1.gb hs2
        replace ho := own_gb ho hs2
        replace ha1 := At.gb ha1 hs2 (by simp)
        refine T_append (xs := (xs1.take k)) (ys := [(⟨(xs1[k]).file, (xs1[k]).code⟩ : Fnd)]) EncF slc24 rfl rfl ho (Blk.sli (m := 0) hb1) (by first | omega | (simp; done) | (simp; omega)) (by have := hB.size; omega) rfl ?_
        intro A_1 c_1 w4 ho1 hs3 hat1
        replace hB := gb_tro hB ho hs3 (Nat.le_refl _)
        replace hS1 := hS1.grown hs3 (fun k hk => .inr (Nat.le_trans (Nat.le_refl _) (World.ownsRow.lt ho k hk).1))
        refine L_run (R_assign rfl) rfl ?_
        refine L_nil (N_in (N_then (C_reg ?_)))
        refine L_run (R_move rfl) rfl ?_
        refine L_run (R_add64 rfl rfl (by omega)) rfl ?_
        refine L_run (R_assign rfl) rfl ?_
        refine L_nil (N_then ?_)
        have e_ : (xs1.take k) ++ ([(⟨(xs1[k]).file, (xs1[k]).code⟩ : Fnd)]) = xs1.take (k + 1) := by rw [List.take_add_one, List.getElem?_eq_getElem (by omega)]; rfl
        rw [e_] at ho1 ⊢
        exact ⟨xs1.length - (k + 1), by omega, _, A_1, c_1, (k + 1), Ac_frg ⟨rfl, rfl, rfl, (agr rfl (by first | rfl | (congr 1; omega) | (congr 1; simp; done) | (congr 1; simp only [IntKind.wrap_u64, IntKind.wrap_i64, IntKind.wrap_u8]; omega) | (congr 1 <;> omega))), (agr rfl (by first | rfl | (congr 1; omega) | (congr 1; simp; done) | (congr 1; simp only [IntKind.wrap_u64, IntKind.wrap_i64, IntKind.wrap_u8]; omega) | (congr 1 <;> omega))), trivial⟩, hB, hS1, ho1, (by omega), rfl⟩
      · refine C_exit (X_then (X_then (X_hit (N_then (C_seq (C_reg ?_))))))
        refine L_buildSlice (pv := [(0, .string (⟨#[]⟩)), (1, .string (⟨#[115, 105, 122, 101]⟩)), (2, .string (⟨#[104, 101, 97, 100]⟩)), (3, .string (⟨#[114, 101, 99, 111, 114, 100]⟩)), (4, .string (⟨#[111, 114, 100, 101, 114]⟩)), (5, .string (⟨#[103, 97, 112]⟩)), (6, .string (⟨#[111, 108, 100]⟩)), (7, .string (⟨#[108, 105, 110, 107]⟩)), (8, .string (⟨#[116, 111, 114, 110]⟩)), (9, .string (⟨#[116, 97, 105, 108]⟩)), (10, .string (⟨#[112, 111, 111, 108]⟩)), (11, .string (⟨#[111, 100, 100]⟩)), (12, .string (⟨#[115, 112, 97, 114, 101]⟩))]) (cs := [.string (⟨#[]⟩), .string (⟨#[115, 105, 122, 101]⟩), .string (⟨#[104, 101, 97, 100]⟩), .string (⟨#[114, 101, 99, 111, 114, 100]⟩), .string (⟨#[111, 114, 100, 101, 114]⟩), .string (⟨#[103, 97, 112]⟩), .string (⟨#[111, 108, 100]⟩), .string (⟨#[108, 105, 110, 107]⟩), .string (⟨#[116, 111, 114, 110]⟩), .string (⟨#[116, 97, 105, 108]⟩), .string (⟨#[112, 111, 111, 108]⟩), .string (⟨#[111, 100, 100]⟩), .string (⟨#[115, 112, 97, 114, 101]⟩)]) slc28 zer9 rfl rfl (by kernel_rfl) rfl ?_
        intro g3 w5 eg2 hb2 hs4 hz2
        have ge2 : w.heap.size ≤ g3 := eg_ge hB eg2
        replace hB := gb_tr hB hs4
        replace hS1 := hS1.gb hs4
        replace ho := own_gb ho hs4
        refine L_run (R_assign rfl) rfl ?_
        refine L_nil (N_then (C_seq (C_reg ?_)))
        refine L_run (R_assign rfl) rfl ?_
        refine L_nil (N_then (C_seq (C_seq (C_reg ?_))))
        refine L_run (R_move rfl) rfl ?_
        refine L_run (R_eqv (R_gtr rfl rfl) (v' := .bool true) rfl) rfl ?_
        refine L_run (R_move rfl) rfl ?_
        refine L_yes rfl rfl rfl rfl ?_
        refine L_run (R_move rfl) rfl ?_
        refine L_yes rfl rfl rfl rfl ?_
        refine L_run (R_eqv (R_lss rfl rfl) (v' := .bool true) rfl) rfl ?_
        refine L_run (R_pickT rfl rfl rfl) rfl ?_
        refine L_nil (N_then (C_condT rfl rfl (C_reg ?_)))
        refine L_run (R_move rfl) rfl ?_
        refine L_run (R_move rfl) rfl ?_
        refine L_run (R_indexE (i := 1) (m := 13) (r := 1) rfl rfl rfl slc28 (by decide) rfl rfl) rfl ?_
        refine L_run (R_load1 rfl scl9 (hb2.cell (i := 1) rfl)) rfl ?_
        refine L_run (R_assign rfl) rfl ?_
        refine L_nil (N_then (C_seq (C_reg ?_)))
        refine L_run (R_move rfl) rfl ?_
        refine L_call rfl cb6 (fname1) rfl ?_
        rintro _ w6 ⟨hs5, rfl⟩
        replace hB := gb_tr hB hs5
        replace hS1 := hS1.gb hs5
        replace ho := own_gb ho hs5
        replace hb2 := hb2.gb hs5
        refine L_run (R_move rfl) rfl ?_
        refine L_run (R_eqv (R_eqlS rfl rfl) (v' := .bool true) (bT' rfl)) rfl ?_
        refine L_run (R_move rfl) rfl ?_
        refine L_yes rfl rfl rfl rfl ?_
        refine L_run (R_move rfl) rfl ?_
        refine L_yes rfl rfl rfl rfl ?_
        have e9 : xs1.take k = xs1 := List.take_of_length_le (by omega)
        rw [e9] at ho ⊢
        refine L_call rfl cb7 (corrupt (l := xs1) (own_of ho).2.2 (by omega)) rfl ?_
        rintro _ w7 ⟨hs6, rfl⟩
        replace hB := gb_tr hB hs6
        replace hS1 := hS1.gb hs6
        replace ho := own_gb ho hs6
        replace hb2 := hb2.gb hs6
        refine L_yes rfl rfl rfl rfl ?_
        refine L_run (R_move rfl) rfl ?_
        refine L_yes rfl rfl rfl rfl ?_
        refine L_call rfl cb8 (refHas (l := xs1) hS1 (by omega)) rfl ?_
        rintro _ w8 ⟨hs7, rfl⟩
        replace hB := gb_tr hB hs7
        replace hS1 := hS1.gb hs7
        replace ho := own_gb ho hs7
        replace hb2 := hb2.gb hs7
        refine L_yes rfl rfl rfl rfl ?_
        refine L_run (R_eqv (R_eqlB rfl rfl boo4) (v' := .bool true) (by simp)) rfl ?_
        refine L_run (R_pickT rfl rfl rfl) rfl ?_
        refine L_run (R_move rfl) rfl ?_
        refine L_yes rfl rfl rfl rfl ?_
        refine L_call rfl cb5 (awake49) rfl ?_
        rintro _ w9 ⟨hs8, rfl⟩
        replace hB := gb_tr hB hs8
        replace hS1 := hS1.gb hs8
        replace ho := own_gb ho hs8
        replace hb2 := hb2.gb hs8
        refine L_run (R_pickT rfl rfl rfl) rfl ?_
        refine L_run (R_assign rfl) rfl ?_
        refine L_nil (N_then (C_ret ?_))
        refine ret1 Tryd.results3 rfl ?_
        exact ⟨hB, rfl⟩

theorem walk2 {w : World} {A1 : Option Addr} {c1 : Nat} {xs1 : List Fnd} (hS1 : Sli 0 0 w.heap.size w A1 (fl encF xs1)) (hl1 : xs1.length ≤ c1) (hm1 : c1 * 24 ≤ 140737488351232) (hg1 : ∀ x ∈ xs1, GoodF x) :
    Runs Tryd.prog 3 #[.int .i64 2, .slice A1 xs1.length c1] w (fun v w' => w.grownBy w' none ∧ v = .bool true) := by
  have hB := gb_refl w none
  refine enter Tryd.func3 Tryd.ntmps3 rfl rfl ?_
  refine C_seq (C_reg ?_)
  refine L_run (R_assign rfl) rfl ?_
  refine L_nil (N_then (C_seq (C_seq (C_reg ?_))))
  refine L_run (R_move rfl) rfl ?_
  refine L_run (R_lenSl rfl slc22) rfl ?_
  refine L_run (R_gtr rfl rfl) rfl ?_
  refine L_nil (N_then ?_)
  refine C_if rfl (fun h1 => ?_) (fun h1 => ?_)
  · refine C_seq (C_reg ?_)
    refine L_call rfl cb5 (awake49) rfl ?_
    rintro _ w1 ⟨hs1, rfl⟩
    replace hB := gb_tr hB hs1
    replace hS1 := hS1.gb hs1
    refine L_run (R_assign rfl) rfl ?_
    refine L_nil (N_then (C_ret (R_then ?_)))
    refine ret1 Tryd.results3 rfl ?_
    exact ⟨hB, rfl⟩
  · refine C_skip (N_then (C_seq (C_reg ?_)))
    refine L_run (R_assign rfl) rfl ?_
    refine L_nil (N_then (C_seq (C_seq (C_reg ?_))))
    refine L_run (R_assign rfl) rfl ?_
    refine L_nil (N_then (C_block ?_))
    refine C_loop (fun m_ a_ w_ => ∃ (σ_ : Nat → Value) (A' : Option Addr) (c' : Nat) (k : Nat), a_ = Ac 51 σ_ [] [(0, .int .i64 2), (1, .slice A1 xs1.length c1), (4, .bool false), (5, .slice A' ((xs1.take k).length) c'), (6, .int .i64 (k : Int))] ∧ w.grownBy w_ none ∧ Sli 0 0 w.heap.size w_ A1 (fl encF xs1) ∧ World.ownsRow w_ w.heap.size 26 2 (.slice A' (xs1.take k).length c') (xs1.take k).length (fl encF (xs1.take k)) ∧ (k ≤ xs1.length) ∧ xs1.length - k = m_) (xs1.length - 0) ?_ ?_
    · exact ⟨_, none, 0, 0, Ac_frg ⟨rfl, rfl, rfl, (agr rfl (by first | rfl | (congr 1; omega) | (congr 1; simp; done) | (congr 1; simp only [IntKind.wrap_u64, IntKind.wrap_i64, IntKind.wrap_u8]; omega) | (congr 1 <;> omega))), (agr rfl (by first | rfl | (congr 1; omega) | (congr 1; simp; done) | (congr 1; simp only [IntKind.wrap_u64, IntKind.wrap_i64, IntKind.wrap_u8]; omega) | (congr 1 <;> omega))), trivial⟩, hB, hS1, (own_nil w.heap.size 26 2 _), (Nat.zero_le _), rfl⟩
    · clear hB
      clear hS1
      rintro m_ a_ w2 ⟨σ_, A', c', k, rfl, hB, hS1, ho, hk, rfl⟩
      refine C_seq (C_seq (C_reg ?_))
      refine L_run (R_move rfl) rfl ?_
      refine L_run (R_move rfl) rfl ?_
      refine L_run (R_lenSl rfl slc22) rfl ?_
      refine L_run (R_lss rfl rfl) rfl ?_
      refine L_nil (N_then ?_)
      refine C_if rfl (fun h2 => ?_) (fun h2 => ?_)
      · refine C_skip (N_then (C_seq (C_block (C_reg ?_))))
        refine L_run (R_move rfl) rfl ?_
        refine L_run (R_move rfl) rfl ?_
        refine L_run (R_move rfl) rfl ?_
        have hl1 : k < xs1.length := by first | omega | (simp; omega)
        refine T_index (xs := xs1) (i := k) EncF rfl rfl (by first | rfl | omega) slc22 hl1 hS1 rfl ?_
        intro g1 o1 ha1
        refine L_run (R_loadA (vs := [.string ((xs1[k]).file), .int .i64 ((xs1[k]).code)]) rfl agg27 (At.pre ha1 rfl) rfl) rfl ?_
        refine L_buildSlice (pv := [(0, .agg #[.string ((xs1[k]).file), .int .i64 ((xs1[k]).code)])]) (cs := [.string ((xs1[k]).file), .int .i64 ((xs1[k]).code)]) slc24 zer26 rfl rfl (by kernel_rfl) rfl ?_
        intro g2 w3 eg1 hb1 hs2 hz1
        have ge1 : w.heap.size ≤ g2 := eg_ge hB eg1
        have hap1 : ∀ k_, (Value.slice A' (xs1.take k).length c').ownBlock = some k_ → k_ ≠ g2 := fun k_ hk => by have h_ := (World.ownsRow.lt ho k_ hk).2; omega
        replace hB := gb_tr hB hs2
        replace hS1 := hS1.gb hs2
        replace ho := own_gb ho hs2
        replace ha1 := At.gb ha1 hs2 (by simp)
        refine T_append (xs := (xs1.take k)) (ys := [(⟨(xs1[k]).file, (xs1[k]).code⟩ : Fnd)]) EncF slc24 rfl rfl ho (Blk.sli (m := 0) hb1) (by first | omega | (simp; done) | (simp; omega)) (by have := hB.size; omega) rfl ?_
        intro A_1 c_1 w4 ho1 hs3 hat1
        replace hB := gb_tro hB ho hs3 (Nat.le_refl _)
        replace hS1 := hS1.grown hs3 (fun k hk => .inr (Nat.le_trans (Nat.le_refl _) (World.ownsRow.lt ho k hk).1))
        refine L_run (R_assign rfl) rfl ?_
        refine L_nil (N_in (N_then (C_reg ?_)))
        refine L_run (R_move rfl) rfl ?_
        refine L_run (R_add64 rfl rfl (by omega)) rfl ?_
        refine L_run (R_assign rfl) rfl ?_
        refine L_nil (N_then ?_)
        have e_ : (xs1.take k) ++ ([(⟨(xs1[k]).file, (xs1[k]).code⟩ : Fnd)]) = xs1.take (k + 1) := by rw [List.take_add_one, List.getElem?_eq_getElem (by omega)]; rfl
        rw [e_] at ho1 ⊢
        exact ⟨xs1.length - (k + 1), by omega, _, A_1, c_1, (k + 1), Ac_frg ⟨rfl, rfl, rfl, (agr rfl (by first | rfl | (congr 1; omega) | (congr 1; simp; done) | (congr 1; simp only [IntKind.wrap_u64, IntKind.wrap_i64, IntKind.wrap_u8]; omega) | (congr 1 <;> omega))), (agr rfl (by first | rfl | (congr 1; omega) | (congr 1; simp; done) | (congr 1; simp only [IntKind.wrap_u64, IntKind.wrap_i64, IntKind.wrap_u8]; omega) | (congr 1 <;> omega))), trivial⟩, hB, hS1, ho1, (by omega), rfl⟩
      · refine C_exit (X_then (X_then (X_hit (N_then (C_seq (C_reg ?_))))))
        refine L_buildSlice (pv := [(0, .string (⟨#[]⟩)), (1, .string (⟨#[115, 105, 122, 101]⟩)), (2, .string (⟨#[104, 101, 97, 100]⟩)), (3, .string (⟨#[114, 101, 99, 111, 114, 100]⟩)), (4, .string (⟨#[111, 114, 100, 101, 114]⟩)), (5, .string (⟨#[103, 97, 112]⟩)), (6, .string (⟨#[111, 108, 100]⟩)), (7, .string (⟨#[108, 105, 110, 107]⟩)), (8, .string (⟨#[116, 111, 114, 110]⟩)), (9, .string (⟨#[116, 97, 105, 108]⟩)), (10, .string (⟨#[112, 111, 111, 108]⟩)), (11, .string (⟨#[111, 100, 100]⟩)), (12, .string (⟨#[115, 112, 97, 114, 101]⟩))]) (cs := [.string (⟨#[]⟩), .string (⟨#[115, 105, 122, 101]⟩), .string (⟨#[104, 101, 97, 100]⟩), .string (⟨#[114, 101, 99, 111, 114, 100]⟩), .string (⟨#[111, 114, 100, 101, 114]⟩), .string (⟨#[103, 97, 112]⟩), .string (⟨#[111, 108, 100]⟩), .string (⟨#[108, 105, 110, 107]⟩), .string (⟨#[116, 111, 114, 110]⟩), .string (⟨#[116, 97, 105, 108]⟩), .string (⟨#[112, 111, 111, 108]⟩), .string (⟨#[111, 100, 100]⟩), .string (⟨#[115, 112, 97, 114, 101]⟩)]) slc28 zer9 rfl rfl (by kernel_rfl) rfl ?_
        intro g3 w5 eg2 hb2 hs4 hz2
        have ge2 : w.heap.size ≤ g3 := eg_ge hB eg2
        replace hB := gb_tr hB hs4
        replace hS1 := hS1.gb hs4
        replace ho := own_gb ho hs4
        refine L_run (R_assign rfl) rfl ?_
        refine L_nil (N_then (C_seq (C_reg ?_)))
        refine L_run (R_assign rfl) rfl ?_
        refine L_nil (N_then (C_seq (C_seq (C_reg ?_))))
        refine L_run (R_move rfl) rfl ?_
        refine L_run (R_eqv (R_gtr rfl rfl) (v' := .bool true) rfl) rfl ?_
        refine L_run (R_move rfl) rfl ?_
        refine L_yes rfl rfl rfl rfl ?_
        refine L_run (R_move rfl) rfl ?_
        refine L_yes rfl rfl rfl rfl ?_
        refine L_run (R_eqv (R_lss rfl rfl) (v' := .bool true) rfl) rfl ?_
        refine L_run (R_pickT rfl rfl rfl) rfl ?_
        refine L_nil (N_then (C_condT rfl rfl (C_reg ?_)))
        refine L_run (R_move rfl) rfl ?_
        refine L_run (R_move rfl) rfl ?_
        refine L_run (R_indexE (i := 2) (m := 13) (r := 2) rfl rfl rfl slc28 (by decide) rfl rfl) rfl ?_
        refine L_run (R_load1 rfl scl9 (hb2.cell (i := 2) rfl)) rfl ?_
        refine L_run (R_assign rfl) rfl ?_
        refine L_nil (N_then (C_seq (C_reg ?_)))
        refine L_run (R_move rfl) rfl ?_
        refine L_call rfl cb6 (fname2) rfl ?_
        rintro _ w6 ⟨hs5, rfl⟩
        replace hB := gb_tr hB hs5
        replace hS1 := hS1.gb hs5
        replace ho := own_gb ho hs5
        replace hb2 := hb2.gb hs5
        refine L_run (R_move rfl) rfl ?_
        refine L_run (R_eqv (R_eqlS rfl rfl) (v' := .bool true) (bT' rfl)) rfl ?_
        refine L_run (R_move rfl) rfl ?_
        refine L_yes rfl rfl rfl rfl ?_
        refine L_run (R_move rfl) rfl ?_
        refine L_yes rfl rfl rfl rfl ?_
        have e9 : xs1.take k = xs1 := List.take_of_length_le (by omega)
        rw [e9] at ho ⊢
        refine L_call rfl cb7 (corrupt (l := xs1) (own_of ho).2.2 (by omega)) rfl ?_
        rintro _ w7 ⟨hs6, rfl⟩
        replace hB := gb_tr hB hs6
        replace hS1 := hS1.gb hs6
        replace ho := own_gb ho hs6
        replace hb2 := hb2.gb hs6
        refine L_yes rfl rfl rfl rfl ?_
        refine L_run (R_move rfl) rfl ?_
        refine L_yes rfl rfl rfl rfl ?_
        refine L_call rfl cb8 (refHas (l := xs1) hS1 (by omega)) rfl ?_
        rintro _ w8 ⟨hs7, rfl⟩
        replace hB := gb_tr hB hs7
        replace hS1 := hS1.gb hs7
        replace ho := own_gb ho hs7
        replace hb2 := hb2.gb hs7
        refine L_yes rfl rfl rfl rfl ?_
        refine L_run (R_eqv (R_eqlB rfl rfl boo4) (v' := .bool true) (by simp)) rfl ?_
        refine L_run (R_pickT rfl rfl rfl) rfl ?_
        refine L_run (R_move rfl) rfl ?_
        refine L_yes rfl rfl rfl rfl ?_
        refine L_call rfl cb5 (awake49) rfl ?_
        rintro _ w9 ⟨hs8, rfl⟩
        replace hB := gb_tr hB hs8
        replace hS1 := hS1.gb hs8
        replace ho := own_gb ho hs8
        replace hb2 := hb2.gb hs8
        refine L_run (R_pickT rfl rfl rfl) rfl ?_
        refine L_run (R_assign rfl) rfl ?_
        refine L_nil (N_then (C_ret ?_))
        refine ret1 Tryd.results3 rfl ?_
        exact ⟨hB, rfl⟩

theorem walk3 {w : World} {A1 : Option Addr} {c1 : Nat} {xs1 : List Fnd} (hS1 : Sli 0 0 w.heap.size w A1 (fl encF xs1)) (hl1 : xs1.length ≤ c1) (hm1 : c1 * 24 ≤ 140737488351232) (hg1 : ∀ x ∈ xs1, GoodF x) :
    Runs Tryd.prog 3 #[.int .i64 3, .slice A1 xs1.length c1] w (fun v w' => w.grownBy w' none ∧ v = .bool true) := by
  have hB := gb_refl w none
  refine enter Tryd.func3 Tryd.ntmps3 rfl rfl ?_
  refine C_seq (C_reg ?_)
  refine L_run (R_assign rfl) rfl ?_
  refine L_nil (N_then (C_seq (C_seq (C_reg ?_))))
  refine L_run (R_move rfl) rfl ?_
  refine L_run (R_lenSl rfl slc22) rfl ?_
  refine L_run (R_gtr rfl rfl) rfl ?_
  refine L_nil (N_then ?_)
  refine C_if rfl (fun h1 => ?_) (fun h1 => ?_)
  · refine C_seq (C_reg ?_)
    refine L_call rfl cb5 (awake49) rfl ?_
    rintro _ w1 ⟨hs1, rfl⟩
    replace hB := gb_tr hB hs1
    replace hS1 := hS1.gb hs1
    refine L_run (R_assign rfl) rfl ?_
    refine L_nil (N_then (C_ret (R_then ?_)))
    refine ret1 Tryd.results3 rfl ?_
    exact ⟨hB, rfl⟩
  · refine C_skip (N_then (C_seq (C_reg ?_)))
    refine L_run (R_assign rfl) rfl ?_
    refine L_nil (N_then (C_seq (C_seq (C_reg ?_))))
    refine L_run (R_assign rfl) rfl ?_
    refine L_nil (N_then (C_block ?_))
    refine C_loop (fun m_ a_ w_ => ∃ (σ_ : Nat → Value) (A' : Option Addr) (c' : Nat) (k : Nat), a_ = Ac 51 σ_ [] [(0, .int .i64 3), (1, .slice A1 xs1.length c1), (4, .bool false), (5, .slice A' ((xs1.take k).length) c'), (6, .int .i64 (k : Int))] ∧ w.grownBy w_ none ∧ Sli 0 0 w.heap.size w_ A1 (fl encF xs1) ∧ World.ownsRow w_ w.heap.size 26 2 (.slice A' (xs1.take k).length c') (xs1.take k).length (fl encF (xs1.take k)) ∧ (k ≤ xs1.length) ∧ xs1.length - k = m_) (xs1.length - 0) ?_ ?_
    · exact ⟨_, none, 0, 0, Ac_frg ⟨rfl, rfl, rfl, (agr rfl (by first | rfl | (congr 1; omega) | (congr 1; simp; done) | (congr 1; simp only [IntKind.wrap_u64, IntKind.wrap_i64, IntKind.wrap_u8]; omega) | (congr 1 <;> omega))), (agr rfl (by first | rfl | (congr 1; omega) | (congr 1; simp; done) | (congr 1; simp only [IntKind.wrap_u64, IntKind.wrap_i64, IntKind.wrap_u8]; omega) | (congr 1 <;> omega))), trivial⟩, hB, hS1, (own_nil w.heap.size 26 2 _), (Nat.zero_le _), rfl⟩
    · clear hB
      clear hS1
      rintro m_ a_ w2 ⟨σ_, A', c', k, rfl, hB, hS1, ho, hk, rfl⟩
      refine C_seq (C_seq (C_reg ?_))
      refine L_run (R_move rfl) rfl ?_
      refine L_run (R_move rfl) rfl ?_
      refine L_run (R_lenSl rfl slc22) rfl ?_
      refine L_run (R_lss rfl rfl) rfl ?_
      refine L_nil (N_then ?_)
      refine C_if rfl (fun h2 => ?_) (fun h2 => ?_)
      · refine C_skip (N_then (C_seq (C_block (C_reg ?_))))
        refine L_run (R_move rfl) rfl ?_
        refine L_run (R_move rfl) rfl ?_
        refine L_run (R_move rfl) rfl ?_
        have hl1 : k < xs1.length := by first | omega | (simp; omega)
        refine T_index (xs := xs1) (i := k) EncF rfl rfl (by first | rfl | omega) slc22 hl1 hS1 rfl ?_
        intro g1 o1 ha1
        refine L_run (R_loadA (vs := [.string ((xs1[k]).file), .int .i64 ((xs1[k]).code)]) rfl agg27 (At.pre ha1 rfl) rfl) rfl ?_
        refine L_buildSlice (pv := [(0, .agg #[.string ((xs1[k]).file), .int .i64 ((xs1[k]).code)])]) (cs := [.string ((xs1[k]).file), .int .i64 ((xs1[k]).code)]) slc24 zer26 rfl rfl (by kernel_rfl) rfl ?_
        intro g2 w3 eg1 hb1 hs2 hz1
        have ge1 : w.heap.size ≤ g2 := eg_ge hB eg1
        have hap1 : ∀ k_, (Value.slice A' (xs1.take k).length c').ownBlock = some k_ → k_ ≠ g2 := fun k_ hk => by have h_ := (World.ownsRow.lt ho k_ hk).2; omega
        replace hB := gb_tr hB hs2
        replace hS1 := hS1.gb hs2
        replace ho := own_gb ho hs2
        replace ha1 := At.gb ha1 hs2 (by simp)
        refine T_append (xs := (xs1.take k)) (ys := [(⟨(xs1[k]).file, (xs1[k]).code⟩ : Fnd)]) EncF slc24 rfl rfl ho (Blk.sli (m := 0) hb1) (by first | omega | (simp; done) | (simp; omega)) (by have := hB.size; omega) rfl ?_
        intro A_1 c_1 w4 ho1 hs3 hat1
        replace hB := gb_tro hB ho hs3 (Nat.le_refl _)
        replace hS1 := hS1.grown hs3 (fun k hk => .inr (Nat.le_trans (Nat.le_refl _) (World.ownsRow.lt ho k hk).1))
        refine L_run (R_assign rfl) rfl ?_
        refine L_nil (N_in (N_then (C_reg ?_)))
        refine L_run (R_move rfl) rfl ?_
        refine L_run (R_add64 rfl rfl (by omega)) rfl ?_
        refine L_run (R_assign rfl) rfl ?_
        refine L_nil (N_then ?_)
        have e_ : (xs1.take k) ++ ([(⟨(xs1[k]).file, (xs1[k]).code⟩ : Fnd)]) = xs1.take (k + 1) := by rw [List.take_add_one, List.getElem?_eq_getElem (by omega)]; rfl
        rw [e_] at ho1 ⊢
        exact ⟨xs1.length - (k + 1), by omega, _, A_1, c_1, (k + 1), Ac_frg ⟨rfl, rfl, rfl, (agr rfl (by first | rfl | (congr 1; omega) | (congr 1; simp; done) | (congr 1; simp only [IntKind.wrap_u64, IntKind.wrap_i64, IntKind.wrap_u8]; omega) | (congr 1 <;> omega))), (agr rfl (by first | rfl | (congr 1; omega) | (congr 1; simp; done) | (congr 1; simp only [IntKind.wrap_u64, IntKind.wrap_i64, IntKind.wrap_u8]; omega) | (congr 1 <;> omega))), trivial⟩, hB, hS1, ho1, (by omega), rfl⟩
      · refine C_exit (X_then (X_then (X_hit (N_then (C_seq (C_reg ?_))))))
        refine L_buildSlice (pv := [(0, .string (⟨#[]⟩)), (1, .string (⟨#[115, 105, 122, 101]⟩)), (2, .string (⟨#[104, 101, 97, 100]⟩)), (3, .string (⟨#[114, 101, 99, 111, 114, 100]⟩)), (4, .string (⟨#[111, 114, 100, 101, 114]⟩)), (5, .string (⟨#[103, 97, 112]⟩)), (6, .string (⟨#[111, 108, 100]⟩)), (7, .string (⟨#[108, 105, 110, 107]⟩)), (8, .string (⟨#[116, 111, 114, 110]⟩)), (9, .string (⟨#[116, 97, 105, 108]⟩)), (10, .string (⟨#[112, 111, 111, 108]⟩)), (11, .string (⟨#[111, 100, 100]⟩)), (12, .string (⟨#[115, 112, 97, 114, 101]⟩))]) (cs := [.string (⟨#[]⟩), .string (⟨#[115, 105, 122, 101]⟩), .string (⟨#[104, 101, 97, 100]⟩), .string (⟨#[114, 101, 99, 111, 114, 100]⟩), .string (⟨#[111, 114, 100, 101, 114]⟩), .string (⟨#[103, 97, 112]⟩), .string (⟨#[111, 108, 100]⟩), .string (⟨#[108, 105, 110, 107]⟩), .string (⟨#[116, 111, 114, 110]⟩), .string (⟨#[116, 97, 105, 108]⟩), .string (⟨#[112, 111, 111, 108]⟩), .string (⟨#[111, 100, 100]⟩), .string (⟨#[115, 112, 97, 114, 101]⟩)]) slc28 zer9 rfl rfl (by kernel_rfl) rfl ?_
        intro g3 w5 eg2 hb2 hs4 hz2
        have ge2 : w.heap.size ≤ g3 := eg_ge hB eg2
        replace hB := gb_tr hB hs4
        replace hS1 := hS1.gb hs4
        replace ho := own_gb ho hs4
        refine L_run (R_assign rfl) rfl ?_
        refine L_nil (N_then (C_seq (C_reg ?_)))
        refine L_run (R_assign rfl) rfl ?_
        refine L_nil (N_then (C_seq (C_seq (C_reg ?_))))
        refine L_run (R_move rfl) rfl ?_
        refine L_run (R_eqv (R_gtr rfl rfl) (v' := .bool true) rfl) rfl ?_
        refine L_run (R_move rfl) rfl ?_
        refine L_yes rfl rfl rfl rfl ?_
        refine L_run (R_move rfl) rfl ?_
        refine L_yes rfl rfl rfl rfl ?_
        refine L_run (R_eqv (R_lss rfl rfl) (v' := .bool true) rfl) rfl ?_
        refine L_run (R_pickT rfl rfl rfl) rfl ?_
        refine L_nil (N_then (C_condT rfl rfl (C_reg ?_)))
        refine L_run (R_move rfl) rfl ?_
        refine L_run (R_move rfl) rfl ?_
        refine L_run (R_indexE (i := 3) (m := 13) (r := 3) rfl rfl rfl slc28 (by decide) rfl rfl) rfl ?_
        refine L_run (R_load1 rfl scl9 (hb2.cell (i := 3) rfl)) rfl ?_
        refine L_run (R_assign rfl) rfl ?_
        refine L_nil (N_then (C_seq (C_reg ?_)))
        refine L_run (R_move rfl) rfl ?_
        refine L_call rfl cb6 (fname3) rfl ?_
        rintro _ w6 ⟨hs5, rfl⟩
        replace hB := gb_tr hB hs5
        replace hS1 := hS1.gb hs5
        replace ho := own_gb ho hs5
        replace hb2 := hb2.gb hs5
        refine L_run (R_move rfl) rfl ?_
        refine L_run (R_eqv (R_eqlS rfl rfl) (v' := .bool true) (bT' rfl)) rfl ?_
        refine L_run (R_move rfl) rfl ?_
        refine L_yes rfl rfl rfl rfl ?_
        refine L_run (R_move rfl) rfl ?_
        refine L_yes rfl rfl rfl rfl ?_
        have e9 : xs1.take k = xs1 := List.take_of_length_le (by omega)
        rw [e9] at ho ⊢
        refine L_call rfl cb7 (corrupt (l := xs1) (own_of ho).2.2 (by omega)) rfl ?_
        rintro _ w7 ⟨hs6, rfl⟩
        replace hB := gb_tr hB hs6
        replace hS1 := hS1.gb hs6
        replace ho := own_gb ho hs6
        replace hb2 := hb2.gb hs6
        refine L_yes rfl rfl rfl rfl ?_
        refine L_run (R_move rfl) rfl ?_
        refine L_yes rfl rfl rfl rfl ?_
        refine L_call rfl cb8 (refHas (l := xs1) hS1 (by omega)) rfl ?_
        rintro _ w8 ⟨hs7, rfl⟩
        replace hB := gb_tr hB hs7
        replace hS1 := hS1.gb hs7
        replace ho := own_gb ho hs7
        replace hb2 := hb2.gb hs7
        refine L_yes rfl rfl rfl rfl ?_
        refine L_run (R_eqv (R_eqlB rfl rfl boo4) (v' := .bool true) (by simp)) rfl ?_
        refine L_run (R_pickT rfl rfl rfl) rfl ?_
        refine L_run (R_move rfl) rfl ?_
        refine L_yes rfl rfl rfl rfl ?_
        refine L_call rfl cb5 (awake49) rfl ?_
        rintro _ w9 ⟨hs8, rfl⟩
        replace hB := gb_tr hB hs8
        replace hS1 := hS1.gb hs8
        replace ho := own_gb ho hs8
        replace hb2 := hb2.gb hs8
        refine L_run (R_pickT rfl rfl rfl) rfl ?_
        refine L_run (R_assign rfl) rfl ?_
        refine L_nil (N_then (C_ret ?_))
        refine ret1 Tryd.results3 rfl ?_
        exact ⟨hB, rfl⟩

theorem walk4 {w : World} {A1 : Option Addr} {c1 : Nat} {xs1 : List Fnd} (hS1 : Sli 0 0 w.heap.size w A1 (fl encF xs1)) (hl1 : xs1.length ≤ c1) (hm1 : c1 * 24 ≤ 140737488351232) (hg1 : ∀ x ∈ xs1, GoodF x) :
    Runs Tryd.prog 3 #[.int .i64 4, .slice A1 xs1.length c1] w (fun v w' => w.grownBy w' none ∧ v = .bool true) := by
  have hB := gb_refl w none
  refine enter Tryd.func3 Tryd.ntmps3 rfl rfl ?_
  refine C_seq (C_reg ?_)
  refine L_run (R_assign rfl) rfl ?_
  refine L_nil (N_then (C_seq (C_seq (C_reg ?_))))
  refine L_run (R_move rfl) rfl ?_
  refine L_run (R_lenSl rfl slc22) rfl ?_
  refine L_run (R_gtr rfl rfl) rfl ?_
  refine L_nil (N_then ?_)
  refine C_if rfl (fun h1 => ?_) (fun h1 => ?_)
  · refine C_seq (C_reg ?_)
    refine L_call rfl cb5 (awake49) rfl ?_
    rintro _ w1 ⟨hs1, rfl⟩
    replace hB := gb_tr hB hs1
    replace hS1 := hS1.gb hs1
    refine L_run (R_assign rfl) rfl ?_
    refine L_nil (N_then (C_ret (R_then ?_)))
    refine ret1 Tryd.results3 rfl ?_
    exact ⟨hB, rfl⟩
  · refine C_skip (N_then (C_seq (C_reg ?_)))
    refine L_run (R_assign rfl) rfl ?_
    refine L_nil (N_then (C_seq (C_seq (C_reg ?_))))
    refine L_run (R_assign rfl) rfl ?_
    refine L_nil (N_then (C_block ?_))
    refine C_loop (fun m_ a_ w_ => ∃ (σ_ : Nat → Value) (A' : Option Addr) (c' : Nat) (k : Nat), a_ = Ac 51 σ_ [] [(0, .int .i64 4), (1, .slice A1 xs1.length c1), (4, .bool false), (5, .slice A' ((xs1.take k).length) c'), (6, .int .i64 (k : Int))] ∧ w.grownBy w_ none ∧ Sli 0 0 w.heap.size w_ A1 (fl encF xs1) ∧ World.ownsRow w_ w.heap.size 26 2 (.slice A' (xs1.take k).length c') (xs1.take k).length (fl encF (xs1.take k)) ∧ (k ≤ xs1.length) ∧ xs1.length - k = m_) (xs1.length - 0) ?_ ?_
    · exact ⟨_, none, 0, 0, Ac_frg ⟨rfl, rfl, rfl, (agr rfl (by first | rfl | (congr 1; omega) | (congr 1; simp; done) | (congr 1; simp only [IntKind.wrap_u64, IntKind.wrap_i64, IntKind.wrap_u8]; omega) | (congr 1 <;> omega))), (agr rfl (by first | rfl | (congr 1; omega) | (congr 1; simp; done) | (congr 1; simp only [IntKind.wrap_u64, IntKind.wrap_i64, IntKind.wrap_u8]; omega) | (congr 1 <;> omega))), trivial⟩, hB, hS1, (own_nil w.heap.size 26 2 _), (Nat.zero_le _), rfl⟩
    · clear hB
      clear hS1
      rintro m_ a_ w2 ⟨σ_, A', c', k, rfl, hB, hS1, ho, hk, rfl⟩
      refine C_seq (C_seq (C_reg ?_))
      refine L_run (R_move rfl) rfl ?_
      refine L_run (R_move rfl) rfl ?_
      refine L_run (R_lenSl rfl slc22) rfl ?_
      refine L_run (R_lss rfl rfl) rfl ?_
      refine L_nil (N_then ?_)
      refine C_if rfl (fun h2 => ?_) (fun h2 => ?_)
      · refine C_skip (N_then (C_seq (C_block (C_reg ?_))))
        refine L_run (R_move rfl) rfl ?_
        refine L_run (R_move rfl) rfl ?_
        refine L_run (R_move rfl) rfl ?_
        have hl1 : k < xs1.length := by first | omega | (simp; omega)
        refine T_index (xs := xs1) (i := k) EncF rfl rfl (by first | rfl | omega) slc22 hl1 hS1 rfl ?_
        intro g1 o1 ha1
        refine L_run (R_loadA (vs := [.string ((xs1[k]).file), .int .i64 ((xs1[k]).code)]) rfl agg27 (At.pre ha1 rfl) rfl) rfl ?_
        refine L_buildSlice (pv := [(0, .agg #[.string ((xs1[k]).file), .int .i64 ((xs1[k]).code)])]) (cs := [.string ((xs1[k]).file), .int .i64 ((xs1[k]).code)]) slc24 zer26 rfl rfl (by kernel_rfl) rfl ?_
        intro g2 w3 eg1 hb1 hs2 hz1
        have ge1 : w.heap.size ≤ g2 := eg_ge hB eg1
        have hap1 : ∀ k_, (Value.slice A' (xs1.take k).length c').ownBlock = some k_ → k_ ≠ g2 := fun k_ hk => by have h_ := (World.ownsRow.lt ho k_ hk).2; omega
        replace hB := gb_tr hB hs2
        replace hS1 := hS1.gb hs2
        replace ho := own_gb ho hs2
        replace ha1 := At.gb ha1 hs2 (by simp)
        refine T_append (xs := (xs1.take k)) (ys := [(⟨(xs1[k]).file, (xs1[k]).code⟩ : Fnd)]) EncF slc24 rfl rfl ho (Blk.sli (m := 0) hb1) (by first | omega | (simp; done) | (simp; omega)) (by have := hB.size; omega) rfl ?_
        intro A_1 c_1 w4 ho1 hs3 hat1
        replace hB := gb_tro hB ho hs3 (Nat.le_refl _)
        replace hS1 := hS1.grown hs3 (fun k hk => .inr (Nat.le_trans (Nat.le_refl _) (World.ownsRow.lt ho k hk).1))
        refine L_run (R_assign rfl) rfl ?_
        refine L_nil (N_in (N_then (C_reg ?_)))
        refine L_run (R_move rfl) rfl ?_
        refine L_run (R_add64 rfl rfl (by omega)) rfl ?_
        refine L_run (R_assign rfl) rfl ?_
        refine L_nil (N_then ?_)
        have e_ : (xs1.take k) ++ ([(⟨(xs1[k]).file, (xs1[k]).code⟩ : Fnd)]) = xs1.take (k + 1) := by rw [List.take_add_one, List.getElem?_eq_getElem (by omega)]; rfl
        rw [e_] at ho1 ⊢
        exact ⟨xs1.length - (k + 1), by omega, _, A_1, c_1, (k + 1), Ac_frg ⟨rfl, rfl, rfl, (agr rfl (by first | rfl | (congr 1; omega) | (congr 1; simp; done) | (congr 1; simp only [IntKind.wrap_u64, IntKind.wrap_i64, IntKind.wrap_u8]; omega) | (congr 1 <;> omega))), (agr rfl (by first | rfl | (congr 1; omega) | (congr 1; simp; done) | (congr 1; simp only [IntKind.wrap_u64, IntKind.wrap_i64, IntKind.wrap_u8]; omega) | (congr 1 <;> omega))), trivial⟩, hB, hS1, ho1, (by omega), rfl⟩
      · refine C_exit (X_then (X_then (X_hit (N_then (C_seq (C_reg ?_))))))
        refine L_buildSlice (pv := [(0, .string (⟨#[]⟩)), (1, .string (⟨#[115, 105, 122, 101]⟩)), (2, .string (⟨#[104, 101, 97, 100]⟩)), (3, .string (⟨#[114, 101, 99, 111, 114, 100]⟩)), (4, .string (⟨#[111, 114, 100, 101, 114]⟩)), (5, .string (⟨#[103, 97, 112]⟩)), (6, .string (⟨#[111, 108, 100]⟩)), (7, .string (⟨#[108, 105, 110, 107]⟩)), (8, .string (⟨#[116, 111, 114, 110]⟩)), (9, .string (⟨#[116, 97, 105, 108]⟩)), (10, .string (⟨#[112, 111, 111, 108]⟩)), (11, .string (⟨#[111, 100, 100]⟩)), (12, .string (⟨#[115, 112, 97, 114, 101]⟩))]) (cs := [.string (⟨#[]⟩), .string (⟨#[115, 105, 122, 101]⟩), .string (⟨#[104, 101, 97, 100]⟩), .string (⟨#[114, 101, 99, 111, 114, 100]⟩), .string (⟨#[111, 114, 100, 101, 114]⟩), .string (⟨#[103, 97, 112]⟩), .string (⟨#[111, 108, 100]⟩), .string (⟨#[108, 105, 110, 107]⟩), .string (⟨#[116, 111, 114, 110]⟩), .string (⟨#[116, 97, 105, 108]⟩), .string (⟨#[112, 111, 111, 108]⟩), .string (⟨#[111, 100, 100]⟩), .string (⟨#[115, 112, 97, 114, 101]⟩)]) slc28 zer9 rfl rfl (by kernel_rfl) rfl ?_
        intro g3 w5 eg2 hb2 hs4 hz2
        have ge2 : w.heap.size ≤ g3 := eg_ge hB eg2
        replace hB := gb_tr hB hs4
        replace hS1 := hS1.gb hs4
        replace ho := own_gb ho hs4
        refine L_run (R_assign rfl) rfl ?_
        refine L_nil (N_then (C_seq (C_reg ?_)))
        refine L_run (R_assign rfl) rfl ?_
        refine L_nil (N_then (C_seq (C_seq (C_reg ?_))))
        refine L_run (R_move rfl) rfl ?_
        refine L_run (R_eqv (R_gtr rfl rfl) (v' := .bool true) rfl) rfl ?_
        refine L_run (R_move rfl) rfl ?_
        refine L_yes rfl rfl rfl rfl ?_
        refine L_run (R_move rfl) rfl ?_
        refine L_yes rfl rfl rfl rfl ?_
        refine L_run (R_eqv (R_lss rfl rfl) (v' := .bool true) rfl) rfl ?_
        refine L_run (R_pickT rfl rfl rfl) rfl ?_
        refine L_nil (N_then (C_condT rfl rfl (C_reg ?_)))
        refine L_run (R_move rfl) rfl ?_
        refine L_run (R_move rfl) rfl ?_
        refine L_run (R_indexE (i := 4) (m := 13) (r := 4) rfl rfl rfl slc28 (by decide) rfl rfl) rfl ?_
        refine L_run (R_load1 rfl scl9 (hb2.cell (i := 4) rfl)) rfl ?_
        refine L_run (R_assign rfl) rfl ?_
        refine L_nil (N_then (C_seq (C_reg ?_)))
        refine L_run (R_move rfl) rfl ?_
        refine L_call rfl cb6 (fname4) rfl ?_
        rintro _ w6 ⟨hs5, rfl⟩
        replace hB := gb_tr hB hs5
        replace hS1 := hS1.gb hs5
        replace ho := own_gb ho hs5
        replace hb2 := hb2.gb hs5
        refine L_run (R_move rfl) rfl ?_
        refine L_run (R_eqv (R_eqlS rfl rfl) (v' := .bool true) (bT' rfl)) rfl ?_
        refine L_run (R_move rfl) rfl ?_
        refine L_yes rfl rfl rfl rfl ?_
        refine L_run (R_move rfl) rfl ?_
        refine L_yes rfl rfl rfl rfl ?_
        have e9 : xs1.take k = xs1 := List.take_of_length_le (by omega)
        rw [e9] at ho ⊢
        refine L_call rfl cb7 (corrupt (l := xs1) (own_of ho).2.2 (by omega)) rfl ?_
        rintro _ w7 ⟨hs6, rfl⟩
        replace hB := gb_tr hB hs6
        replace hS1 := hS1.gb hs6
        replace ho := own_gb ho hs6
        replace hb2 := hb2.gb hs6
        refine L_yes rfl rfl rfl rfl ?_
        refine L_run (R_move rfl) rfl ?_
        refine L_yes rfl rfl rfl rfl ?_
        refine L_call rfl cb8 (refHas (l := xs1) hS1 (by omega)) rfl ?_
        rintro _ w8 ⟨hs7, rfl⟩
        replace hB := gb_tr hB hs7
        replace hS1 := hS1.gb hs7
        replace ho := own_gb ho hs7
        replace hb2 := hb2.gb hs7
        refine L_yes rfl rfl rfl rfl ?_
        refine L_run (R_eqv (R_eqlB rfl rfl boo4) (v' := .bool true) (by simp)) rfl ?_
        refine L_run (R_pickT rfl rfl rfl) rfl ?_
        refine L_run (R_move rfl) rfl ?_
        refine L_yes rfl rfl rfl rfl ?_
        refine L_call rfl cb5 (awake49) rfl ?_
        rintro _ w9 ⟨hs8, rfl⟩
        replace hB := gb_tr hB hs8
        replace hS1 := hS1.gb hs8
        replace ho := own_gb ho hs8
        replace hb2 := hb2.gb hs8
        refine L_run (R_pickT rfl rfl rfl) rfl ?_
        refine L_run (R_assign rfl) rfl ?_
        refine L_nil (N_then (C_ret ?_))
        refine ret1 Tryd.results3 rfl ?_
        exact ⟨hB, rfl⟩

theorem walk5 {w : World} {A1 : Option Addr} {c1 : Nat} {xs1 : List Fnd} (hS1 : Sli 0 0 w.heap.size w A1 (fl encF xs1)) (hl1 : xs1.length ≤ c1) (hm1 : c1 * 24 ≤ 140737488351232) (hg1 : ∀ x ∈ xs1, GoodF x) :
    Runs Tryd.prog 3 #[.int .i64 5, .slice A1 xs1.length c1] w (fun v w' => w.grownBy w' none ∧ v = .bool true) := by
  have hB := gb_refl w none
  refine enter Tryd.func3 Tryd.ntmps3 rfl rfl ?_
  refine C_seq (C_reg ?_)
  refine L_run (R_assign rfl) rfl ?_
  refine L_nil (N_then (C_seq (C_seq (C_reg ?_))))
  refine L_run (R_move rfl) rfl ?_
  refine L_run (R_lenSl rfl slc22) rfl ?_
  refine L_run (R_gtr rfl rfl) rfl ?_
  refine L_nil (N_then ?_)
  refine C_if rfl (fun h1 => ?_) (fun h1 => ?_)
  · refine C_seq (C_reg ?_)
    refine L_call rfl cb5 (awake49) rfl ?_
    rintro _ w1 ⟨hs1, rfl⟩
    replace hB := gb_tr hB hs1
    replace hS1 := hS1.gb hs1
    refine L_run (R_assign rfl) rfl ?_
    refine L_nil (N_then (C_ret (R_then ?_)))
    refine ret1 Tryd.results3 rfl ?_
    exact ⟨hB, rfl⟩
  · refine C_skip (N_then (C_seq (C_reg ?_)))
    refine L_run (R_assign rfl) rfl ?_
    refine L_nil (N_then (C_seq (C_seq (C_reg ?_))))
    refine L_run (R_assign rfl) rfl ?_
    refine L_nil (N_then (C_block ?_))
    refine C_loop (fun m_ a_ w_ => ∃ (σ_ : Nat → Value) (A' : Option Addr) (c' : Nat) (k : Nat), a_ = Ac 51 σ_ [] [(0, .int .i64 5), (1, .slice A1 xs1.length c1), (4, .bool false), (5, .slice A' ((xs1.take k).length) c'), (6, .int .i64 (k : Int))] ∧ w.grownBy w_ none ∧ Sli 0 0 w.heap.size w_ A1 (fl encF xs1) ∧ World.ownsRow w_ w.heap.size 26 2 (.slice A' (xs1.take k).length c') (xs1.take k).length (fl encF (xs1.take k)) ∧ (k ≤ xs1.length) ∧ xs1.length - k = m_) (xs1.length - 0) ?_ ?_
    · exact ⟨_, none, 0, 0, Ac_frg ⟨rfl, rfl, rfl, (agr rfl (by first | rfl | (congr 1; omega) | (congr 1; simp; done) | (congr 1; simp only [IntKind.wrap_u64, IntKind.wrap_i64, IntKind.wrap_u8]; omega) | (congr 1 <;> omega))), (agr rfl (by first | rfl | (congr 1; omega) | (congr 1; simp; done) | (congr 1; simp only [IntKind.wrap_u64, IntKind.wrap_i64, IntKind.wrap_u8]; omega) | (congr 1 <;> omega))), trivial⟩, hB, hS1, (own_nil w.heap.size 26 2 _), (Nat.zero_le _), rfl⟩
    · clear hB
      clear hS1
      rintro m_ a_ w2 ⟨σ_, A', c', k, rfl, hB, hS1, ho, hk, rfl⟩
      refine C_seq (C_seq (C_reg ?_))
      refine L_run (R_move rfl) rfl ?_
      refine L_run (R_move rfl) rfl ?_
      refine L_run (R_lenSl rfl slc22) rfl ?_
      refine L_run (R_lss rfl rfl) rfl ?_
      refine L_nil (N_then ?_)
      refine C_if rfl (fun h2 => ?_) (fun h2 => ?_)
      · refine C_skip (N_then (C_seq (C_block (C_reg ?_))))
        refine L_run (R_move rfl) rfl ?_
        refine L_run (R_move rfl) rfl ?_
        refine L_run (R_move rfl) rfl ?_
        have hl1 : k < xs1.length := by first | omega | (simp; omega)
        refine T_index (xs := xs1) (i := k) EncF rfl rfl (by first | rfl | omega) slc22 hl1 hS1 rfl ?_
        intro g1 o1 ha1
        refine L_run (R_loadA (vs := [.string ((xs1[k]).file), .int .i64 ((xs1[k]).code)]) rfl agg27 (At.pre ha1 rfl) rfl) rfl ?_
        refine L_buildSlice (pv := [(0, .agg #[.string ((xs1[k]).file), .int .i64 ((xs1[k]).code)])]) (cs := [.string ((xs1[k]).file), .int .i64 ((xs1[k]).code)]) slc24 zer26 rfl rfl (by kernel_rfl) rfl ?_
        intro g2 w3 eg1 hb1 hs2 hz1
        have ge1 : w.heap.size ≤ g2 := eg_ge hB eg1
        have hap1 : ∀ k_, (Value.slice A' (xs1.take k).length c').ownBlock = some k_ → k_ ≠ g2 := fun k_ hk => by have h_ := (World.ownsRow.lt ho k_ hk).2; omega
        replace hB := gb_tr hB hs2
        replace hS1 := hS1.gb hs2
        replace ho := own_gb ho hs2
        replace ha1 := At.gb ha1 hs2 (by simp)
        refine T_append (xs := (xs1.take k)) (ys := [(⟨(xs1[k]).file, (xs1[k]).code⟩ : Fnd)]) EncF slc24 rfl rfl ho (Blk.sli (m := 0) hb1) (by first | omega | (simp; done) | (simp; omega)) (by have := hB.size; omega) rfl ?_
        intro A_1 c_1 w4 ho1 hs3 hat1
        replace hB := gb_tro hB ho hs3 (Nat.le_refl _)
        replace hS1 := hS1.grown hs3 (fun k hk => .inr (Nat.le_trans (Nat.le_refl _) (World.ownsRow.lt ho k hk).1))
        refine L_run (R_assign rfl) rfl ?_
        refine L_nil (N_in (N_then (C_reg ?_)))
        refine L_run (R_move rfl) rfl ?_
        refine L_run (R_add64 rfl rfl (by omega)) rfl ?_
        refine L_run (R_assign rfl) rfl ?_
        refine L_nil (N_then ?_)
        have e_ : (xs1.take k) ++ ([(⟨(xs1[k]).file, (xs1[k]).code⟩ : Fnd)]) = xs1.take (k + 1) := by rw [List.take_add_one, List.getElem?_eq_getElem (by omega)]; rfl
        rw [e_] at ho1 ⊢
        exact ⟨xs1.length - (k + 1), by omega, _, A_1, c_1, (k + 1), Ac_frg ⟨rfl, rfl, rfl, (agr rfl (by first | rfl | (congr 1; omega) | (congr 1; simp; done) | (congr 1; simp only [IntKind.wrap_u64, IntKind.wrap_i64, IntKind.wrap_u8]; omega) | (congr 1 <;> omega))), (agr rfl (by first | rfl | (congr 1; omega) | (congr 1; simp; done) | (congr 1; simp only [IntKind.wrap_u64, IntKind.wrap_i64, IntKind.wrap_u8]; omega) | (congr 1 <;> omega))), trivial⟩, hB, hS1, ho1, (by omega), rfl⟩
      · refine C_exit (X_then (X_then (X_hit (N_then (C_seq (C_reg ?_))))))
        refine L_buildSlice (pv := [(0, .string (⟨#[]⟩)), (1, .string (⟨#[115, 105, 122, 101]⟩)), (2, .string (⟨#[104, 101, 97, 100]⟩)), (3, .string (⟨#[114, 101, 99, 111, 114, 100]⟩)), (4, .string (⟨#[111, 114, 100, 101, 114]⟩)), (5, .string (⟨#[103, 97, 112]⟩)), (6, .string (⟨#[111, 108, 100]⟩)), (7, .string (⟨#[108, 105, 110, 107]⟩)), (8, .string (⟨#[116, 111, 114, 110]⟩)), (9, .string (⟨#[116, 97, 105, 108]⟩)), (10, .string (⟨#[112, 111, 111, 108]⟩)), (11, .string (⟨#[111, 100, 100]⟩)), (12, .string (⟨#[115, 112, 97, 114, 101]⟩))]) (cs := [.string (⟨#[]⟩), .string (⟨#[115, 105, 122, 101]⟩), .string (⟨#[104, 101, 97, 100]⟩), .string (⟨#[114, 101, 99, 111, 114, 100]⟩), .string (⟨#[111, 114, 100, 101, 114]⟩), .string (⟨#[103, 97, 112]⟩), .string (⟨#[111, 108, 100]⟩), .string (⟨#[108, 105, 110, 107]⟩), .string (⟨#[116, 111, 114, 110]⟩), .string (⟨#[116, 97, 105, 108]⟩), .string (⟨#[112, 111, 111, 108]⟩), .string (⟨#[111, 100, 100]⟩), .string (⟨#[115, 112, 97, 114, 101]⟩)]) slc28 zer9 rfl rfl (by kernel_rfl) rfl ?_
        intro g3 w5 eg2 hb2 hs4 hz2
        have ge2 : w.heap.size ≤ g3 := eg_ge hB eg2
        replace hB := gb_tr hB hs4
        replace hS1 := hS1.gb hs4
        replace ho := own_gb ho hs4
        refine L_run (R_assign rfl) rfl ?_
        refine L_nil (N_then (C_seq (C_reg ?_)))
        refine L_run (R_assign rfl) rfl ?_
        refine L_nil (N_then (C_seq (C_seq (C_reg ?_))))
        refine L_run (R_move rfl) rfl ?_
        refine L_run (R_eqv (R_gtr rfl rfl) (v' := .bool true) rfl) rfl ?_
        refine L_run (R_move rfl) rfl ?_
        refine L_yes rfl rfl rfl rfl ?_
        refine L_run (R_move rfl) rfl ?_
        refine L_yes rfl rfl rfl rfl ?_
        refine L_run (R_eqv (R_lss rfl rfl) (v' := .bool true) rfl) rfl ?_
        refine L_run (R_pickT rfl rfl rfl) rfl ?_
        refine L_nil (N_then (C_condT rfl rfl (C_reg ?_)))
        refine L_run (R_move rfl) rfl ?_
        refine L_run (R_move rfl) rfl ?_
        refine L_run (R_indexE (i := 5) (m := 13) (r := 5) rfl rfl rfl slc28 (by decide) rfl rfl) rfl ?_
        refine L_run (R_load1 rfl scl9 (hb2.cell (i := 5) rfl)) rfl ?_
        refine L_run (R_assign rfl) rfl ?_
        refine L_nil (N_then (C_seq (C_reg ?_)))
        refine L_run (R_move rfl) rfl ?_
        refine L_call rfl cb6 (fname5) rfl ?_
        rintro _ w6 ⟨hs5, rfl⟩
        replace hB := gb_tr hB hs5
        replace hS1 := hS1.gb hs5
        replace ho := own_gb ho hs5
        replace hb2 := hb2.gb hs5
        refine L_run (R_move rfl) rfl ?_
        refine L_run (R_eqv (R_eqlS rfl rfl) (v' := .bool true) (bT' rfl)) rfl ?_
        refine L_run (R_move rfl) rfl ?_
        refine L_yes rfl rfl rfl rfl ?_
        refine L_run (R_move rfl) rfl ?_
        refine L_yes rfl rfl rfl rfl ?_
        have e9 : xs1.take k = xs1 := List.take_of_length_le (by omega)
        rw [e9] at ho ⊢
        refine L_call rfl cb7 (corrupt (l := xs1) (own_of ho).2.2 (by omega)) rfl ?_
        rintro _ w7 ⟨hs6, rfl⟩
        replace hB := gb_tr hB hs6
        replace hS1 := hS1.gb hs6
        replace ho := own_gb ho hs6
        replace hb2 := hb2.gb hs6
        refine L_yes rfl rfl rfl rfl ?_
        refine L_run (R_move rfl) rfl ?_
        refine L_yes rfl rfl rfl rfl ?_
        refine L_call rfl cb8 (refHas (l := xs1) hS1 (by omega)) rfl ?_
        rintro _ w8 ⟨hs7, rfl⟩
        replace hB := gb_tr hB hs7
        replace hS1 := hS1.gb hs7
        replace ho := own_gb ho hs7
        replace hb2 := hb2.gb hs7
        refine L_yes rfl rfl rfl rfl ?_
        refine L_run (R_eqv (R_eqlB rfl rfl boo4) (v' := .bool true) (by simp)) rfl ?_
        refine L_run (R_pickT rfl rfl rfl) rfl ?_
        refine L_run (R_move rfl) rfl ?_
        refine L_yes rfl rfl rfl rfl ?_
        refine L_call rfl cb5 (awake49) rfl ?_
        rintro _ w9 ⟨hs8, rfl⟩
        replace hB := gb_tr hB hs8
        replace hS1 := hS1.gb hs8
        replace ho := own_gb ho hs8
        replace hb2 := hb2.gb hs8
        refine L_run (R_pickT rfl rfl rfl) rfl ?_
        refine L_run (R_assign rfl) rfl ?_
        refine L_nil (N_then (C_ret ?_))
        refine ret1 Tryd.results3 rfl ?_
        exact ⟨hB, rfl⟩

theorem walk6 {w : World} {A1 : Option Addr} {c1 : Nat} {xs1 : List Fnd} (hS1 : Sli 0 0 w.heap.size w A1 (fl encF xs1)) (hl1 : xs1.length ≤ c1) (hm1 : c1 * 24 ≤ 140737488351232) (hg1 : ∀ x ∈ xs1, GoodF x) :
    Runs Tryd.prog 3 #[.int .i64 6, .slice A1 xs1.length c1] w (fun v w' => w.grownBy w' none ∧ v = .bool true) := by
  have hB := gb_refl w none
  refine enter Tryd.func3 Tryd.ntmps3 rfl rfl ?_
  refine C_seq (C_reg ?_)
  refine L_run (R_assign rfl) rfl ?_
  refine L_nil (N_then (C_seq (C_seq (C_reg ?_))))
  refine L_run (R_move rfl) rfl ?_
  refine L_run (R_lenSl rfl slc22) rfl ?_
  refine L_run (R_gtr rfl rfl) rfl ?_
  refine L_nil (N_then ?_)
  refine C_if rfl (fun h1 => ?_) (fun h1 => ?_)
  · refine C_seq (C_reg ?_)
    refine L_call rfl cb5 (awake49) rfl ?_
    rintro _ w1 ⟨hs1, rfl⟩
    replace hB := gb_tr hB hs1
    replace hS1 := hS1.gb hs1
    refine L_run (R_assign rfl) rfl ?_
    refine L_nil (N_then (C_ret (R_then ?_)))
    refine ret1 Tryd.results3 rfl ?_
    exact ⟨hB, rfl⟩
  · refine C_skip (N_then (C_seq (C_reg ?_)))
    refine L_run (R_assign rfl) rfl ?_
    refine L_nil (N_then (C_seq (C_seq (C_reg ?_))))
    refine L_run (R_assign rfl) rfl ?_
    refine L_nil (N_then (C_block ?_))
    refine C_loop (fun m_ a_ w_ => ∃ (σ_ : Nat → Value) (A' : Option Addr) (c' : Nat) (k : Nat), a_ = Ac 51 σ_ [] [(0, .int .i64 6), (1, .slice A1 xs1.length c1), (4, .bool false), (5, .slice A' ((xs1.take k).length) c'), (6, .int .i64 (k : Int))] ∧ w.grownBy w_ none ∧ Sli 0 0 w.heap.size w_ A1 (fl encF xs1) ∧ World.ownsRow w_ w.heap.size 26 2 (.slice A' (xs1.take k).length c') (xs1.take k).length (fl encF (xs1.take k)) ∧ (k ≤ xs1.length) ∧ xs1.length - k = m_) (xs1.length - 0) ?_ ?_
    · exact ⟨_, none, 0, 0, Ac_frg ⟨rfl, rfl, rfl, (agr rfl (by first | rfl | (congr 1; omega) | (congr 1; simp; done) | (congr 1; simp only [IntKind.wrap_u64, IntKind.wrap_i64, IntKind.wrap_u8]; omega) | (congr 1 <;> omega))), (agr rfl (by first | rfl | (congr 1; omega) | (congr 1; simp; done) | (congr 1; simp only [IntKind.wrap_u64, IntKind.wrap_i64, IntKind.wrap_u8]; omega) | (congr 1 <;> omega))), trivial⟩, hB, hS1, (own_nil w.heap.size 26 2 _), (Nat.zero_le _), rfl⟩
    · clear hB
      clear hS1
      rintro m_ a_ w2 ⟨σ_, A', c', k, rfl, hB, hS1, ho, hk, rfl⟩
      refine C_seq (C_seq (C_reg ?_))
      refine L_run (R_move rfl) rfl ?_
      refine L_run (R_move rfl) rfl ?_
      refine L_run (R_lenSl rfl slc22) rfl ?_
      refine L_run (R_lss rfl rfl) rfl ?_
      refine L_nil (N_then ?_)
      refine C_if rfl (fun h2 => ?_) (fun h2 => ?_)
      · refine C_skip (N_then (C_seq (C_block (C_reg ?_))))
        refine L_run (R_move rfl) rfl ?_
        refine L_run (R_move rfl) rfl ?_
        refine L_run (R_move rfl) rfl ?_
        have hl1 : k < xs1.length := by first | omega | (simp; omega)
        refine T_index (xs := xs1) (i := k) EncF rfl rfl (by first | rfl | omega) slc22 hl1 hS1 rfl ?_
        intro g1 o1 ha1
        refine L_run (R_loadA (vs := [.string ((xs1[k]).file), .int .i64 ((xs1[k]).code)]) rfl agg27 (At.pre ha1 rfl) rfl) rfl ?_
        refine L_buildSlice (pv := [(0, .agg #[.string ((xs1[k]).file), .int .i64 ((xs1[k]).code)])]) (cs := [.string ((xs1[k]).file), .int .i64 ((xs1[k]).code)]) slc24 zer26 rfl rfl (by kernel_rfl) rfl ?_
        intro g2 w3 eg1 hb1 hs2 hz1
        have ge1 : w.heap.size ≤ g2 := eg_ge hB eg1
        have hap1 : ∀ k_, (Value.slice A' (xs1.take k).length c').ownBlock = some k_ → k_ ≠ g2 := fun k_ hk => by have h_ := (World.ownsRow.lt ho k_ hk).2; omega
        replace hB := gb_tr hB hs2
        replace hS1 := hS1.gb hs2
        replace ho := own_gb ho hs2
        replace ha1 := At.gb ha1 hs2 (by simp)
        refine T_append (xs := (xs1.take k)) (ys := [(⟨(xs1[k]).file, (xs1[k]).code⟩ : Fnd)]) EncF slc24 rfl rfl ho (Blk.sli (m := 0) hb1) (by first | omega | (simp; done) | (simp; omega)) (by have := hB.size; omega) rfl ?_
        intro A_1 c_1 w4 ho1 hs3 hat1
        replace hB := gb_tro hB ho hs3 (Nat.le_refl _)
        replace hS1 := hS1.grown hs3 (fun k hk => .inr (Nat.le_trans (Nat.le_refl _) (World.ownsRow.lt ho k hk).1))
        refine L_run (R_assign rfl) rfl ?_
        refine L_nil (N_in (N_then (C_reg ?_)))
        refine L_run (R_move rfl) rfl ?_
        refine L_run (R_add64 rfl rfl (by omega)) rfl ?_
        refine L_run (R_assign rfl) rfl ?_
        refine L_nil (N_then ?_)
        have e_ : (xs1.take k) ++ ([(⟨(xs1[k]).file, (xs1[k]).code⟩ : Fnd)]) = xs1.take (k + 1) := by rw [List.take_add_one, List.getElem?_eq_getElem (by omega)]; rfl
        rw [e_] at ho1 ⊢
        exact ⟨xs1.length - (k + 1), by omega, _, A_1, c_1, (k + 1), Ac_frg ⟨rfl, rfl, rfl, (agr rfl (by first | rfl | (congr 1; omega) | (congr 1; simp; done) | (congr 1; simp only [IntKind.wrap_u64, IntKind.wrap_i64, IntKind.wrap_u8]; omega) | (congr 1 <;> omega))), (agr rfl (by first | rfl | (congr 1; omega) | (congr 1; simp; done) | (congr 1; simp only [IntKind.wrap_u64, IntKind.wrap_i64, IntKind.wrap_u8]; omega) | (congr 1 <;> omega))), trivial⟩, hB, hS1, ho1, (by omega), rfl⟩
      · refine C_exit (X_then (X_then (X_hit (N_then (C_seq (C_reg ?_))))))
        refine L_buildSlice (pv := [(0, .string (⟨#[]⟩)), (1, .string (⟨#[115, 105, 122, 101]⟩)), (2, .string (⟨#[104, 101, 97, 100]⟩)), (3, .string (⟨#[114, 101, 99, 111, 114, 100]⟩)), (4, .string (⟨#[111, 114, 100, 101, 114]⟩)), (5, .string (⟨#[103, 97, 112]⟩)), (6, .string (⟨#[111, 108, 100]⟩)), (7, .string (⟨#[108, 105, 110, 107]⟩)), (8, .string (⟨#[116, 111, 114, 110]⟩)), (9, .string (⟨#[116, 97, 105, 108]⟩)), (10, .string (⟨#[112, 111, 111, 108]⟩)), (11, .string (⟨#[111, 100, 100]⟩)), (12, .string (⟨#[115, 112, 97, 114, 101]⟩))]) (cs := [.string (⟨#[]⟩), .string (⟨#[115, 105, 122, 101]⟩), .string (⟨#[104, 101, 97, 100]⟩), .string (⟨#[114, 101, 99, 111, 114, 100]⟩), .string (⟨#[111, 114, 100, 101, 114]⟩), .string (⟨#[103, 97, 112]⟩), .string (⟨#[111, 108, 100]⟩), .string (⟨#[108, 105, 110, 107]⟩), .string (⟨#[116, 111, 114, 110]⟩), .string (⟨#[116, 97, 105, 108]⟩), .string (⟨#[112, 111, 111, 108]⟩), .string (⟨#[111, 100, 100]⟩), .string (⟨#[115, 112, 97, 114, 101]⟩)]) slc28 zer9 rfl rfl (by kernel_rfl) rfl ?_
        intro g3 w5 eg2 hb2 hs4 hz2
        have ge2 : w.heap.size ≤ g3 := eg_ge hB eg2
        replace hB := gb_tr hB hs4
        replace hS1 := hS1.gb hs4
        replace ho := own_gb ho hs4
        refine L_run (R_assign rfl) rfl ?_
        refine L_nil (N_then (C_seq (C_reg ?_)))
        refine L_run (R_assign rfl) rfl ?_
        refine L_nil (N_then (C_seq (C_seq (C_reg ?_))))
        refine L_run (R_move rfl) rfl ?_
        refine L_run (R_eqv (R_gtr rfl rfl) (v' := .bool true) rfl) rfl ?_
        refine L_run (R_move rfl) rfl ?_
        refine L_yes rfl rfl rfl rfl ?_
        refine L_run (R_move rfl) rfl ?_
        refine L_yes rfl rfl rfl rfl ?_
        refine L_run (R_eqv (R_lss rfl rfl) (v' := .bool true) rfl) rfl ?_
        refine L_run (R_pickT rfl rfl rfl) rfl ?_
        refine L_nil (N_then (C_condT rfl rfl (C_reg ?_)))
        refine L_run (R_move rfl) rfl ?_
        refine L_run (R_move rfl) rfl ?_
        refine L_run (R_indexE (i := 6) (m := 13) (r := 6) rfl rfl rfl slc28 (by decide) rfl rfl) rfl ?_
        refine L_run (R_load1 rfl scl9 (hb2.cell (i := 6) rfl)) rfl ?_
        refine L_run (R_assign rfl) rfl ?_
        refine L_nil (N_then (C_seq (C_reg ?_)))
        refine L_run (R_move rfl) rfl ?_
        refine L_call rfl cb6 (fname6) rfl ?_
        rintro _ w6 ⟨hs5, rfl⟩
        replace hB := gb_tr hB hs5
        replace hS1 := hS1.gb hs5
        replace ho := own_gb ho hs5
        replace hb2 := hb2.gb hs5
        refine L_run (R_move rfl) rfl ?_
        refine L_run (R_eqv (R_eqlS rfl rfl) (v' := .bool true) (bT' rfl)) rfl ?_
        refine L_run (R_move rfl) rfl ?_
        refine L_yes rfl rfl rfl rfl ?_
        refine L_run (R_move rfl) rfl ?_
        refine L_yes rfl rfl rfl rfl ?_
        have e9 : xs1.take k = xs1 := List.take_of_length_le (by omega)
        rw [e9] at ho ⊢
        refine L_call rfl cb7 (corrupt (l := xs1) (own_of ho).2.2 (by omega)) rfl ?_
        rintro _ w7 ⟨hs6, rfl⟩
        replace hB := gb_tr hB hs6
        replace hS1 := hS1.gb hs6
        replace ho := own_gb ho hs6
        replace hb2 := hb2.gb hs6
        refine L_yes rfl rfl rfl rfl ?_
        refine L_run (R_move rfl) rfl ?_
        refine L_yes rfl rfl rfl rfl ?_
        refine L_call rfl cb8 (refHas (l := xs1) hS1 (by omega)) rfl ?_
        rintro _ w8 ⟨hs7, rfl⟩
        replace hB := gb_tr hB hs7
        replace hS1 := hS1.gb hs7
        replace ho := own_gb ho hs7
        replace hb2 := hb2.gb hs7
        refine L_yes rfl rfl rfl rfl ?_
        refine L_run (R_eqv (R_eqlB rfl rfl boo4) (v' := .bool true) (by simp)) rfl ?_
        refine L_run (R_pickT rfl rfl rfl) rfl ?_
        refine L_run (R_move rfl) rfl ?_
        refine L_yes rfl rfl rfl rfl ?_
        refine L_call rfl cb5 (awake49) rfl ?_
        rintro _ w9 ⟨hs8, rfl⟩
        replace hB := gb_tr hB hs8
        replace hS1 := hS1.gb hs8
        replace ho := own_gb ho hs8
        replace hb2 := hb2.gb hs8
        refine L_run (R_pickT rfl rfl rfl) rfl ?_
        refine L_run (R_assign rfl) rfl ?_
        refine L_nil (N_then (C_ret ?_))
        refine ret1 Tryd.results3 rfl ?_
        exact ⟨hB, rfl⟩

theorem walk7 {w : World} {A1 : Option Addr} {c1 : Nat} {xs1 : List Fnd} (hS1 : Sli 0 0 w.heap.size w A1 (fl encF xs1)) (hl1 : xs1.length ≤ c1) (hm1 : c1 * 24 ≤ 140737488351232) (hg1 : ∀ x ∈ xs1, GoodF x) :
    Runs Tryd.prog 3 #[.int .i64 7, .slice A1 xs1.length c1] w (fun v w' => w.grownBy w' none ∧ v = .bool true) := by
  have hB := gb_refl w none
  refine enter Tryd.func3 Tryd.ntmps3 rfl rfl ?_
  refine C_seq (C_reg ?_)
  refine L_run (R_assign rfl) rfl ?_
  refine L_nil (N_then (C_seq (C_seq (C_reg ?_))))
  refine L_run (R_move rfl) rfl ?_
  refine L_run (R_lenSl rfl slc22) rfl ?_
  refine L_run (R_gtr rfl rfl) rfl ?_
  refine L_nil (N_then ?_)
  refine C_if rfl (fun h1 => ?_) (fun h1 => ?_)
  · refine C_seq (C_reg ?_)
    refine L_call rfl cb5 (awake49) rfl ?_
    rintro _ w1 ⟨hs1, rfl⟩
    replace hB := gb_tr hB hs1
    replace hS1 := hS1.gb hs1
    refine L_run (R_assign rfl) rfl ?_
    refine L_nil (N_then (C_ret (R_then ?_)))
    refine ret1 Tryd.results3 rfl ?_
    exact ⟨hB, rfl⟩
  · refine C_skip (N_then (C_seq (C_reg ?_)))
    refine L_run (R_assign rfl) rfl ?_
    refine L_nil (N_then (C_seq (C_seq (C_reg ?_))))
    refine L_run (R_assign rfl) rfl ?_
    refine L_nil (N_then (C_block ?_))
    refine C_loop (fun m_ a_ w_ => ∃ (σ_ : Nat → Value) (A' : Option Addr) (c' : Nat) (k : Nat), a_ = Ac 51 σ_ [] [(0, .int .i64 7), (1, .slice A1 xs1.length c1), (4, .bool false), (5, .slice A' ((xs1.take k).length) c'), (6, .int .i64 (k : Int))] ∧ w.grownBy w_ none ∧ Sli 0 0 w.heap.size w_ A1 (fl encF xs1) ∧ World.ownsRow w_ w.heap.size 26 2 (.slice A' (xs1.take k).length c') (xs1.take k).length (fl encF (xs1.take k)) ∧ (k ≤ xs1.length) ∧ xs1.length - k = m_) (xs1.length - 0) ?_ ?_
    · exact ⟨_, none, 0, 0, Ac_frg ⟨rfl, rfl, rfl, (agr rfl (by first | rfl | (congr 1; omega) | (congr 1; simp; done) | (congr 1; simp only [IntKind.wrap_u64, IntKind.wrap_i64, IntKind.wrap_u8]; omega) | (congr 1 <;> omega))), (agr rfl (by first | rfl | (congr 1; omega) | (congr 1; simp; done) | (congr 1; simp only [IntKind.wrap_u64, IntKind.wrap_i64, IntKind.wrap_u8]; omega) | (congr 1 <;> omega))), trivial⟩, hB, hS1, (own_nil w.heap.size 26 2 _), (Nat.zero_le _), rfl⟩
    · clear hB
      clear hS1
      rintro m_ a_ w2 ⟨σ_, A', c', k, rfl, hB, hS1, ho, hk, rfl⟩
      refine C_seq (C_seq (C_reg ?_))
      refine L_run (R_move rfl) rfl ?_
      refine L_run (R_move rfl) rfl ?_
      refine L_run (R_lenSl rfl slc22) rfl ?_
      refine L_run (R_lss rfl rfl) rfl ?_
      refine L_nil (N_then ?_)
      refine C_if rfl (fun h2 => ?_) (fun h2 => ?_)
      · refine C_skip (N_then (C_seq (C_block (C_reg ?_))))
        refine L_run (R_move rfl) rfl ?_
        refine L_run (R_move rfl) rfl ?_
        refine L_run (R_move rfl) rfl ?_
        have hl1 : k < xs1.length := by first | omega | (simp; omega)
        refine T_index (xs := xs1) (i := k) EncF rfl rfl (by first | rfl | omega) slc22 hl1 hS1 rfl ?_
        intro g1 o1 ha1
        refine L_run (R_loadA (vs := [.string ((xs1[k]).file), .int .i64 ((xs1[k]).code)]) rfl agg27 (At.pre ha1 rfl) rfl) rfl ?_
        refine L_buildSlice (pv := [(0, .agg #[.string ((xs1[k]).file), .int .i64 ((xs1[k]).code)])]) (cs := [.string ((xs1[k]).file), .int .i64 ((xs1[k]).code)]) slc24 zer26 rfl rfl (by kernel_rfl) rfl ?_
        intro g2 w3 eg1 hb1 hs2 hz1
        have ge1 : w.heap.size ≤ g2 := eg_ge hB eg1
        have hap1 : ∀ k_, (Value.slice A' (xs1.take k).length c').ownBlock = some k_ → k_ ≠ g2 := fun k_ hk => by have h_ := (World.ownsRow.lt ho k_ hk).2; omega
        replace hB := gb_tr hB hs2
        replace hS1 := hS1.gb hs2
        replace ho := own_gb ho hs2
        replace ha1 := At.gb ha1 hs2 (by simp)
        refine T_append (xs := (xs1.take k)) (ys := [(⟨(xs1[k]).file, (xs1[k]).code⟩ : Fnd)]) EncF slc24 rfl rfl ho (Blk.sli (m := 0) hb1) (by first | omega | (simp; done) | (simp; omega)) (by have := hB.size; omega) rfl ?_
        intro A_1 c_1 w4 ho1 hs3 hat1
        replace hB := gb_tro hB ho hs3 (Nat.le_refl _)
        replace hS1 := hS1.grown hs3 (fun k hk => .inr (Nat.le_trans (Nat.le_refl _) (World.ownsRow.lt ho k hk).1))
        refine L_run (R_assign rfl) rfl ?_
        refine L_nil (N_in (N_then (C_reg ?_)))
        refine L_run (R_move rfl) rfl ?_
        refine L_run (R_add64 rfl rfl (by omega)) rfl ?_
        refine L_run (R_assign rfl) rfl ?_
        refine L_nil (N_then ?_)
        have e_ : (xs1.take k) ++ ([(⟨(xs1[k]).file, (xs1[k]).code⟩ : Fnd)]) = xs1.take (k + 1) := by rw [List.take_add_one, List.getElem?_eq_getElem (by omega)]; rfl
        rw [e_] at ho1 ⊢
        exact ⟨xs1.length - (k + 1), by omega, _, A_1, c_1, (k + 1), Ac_frg ⟨rfl, rfl, rfl, (agr rfl (by first | rfl | (congr 1; omega) | (congr 1; simp; done) | (congr 1; simp only [IntKind.wrap_u64, IntKind.wrap_i64, IntKind.wrap_u8]; omega) | (congr 1 <;> omega))), (agr rfl (by first | rfl | (congr 1; omega) | (congr 1; simp; done) | (congr 1; simp only [IntKind.wrap_u64, IntKind.wrap_i64, IntKind.wrap_u8]; omega) | (congr 1 <;> omega))), trivial⟩, hB, hS1, ho1, (by omega), rfl⟩
      · refine C_exit (X_then (X_then (X_hit (N_then (C_seq (C_reg ?_))))))
        refine L_buildSlice (pv := [(0, .string (⟨#[]⟩)), (1, .string (⟨#[115, 105, 122, 101]⟩)), (2, .string (⟨#[104, 101, 97, 100]⟩)), (3, .string (⟨#[114, 101, 99, 111, 114, 100]⟩)), (4, .string (⟨#[111, 114, 100, 101, 114]⟩)), (5, .string (⟨#[103, 97, 112]⟩)), (6, .string (⟨#[111, 108, 100]⟩)), (7, .string (⟨#[108, 105, 110, 107]⟩)), (8, .string (⟨#[116, 111, 114, 110]⟩)), (9, .string (⟨#[116, 97, 105, 108]⟩)), (10, .string (⟨#[112, 111, 111, 108]⟩)), (11, .string (⟨#[111, 100, 100]⟩)), (12, .string (⟨#[115, 112, 97, 114, 101]⟩))]) (cs := [.string (⟨#[]⟩), .string (⟨#[115, 105, 122, 101]⟩), .string (⟨#[104, 101, 97, 100]⟩), .string (⟨#[114, 101, 99, 111, 114, 100]⟩), .string (⟨#[111, 114, 100, 101, 114]⟩), .string (⟨#[103, 97, 112]⟩), .string (⟨#[111, 108, 100]⟩), .string (⟨#[108, 105, 110, 107]⟩), .string (⟨#[116, 111, 114, 110]⟩), .string (⟨#[116, 97, 105, 108]⟩), .string (⟨#[112, 111, 111, 108]⟩), .string (⟨#[111, 100, 100]⟩), .string (⟨#[115, 112, 97, 114, 101]⟩)]) slc28 zer9 rfl rfl (by kernel_rfl) rfl ?_
        intro g3 w5 eg2 hb2 hs4 hz2
        have ge2 : w.heap.size ≤ g3 := eg_ge hB eg2
        replace hB := gb_tr hB hs4
        replace hS1 := hS1.gb hs4
        replace ho := own_gb ho hs4
        refine L_run (R_assign rfl) rfl ?_
        refine L_nil (N_then (C_seq (C_reg ?_)))
        refine L_run (R_assign rfl) rfl ?_
        refine L_nil (N_then (C_seq (C_seq (C_reg ?_))))
        refine L_run (R_move rfl) rfl ?_
        refine L_run (R_eqv (R_gtr rfl rfl) (v' := .bool true) rfl) rfl ?_
        refine L_run (R_move rfl) rfl ?_
        refine L_yes rfl rfl rfl rfl ?_
        refine L_run (R_move rfl) rfl ?_
        refine L_yes rfl rfl rfl rfl ?_
        refine L_run (R_eqv (R_lss rfl rfl) (v' := .bool true) rfl) rfl ?_
        refine L_run (R_pickT rfl rfl rfl) rfl ?_
        refine L_nil (N_then (C_condT rfl rfl (C_reg ?_)))
        refine L_run (R_move rfl) rfl ?_
        refine L_run (R_move rfl) rfl ?_
        refine L_run (R_indexE (i := 7) (m := 13) (r := 7) rfl rfl rfl slc28 (by decide) rfl rfl) rfl ?_
        refine L_run (R_load1 rfl scl9 (hb2.cell (i := 7) rfl)) rfl ?_
        refine L_run (R_assign rfl) rfl ?_
        refine L_nil (N_then (C_seq (C_reg ?_)))
        refine L_run (R_move rfl) rfl ?_
        refine L_call rfl cb6 (fname7) rfl ?_
        rintro _ w6 ⟨hs5, rfl⟩
        replace hB := gb_tr hB hs5
        replace hS1 := hS1.gb hs5
        replace ho := own_gb ho hs5
        replace hb2 := hb2.gb hs5
        refine L_run (R_move rfl) rfl ?_
        refine L_run (R_eqv (R_eqlS rfl rfl) (v' := .bool true) (bT' rfl)) rfl ?_
        refine L_run (R_move rfl) rfl ?_
        refine L_yes rfl rfl rfl rfl ?_
        refine L_run (R_move rfl) rfl ?_
        refine L_yes rfl rfl rfl rfl ?_
        have e9 : xs1.take k = xs1 := List.take_of_length_le (by omega)
        rw [e9] at ho ⊢
        refine L_call rfl cb7 (corrupt (l := xs1) (own_of ho).2.2 (by omega)) rfl ?_
        rintro _ w7 ⟨hs6, rfl⟩
        replace hB := gb_tr hB hs6
        replace hS1 := hS1.gb hs6
        replace ho := own_gb ho hs6
        replace hb2 := hb2.gb hs6
        refine L_yes rfl rfl rfl rfl ?_
        refine L_run (R_move rfl) rfl ?_
        refine L_yes rfl rfl rfl rfl ?_
        refine L_call rfl cb8 (refHas (l := xs1) hS1 (by omega)) rfl ?_
        rintro _ w8 ⟨hs7, rfl⟩
        replace hB := gb_tr hB hs7
        replace hS1 := hS1.gb hs7
        replace ho := own_gb ho hs7
        replace hb2 := hb2.gb hs7
        refine L_yes rfl rfl rfl rfl ?_
        refine L_run (R_eqv (R_eqlB rfl rfl boo4) (v' := .bool true) (by simp)) rfl ?_
        refine L_run (R_pickT rfl rfl rfl) rfl ?_
        refine L_run (R_move rfl) rfl ?_
        refine L_yes rfl rfl rfl rfl ?_
        refine L_call rfl cb5 (awake49) rfl ?_
        rintro _ w9 ⟨hs8, rfl⟩
        replace hB := gb_tr hB hs8
        replace hS1 := hS1.gb hs8
        replace ho := own_gb ho hs8
        replace hb2 := hb2.gb hs8
        refine L_run (R_pickT rfl rfl rfl) rfl ?_
        refine L_run (R_assign rfl) rfl ?_
        refine L_nil (N_then (C_ret ?_))
        refine ret1 Tryd.results3 rfl ?_
        exact ⟨hB, rfl⟩

theorem walk8 {w : World} {A1 : Option Addr} {c1 : Nat} {xs1 : List Fnd} (hS1 : Sli 0 0 w.heap.size w A1 (fl encF xs1)) (hl1 : xs1.length ≤ c1) (hm1 : c1 * 24 ≤ 140737488351232) (hg1 : ∀ x ∈ xs1, GoodF x) :
    Runs Tryd.prog 3 #[.int .i64 8, .slice A1 xs1.length c1] w (fun v w' => w.grownBy w' none ∧ v = .bool true) := by
  have hB := gb_refl w none
  refine enter Tryd.func3 Tryd.ntmps3 rfl rfl ?_
  refine C_seq (C_reg ?_)
  refine L_run (R_assign rfl) rfl ?_
  refine L_nil (N_then (C_seq (C_seq (C_reg ?_))))
  refine L_run (R_move rfl) rfl ?_
  refine L_run (R_lenSl rfl slc22) rfl ?_
  refine L_run (R_gtr rfl rfl) rfl ?_
  refine L_nil (N_then ?_)
  refine C_if rfl (fun h1 => ?_) (fun h1 => ?_)
  · refine C_seq (C_reg ?_)
    refine L_call rfl cb5 (awake49) rfl ?_
    rintro _ w1 ⟨hs1, rfl⟩
    replace hB := gb_tr hB hs1
    replace hS1 := hS1.gb hs1
    refine L_run (R_assign rfl) rfl ?_
    refine L_nil (N_then (C_ret (R_then ?_)))
    refine ret1 Tryd.results3 rfl ?_
    exact ⟨hB, rfl⟩
  · refine C_skip (N_then (C_seq (C_reg ?_)))
    refine L_run (R_assign rfl) rfl ?_
    refine L_nil (N_then (C_seq (C_seq (C_reg ?_))))
    refine L_run (R_assign rfl) rfl ?_
    refine L_nil (N_then (C_block ?_))
    refine C_loop (fun m_ a_ w_ => ∃ (σ_ : Nat → Value) (A' : Option Addr) (c' : Nat) (k : Nat), a_ = Ac 51 σ_ [] [(0, .int .i64 8), (1, .slice A1 xs1.length c1), (4, .bool false), (5, .slice A' ((xs1.take k).length) c'), (6, .int .i64 (k : Int))] ∧ w.grownBy w_ none ∧ Sli 0 0 w.heap.size w_ A1 (fl encF xs1) ∧ World.ownsRow w_ w.heap.size 26 2 (.slice A' (xs1.take k).length c') (xs1.take k).length (fl encF (xs1.take k)) ∧ (k ≤ xs1.length) ∧ xs1.length - k = m_) (xs1.length - 0) ?_ ?_
    · exact ⟨_, none, 0, 0, Ac_frg ⟨rfl, rfl, rfl, (agr rfl (by first | rfl | (congr 1; omega) | (congr 1; simp; done) | (congr 1; simp only [IntKind.wrap_u64, IntKind.wrap_i64, IntKind.wrap_u8]; omega) | (congr 1 <;> omega))), (agr rfl (by first | rfl | (congr 1; omega) | (congr 1; simp; done) | (congr 1; simp only [IntKind.wrap_u64, IntKind.wrap_i64, IntKind.wrap_u8]; omega) | (congr 1 <;> omega))), trivial⟩, hB, hS1, (own_nil w.heap.size 26 2 _), (Nat.zero_le _), rfl⟩
    · clear hB
      clear hS1
      rintro m_ a_ w2 ⟨σ_, A', c', k, rfl, hB, hS1, ho, hk, rfl⟩
      refine C_seq (C_seq (C_reg ?_))
      refine L_run (R_move rfl) rfl ?_
      refine L_run (R_move rfl) rfl ?_
      refine L_run (R_lenSl rfl slc22) rfl ?_
      refine L_run (R_lss rfl rfl) rfl ?_
      refine L_nil (N_then ?_)
      refine C_if rfl (fun h2 => ?_) (fun h2 => ?_)
      · refine C_skip (N_then (C_seq (C_block (C_reg ?_))))
        refine L_run (R_move rfl) rfl ?_
        refine L_run (R_move rfl) rfl ?_
        refine L_run (R_move rfl) rfl ?_
        have hl1 : k < xs1.length := by first | omega | (simp; omega)
        refine T_index (xs := xs1) (i := k) EncF rfl rfl (by first | rfl | omega) slc22 hl1 hS1 rfl ?_
        intro g1 o1 ha1
        refine L_run (R_loadA (vs := [.string ((xs1[k]).file), .int .i64 ((xs1[k]).code)]) rfl agg27 (At.pre ha1 rfl) rfl) rfl ?_
        refine L_buildSlice (pv := [(0, .agg #[.string ((xs1[k]).file), .int .i64 ((xs1[k]).code)])]) (cs := [.string ((xs1[k]).file), .int .i64 ((xs1[k]).code)]) slc24 zer26 rfl rfl (by kernel_rfl) rfl ?_
        intro g2 w3 eg1 hb1 hs2 hz1
        have ge1 : w.heap.size ≤ g2 := eg_ge hB eg1
        have hap1 : ∀ k_, (Value.slice A' (xs1.take k).length c').ownBlock = some k_ → k_ ≠ g2 := fun k_ hk => by have h_ := (World.ownsRow.lt ho k_ hk).2; omega
        replace hB := gb_tr hB hs2
        replace hS1 := hS1.gb hs2
        replace ho := own_gb ho hs2
        replace ha1 := At.gb ha1 hs2 (by simp)
        refine T_append (xs := (xs1.take k)) (ys := [(⟨(xs1[k]).file, (xs1[k]).code⟩ : Fnd)]) EncF slc24 rfl rfl ho (Blk.sli (m := 0) hb1) (by first | omega | (simp; done) | (simp; omega)) (by have := hB.size; omega) rfl ?_
        intro A_1 c_1 w4 ho1 hs3 hat1
        replace hB := gb_tro hB ho hs3 (Nat.le_refl _)
        replace hS1 := hS1.grown hs3 (fun k hk => .inr (Nat.le_trans (Nat.le_refl _) (World.ownsRow.lt ho k hk).1))
        refine L_run (R_assign rfl) rfl ?_
        refine L_nil (N_in (N_then (C_reg ?_)))
        refine L_run (R_move rfl) rfl ?_
        refine L_run (R_add64 rfl rfl (by omega)) rfl ?_
        refine L_run (R_assign rfl) rfl ?_
        refine L_nil (N_then ?_)
        have e_ : (xs1.take k) ++ ([(⟨(xs1[k]).file, (xs1[k]).code⟩ : Fnd)]) = xs1.take (k + 1) := by rw [List.take_add_one, List.getElem?_eq_getElem (by omega)]; rfl
        rw [e_] at ho1 ⊢
        exact ⟨xs1.length - (k + 1), by omega, _, A_1, c_1, (k + 1), Ac_frg ⟨rfl, rfl, rfl, (agr rfl (by first | rfl | (congr 1; omega) | (congr 1; simp; done) | (congr 1; simp only [IntKind.wrap_u64, IntKind.wrap_i64, IntKind.wrap_u8]; omega) | (congr 1 <;> omega))), (agr rfl (by first | rfl | (congr 1; omega) | (congr 1; simp; done) | (congr 1; simp only [IntKind.wrap_u64, IntKind.wrap_i64, IntKind.wrap_u8]; omega) | (congr 1 <;> omega))), trivial⟩, hB, hS1, ho1, (by omega), rfl⟩
      · refine C_exit (X_then (X_then (X_hit (N_then (C_seq (C_reg ?_))))))
        refine L_buildSlice (pv := [(0, .string (⟨#[]⟩)), (1, .string (⟨#[115, 105, 122, 101]⟩)), (2, .string (⟨#[104, 101, 97, 100]⟩)), (3, .string (⟨#[114, 101, 99, 111, 114, 100]⟩)), (4, .string (⟨#[111, 114, 100, 101, 114]⟩)), (5, .string (⟨#[103, 97, 112]⟩)), (6, .string (⟨#[111, 108, 100]⟩)), (7, .string (⟨#[108, 105, 110, 107]⟩)), (8, .string (⟨#[116, 111, 114, 110]⟩)), (9, .string (⟨#[116, 97, 105, 108]⟩)), (10, .string (⟨#[112, 111, 111, 108]⟩)), (11, .string (⟨#[111, 100, 100]⟩)), (12, .string (⟨#[115, 112, 97, 114, 101]⟩))]) (cs := [.string (⟨#[]⟩), .string (⟨#[115, 105, 122, 101]⟩), .string (⟨#[104, 101, 97, 100]⟩), .string (⟨#[114, 101, 99, 111, 114, 100]⟩), .string (⟨#[111, 114, 100, 101, 114]⟩), .string (⟨#[103, 97, 112]⟩), .string (⟨#[111, 108, 100]⟩), .string (⟨#[108, 105, 110, 107]⟩), .string (⟨#[116, 111, 114, 110]⟩), .string (⟨#[116, 97, 105, 108]⟩), .string (⟨#[112, 111, 111, 108]⟩), .string (⟨#[111, 100, 100]⟩), .string (⟨#[115, 112, 97, 114, 101]⟩)]) slc28 zer9 rfl rfl (by kernel_rfl) rfl ?_
        intro g3 w5 eg2 hb2 hs4 hz2
        have ge2 : w.heap.size ≤ g3 := eg_ge hB eg2
        replace hB := gb_tr hB hs4
        replace hS1 := hS1.gb hs4
        replace ho := own_gb ho hs4
        refine L_run (R_assign rfl) rfl ?_
        refine L_nil (N_then (C_seq (C_reg ?_)))
        refine L_run (R_assign rfl) rfl ?_
        refine L_nil (N_then (C_seq (C_seq (C_reg ?_))))
        refine L_run (R_move rfl) rfl ?_
        refine L_run (R_eqv (R_gtr rfl rfl) (v' := .bool true) rfl) rfl ?_
        refine L_run (R_move rfl) rfl ?_
        refine L_yes rfl rfl rfl rfl ?_
        refine L_run (R_move rfl) rfl ?_
        refine L_yes rfl rfl rfl rfl ?_
        refine L_run (R_eqv (R_lss rfl rfl) (v' := .bool true) rfl) rfl ?_
        refine L_run (R_pickT rfl rfl rfl) rfl ?_
        refine L_nil (N_then (C_condT rfl rfl (C_reg ?_)))
        refine L_run (R_move rfl) rfl ?_
        refine L_run (R_move rfl) rfl ?_
        refine L_run (R_indexE (i := 8) (m := 13) (r := 8) rfl rfl rfl slc28 (by decide) rfl rfl) rfl ?_
        refine L_run (R_load1 rfl scl9 (hb2.cell (i := 8) rfl)) rfl ?_
        refine L_run (R_assign rfl) rfl ?_
        refine L_nil (N_then (C_seq (C_reg ?_)))
        refine L_run (R_move rfl) rfl ?_
        refine L_call rfl cb6 (fname8) rfl ?_
        rintro _ w6 ⟨hs5, rfl⟩
        replace hB := gb_tr hB hs5
        replace hS1 := hS1.gb hs5
        replace ho := own_gb ho hs5
        replace hb2 := hb2.gb hs5
        refine L_run (R_move rfl) rfl ?_
        refine L_run (R_eqv (R_eqlS rfl rfl) (v' := .bool true) (bT' rfl)) rfl ?_
        refine L_run (R_move rfl) rfl ?_
        refine L_yes rfl rfl rfl rfl ?_
        refine L_run (R_move rfl) rfl ?_
        refine L_yes rfl rfl rfl rfl ?_
        have e9 : xs1.take k = xs1 := List.take_of_length_le (by omega)
        rw [e9] at ho ⊢
        refine L_call rfl cb7 (corrupt (l := xs1) (own_of ho).2.2 (by omega)) rfl ?_
        rintro _ w7 ⟨hs6, rfl⟩
        replace hB := gb_tr hB hs6
        replace hS1 := hS1.gb hs6
        replace ho := own_gb ho hs6
        replace hb2 := hb2.gb hs6
        refine L_yes rfl rfl rfl rfl ?_
        refine L_run (R_move rfl) rfl ?_
        refine L_yes rfl rfl rfl rfl ?_
        refine L_call rfl cb8 (refHas (l := xs1) hS1 (by omega)) rfl ?_
        rintro _ w8 ⟨hs7, rfl⟩
        replace hB := gb_tr hB hs7
        replace hS1 := hS1.gb hs7
        replace ho := own_gb ho hs7
        replace hb2 := hb2.gb hs7
        refine L_yes rfl rfl rfl rfl ?_
        refine L_run (R_eqv (R_eqlB rfl rfl boo4) (v' := .bool true) (by simp)) rfl ?_
        refine L_run (R_pickT rfl rfl rfl) rfl ?_
        refine L_run (R_move rfl) rfl ?_
        refine L_yes rfl rfl rfl rfl ?_
        refine L_call rfl cb5 (awake49) rfl ?_
        rintro _ w9 ⟨hs8, rfl⟩
        replace hB := gb_tr hB hs8
        replace hS1 := hS1.gb hs8
        replace ho := own_gb ho hs8
        replace hb2 := hb2.gb hs8
        refine L_run (R_pickT rfl rfl rfl) rfl ?_
        refine L_run (R_assign rfl) rfl ?_
        refine L_nil (N_then (C_ret ?_))
        refine ret1 Tryd.results3 rfl ?_
        exact ⟨hB, rfl⟩

theorem walk9 {w : World} {A1 : Option Addr} {c1 : Nat} {xs1 : List Fnd} (hS1 : Sli 0 0 w.heap.size w A1 (fl encF xs1)) (hl1 : xs1.length ≤ c1) (hm1 : c1 * 24 ≤ 140737488351232) (hg1 : ∀ x ∈ xs1, GoodF x) :
    Runs Tryd.prog 3 #[.int .i64 9, .slice A1 xs1.length c1] w (fun v w' => w.grownBy w' none ∧ v = .bool true) := by
  have hB := gb_refl w none
  refine enter Tryd.func3 Tryd.ntmps3 rfl rfl ?_
  refine C_seq (C_reg ?_)
  refine L_run (R_assign rfl) rfl ?_
  refine L_nil (N_then (C_seq (C_seq (C_reg ?_))))
  refine L_run (R_move rfl) rfl ?_
  refine L_run (R_lenSl rfl slc22) rfl ?_
  refine L_run (R_gtr rfl rfl) rfl ?_
  refine L_nil (N_then ?_)
  refine C_if rfl (fun h1 => ?_) (fun h1 => ?_)
  · refine C_seq (C_reg ?_)
    refine L_call rfl cb5 (awake49) rfl ?_
    rintro _ w1 ⟨hs1, rfl⟩
    replace hB := gb_tr hB hs1
    replace hS1 := hS1.gb hs1
    refine L_run (R_assign rfl) rfl ?_
    refine L_nil (N_then (C_ret (R_then ?_)))
    refine ret1 Tryd.results3 rfl ?_
    exact ⟨hB, rfl⟩
  · refine C_skip (N_then (C_seq (C_reg ?_)))
    refine L_run (R_assign rfl) rfl ?_
    refine L_nil (N_then (C_seq (C_seq (C_reg ?_))))
    refine L_run (R_assign rfl) rfl ?_
    refine L_nil (N_then (C_block ?_))
    refine C_loop (fun m_ a_ w_ => ∃ (σ_ : Nat → Value) (A' : Option Addr) (c' : Nat) (k : Nat), a_ = Ac 51 σ_ [] [(0, .int .i64 9), (1, .slice A1 xs1.length c1), (4, .bool false), (5, .slice A' ((xs1.take k).length) c'), (6, .int .i64 (k : Int))] ∧ w.grownBy w_ none ∧ Sli 0 0 w.heap.size w_ A1 (fl encF xs1) ∧ World.ownsRow w_ w.heap.size 26 2 (.slice A' (xs1.take k).length c') (xs1.take k).length (fl encF (xs1.take k)) ∧ (k ≤ xs1.length) ∧ xs1.length - k = m_) (xs1.length - 0) ?_ ?_
    · exact ⟨_, none, 0, 0, Ac_frg ⟨rfl, rfl, rfl, (agr rfl (by first | rfl | (congr 1; omega) | (congr 1; simp; done) | (congr 1; simp only [IntKind.wrap_u64, IntKind.wrap_i64, IntKind.wrap_u8]; omega) | (congr 1 <;> omega))), (agr rfl (by first | rfl | (congr 1; omega) | (congr 1; simp; done) | (congr 1; simp only [IntKind.wrap_u64, IntKind.wrap_i64, IntKind.wrap_u8]; omega) | (congr 1 <;> omega))), trivial⟩, hB, hS1, (own_nil w.heap.size 26 2 _), (Nat.zero_le _), rfl⟩
    · clear hB
      clear hS1
      rintro m_ a_ w2 ⟨σ_, A', c', k, rfl, hB, hS1, ho, hk, rfl⟩
      refine C_seq (C_seq (C_reg ?_))
      refine L_run (R_move rfl) rfl ?_
      refine L_run (R_move rfl) rfl ?_
      refine L_run (R_lenSl rfl slc22) rfl ?_
      refine L_run (R_lss rfl rfl) rfl ?_
      refine L_nil (N_then ?_)
      refine C_if rfl (fun h2 => ?_) (fun h2 => ?_)
      · refine C_skip (N_then (C_seq (C_block (C_reg ?_))))
        refine L_run (R_move rfl) rfl ?_
        refine L_run (R_move rfl) rfl ?_
        refine L_run (R_move rfl) rfl ?_
        have hl1 : k < xs1.length := by first | omega | (simp; omega)
        refine T_index (xs := xs1) (i := k) EncF rfl rfl (by first | rfl | omega) slc22 hl1 hS1 rfl ?_
        intro g1 o1 ha1
        refine L_run (R_loadA (vs := [.string ((xs1[k]).file), .int .i64 ((xs1[k]).code)]) rfl agg27 (At.pre ha1 rfl) rfl) rfl ?_
        refine L_buildSlice (pv := [(0, .agg #[.string ((xs1[k]).file), .int .i64 ((xs1[k]).code)])]) (cs := [.string ((xs1[k]).file), .int .i64 ((xs1[k]).code)]) slc24 zer26 rfl rfl (by kernel_rfl) rfl ?_
        intro g2 w3 eg1 hb1 hs2 hz1
        have ge1 : w.heap.size ≤ g2 := eg_ge hB eg1
        have hap1 : ∀ k_, (Value.slice A' (xs1.take k).length c').ownBlock = some k_ → k_ ≠ g2 := fun k_ hk => by have h_ := (World.ownsRow.lt ho k_ hk).2; omega
        replace hB := gb_tr hB hs2
        replace hS1 := hS1.gb hs2
        replace ho := own_gb ho hs2
        replace ha1 := At.gb ha1 hs2 (by simp)
        refine T_append (xs := (xs1.take k)) (ys := [(⟨(xs1[k]).file, (xs1[k]).code⟩ : Fnd)]) EncF slc24 rfl rfl ho (Blk.sli (m := 0) hb1) (by first | omega | (simp; done) | (simp; omega)) (by have := hB.size; omega) rfl ?_
        intro A_1 c_1 w4 ho1 hs3 hat1
        replace hB := gb_tro hB ho hs3 (Nat.le_refl _)
        replace hS1 := hS1.grown hs3 (fun k hk => .inr (Nat.le_trans (Nat.le_refl _) (World.ownsRow.lt ho k hk).1))
        refine L_run (R_assign rfl) rfl ?_
        refine L_nil (N_in (N_then (C_reg ?_)))
        refine L_run (R_move rfl) rfl ?_
        refine L_run (R_add64 rfl rfl (by omega)) rfl ?_
        refine L_run (R_assign rfl) rfl ?_
        refine L_nil (N_then ?_)
        have e_ : (xs1.take k) ++ ([(⟨(xs1[k]).file, (xs1[k]).code⟩ : Fnd)]) = xs1.take (k + 1) := by rw [List.take_add_one, List.getElem?_eq_getElem (by omega)]; rfl
        rw [e_] at ho1 ⊢
        exact ⟨xs1.length - (k + 1), by omega, _, A_1, c_1, (k + 1), Ac_frg ⟨rfl, rfl, rfl, (agr rfl (by first | rfl | (congr 1; omega) | (congr 1; simp; done) | (congr 1; simp only [IntKind.wrap_u64, IntKind.wrap_i64, IntKind.wrap_u8]; omega) | (congr 1 <;> omega))), (agr rfl (by first | rfl | (congr 1; omega) | (congr 1; simp; done) | (congr 1; simp only [IntKind.wrap_u64, IntKind.wrap_i64, IntKind.wrap_u8]; omega) | (congr 1 <;> omega))), trivial⟩, hB, hS1, ho1, (by omega), rfl⟩
      · refine C_exit (X_then (X_then (X_hit (N_then (C_seq (C_reg ?_))))))
        refine L_buildSlice (pv := [(0, .string (⟨#[]⟩)), (1, .string (⟨#[115, 105, 122, 101]⟩)), (2, .string (⟨#[104, 101, 97, 100]⟩)), (3, .string (⟨#[114, 101, 99, 111, 114, 100]⟩)), (4, .string (⟨#[111, 114, 100, 101, 114]⟩)), (5, .string (⟨#[103, 97, 112]⟩)), (6, .string (⟨#[111, 108, 100]⟩)), (7, .string (⟨#[108, 105, 110, 107]⟩)), (8, .string (⟨#[116, 111, 114, 110]⟩)), (9, .string (⟨#[116, 97, 105, 108]⟩)), (10, .string (⟨#[112, 111, 111, 108]⟩)), (11, .string (⟨#[111, 100, 100]⟩)), (12, .string (⟨#[115, 112, 97, 114, 101]⟩))]) (cs := [.string (⟨#[]⟩), .string (⟨#[115, 105, 122, 101]⟩), .string (⟨#[104, 101, 97, 100]⟩), .string (⟨#[114, 101, 99, 111, 114, 100]⟩), .string (⟨#[111, 114, 100, 101, 114]⟩), .string (⟨#[103, 97, 112]⟩), .string (⟨#[111, 108, 100]⟩), .string (⟨#[108, 105, 110, 107]⟩), .string (⟨#[116, 111, 114, 110]⟩), .string (⟨#[116, 97, 105, 108]⟩), .string (⟨#[112, 111, 111, 108]⟩), .string (⟨#[111, 100, 100]⟩), .string (⟨#[115, 112, 97, 114, 101]⟩)]) slc28 zer9 rfl rfl (by kernel_rfl) rfl ?_
        intro g3 w5 eg2 hb2 hs4 hz2
        have ge2 : w.heap.size ≤ g3 := eg_ge hB eg2
        replace hB := gb_tr hB hs4
        replace hS1 := hS1.gb hs4
        replace ho := own_gb ho hs4
        refine L_run (R_assign rfl) rfl ?_
        refine L_nil (N_then (C_seq (C_reg ?_)))
        refine L_run (R_assign rfl) rfl ?_
        refine L_nil (N_then (C_seq (C_seq (C_reg ?_))))
        refine L_run (R_move rfl) rfl ?_
        refine L_run (R_eqv (R_gtr rfl rfl) (v' := .bool true) rfl) rfl ?_
        refine L_run (R_move rfl) rfl ?_
        refine L_yes rfl rfl rfl rfl ?_
        refine L_run (R_move rfl) rfl ?_
        refine L_yes rfl rfl rfl rfl ?_
        refine L_run (R_eqv (R_lss rfl rfl) (v' := .bool true) rfl) rfl ?_
        refine L_run (R_pickT rfl rfl rfl) rfl ?_
        refine L_nil (N_then (C_condT rfl rfl (C_reg ?_)))
        refine L_run (R_move rfl) rfl ?_
        refine L_run (R_move rfl) rfl ?_
        refine L_run (R_indexE (i := 9) (m := 13) (r := 9) rfl rfl rfl slc28 (by decide) rfl rfl) rfl ?_
        refine L_run (R_load1 rfl scl9 (hb2.cell (i := 9) rfl)) rfl ?_
        refine L_run (R_assign rfl) rfl ?_
        refine L_nil (N_then (C_seq (C_reg ?_)))
        refine L_run (R_move rfl) rfl ?_
        refine L_call rfl cb6 (fname9) rfl ?_
        rintro _ w6 ⟨hs5, rfl⟩
        replace hB := gb_tr hB hs5
        replace hS1 := hS1.gb hs5
        replace ho := own_gb ho hs5
        replace hb2 := hb2.gb hs5
        refine L_run (R_move rfl) rfl ?_
        refine L_run (R_eqv (R_eqlS rfl rfl) (v' := .bool true) (bT' rfl)) rfl ?_
        refine L_run (R_move rfl) rfl ?_
        refine L_yes rfl rfl rfl rfl ?_
        refine L_run (R_move rfl) rfl ?_
        refine L_yes rfl rfl rfl rfl ?_
        have e9 : xs1.take k = xs1 := List.take_of_length_le (by omega)
        rw [e9] at ho ⊢
        refine L_call rfl cb7 (corrupt (l := xs1) (own_of ho).2.2 (by omega)) rfl ?_
        rintro _ w7 ⟨hs6, rfl⟩
        replace hB := gb_tr hB hs6
        replace hS1 := hS1.gb hs6
        replace ho := own_gb ho hs6
        replace hb2 := hb2.gb hs6
        refine L_yes rfl rfl rfl rfl ?_
        refine L_run (R_move rfl) rfl ?_
        refine L_yes rfl rfl rfl rfl ?_
        refine L_call rfl cb8 (refHas (l := xs1) hS1 (by omega)) rfl ?_
        rintro _ w8 ⟨hs7, rfl⟩
        replace hB := gb_tr hB hs7
        replace hS1 := hS1.gb hs7
        replace ho := own_gb ho hs7
        replace hb2 := hb2.gb hs7
        refine L_yes rfl rfl rfl rfl ?_
        refine L_run (R_eqv (R_eqlB rfl rfl boo4) (v' := .bool true) (by simp)) rfl ?_
        refine L_run (R_pickT rfl rfl rfl) rfl ?_
        refine L_run (R_move rfl) rfl ?_
        refine L_yes rfl rfl rfl rfl ?_
        refine L_call rfl cb5 (awake49) rfl ?_
        rintro _ w9 ⟨hs8, rfl⟩
        replace hB := gb_tr hB hs8
        replace hS1 := hS1.gb hs8
        replace ho := own_gb ho hs8
        replace hb2 := hb2.gb hs8
        refine L_run (R_pickT rfl rfl rfl) rfl ?_
        refine L_run (R_assign rfl) rfl ?_
        refine L_nil (N_then (C_ret ?_))
        refine ret1 Tryd.results3 rfl ?_
        exact ⟨hB, rfl⟩

theorem walk10 {w : World} {A1 : Option Addr} {c1 : Nat} {xs1 : List Fnd} (hS1 : Sli 0 0 w.heap.size w A1 (fl encF xs1)) (hl1 : xs1.length ≤ c1) (hm1 : c1 * 24 ≤ 140737488351232) (hg1 : ∀ x ∈ xs1, GoodF x) :
    Runs Tryd.prog 3 #[.int .i64 10, .slice A1 xs1.length c1] w (fun v w' => w.grownBy w' none ∧ v = .bool true) := by
  have hB := gb_refl w none
  refine enter Tryd.func3 Tryd.ntmps3 rfl rfl ?_
  refine C_seq (C_reg ?_)
  refine L_run (R_assign rfl) rfl ?_
  refine L_nil (N_then (C_seq (C_seq (C_reg ?_))))
  refine L_run (R_move rfl) rfl ?_
  refine L_run (R_lenSl rfl slc22) rfl ?_
  refine L_run (R_gtr rfl rfl) rfl ?_
  refine L_nil (N_then ?_)
  refine C_if rfl (fun h1 => ?_) (fun h1 => ?_)
  · refine C_seq (C_reg ?_)
    refine L_call rfl cb5 (awake49) rfl ?_
    rintro _ w1 ⟨hs1, rfl⟩
    replace hB := gb_tr hB hs1
    replace hS1 := hS1.gb hs1
    refine L_run (R_assign rfl) rfl ?_
    refine L_nil (N_then (C_ret (R_then ?_)))
    refine ret1 Tryd.results3 rfl ?_
    exact ⟨hB, rfl⟩
  · refine C_skip (N_then (C_seq (C_reg ?_)))
    refine L_run (R_assign rfl) rfl ?_
    refine L_nil (N_then (C_seq (C_seq (C_reg ?_))))
    refine L_run (R_assign rfl) rfl ?_
    refine L_nil (N_then (C_block ?_))
    refine C_loop (fun m_ a_ w_ => ∃ (σ_ : Nat → Value) (A' : Option Addr) (c' : Nat) (k : Nat), a_ = Ac 51 σ_ [] [(0, .int .i64 10), (1, .slice A1 xs1.length c1), (4, .bool false), (5, .slice A' ((xs1.take k).length) c'), (6, .int .i64 (k : Int))] ∧ w.grownBy w_ none ∧ Sli 0 0 w.heap.size w_ A1 (fl encF xs1) ∧ World.ownsRow w_ w.heap.size 26 2 (.slice A' (xs1.take k).length c') (xs1.take k).length (fl encF (xs1.take k)) ∧ (k ≤ xs1.length) ∧ xs1.length - k = m_) (xs1.length - 0) ?_ ?_
    · exact ⟨_, none, 0, 0, Ac_frg ⟨rfl, rfl, rfl, (agr rfl (by first | rfl | (congr 1; omega) | (congr 1; simp; done) | (congr 1; simp only [IntKind.wrap_u64, IntKind.wrap_i64, IntKind.wrap_u8]; omega) | (congr 1 <;> omega))), (agr rfl (by first | rfl | (congr 1; omega) | (congr 1; simp; done) | (congr 1; simp only [IntKind.wrap_u64, IntKind.wrap_i64, IntKind.wrap_u8]; omega) | (congr 1 <;> omega))), trivial⟩, hB, hS1, (own_nil w.heap.size 26 2 _), (Nat.zero_le _), rfl⟩
    · clear hB
      clear hS1
      rintro m_ a_ w2 ⟨σ_, A', c', k, rfl, hB, hS1, ho, hk, rfl⟩
      refine C_seq (C_seq (C_reg ?_))
      refine L_run (R_move rfl) rfl ?_
      refine L_run (R_move rfl) rfl ?_
      refine L_run (R_lenSl rfl slc22) rfl ?_
      refine L_run (R_lss rfl rfl) rfl ?_
      refine L_nil (N_then ?_)
      refine C_if rfl (fun h2 => ?_) (fun h2 => ?_)
      · refine C_skip (N_then (C_seq (C_block (C_reg ?_))))
        refine L_run (R_move rfl) rfl ?_
        refine L_run (R_move rfl) rfl ?_
        refine L_run (R_move rfl) rfl ?_
        have hl1 : k < xs1.length := by first | omega | (simp; omega)
        refine T_index (xs := xs1) (i := k) EncF rfl rfl (by first | rfl | omega) slc22 hl1 hS1 rfl ?_
        intro g1 o1 ha1
        refine L_run (R_loadA (vs := [.string ((xs1[k]).file), .int .i64 ((xs1[k]).code)]) rfl agg27 (At.pre ha1 rfl) rfl) rfl ?_
        refine L_buildSlice (pv := [(0, .agg #[.string ((xs1[k]).file), .int .i64 ((xs1[k]).code)])]) (cs := [.string ((xs1[k]).file), .int .i64 ((xs1[k]).code)]) slc24 zer26 rfl rfl (by kernel_rfl) rfl ?_
        intro g2 w3 eg1 hb1 hs2 hz1
        have ge1 : w.heap.size ≤ g2 := eg_ge hB eg1
        have hap1 : ∀ k_, (Value.slice A' (xs1.take k).length c').ownBlock = some k_ → k_ ≠ g2 := fun k_ hk => by have h_ := (World.ownsRow.lt ho k_ hk).2; omega
        replace hB := gb_tr hB hs2
        replace hS1 := hS1.gb hs2
        replace ho := own_gb ho hs2
        replace ha1 := At.gb ha1 hs2 (by simp)
        refine T_append (xs := (xs1.take k)) (ys := [(⟨(xs1[k]).file, (xs1[k]).code⟩ : Fnd)]) EncF slc24 rfl rfl ho (Blk.sli (m := 0) hb1) (by first | omega | (simp; done) | (simp; omega)) (by have := hB.size; omega) rfl ?_
        intro A_1 c_1 w4 ho1 hs3 hat1
        replace hB := gb_tro hB ho hs3 (Nat.le_refl _)
        replace hS1 := hS1.grown hs3 (fun k hk => .inr (Nat.le_trans (Nat.le_refl _) (World.ownsRow.lt ho k hk).1))
        refine L_run (R_assign rfl) rfl ?_
        refine L_nil (N_in (N_then (C_reg ?_)))
        refine L_run (R_move rfl) rfl ?_
        refine L_run (R_add64 rfl rfl (by omega)) rfl ?_
        refine L_run (R_assign rfl) rfl ?_
        refine L_nil (N_then ?_)
        have e_ : (xs1.take k) ++ ([(⟨(xs1[k]).file, (xs1[k]).code⟩ : Fnd)]) = xs1.take (k + 1) := by rw [List.take_add_one, List.getElem?_eq_getElem (by omega)]; rfl
        rw [e_] at ho1 ⊢
        exact ⟨xs1.length - (k + 1), by omega, _, A_1, c_1, (k + 1), Ac_frg ⟨rfl, rfl, rfl, (agr rfl (by first | rfl | (congr 1; omega) | (congr 1; simp; done) | (congr 1; simp only [IntKind.wrap_u64, IntKind.wrap_i64, IntKind.wrap_u8]; omega) | (congr 1 <;> omega))), (agr rfl (by first | rfl | (congr 1; omega) | (congr 1; simp; done) | (congr 1; simp only [IntKind.wrap_u64, IntKind.wrap_i64, IntKind.wrap_u8]; omega) | (congr 1 <;> omega))), trivial⟩, hB, hS1, ho1, (by omega), rfl⟩
      · refine C_exit (X_then (X_then (X_hit (N_then (C_seq (C_reg ?_))))))
        refine L_buildSlice (pv := [(0, .string (⟨#[]⟩)), (1, .string (⟨#[115, 105, 122, 101]⟩)), (2, .string (⟨#[104, 101, 97, 100]⟩)), (3, .string (⟨#[114, 101, 99, 111, 114, 100]⟩)), (4, .string (⟨#[111, 114, 100, 101, 114]⟩)), (5, .string (⟨#[103, 97, 112]⟩)), (6, .string (⟨#[111, 108, 100]⟩)), (7, .string (⟨#[108, 105, 110, 107]⟩)), (8, .string (⟨#[116, 111, 114, 110]⟩)), (9, .string (⟨#[116, 97, 105, 108]⟩)), (10, .string (⟨#[112, 111, 111, 108]⟩)), (11, .string (⟨#[111, 100, 100]⟩)), (12, .string (⟨#[115, 112, 97, 114, 101]⟩))]) (cs := [.string (⟨#[]⟩), .string (⟨#[115, 105, 122, 101]⟩), .string (⟨#[104, 101, 97, 100]⟩), .string (⟨#[114, 101, 99, 111, 114, 100]⟩), .string (⟨#[111, 114, 100, 101, 114]⟩), .string (⟨#[103, 97, 112]⟩), .string (⟨#[111, 108, 100]⟩), .string (⟨#[108, 105, 110, 107]⟩), .string (⟨#[116, 111, 114, 110]⟩), .string (⟨#[116, 97, 105, 108]⟩), .string (⟨#[112, 111, 111, 108]⟩), .string (⟨#[111, 100, 100]⟩), .string (⟨#[115, 112, 97, 114, 101]⟩)]) slc28 zer9 rfl rfl (by kernel_rfl) rfl ?_
        intro g3 w5 eg2 hb2 hs4 hz2
        have ge2 : w.heap.size ≤ g3 := eg_ge hB eg2
        replace hB := gb_tr hB hs4
        replace hS1 := hS1.gb hs4
        replace ho := own_gb ho hs4
        refine L_run (R_assign rfl) rfl ?_
        refine L_nil (N_then (C_seq (C_reg ?_)))
        refine L_run (R_assign rfl) rfl ?_
        refine L_nil (N_then (C_seq (C_seq (C_reg ?_))))
        refine L_run (R_move rfl) rfl ?_
        refine L_run (R_eqv (R_gtr rfl rfl) (v' := .bool true) rfl) rfl ?_
        refine L_run (R_move rfl) rfl ?_
        refine L_yes rfl rfl rfl rfl ?_
        refine L_run (R_move rfl) rfl ?_
        refine L_yes rfl rfl rfl rfl ?_
        refine L_run (R_eqv (R_lss rfl rfl) (v' := .bool true) rfl) rfl ?_
        refine L_run (R_pickT rfl rfl rfl) rfl ?_
        refine L_nil (N_then (C_condT rfl rfl (C_reg ?_)))
        refine L_run (R_move rfl) rfl ?_
        refine L_run (R_move rfl) rfl ?_
        refine L_run (R_indexE (i := 10) (m := 13) (r := 10) rfl rfl rfl slc28 (by decide) rfl rfl) rfl ?_
        refine L_run (R_load1 rfl scl9 (hb2.cell (i := 10) rfl)) rfl ?_
        refine L_run (R_assign rfl) rfl ?_
        refine L_nil (N_then (C_seq (C_reg ?_)))
        refine L_run (R_move rfl) rfl ?_
        refine L_call rfl cb6 (fname10) rfl ?_
        rintro _ w6 ⟨hs5, rfl⟩
        replace hB := gb_tr hB hs5
        replace hS1 := hS1.gb hs5
        replace ho := own_gb ho hs5
        replace hb2 := hb2.gb hs5
        refine L_run (R_move rfl) rfl ?_
        refine L_run (R_eqv (R_eqlS rfl rfl) (v' := .bool true) (bT' rfl)) rfl ?_
        refine L_run (R_move rfl) rfl ?_
        refine L_yes rfl rfl rfl rfl ?_
        refine L_run (R_move rfl) rfl ?_
        refine L_yes rfl rfl rfl rfl ?_
        have e9 : xs1.take k = xs1 := List.take_of_length_le (by omega)
        rw [e9] at ho ⊢
        refine L_call rfl cb7 (corrupt (l := xs1) (own_of ho).2.2 (by omega)) rfl ?_
        rintro _ w7 ⟨hs6, rfl⟩
        replace hB := gb_tr hB hs6
        replace hS1 := hS1.gb hs6
        replace ho := own_gb ho hs6
        replace hb2 := hb2.gb hs6
        refine L_yes rfl rfl rfl rfl ?_
        refine L_run (R_move rfl) rfl ?_
        refine L_yes rfl rfl rfl rfl ?_
        refine L_call rfl cb8 (refHas (l := xs1) hS1 (by omega)) rfl ?_
        rintro _ w8 ⟨hs7, rfl⟩
        replace hB := gb_tr hB hs7
        replace hS1 := hS1.gb hs7
        replace ho := own_gb ho hs7
        replace hb2 := hb2.gb hs7
        refine L_yes rfl rfl rfl rfl ?_
        refine L_run (R_eqv (R_eqlB rfl rfl boo4) (v' := .bool true) (by simp)) rfl ?_
        refine L_run (R_pickT rfl rfl rfl) rfl ?_
        refine L_run (R_move rfl) rfl ?_
        refine L_yes rfl rfl rfl rfl ?_
        refine L_call rfl cb5 (awake49) rfl ?_
        rintro _ w9 ⟨hs8, rfl⟩
        replace hB := gb_tr hB hs8
        replace hS1 := hS1.gb hs8
        replace ho := own_gb ho hs8
        replace hb2 := hb2.gb hs8
        refine L_run (R_pickT rfl rfl rfl) rfl ?_
        refine L_run (R_assign rfl) rfl ?_
        refine L_nil (N_then (C_ret ?_))
        refine ret1 Tryd.results3 rfl ?_
        exact ⟨hB, rfl⟩

theorem walk11 {w : World} {A1 : Option Addr} {c1 : Nat} {xs1 : List Fnd} (hS1 : Sli 0 0 w.heap.size w A1 (fl encF xs1)) (hl1 : xs1.length ≤ c1) (hm1 : c1 * 24 ≤ 140737488351232) (hg1 : ∀ x ∈ xs1, GoodF x) :
    Runs Tryd.prog 3 #[.int .i64 11, .slice A1 xs1.length c1] w (fun v w' => w.grownBy w' none ∧ v = .bool true) := by
  have hB := gb_refl w none
  refine enter Tryd.func3 Tryd.ntmps3 rfl rfl ?_
  refine C_seq (C_reg ?_)
  refine L_run (R_assign rfl) rfl ?_
  refine L_nil (N_then (C_seq (C_seq (C_reg ?_))))
  refine L_run (R_move rfl) rfl ?_
  refine L_run (R_lenSl rfl slc22) rfl ?_
  refine L_run (R_gtr rfl rfl) rfl ?_
  refine L_nil (N_then ?_)
  refine C_if rfl (fun h1 => ?_) (fun h1 => ?_)
  · refine C_seq (C_reg ?_)
    refine L_call rfl cb5 (awake49) rfl ?_
    rintro _ w1 ⟨hs1, rfl⟩
    replace hB := gb_tr hB hs1
    replace hS1 := hS1.gb hs1
    refine L_run (R_assign rfl) rfl ?_
    refine L_nil (N_then (C_ret (R_then ?_)))
    refine ret1 Tryd.results3 rfl ?_
    exact ⟨hB, rfl⟩
  · refine C_skip (N_then (C_seq (C_reg ?_)))
    refine L_run (R_assign rfl) rfl ?_
    refine L_nil (N_then (C_seq (C_seq (C_reg ?_))))
    refine L_run (R_assign rfl) rfl ?_
    refine L_nil (N_then (C_block ?_))
    refine C_loop (fun m_ a_ w_ => ∃ (σ_ : Nat → Value) (A' : Option Addr) (c' : Nat) (k : Nat), a_ = Ac 51 σ_ [] [(0, .int .i64 11), (1, .slice A1 xs1.length c1), (4, .bool false), (5, .slice A' ((xs1.take k).length) c'), (6, .int .i64 (k : Int))] ∧ w.grownBy w_ none ∧ Sli 0 0 w.heap.size w_ A1 (fl encF xs1) ∧ World.ownsRow w_ w.heap.size 26 2 (.slice A' (xs1.take k).length c') (xs1.take k).length (fl encF (xs1.take k)) ∧ (k ≤ xs1.length) ∧ xs1.length - k = m_) (xs1.length - 0) ?_ ?_
    · exact ⟨_, none, 0, 0, Ac_frg ⟨rfl, rfl, rfl, (agr rfl (by first | rfl | (congr 1; omega) | (congr 1; simp; done) | (congr 1; simp only [IntKind.wrap_u64, IntKind.wrap_i64, IntKind.wrap_u8]; omega) | (congr 1 <;> omega))), (agr rfl (by first | rfl | (congr 1; omega) | (congr 1; simp; done) | (congr 1; simp only [IntKind.wrap_u64, IntKind.wrap_i64, IntKind.wrap_u8]; omega) | (congr 1 <;> omega))), trivial⟩, hB, hS1, (own_nil w.heap.size 26 2 _), (Nat.zero_le _), rfl⟩
    · clear hB
      clear hS1
      rintro m_ a_ w2 ⟨σ_, A', c', k, rfl, hB, hS1, ho, hk, rfl⟩
      refine C_seq (C_seq (C_reg ?_))
      refine L_run (R_move rfl) rfl ?_
      refine L_run (R_move rfl) rfl ?_
      refine L_run (R_lenSl rfl slc22) rfl ?_
      refine L_run (R_lss rfl rfl) rfl ?_
      refine L_nil (N_then ?_)
      refine C_if rfl (fun h2 => ?_) (fun h2 => ?_)
      · refine C_skip (N_then (C_seq (C_block (C_reg ?_))))
        refine L_run (R_move rfl) rfl ?_
        refine L_run (R_move rfl) rfl ?_
        refine L_run (R_move rfl) rfl ?_
        have hl1 : k < xs1.length := by first | omega | (simp; omega)
        refine T_index (xs := xs1) (i := k) EncF rfl rfl (by first | rfl | omega) slc22 hl1 hS1 rfl ?_
        intro g1 o1 ha1
        refine L_run (R_loadA (vs := [.string ((xs1[k]).file), .int .i64 ((xs1[k]).code)]) rfl agg27 (At.pre ha1 rfl) rfl) rfl ?_
        refine L_buildSlice (pv := [(0, .agg #[.string ((xs1[k]).file), .int .i64 ((xs1[k]).code)])]) (cs := [.string ((xs1[k]).file), .int .i64 ((xs1[k]).code)]) slc24 zer26 rfl rfl (by kernel_rfl) rfl ?_
        intro g2 w3 eg1 hb1 hs2 hz1
        have ge1 : w.heap.size ≤ g2 := eg_ge hB eg1
        have hap1 : ∀ k_, (Value.slice A' (xs1.take k).length c').ownBlock = some k_ → k_ ≠ g2 := fun k_ hk => by have h_ := (World.ownsRow.lt ho k_ hk).2; omega
        replace hB := gb_tr hB hs2
        replace hS1 := hS1.gb hs2
        replace ho := own_gb ho hs2
        replace ha1 := At.gb ha1 hs2 (by simp)
        refine T_append (xs := (xs1.take k)) (ys := [(⟨(xs1[k]).file, (xs1[k]).code⟩ : Fnd)]) EncF slc24 rfl rfl ho (Blk.sli (m := 0) hb1) (by first | omega | (simp; done) | (simp; omega)) (by have := hB.size; omega) rfl ?_
        intro A_1 c_1 w4 ho1 hs3 hat1
        replace hB := gb_tro hB ho hs3 (Nat.le_refl _)
        replace hS1 := hS1.grown hs3 (fun k hk => .inr (Nat.le_trans (Nat.le_refl _) (World.ownsRow.lt ho k hk).1))
        refine L_run (R_assign rfl) rfl ?_
        refine L_nil (N_in (N_then (C_reg ?_)))
        refine L_run (R_move rfl) rfl ?_
        refine L_run (R_add64 rfl rfl (by omega)) rfl ?_
        refine L_run (R_assign rfl) rfl ?_
        refine L_nil (N_then ?_)
        have e_ : (xs1.take k) ++ ([(⟨(xs1[k]).file, (xs1[k]).code⟩ : Fnd)]) = xs1.take (k + 1) := by rw [List.take_add_one, List.getElem?_eq_getElem (by omega)]; rfl
        rw [e_] at ho1 ⊢
        exact ⟨xs1.length - (k + 1), by omega, _, A_1, c_1, (k + 1), Ac_frg ⟨rfl, rfl, rfl, (agr rfl (by first | rfl | (congr 1; omega) | (congr 1; simp; done) | (congr 1; simp only [IntKind.wrap_u64, IntKind.wrap_i64, IntKind.wrap_u8]; omega) | (congr 1 <;> omega))), (agr rfl (by first | rfl | (congr 1; omega) | (congr 1; simp; done) | (congr 1; simp only [IntKind.wrap_u64, IntKind.wrap_i64, IntKind.wrap_u8]; omega) | (congr 1 <;> omega))), trivial⟩, hB, hS1, ho1, (by omega), rfl⟩
      · refine C_exit (X_then (X_then (X_hit (N_then (C_seq (C_reg ?_))))))
        refine L_buildSlice (pv := [(0, .string (⟨#[]⟩)), (1, .string (⟨#[115, 105, 122, 101]⟩)), (2, .string (⟨#[104, 101, 97, 100]⟩)), (3, .string (⟨#[114, 101, 99, 111, 114, 100]⟩)), (4, .string (⟨#[111, 114, 100, 101, 114]⟩)), (5, .string (⟨#[103, 97, 112]⟩)), (6, .string (⟨#[111, 108, 100]⟩)), (7, .string (⟨#[108, 105, 110, 107]⟩)), (8, .string (⟨#[116, 111, 114, 110]⟩)), (9, .string (⟨#[116, 97, 105, 108]⟩)), (10, .string (⟨#[112, 111, 111, 108]⟩)), (11, .string (⟨#[111, 100, 100]⟩)), (12, .string (⟨#[115, 112, 97, 114, 101]⟩))]) (cs := [.string (⟨#[]⟩), .string (⟨#[115, 105, 122, 101]⟩), .string (⟨#[104, 101, 97, 100]⟩), .string (⟨#[114, 101, 99, 111, 114, 100]⟩), .string (⟨#[111, 114, 100, 101, 114]⟩), .string (⟨#[103, 97, 112]⟩), .string (⟨#[111, 108, 100]⟩), .string (⟨#[108, 105, 110, 107]⟩), .string (⟨#[116, 111, 114, 110]⟩), .string (⟨#[116, 97, 105, 108]⟩), .string (⟨#[112, 111, 111, 108]⟩), .string (⟨#[111, 100, 100]⟩), .string (⟨#[115, 112, 97, 114, 101]⟩)]) slc28 zer9 rfl rfl (by kernel_rfl) rfl ?_
        intro g3 w5 eg2 hb2 hs4 hz2
        have ge2 : w.heap.size ≤ g3 := eg_ge hB eg2
        replace hB := gb_tr hB hs4
        replace hS1 := hS1.gb hs4
        replace ho := own_gb ho hs4
        refine L_run (R_assign rfl) rfl ?_
        refine L_nil (N_then (C_seq (C_reg ?_)))
        refine L_run (R_assign rfl) rfl ?_
        refine L_nil (N_then (C_seq (C_seq (C_reg ?_))))
        refine L_run (R_move rfl) rfl ?_
        refine L_run (R_eqv (R_gtr rfl rfl) (v' := .bool true) rfl) rfl ?_
        refine L_run (R_move rfl) rfl ?_
        refine L_yes rfl rfl rfl rfl ?_
        refine L_run (R_move rfl) rfl ?_
        refine L_yes rfl rfl rfl rfl ?_
        refine L_run (R_eqv (R_lss rfl rfl) (v' := .bool true) rfl) rfl ?_
        refine L_run (R_pickT rfl rfl rfl) rfl ?_
        refine L_nil (N_then (C_condT rfl rfl (C_reg ?_)))
        refine L_run (R_move rfl) rfl ?_
        refine L_run (R_move rfl) rfl ?_
        refine L_run (R_indexE (i := 11) (m := 13) (r := 11) rfl rfl rfl slc28 (by decide) rfl rfl) rfl ?_
        refine L_run (R_load1 rfl scl9 (hb2.cell (i := 11) rfl)) rfl ?_
        refine L_run (R_assign rfl) rfl ?_
        refine L_nil (N_then (C_seq (C_reg ?_)))
        refine L_run (R_move rfl) rfl ?_
        refine L_call rfl cb6 (fname11) rfl ?_
        rintro _ w6 ⟨hs5, rfl⟩
        replace hB := gb_tr hB hs5
        replace hS1 := hS1.gb hs5
        replace ho := own_gb ho hs5
        replace hb2 := hb2.gb hs5
        refine L_run (R_move rfl) rfl ?_
        refine L_run (R_eqv (R_eqlS rfl rfl) (v' := .bool true) (bT' rfl)) rfl ?_
        refine L_run (R_move rfl) rfl ?_
        refine L_yes rfl rfl rfl rfl ?_
        refine L_run (R_move rfl) rfl ?_
        refine L_yes rfl rfl rfl rfl ?_
        have e9 : xs1.take k = xs1 := List.take_of_length_le (by omega)
        rw [e9] at ho ⊢
        refine L_call rfl cb7 (corrupt (l := xs1) (own_of ho).2.2 (by omega)) rfl ?_
        rintro _ w7 ⟨hs6, rfl⟩
        replace hB := gb_tr hB hs6
        replace hS1 := hS1.gb hs6
        replace ho := own_gb ho hs6
        replace hb2 := hb2.gb hs6
        refine L_yes rfl rfl rfl rfl ?_
        refine L_run (R_move rfl) rfl ?_
        refine L_yes rfl rfl rfl rfl ?_
        refine L_call rfl cb8 (refHas (l := xs1) hS1 (by omega)) rfl ?_
        rintro _ w8 ⟨hs7, rfl⟩
        replace hB := gb_tr hB hs7
        replace hS1 := hS1.gb hs7
        replace ho := own_gb ho hs7
        replace hb2 := hb2.gb hs7
        refine L_yes rfl rfl rfl rfl ?_
        refine L_run (R_eqv (R_eqlB rfl rfl boo4) (v' := .bool true) (by simp)) rfl ?_
        refine L_run (R_pickT rfl rfl rfl) rfl ?_
        refine L_run (R_move rfl) rfl ?_
        refine L_yes rfl rfl rfl rfl ?_
        refine L_call rfl cb5 (awake49) rfl ?_
        rintro _ w9 ⟨hs8, rfl⟩
        replace hB := gb_tr hB hs8
        replace hS1 := hS1.gb hs8
        replace ho := own_gb ho hs8
        replace hb2 := hb2.gb hs8
        refine L_run (R_pickT rfl rfl rfl) rfl ?_
        refine L_run (R_assign rfl) rfl ?_
        refine L_nil (N_then (C_ret ?_))
        refine ret1 Tryd.results3 rfl ?_
        exact ⟨hB, rfl⟩

theorem walk12 {w : World} {A1 : Option Addr} {c1 : Nat} {xs1 : List Fnd} (hS1 : Sli 0 0 w.heap.size w A1 (fl encF xs1)) (hl1 : xs1.length ≤ c1) (hm1 : c1 * 24 ≤ 140737488351232) (hg1 : ∀ x ∈ xs1, GoodF x) :
    Runs Tryd.prog 3 #[.int .i64 12, .slice A1 xs1.length c1] w (fun v w' => w.grownBy w' none ∧ v = .bool true) := by
  have hB := gb_refl w none
  refine enter Tryd.func3 Tryd.ntmps3 rfl rfl ?_
  refine C_seq (C_reg ?_)
  refine L_run (R_assign rfl) rfl ?_
  refine L_nil (N_then (C_seq (C_seq (C_reg ?_))))
  refine L_run (R_move rfl) rfl ?_
  refine L_run (R_lenSl rfl slc22) rfl ?_
  refine L_run (R_gtr rfl rfl) rfl ?_
  refine L_nil (N_then ?_)
  refine C_if rfl (fun h1 => ?_) (fun h1 => ?_)
  · refine C_seq (C_reg ?_)
    refine L_call rfl cb5 (awake49) rfl ?_
    rintro _ w1 ⟨hs1, rfl⟩
    replace hB := gb_tr hB hs1
    replace hS1 := hS1.gb hs1
    refine L_run (R_assign rfl) rfl ?_
    refine L_nil (N_then (C_ret (R_then ?_)))
    refine ret1 Tryd.results3 rfl ?_
    exact ⟨hB, rfl⟩
  · refine C_skip (N_then (C_seq (C_reg ?_)))
    refine L_run (R_assign rfl) rfl ?_
    refine L_nil (N_then (C_seq (C_seq (C_reg ?_))))
    refine L_run (R_assign rfl) rfl ?_
    refine L_nil (N_then (C_block ?_))
    refine C_loop (fun m_ a_ w_ => ∃ (σ_ : Nat → Value) (A' : Option Addr) (c' : Nat) (k : Nat), a_ = Ac 51 σ_ [] [(0, .int .i64 12), (1, .slice A1 xs1.length c1), (4, .bool false), (5, .slice A' ((xs1.take k).length) c'), (6, .int .i64 (k : Int))] ∧ w.grownBy w_ none ∧ Sli 0 0 w.heap.size w_ A1 (fl encF xs1) ∧ World.ownsRow w_ w.heap.size 26 2 (.slice A' (xs1.take k).length c') (xs1.take k).length (fl encF (xs1.take k)) ∧ (k ≤ xs1.length) ∧ xs1.length - k = m_) (xs1.length - 0) ?_ ?_
    · exact ⟨_, none, 0, 0, Ac_frg ⟨rfl, rfl, rfl, (agr rfl (by first | rfl | (congr 1; omega) | (congr 1; simp; done) | (congr 1; simp only [IntKind.wrap_u64, IntKind.wrap_i64, IntKind.wrap_u8]; omega) | (congr 1 <;> omega))), (agr rfl (by first | rfl | (congr 1; omega) | (congr 1; simp; done) | (congr 1; simp only [IntKind.wrap_u64, IntKind.wrap_i64, IntKind.wrap_u8]; omega) | (congr 1 <;> omega))), trivial⟩, hB, hS1, (own_nil w.heap.size 26 2 _), (Nat.zero_le _), rfl⟩
    · clear hB
      clear hS1
      rintro m_ a_ w2 ⟨σ_, A', c', k, rfl, hB, hS1, ho, hk, rfl⟩
      refine C_seq (C_seq (C_reg ?_))
      refine L_run (R_move rfl) rfl ?_
      refine L_run (R_move rfl) rfl ?_
      refine L_run (R_lenSl rfl slc22) rfl ?_
      refine L_run (R_lss rfl rfl) rfl ?_
      refine L_nil (N_then ?_)
      refine C_if rfl (fun h2 => ?_) (fun h2 => ?_)
      · refine C_skip (N_then (C_seq (C_block (C_reg ?_))))
        refine L_run (R_move rfl) rfl ?_
        refine L_run (R_move rfl) rfl ?_
        refine L_run (R_move rfl) rfl ?_
        have hl1 : k < xs1.length := by first | omega | (simp; omega)
        refine T_index (xs := xs1) (i := k) EncF rfl rfl (by first | rfl | omega) slc22 hl1 hS1 rfl ?_
        intro g1 o1 ha1
        refine L_run (R_loadA (vs := [.string ((xs1[k]).file), .int .i64 ((xs1[k]).code)]) rfl agg27 (At.pre ha1 rfl) rfl) rfl ?_
        refine L_buildSlice (pv := [(0, .agg #[.string ((xs1[k]).file), .int .i64 ((xs1[k]).code)])]) (cs := [.string ((xs1[k]).file), .int .i64 ((xs1[k]).code)]) slc24 zer26 rfl rfl (by kernel_rfl) rfl ?_
        intro g2 w3 eg1 hb1 hs2 hz1
        have ge1 : w.heap.size ≤ g2 := eg_ge hB eg1
        have hap1 : ∀ k_, (Value.slice A' (xs1.take k).length c').ownBlock = some k_ → k_ ≠ g2 := fun k_ hk => by have h_ := (World.ownsRow.lt ho k_ hk).2; omega
        replace hB := gb_tr hB hs2
        replace hS1 := hS1.gb hs2
        replace ho := own_gb ho hs2
        replace ha1 := At.gb ha1 hs2 (by simp)
        refine T_append (xs := (xs1.take k)) (ys := [(⟨(xs1[k]).file, (xs1[k]).code⟩ : Fnd)]) EncF slc24 rfl rfl ho (Blk.sli (m := 0) hb1) (by first | omega | (simp; done) | (simp; omega)) (by have := hB.size; omega) rfl ?_
        intro A_1 c_1 w4 ho1 hs3 hat1
        replace hB := gb_tro hB ho hs3 (Nat.le_refl _)
        replace hS1 := hS1.grown hs3 (fun k hk => .inr (Nat.le_trans (Nat.le_refl _) (World.ownsRow.lt ho k hk).1))
        refine L_run (R_assign rfl) rfl ?_
        refine L_nil (N_in (N_then (C_reg ?_)))
        refine L_run (R_move rfl) rfl ?_
        refine L_run (R_add64 rfl rfl (by omega)) rfl ?_
        refine L_run (R_assign rfl) rfl ?_
        refine L_nil (N_then ?_)
        have e_ : (xs1.take k) ++ ([(⟨(xs1[k]).file, (xs1[k]).code⟩ : Fnd)]) = xs1.take (k + 1) := by rw [List.take_add_one, List.getElem?_eq_getElem (by omega)]; rfl
        rw [e_] at ho1 ⊢
        exact ⟨xs1.length - (k + 1), by omega, _, A_1, c_1, (k + 1), Ac_frg ⟨rfl, rfl, rfl, (agr rfl (by first | rfl | (congr 1; omega) | (congr 1; simp; done) | (congr 1; simp only [IntKind.wrap_u64, IntKind.wrap_i64, IntKind.wrap_u8]; omega) | (congr 1 <;> omega))), (agr rfl (by first | rfl | (congr 1; omega) | (congr 1; simp; done) | (congr 1; simp only [IntKind.wrap_u64, IntKind.wrap_i64, IntKind.wrap_u8]; omega) | (congr 1 <;> omega))), trivial⟩, hB, hS1, ho1, (by omega), rfl⟩
      · refine C_exit (X_then (X_then (X_hit (N_then (C_seq (C_reg ?_))))))
        refine L_buildSlice (pv := [(0, .string (⟨#[]⟩)), (1, .string (⟨#[115, 105, 122, 101]⟩)), (2, .string (⟨#[104, 101, 97, 100]⟩)), (3, .string (⟨#[114, 101, 99, 111, 114, 100]⟩)), (4, .string (⟨#[111, 114, 100, 101, 114]⟩)), (5, .string (⟨#[103, 97, 112]⟩)), (6, .string (⟨#[111, 108, 100]⟩)), (7, .string (⟨#[108, 105, 110, 107]⟩)), (8, .string (⟨#[116, 111, 114, 110]⟩)), (9, .string (⟨#[116, 97, 105, 108]⟩)), (10, .string (⟨#[112, 111, 111, 108]⟩)), (11, .string (⟨#[111, 100, 100]⟩)), (12, .string (⟨#[115, 112, 97, 114, 101]⟩))]) (cs := [.string (⟨#[]⟩), .string (⟨#[115, 105, 122, 101]⟩), .string (⟨#[104, 101, 97, 100]⟩), .string (⟨#[114, 101, 99, 111, 114, 100]⟩), .string (⟨#[111, 114, 100, 101, 114]⟩), .string (⟨#[103, 97, 112]⟩), .string (⟨#[111, 108, 100]⟩), .string (⟨#[108, 105, 110, 107]⟩), .string (⟨#[116, 111, 114, 110]⟩), .string (⟨#[116, 97, 105, 108]⟩), .string (⟨#[112, 111, 111, 108]⟩), .string (⟨#[111, 100, 100]⟩), .string (⟨#[115, 112, 97, 114, 101]⟩)]) slc28 zer9 rfl rfl (by kernel_rfl) rfl ?_
        intro g3 w5 eg2 hb2 hs4 hz2
        have ge2 : w.heap.size ≤ g3 := eg_ge hB eg2
        replace hB := gb_tr hB hs4
        replace hS1 := hS1.gb hs4
        replace ho := own_gb ho hs4
        refine L_run (R_assign rfl) rfl ?_
        refine L_nil (N_then (C_seq (C_reg ?_)))
        refine L_run (R_assign rfl) rfl ?_
        refine L_nil (N_then (C_seq (C_seq (C_reg ?_))))
        refine L_run (R_move rfl) rfl ?_
        refine L_run (R_eqv (R_gtr rfl rfl) (v' := .bool true) rfl) rfl ?_
        refine L_run (R_move rfl) rfl ?_
        refine L_yes rfl rfl rfl rfl ?_
        refine L_run (R_move rfl) rfl ?_
        refine L_yes rfl rfl rfl rfl ?_
        refine L_run (R_eqv (R_lss rfl rfl) (v' := .bool true) rfl) rfl ?_
        refine L_run (R_pickT rfl rfl rfl) rfl ?_
        refine L_nil (N_then (C_condT rfl rfl (C_reg ?_)))
        refine L_run (R_move rfl) rfl ?_
        refine L_run (R_move rfl) rfl ?_
        refine L_run (R_indexE (i := 12) (m := 13) (r := 12) rfl rfl rfl slc28 (by decide) rfl rfl) rfl ?_
        refine L_run (R_load1 rfl scl9 (hb2.cell (i := 12) rfl)) rfl ?_
        refine L_run (R_assign rfl) rfl ?_
        refine L_nil (N_then (C_seq (C_reg ?_)))
        refine L_run (R_move rfl) rfl ?_
        refine L_call rfl cb6 (fname12) rfl ?_
        rintro _ w6 ⟨hs5, rfl⟩
        replace hB := gb_tr hB hs5
        replace hS1 := hS1.gb hs5
        replace ho := own_gb ho hs5
        replace hb2 := hb2.gb hs5
        refine L_run (R_move rfl) rfl ?_
        refine L_run (R_eqv (R_eqlS rfl rfl) (v' := .bool true) (bT' rfl)) rfl ?_
        refine L_run (R_move rfl) rfl ?_
        refine L_yes rfl rfl rfl rfl ?_
        refine L_run (R_move rfl) rfl ?_
        refine L_yes rfl rfl rfl rfl ?_
        have e9 : xs1.take k = xs1 := List.take_of_length_le (by omega)
        rw [e9] at ho ⊢
        refine L_call rfl cb7 (corrupt (l := xs1) (own_of ho).2.2 (by omega)) rfl ?_
        rintro _ w7 ⟨hs6, rfl⟩
        replace hB := gb_tr hB hs6
        replace hS1 := hS1.gb hs6
        replace ho := own_gb ho hs6
        replace hb2 := hb2.gb hs6
        refine L_yes rfl rfl rfl rfl ?_
        refine L_run (R_move rfl) rfl ?_
        refine L_yes rfl rfl rfl rfl ?_
        refine L_call rfl cb8 (refHas (l := xs1) hS1 (by omega)) rfl ?_
        rintro _ w8 ⟨hs7, rfl⟩
        replace hB := gb_tr hB hs7
        replace hS1 := hS1.gb hs7
        replace ho := own_gb ho hs7
        replace hb2 := hb2.gb hs7
        refine L_yes rfl rfl rfl rfl ?_
        refine L_run (R_eqv (R_eqlB rfl rfl boo4) (v' := .bool true) (by simp)) rfl ?_
        refine L_run (R_pickT rfl rfl rfl) rfl ?_
        refine L_run (R_move rfl) rfl ?_
        refine L_yes rfl rfl rfl rfl ?_
        refine L_call rfl cb5 (awake49) rfl ?_
        rintro _ w9 ⟨hs8, rfl⟩
        replace hB := gb_tr hB hs8
        replace hS1 := hS1.gb hs8
        replace ho := own_gb ho hs8
        replace hb2 := hb2.gb hs8
        refine L_run (R_pickT rfl rfl rfl) rfl ?_
        refine L_run (R_assign rfl) rfl ?_
        refine L_nil (N_then (C_ret ?_))
        refine ret1 Tryd.results3 rfl ?_
        exact ⟨hB, rfl⟩

theorem walklo {w : World} {n : Int} (hg0 : (Lit.int .i64 n).wf = true) {A1 : Option Addr} {c1 : Nat} {xs1 : List Fnd} (hS1 : Sli 0 0 w.heap.size w A1 (fl encF xs1)) (hl1 : xs1.length ≤ c1) (hm1 : c1 * 24 ≤ 140737488351232) (hg1 : ∀ x ∈ xs1, GoodF x) (hq0 : ¬ (0 < n)) :
    Runs Tryd.prog 3 #[.int .i64 n, .slice A1 xs1.length c1] w (fun v w' => w.grownBy w' none ∧ v = .bool true) := by
  have hB := gb_refl w none
  refine enter Tryd.func3 Tryd.ntmps3 rfl rfl ?_
  refine C_seq (C_reg ?_)
  refine L_run (R_assign rfl) rfl ?_
  refine L_nil (N_then (C_seq (C_seq (C_reg ?_))))
  refine L_run (R_move rfl) rfl ?_
  refine L_run (R_lenSl rfl slc22) rfl ?_
  refine L_run (R_gtr rfl rfl) rfl ?_
  refine L_nil (N_then ?_)
  refine C_if rfl (fun h1 => ?_) (fun h1 => ?_)
  · refine C_seq (C_reg ?_)
    refine L_call rfl cb5 (awake49) rfl ?_
    rintro _ w1 ⟨hs1, rfl⟩
    replace hB := gb_tr hB hs1
    replace hS1 := hS1.gb hs1
    refine L_run (R_assign rfl) rfl ?_
    refine L_nil (N_then (C_ret (R_then ?_)))
    refine ret1 Tryd.results3 rfl ?_
    exact ⟨hB, rfl⟩
  · refine C_skip (N_then (C_seq (C_reg ?_)))
    refine L_run (R_assign rfl) rfl ?_
    refine L_nil (N_then (C_seq (C_seq (C_reg ?_))))
    refine L_run (R_assign rfl) rfl ?_
    refine L_nil (N_then (C_block ?_))
    refine C_loop (fun m_ a_ w_ => ∃ (σ_ : Nat → Value) (A' : Option Addr) (c' : Nat) (k : Nat), a_ = Ac 51 σ_ [] [(0, .int .i64 n), (1, .slice A1 xs1.length c1), (4, .bool false), (5, .slice A' ((xs1.take k).length) c'), (6, .int .i64 (k : Int))] ∧ w.grownBy w_ none ∧ Sli 0 0 w.heap.size w_ A1 (fl encF xs1) ∧ World.ownsRow w_ w.heap.size 26 2 (.slice A' (xs1.take k).length c') (xs1.take k).length (fl encF (xs1.take k)) ∧ (k ≤ xs1.length) ∧ xs1.length - k = m_) (xs1.length - 0) ?_ ?_
    · exact ⟨_, none, 0, 0, Ac_frg ⟨rfl, rfl, rfl, (agr rfl (by first | rfl | (congr 1; omega) | (congr 1; simp; done) | (congr 1; simp only [IntKind.wrap_u64, IntKind.wrap_i64, IntKind.wrap_u8]; omega) | (congr 1 <;> omega))), (agr rfl (by first | rfl | (congr 1; omega) | (congr 1; simp; done) | (congr 1; simp only [IntKind.wrap_u64, IntKind.wrap_i64, IntKind.wrap_u8]; omega) | (congr 1 <;> omega))), trivial⟩, hB, hS1, (own_nil w.heap.size 26 2 _), (Nat.zero_le _), rfl⟩
    · clear hB
      clear hS1
      rintro m_ a_ w2 ⟨σ_, A', c', k, rfl, hB, hS1, ho, hk, rfl⟩
      refine C_seq (C_seq (C_reg ?_))
      refine L_run (R_move rfl) rfl ?_
      refine L_run (R_move rfl) rfl ?_
      refine L_run (R_lenSl rfl slc22) rfl ?_
      refine L_run (R_lss rfl rfl) rfl ?_
      refine L_nil (N_then ?_)
      refine C_if rfl (fun h2 => ?_) (fun h2 => ?_)
      · refine C_skip (N_then (C_seq (C_block (C_reg ?_))))
        refine L_run (R_move rfl) rfl ?_
        refine L_run (R_move rfl) rfl ?_
        refine L_run (R_move rfl) rfl ?_
        have hl1 : k < xs1.length := by first | omega | (simp; omega)
        refine T_index (xs := xs1) (i := k) EncF rfl rfl (by first | rfl | omega) slc22 hl1 hS1 rfl ?_
        intro g1 o1 ha1
        refine L_run (R_loadA (vs := [.string ((xs1[k]).file), .int .i64 ((xs1[k]).code)]) rfl agg27 (At.pre ha1 rfl) rfl) rfl ?_
        refine L_buildSlice (pv := [(0, .agg #[.string ((xs1[k]).file), .int .i64 ((xs1[k]).code)])]) (cs := [.string ((xs1[k]).file), .int .i64 ((xs1[k]).code)]) slc24 zer26 rfl rfl (by kernel_rfl) rfl ?_
        intro g2 w3 eg1 hb1 hs2 hz1
        have ge1 : w.heap.size ≤ g2 := eg_ge hB eg1
        have hap1 : ∀ k_, (Value.slice A' (xs1.take k).length c').ownBlock = some k_ → k_ ≠ g2 := fun k_ hk => by have h_ := (World.ownsRow.lt ho k_ hk).2; omega
        replace hB := gb_tr hB hs2
        replace hS1 := hS1.gb hs2
        replace ho := own_gb ho hs2
        replace ha1 := At.gb ha1 hs2 (by simp)
        refine T_append (xs := (xs1.take k)) (ys := [(⟨(xs1[k]).file, (xs1[k]).code⟩ : Fnd)]) EncF slc24 rfl rfl ho (Blk.sli (m := 0) hb1) (by first | omega | (simp; done) | (simp; omega)) (by have := hB.size; omega) rfl ?_
        intro A_1 c_1 w4 ho1 hs3 hat1
        replace hB := gb_tro hB ho hs3 (Nat.le_refl _)
        replace hS1 := hS1.grown hs3 (fun k hk => .inr (Nat.le_trans (Nat.le_refl _) (World.ownsRow.lt ho k hk).1))
        refine L_run (R_assign rfl) rfl ?_
        refine L_nil (N_in (N_then (C_reg ?_)))
        refine L_run (R_move rfl) rfl ?_
        refine L_run (R_add64 rfl rfl (by omega)) rfl ?_
        refine L_run (R_assign rfl) rfl ?_
        refine L_nil (N_then ?_)
        have e_ : (xs1.take k) ++ ([(⟨(xs1[k]).file, (xs1[k]).code⟩ : Fnd)]) = xs1.take (k + 1) := by rw [List.take_add_one, List.getElem?_eq_getElem (by omega)]; rfl
        rw [e_] at ho1 ⊢
        exact ⟨xs1.length - (k + 1), by omega, _, A_1, c_1, (k + 1), Ac_frg ⟨rfl, rfl, rfl, (agr rfl (by first | rfl | (congr 1; omega) | (congr 1; simp; done) | (congr 1; simp only [IntKind.wrap_u64, IntKind.wrap_i64, IntKind.wrap_u8]; omega) | (congr 1 <;> omega))), (agr rfl (by first | rfl | (congr 1; omega) | (congr 1; simp; done) | (congr 1; simp only [IntKind.wrap_u64, IntKind.wrap_i64, IntKind.wrap_u8]; omega) | (congr 1 <;> omega))), trivial⟩, hB, hS1, ho1, (by omega), rfl⟩
      · refine C_exit (X_then (X_then (X_hit (N_then (C_seq (C_reg ?_))))))
        refine L_buildSlice (pv := [(0, .string (⟨#[]⟩)), (1, .string (⟨#[115, 105, 122, 101]⟩)), (2, .string (⟨#[104, 101, 97, 100]⟩)), (3, .string (⟨#[114, 101, 99, 111, 114, 100]⟩)), (4, .string (⟨#[111, 114, 100, 101, 114]⟩)), (5, .string (⟨#[103, 97, 112]⟩)), (6, .string (⟨#[111, 108, 100]⟩)), (7, .string (⟨#[108, 105, 110, 107]⟩)), (8, .string (⟨#[116, 111, 114, 110]⟩)), (9, .string (⟨#[116, 97, 105, 108]⟩)), (10, .string (⟨#[112, 111, 111, 108]⟩)), (11, .string (⟨#[111, 100, 100]⟩)), (12, .string (⟨#[115, 112, 97, 114, 101]⟩))]) (cs := [.string (⟨#[]⟩), .string (⟨#[115, 105, 122, 101]⟩), .string (⟨#[104, 101, 97, 100]⟩), .string (⟨#[114, 101, 99, 111, 114, 100]⟩), .string (⟨#[111, 114, 100, 101, 114]⟩), .string (⟨#[103, 97, 112]⟩), .string (⟨#[111, 108, 100]⟩), .string (⟨#[108, 105, 110, 107]⟩), .string (⟨#[116, 111, 114, 110]⟩), .string (⟨#[116, 97, 105, 108]⟩), .string (⟨#[112, 111, 111, 108]⟩), .string (⟨#[111, 100, 100]⟩), .string (⟨#[115, 112, 97, 114, 101]⟩)]) slc28 zer9 rfl rfl (by kernel_rfl) rfl ?_
        intro g3 w5 eg2 hb2 hs4 hz2
        have ge2 : w.heap.size ≤ g3 := eg_ge hB eg2
        replace hB := gb_tr hB hs4
        replace hS1 := hS1.gb hs4
        replace ho := own_gb ho hs4
        refine L_run (R_assign rfl) rfl ?_
        refine L_nil (N_then (C_seq (C_reg ?_)))
        refine L_run (R_assign rfl) rfl ?_
        refine L_nil (N_then (C_seq (C_seq (C_reg ?_))))
        refine L_run (R_move rfl) rfl ?_
        refine L_run (R_gtr rfl rfl) rfl ?_
        refine L_run (R_move rfl) rfl ?_
        refine L_no rfl rfl rfl (decide_eq_false hq0) rfl ?_
        refine L_no rfl rfl rfl (decide_eq_false hq0) rfl ?_
        refine L_run (R_pickF rfl (decide_eq_false hq0) rfl) rfl ?_
        refine L_nil (N_then (C_condF rfl rfl (C_skip (N_then (C_seq (C_reg ?_))))))
        refine L_run (R_move rfl) rfl ?_
        refine L_call rfl cb6 (fname_no (n := n) (by omega)) rfl ?_
        rintro _ w6 ⟨hs5, rfl⟩
        replace hB := gb_tr hB hs5
        replace hS1 := hS1.gb hs5
        replace ho := own_gb ho hs5
        replace hb2 := hb2.gb hs5
        refine L_run (R_move rfl) rfl ?_
        refine L_run (R_eqv (R_eqlS rfl rfl) (v' := .bool true) (bT' rfl)) rfl ?_
        refine L_run (R_move rfl) rfl ?_
        refine L_yes rfl rfl rfl rfl ?_
        refine L_run (R_move rfl) rfl ?_
        refine L_yes rfl rfl rfl rfl ?_
        have e9 : xs1.take k = xs1 := List.take_of_length_le (by omega)
        rw [e9] at ho ⊢
        refine L_call rfl cb7 (corrupt (l := xs1) (own_of ho).2.2 (by omega)) rfl ?_
        rintro _ w7 ⟨hs6, rfl⟩
        replace hB := gb_tr hB hs6
        replace hS1 := hS1.gb hs6
        replace ho := own_gb ho hs6
        replace hb2 := hb2.gb hs6
        refine L_yes rfl rfl rfl rfl ?_
        refine L_run (R_move rfl) rfl ?_
        refine L_yes rfl rfl rfl rfl ?_
        refine L_call rfl cb8 (refHas (l := xs1) hS1 (by omega)) rfl ?_
        rintro _ w8 ⟨hs7, rfl⟩
        replace hB := gb_tr hB hs7
        replace hS1 := hS1.gb hs7
        replace ho := own_gb ho hs7
        replace hb2 := hb2.gb hs7
        refine L_yes rfl rfl rfl rfl ?_
        refine L_run (R_eqv (R_eqlB rfl rfl boo4) (v' := .bool true) (by simp)) rfl ?_
        refine L_run (R_pickT rfl rfl rfl) rfl ?_
        refine L_run (R_move rfl) rfl ?_
        refine L_yes rfl rfl rfl rfl ?_
        refine L_call rfl cb5 (awake49) rfl ?_
        rintro _ w9 ⟨hs8, rfl⟩
        replace hB := gb_tr hB hs8
        replace hS1 := hS1.gb hs8
        replace ho := own_gb ho hs8
        replace hb2 := hb2.gb hs8
        refine L_run (R_pickT rfl rfl rfl) rfl ?_
        refine L_run (R_assign rfl) rfl ?_
        refine L_nil (N_then (C_ret ?_))
        refine ret1 Tryd.results3 rfl ?_
        exact ⟨hB, rfl⟩

theorem walkhi {w : World} {n : Int} (hg0 : (Lit.int .i64 n).wf = true) {A1 : Option Addr} {c1 : Nat} {xs1 : List Fnd} (hS1 : Sli 0 0 w.heap.size w A1 (fl encF xs1)) (hl1 : xs1.length ≤ c1) (hm1 : c1 * 24 ≤ 140737488351232) (hg1 : ∀ x ∈ xs1, GoodF x) (hq0 : 0 < n) (hq1 : ¬ (n < 13)) :
    Runs Tryd.prog 3 #[.int .i64 n, .slice A1 xs1.length c1] w (fun v w' => w.grownBy w' none ∧ v = .bool true) := by
  have hB := gb_refl w none
  refine enter Tryd.func3 Tryd.ntmps3 rfl rfl ?_
  refine C_seq (C_reg ?_)
  refine L_run (R_assign rfl) rfl ?_
  refine L_nil (N_then (C_seq (C_seq (C_reg ?_))))
  refine L_run (R_move rfl) rfl ?_
  refine L_run (R_lenSl rfl slc22) rfl ?_
  refine L_run (R_gtr rfl rfl) rfl ?_
  refine L_nil (N_then ?_)
  refine C_if rfl (fun h1 => ?_) (fun h1 => ?_)
  · refine C_seq (C_reg ?_)
    refine L_call rfl cb5 (awake49) rfl ?_
    rintro _ w1 ⟨hs1, rfl⟩
    replace hB := gb_tr hB hs1
    replace hS1 := hS1.gb hs1
    refine L_run (R_assign rfl) rfl ?_
    refine L_nil (N_then (C_ret (R_then ?_)))
    refine ret1 Tryd.results3 rfl ?_
    exact ⟨hB, rfl⟩
  · refine C_skip (N_then (C_seq (C_reg ?_)))
    refine L_run (R_assign rfl) rfl ?_
    refine L_nil (N_then (C_seq (C_seq (C_reg ?_))))
    refine L_run (R_assign rfl) rfl ?_
    refine L_nil (N_then (C_block ?_))
    refine C_loop (fun m_ a_ w_ => ∃ (σ_ : Nat → Value) (A' : Option Addr) (c' : Nat) (k : Nat), a_ = Ac 51 σ_ [] [(0, .int .i64 n), (1, .slice A1 xs1.length c1), (4, .bool false), (5, .slice A' ((xs1.take k).length) c'), (6, .int .i64 (k : Int))] ∧ w.grownBy w_ none ∧ Sli 0 0 w.heap.size w_ A1 (fl encF xs1) ∧ World.ownsRow w_ w.heap.size 26 2 (.slice A' (xs1.take k).length c') (xs1.take k).length (fl encF (xs1.take k)) ∧ (k ≤ xs1.length) ∧ xs1.length - k = m_) (xs1.length - 0) ?_ ?_
    · exact ⟨_, none, 0, 0, Ac_frg ⟨rfl, rfl, rfl, (agr rfl (by first | rfl | (congr 1; omega) | (congr 1; simp; done) | (congr 1; simp only [IntKind.wrap_u64, IntKind.wrap_i64, IntKind.wrap_u8]; omega) | (congr 1 <;> omega))), (agr rfl (by first | rfl | (congr 1; omega) | (congr 1; simp; done) | (congr 1; simp only [IntKind.wrap_u64, IntKind.wrap_i64, IntKind.wrap_u8]; omega) | (congr 1 <;> omega))), trivial⟩, hB, hS1, (own_nil w.heap.size 26 2 _), (Nat.zero_le _), rfl⟩
    · clear hB
      clear hS1
      rintro m_ a_ w2 ⟨σ_, A', c', k, rfl, hB, hS1, ho, hk, rfl⟩
      refine C_seq (C_seq (C_reg ?_))
      refine L_run (R_move rfl) rfl ?_
      refine L_run (R_move rfl) rfl ?_
      refine L_run (R_lenSl rfl slc22) rfl ?_
      refine L_run (R_lss rfl rfl) rfl ?_
      refine L_nil (N_then ?_)
      refine C_if rfl (fun h2 => ?_) (fun h2 => ?_)
      · refine C_skip (N_then (C_seq (C_block (C_reg ?_))))
        refine L_run (R_move rfl) rfl ?_
        refine L_run (R_move rfl) rfl ?_
        refine L_run (R_move rfl) rfl ?_
        have hl1 : k < xs1.length := by first | omega | (simp; omega)
        refine T_index (xs := xs1) (i := k) EncF rfl rfl (by first | rfl | omega) slc22 hl1 hS1 rfl ?_
        intro g1 o1 ha1
        refine L_run (R_loadA (vs := [.string ((xs1[k]).file), .int .i64 ((xs1[k]).code)]) rfl agg27 (At.pre ha1 rfl) rfl) rfl ?_
        refine L_buildSlice (pv := [(0, .agg #[.string ((xs1[k]).file), .int .i64 ((xs1[k]).code)])]) (cs := [.string ((xs1[k]).file), .int .i64 ((xs1[k]).code)]) slc24 zer26 rfl rfl (by kernel_rfl) rfl ?_
        intro g2 w3 eg1 hb1 hs2 hz1
        have ge1 : w.heap.size ≤ g2 := eg_ge hB eg1
        have hap1 : ∀ k_, (Value.slice A' (xs1.take k).length c').ownBlock = some k_ → k_ ≠ g2 := fun k_ hk => by have h_ := (World.ownsRow.lt ho k_ hk).2; omega
        replace hB := gb_tr hB hs2
        replace hS1 := hS1.gb hs2
        replace ho := own_gb ho hs2
        replace ha1 := At.gb ha1 hs2 (by simp)
        refine T_append (xs := (xs1.take k)) (ys := [(⟨(xs1[k]).file, (xs1[k]).code⟩ : Fnd)]) EncF slc24 rfl rfl ho (Blk.sli (m := 0) hb1) (by first | omega | (simp; done) | (simp; omega)) (by have := hB.size; omega) rfl ?_
        intro A_1 c_1 w4 ho1 hs3 hat1
        replace hB := gb_tro hB ho hs3 (Nat.le_refl _)
        replace hS1 := hS1.grown hs3 (fun k hk => .inr (Nat.le_trans (Nat.le_refl _) (World.ownsRow.lt ho k hk).1))
        refine L_run (R_assign rfl) rfl ?_
        refine L_nil (N_in (N_then (C_reg ?_)))
        refine L_run (R_move rfl) rfl ?_
        refine L_run (R_add64 rfl rfl (by omega)) rfl ?_
        refine L_run (R_assign rfl) rfl ?_
        refine L_nil (N_then ?_)
        have e_ : (xs1.take k) ++ ([(⟨(xs1[k]).file, (xs1[k]).code⟩ : Fnd)]) = xs1.take (k + 1) := by rw [List.take_add_one, List.getElem?_eq_getElem (by omega)]; rfl
        rw [e_] at ho1 ⊢
        exact ⟨xs1.length - (k + 1), by omega, _, A_1, c_1, (k + 1), Ac_frg ⟨rfl, rfl, rfl, (agr rfl (by first | rfl | (congr 1; omega) | (congr 1; simp; done) | (congr 1; simp only [IntKind.wrap_u64, IntKind.wrap_i64, IntKind.wrap_u8]; omega) | (congr 1 <;> omega))), (agr rfl (by first | rfl | (congr 1; omega) | (congr 1; simp; done) | (congr 1; simp only [IntKind.wrap_u64, IntKind.wrap_i64, IntKind.wrap_u8]; omega) | (congr 1 <;> omega))), trivial⟩, hB, hS1, ho1, (by omega), rfl⟩
      · refine C_exit (X_then (X_then (X_hit (N_then (C_seq (C_reg ?_))))))
        refine L_buildSlice (pv := [(0, .string (⟨#[]⟩)), (1, .string (⟨#[115, 105, 122, 101]⟩)), (2, .string (⟨#[104, 101, 97, 100]⟩)), (3, .string (⟨#[114, 101, 99, 111, 114, 100]⟩)), (4, .string (⟨#[111, 114, 100, 101, 114]⟩)), (5, .string (⟨#[103, 97, 112]⟩)), (6, .string (⟨#[111, 108, 100]⟩)), (7, .string (⟨#[108, 105, 110, 107]⟩)), (8, .string (⟨#[116, 111, 114, 110]⟩)), (9, .string (⟨#[116, 97, 105, 108]⟩)), (10, .string (⟨#[112, 111, 111, 108]⟩)), (11, .string (⟨#[111, 100, 100]⟩)), (12, .string (⟨#[115, 112, 97, 114, 101]⟩))]) (cs := [.string (⟨#[]⟩), .string (⟨#[115, 105, 122, 101]⟩), .string (⟨#[104, 101, 97, 100]⟩), .string (⟨#[114, 101, 99, 111, 114, 100]⟩), .string (⟨#[111, 114, 100, 101, 114]⟩), .string (⟨#[103, 97, 112]⟩), .string (⟨#[111, 108, 100]⟩), .string (⟨#[108, 105, 110, 107]⟩), .string (⟨#[116, 111, 114, 110]⟩), .string (⟨#[116, 97, 105, 108]⟩), .string (⟨#[112, 111, 111, 108]⟩), .string (⟨#[111, 100, 100]⟩), .string (⟨#[115, 112, 97, 114, 101]⟩)]) slc28 zer9 rfl rfl (by kernel_rfl) rfl ?_
        intro g3 w5 eg2 hb2 hs4 hz2
        have ge2 : w.heap.size ≤ g3 := eg_ge hB eg2
        replace hB := gb_tr hB hs4
        replace hS1 := hS1.gb hs4
        replace ho := own_gb ho hs4
        refine L_run (R_assign rfl) rfl ?_
        refine L_nil (N_then (C_seq (C_reg ?_)))
        refine L_run (R_assign rfl) rfl ?_
        refine L_nil (N_then (C_seq (C_seq (C_reg ?_))))
        refine L_run (R_move rfl) rfl ?_
        refine L_run (R_gtr rfl rfl) rfl ?_
        refine L_run (R_move rfl) rfl ?_
        refine L_yes rfl rfl rfl (decide_eq_true hq0) ?_
        refine L_run (R_move rfl) rfl ?_
        refine L_yes rfl rfl rfl (decide_eq_true hq0) ?_
        refine L_run (R_lss rfl rfl) rfl ?_
        refine L_run (R_pickT rfl (decide_eq_true hq0) rfl) rfl ?_
        refine L_nil (N_then (C_condF rfl (decide_eq_false hq1) (C_skip (N_then (C_seq (C_reg ?_))))))
        refine L_run (R_move rfl) rfl ?_
        refine L_call rfl cb6 (fname_no (n := n) (by omega)) rfl ?_
        rintro _ w6 ⟨hs5, rfl⟩
        replace hB := gb_tr hB hs5
        replace hS1 := hS1.gb hs5
        replace ho := own_gb ho hs5
        replace hb2 := hb2.gb hs5
        refine L_run (R_move rfl) rfl ?_
        refine L_run (R_eqv (R_eqlS rfl rfl) (v' := .bool true) (bT' rfl)) rfl ?_
        refine L_run (R_move rfl) rfl ?_
        refine L_yes rfl rfl rfl rfl ?_
        refine L_run (R_move rfl) rfl ?_
        refine L_yes rfl rfl rfl rfl ?_
        have e9 : xs1.take k = xs1 := List.take_of_length_le (by omega)
        rw [e9] at ho ⊢
        refine L_call rfl cb7 (corrupt (l := xs1) (own_of ho).2.2 (by omega)) rfl ?_
        rintro _ w7 ⟨hs6, rfl⟩
        replace hB := gb_tr hB hs6
        replace hS1 := hS1.gb hs6
        replace ho := own_gb ho hs6
        replace hb2 := hb2.gb hs6
        refine L_yes rfl rfl rfl rfl ?_
        refine L_run (R_move rfl) rfl ?_
        refine L_yes rfl rfl rfl rfl ?_
        refine L_call rfl cb8 (refHas (l := xs1) hS1 (by omega)) rfl ?_
        rintro _ w8 ⟨hs7, rfl⟩
        replace hB := gb_tr hB hs7
        replace hS1 := hS1.gb hs7
        replace ho := own_gb ho hs7
        replace hb2 := hb2.gb hs7
        refine L_yes rfl rfl rfl rfl ?_
        refine L_run (R_eqv (R_eqlB rfl rfl boo4) (v' := .bool true) (by simp)) rfl ?_
        refine L_run (R_pickT rfl rfl rfl) rfl ?_
        refine L_run (R_move rfl) rfl ?_
        refine L_yes rfl rfl rfl rfl ?_
        refine L_call rfl cb5 (awake49) rfl ?_
        rintro _ w9 ⟨hs8, rfl⟩
        replace hB := gb_tr hB hs8
        replace hS1 := hS1.gb hs8
        replace ho := own_gb ho hs8
        replace hb2 := hb2.gb hs8
        refine L_run (R_pickT rfl rfl rfl) rfl ?_
        refine L_run (R_assign rfl) rfl ?_
        refine L_nil (N_then (C_ret ?_))
        refine ret1 Tryd.results3 rfl ?_
        exact ⟨hB, rfl⟩

theorem walk {w : World} {n : Int} (hg0 : (Lit.int .i64 n).wf = true) {A1 : Option Addr} {c1 : Nat} {xs1 : List Fnd} (hS1 : Sli 0 0 w.heap.size w A1 (fl encF xs1)) (hl1 : xs1.length ≤ c1) (hm1 : c1 * 24 ≤ 140737488351232) (hg1 : ∀ x ∈ xs1, GoodF x) : Runs Tryd.prog 3 #[.int .i64 n, .slice A1 xs1.length c1] w (fun v w' => w.grownBy w' none ∧ v = .bool true) := by
  by_cases h0 : 0 < n
  · by_cases h1 : n < 13
    · obtain rfl | rfl | rfl | rfl | rfl | rfl | rfl | rfl | rfl | rfl | rfl | rfl : n = 1 ∨ n = 2 ∨ n = 3 ∨ n = 4 ∨ n = 5 ∨ n = 6 ∨ n = 7 ∨ n = 8 ∨ n = 9 ∨ n = 10 ∨ n = 11 ∨ n = 12 := by omega
      · exact walk1 hS1 hl1 hm1 hg1
      · exact walk2 hS1 hl1 hm1 hg1
      · exact walk3 hS1 hl1 hm1 hg1
      · exact walk4 hS1 hl1 hm1 hg1
      · exact walk5 hS1 hl1 hm1 hg1
      · exact walk6 hS1 hl1 hm1 hg1
      · exact walk7 hS1 hl1 hm1 hg1
      · exact walk8 hS1 hl1 hm1 hg1
      · exact walk9 hS1 hl1 hm1 hg1
      · exact walk10 hS1 hl1 hm1 hg1
      · exact walk11 hS1 hl1 hm1 hg1
      · exact walk12 hS1 hl1 hm1 hg1
    · exact walkhi hg0 hS1 hl1 hm1 hg1 h0 h1
  · exact walklo hg0 hS1 hl1 hm1 hg1 h0

open Go.ChangeShapes Go.WideShapes Go.ChangeAt
theorem own : ownKnob Tryd.prog.godebug = none := by kernel_rfl
theorem laidOut : laidOutB Tryd.prog = true := by kernel_rfl
theorem door_met (os : Os) (args : Array Value) : laidMetH Tryd.prog Rows.fsckNamesRow.laid ((World.doorLaid Tryd.prog 14 os).forCall (fun _ _ => 0) ⟨#[], args, []⟩).memory :=
  laidMetH_of_parts3 (fuel := 8) (laidMet_of_run' 8 (by kernel_rfl) (by kernel_rfl)) (by kernel_rfl) (by kernel_rfl)
set_option maxRecDepth 100000 in
theorem lifted (os : Os) (started : os.Started) (H : Type) (enc : TypeId × Value → H) :
    ReturnsInHanded {} Tryd.checked os 3 .any (fun w args => (Rows.fsckNamesSpec.pre enc Tryd.prog Tryd.f3 [] false w args ∧ laidMetH Tryd.prog Rows.fsckNamesRow.laid w) ∧ sizedMet enc Tryd.prog Tryd.f3 (OpenSpec.ofChange Rows.fsckNamesSpec) false w args) (Rows.fsckNamesSpec.post enc Tryd.prog Tryd.f3 false true false false) := by
  refine returnsInHanded_of_change_and (C := Tryd.checked) (X := fun w _ => laidMetH Tryd.prog Rows.fsckNamesRow.laid w) (fun _ _ _ hh h => h.of_heap hh) own started (by kernel_rfl) Tryd.func3
    (ChangeSpec.witness_shaped (enc := enc) (C := Tryd.checked) (os := os) (X := fun w _ => laidMetH Tryd.prog Rows.fsckNamesRow.laid w) false (World.doorLaid Tryd.prog 14 os) #[.int .i64 0, .slice none 0 0] 8 rfl (World.shaped_of_RefB (by kernel_rfl) (by kernel_rfl)) (by kernel_rfl) (by kernel_rfl) (by kernel_rfl) (door_met os _)) ?_
  intro W base args ds gs before hval0 hW hcnd hsz0 hL _
  have hsz : (DataW.weightsEach Tryd.prog (Tryd.f3.params.toList ++ Rows.fsckNamesSpec.plain.varTypes Tryd.prog) (ds ++ gs)).all (· ≤ reachBytes) = true := hsz0
  have hval : ∀ (j : Nat) t v, Tryd.f3.params[j]? = some t → args[j]? = some v → Value.okWide Tryd.prog W .any base t v := hval0
  have hW' := hW
  obtain ⟨p, q, hA0, hV, rfl, hfz, hnd⟩ := hW
  have hA : DataW.TrodAll enc Tryd.prog W 0 (fun _ => true) true Tryd.f3.params.toList args.toList ds p := hA0
  rw [Tryd.params3] at hA hval hsz
  obtain ⟨v0, vs0, d0, ds0, p0, q0, hargs, rfl, rfl, h0, r0⟩ := trodAll_cons hA
  obtain ⟨v1, vs1, d1, ds1, p1, q1, rfl, rfl, rfl, h1, r1⟩ := trodAll_cons r0
  obtain ⟨rfl, rfl, rfl⟩ := trodAll_nil r1
  obtain rfl : args = #[v0, v1] := by cases args; simp_all
  obtain ⟨rfl, rfl⟩ := trodVars_none hV
  have lt0 : ∀ x ∈ p0, x.block < W.heap.size := by obtain ⟨m, hm⟩ := h0; exact DataW.trod_lt m _ _ _ hm
  obtain ⟨n, e0, hg0⟩ := Rdr.arg (enc := enc) (P := Tryd.prog) (W := W) (Rdr.int Tryd.underlying3) hsz (j := 0) rfl rfl h0
  obtain rfl := of_cell e0 (by intro cs e_; obtain ⟨a_, e2_⟩ := okWide_int Tryd.underlying3 (hval 0 3 v0 rfl rfl); rw [e2_] at e_; cases e_)
  have lt1 : ∀ x ∈ p1, x.block < W.heap.size := by obtain ⟨m, hm⟩ := h1; exact DataW.trod_lt m _ _ _ hm
  obtain ⟨⟨A1, c1, xs1⟩, e1, hS1, hl1, hm1, hg1⟩ := Rdr.arg (enc := enc) (P := Tryd.prog) (W := W) (Rdr.slice (ec := encF) (sz := 2) (by_ := 24) ((Rdr.struct Tryd.underlying27 rfl (by kernel_rfl) (Rds.cons (off := 0) (sz := 1) (Rdr.str Tryd.underlying9) (by kernel_rfl) rfl (by decide) (Rds.cons (off := 1) (sz := 1) (Rdr.int Tryd.underlying3) (by kernel_rfl) rfl (by decide) (Rds.nil)))).map (fun y => (⟨y.1, y.2.1⟩ : Fnd)) (e' := encF) (fun _ _ => rfl) (good' := GoodF) (fun _ h => ⟨h.1, h.2.1⟩)) EncF Tryd.underlying22 (by kernel_rfl) (by kernel_rfl)) hsz (j := 1) rfl rfl h1
  obtain rfl := of_cell e1 (by intro cs e_; obtain ⟨a_, l_, k_, e2_⟩ := okWide_slice Tryd.underlying22 (hval 1 22 v1 rfl rfl); rw [e2_] at e_; cases e_)
  refine (walk (w := W) hg0 hS1 hl1 hm1 hg1).calls.mono fun e W' ⟨v_, he, hgb, hv_⟩ => ?_
  subst he
  subst hv_
  have bel := gb_below hgb
  exact ⟨_, rfl, _, _, _, [], _, [], hW', trodAll_mk1 (shut_bool Tryd.underlying4 _), (trodAll_cons_mk (Below.trod laidOut (by kernel_rfl) (of_decide_eq_true (by kernel_rfl)) h0 bel lt0) (trodAll_cons_mk (Below.trod laidOut (by kernel_rfl) (of_decide_eq_true (by kernel_rfl)) h1 bel lt1) trodAll_mk0)), rfl, bel.frame _, fun h => by cases h⟩
theorem over : Rows.fsckNamesRow.holds Tryd.pinned (OpenSpec.ofChange Rows.fsckNamesSpec) :=
  OpenClaim.holds_of_wide 3 Tryd.f3 rfl rfl rfl rfl rfl rfl rfl ⟨rfl, rfl, rfl, rfl, rfl⟩ rfl rfl rfl rfl rfl (by kernel_rfl) Tryd.func3 (by kernel_rfl)
    (of_decide_eq_true (by kernel_rfl)) (by unfold Func.isWrapper; first | (rw [if_pos (by decide +kernel)]; kernel_rfl) | (rw [if_neg (by decide +kernel)]; exact ⟨rfl, rfl⟩))
    (fun os started H enc _ => lifted os started H enc)
/-- The given statement. -/
theorem proved : Rows.FsckNamesCardSaid :=
  Claim7.holds_tied_plain_at .later [] [.data] true (true, "568546b6311336c297fe1dd1354b88986b0e9aff68158e9ee4a33eff6200239d") false
    over (fun _ h => by cases h) (by kernel_rfl) (fun _ h => by cases h) fsckNames_row_tie rfl ⟨rfl, rfl⟩ (by kernel_rfl) rfl
    (fun f fn hf hfn => by
      obtain rfl : f = 3 := Option.some.inj ((show Tryd.prog.funcNamed "strandline/strandlinelaw49.FsckNames" = some 3 by kernel_rfl).symm.trans hf) |>.symm
      obtain rfl : fn = Tryd.f3 := (Option.some.inj (Tryd.func3.symm.trans hfn)).symm
      exact ⟨by kernel_rfl, fun j t ht => by
        rw [Tryd.params3] at ht
        have hm : t ∈ [3, 22] := by simpa using Array.mem_of_getElem? ht
        have hall : ([3, 22].all fun u => !Tryd.prog.wantsStandIn u) = true := by kernel_rfl
        exact (show Tryd.prog.wantsStandIn t = false by simpa using List.all_eq_true.1 hall t hm)⟩)
    (by kernel_rfl)
#print axioms proved

end Go.Proofs.YtbeafehpjjojnaaDoor.LFsckNames
