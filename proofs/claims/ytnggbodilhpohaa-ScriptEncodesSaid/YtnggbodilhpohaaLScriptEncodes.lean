/-
  For every list of steps the law ScriptEncodes returns true, and changes nothing that was there.
-/
import Derived.Test.YtnggbodilhpohaaCw
import Derived.WalkKit
import Derived.ProofKit
import Derived.OpenShut
import Derived.ShutString
import Derived.ChangeOld
import Derived.Below
import Derived.SizedLaws
namespace Go.Proofs.Ytnggbodilhpohaa.LScriptEncodes
open Go.RowKit Gw Pl
set_option linter.unusedVariables false
set_option linter.unusedSimpArgs false
theorem boo4 : Try.prog.underlying 4 = some .bool := by kernel_rfl
theorem cb50 : callB Try.prog 50 = true := by kernel_rfl
theorem cb51 : callB Try.prog 51 = true := by kernel_rfl
theorem cb56 : callB Try.prog 56 = true := by kernel_rfl
theorem cb57 : callB Try.prog 57 = true := by kernel_rfl
theorem cb59 : callB Try.prog 59 = true := by kernel_rfl
theorem walk1 {w : World} {A0 : Option Addr} {c0 : Nat} {xs0 : List StepD} (hS0 : Sli 0 0 w.heap.size w A0 (fl encS xs0)) (hl0 : xs0.length ≤ c0) (hm0 : c0 * 80 ≤ 140737488351232) (hg0 : ∀ x ∈ xs0, GoodS w x) (hk0 : FewSs xs0) (hn : 64 < xs0.length) :
    Runs Try.prog 11 #[.slice A0 xs0.length c0] w (fun v w' => w.grownBy w' none ∧ v = .bool true) := by
  have hB := gb_refl w none
  have hD0 : DeepS w.heap.size w xs0 := fun y hy => hg0 y hy
  refine enter Try.func11 Try.ntmps11 rfl rfl ?_
  refine C_seq (C_reg ?_)
  refine L_run (R_assign rfl) rfl ?_
  refine L_nil (N_then (C_seq (C_seq (C_reg ?_))))
  refine L_run (R_move rfl) rfl ?_
  refine L_call rfl cb50 (law38_Few (l := xs0) hS0 (by omega)) rfl ?_
  rintro _ w1 ⟨hs1, rfl⟩
  replace hB := gb_tr hB hs1
  replace hS0 := hS0.gb hs1
  replace hD0 := hD0.gb hs1
  refine L_run (R_notD rfl) rfl ?_
  refine L_nil (N_then (C_condF rfl (decide_eq_false (fun hn => hn hk0)) (C_skip (N_then (C_seq (C_reg ?_))))))
  refine L_run (R_move rfl) rfl ?_
  have ge1 : w.heap.size ≤ w1.heap.size := hB.size
  refine L_call rfl cb52 (script_Encode_long (l := xs0) hS0 hD0 hn) rfl ?_
  rintro _ w2 ⟨hs2, rfl⟩
  replace hB := gb_tr hB hs2
  replace hS0 := hS0.gb hs2
  replace hD0 := hD0.gb hs2
  refine L_run (R_move rfl) rfl ?_
  refine L_run (R_extract rfl rfl) rfl ?_
  refine L_run (R_extract rfl rfl) rfl ?_
  refine L_run (R_assign rfl) rfl ?_
  refine L_run (R_assign rfl) rfl ?_
  refine L_nil (N_then (C_seq (C_seq (C_reg ?_))))
  refine L_run (R_move rfl) rfl ?_
  refine L_run (R_lenSl rfl slc58) rfl ?_
  refine L_run (R_gtr rfl rfl) rfl ?_
  refine L_nil (N_then (C_condT rfl (decide_eq_true (show 64 < (xs0.length : Int) by omega)) (C_seq (C_reg ?_))))
  refine L_run (R_move rfl) rfl ?_
  refine L_run (R_eqv (R_eql rfl rfl) (v' := .bool true) rfl) rfl ?_
  refine L_run (R_move rfl) rfl ?_
  refine L_yes rfl rfl rfl rfl ?_
  refine L_run (R_move rfl) rfl ?_
  refine L_yes rfl rfl rfl rfl ?_
  refine L_run (R_eqv (R_lenSl rfl slc42) (v' := .int .i64 0) rfl) rfl ?_
  refine L_yes rfl rfl rfl rfl ?_
  refine L_run (R_eqv (R_eql rfl rfl) (v' := .bool true) rfl) rfl ?_
  refine L_run (R_pickT rfl rfl rfl) rfl ?_
  refine L_run (R_move rfl) rfl ?_
  refine L_yes rfl rfl rfl rfl ?_
  refine L_call rfl cb51 (awake38) rfl ?_
  rintro _ w3 ⟨hs3, rfl⟩
  replace hB := gb_tr hB hs3
  replace hS0 := hS0.gb hs3
  replace hD0 := hD0.gb hs3
  refine L_run (R_pickT rfl rfl rfl) rfl ?_
  refine L_run (R_assign rfl) rfl ?_
  refine L_nil (N_then (C_ret (R_then ?_)))
  refine ret1 Try.results11 rfl ?_
  exact ⟨hB, rfl⟩

theorem walk2 {w : World} {A0 : Option Addr} {c0 : Nat} {xs0 : List StepD} (hS0 : Sli 0 0 w.heap.size w A0 (fl encS xs0)) (hl0 : xs0.length ≤ c0) (hm0 : c0 * 80 ≤ 140737488351232) (hg0 : ∀ x ∈ xs0, GoodS w x) (hk0 : FewSs xs0) (hn : xs0.length ≤ 64) (hno : ¬ ∀ p ∈ ps xs0, sOk p) :
    Runs Try.prog 11 #[.slice A0 xs0.length c0] w (fun v w' => w.grownBy w' none ∧ v = .bool true) := by
  have hB := gb_refl w none
  have hD0 : DeepS w.heap.size w xs0 := fun y hy => hg0 y hy
  refine enter Try.func11 Try.ntmps11 rfl rfl ?_
  refine C_seq (C_reg ?_)
  refine L_run (R_assign rfl) rfl ?_
  refine L_nil (N_then (C_seq (C_seq (C_reg ?_))))
  refine L_run (R_move rfl) rfl ?_
  refine L_call rfl cb50 (law38_Few (l := xs0) hS0 (by omega)) rfl ?_
  rintro _ w1 ⟨hs1, rfl⟩
  replace hB := gb_tr hB hs1
  replace hS0 := hS0.gb hs1
  replace hD0 := hD0.gb hs1
  refine L_run (R_notD rfl) rfl ?_
  refine L_nil (N_then (C_condF rfl (decide_eq_false (fun hn => hn hk0)) (C_skip (N_then (C_seq (C_reg ?_))))))
  refine L_run (R_move rfl) rfl ?_
  have ge1 : w.heap.size ≤ w1.heap.size := hB.size
  refine L_call rfl cb52 (script_Encode_no (l := xs0) hS0 hD0 hk0.1 hn hno) rfl ?_
  rintro _ w2 ⟨hs2, rfl⟩
  replace hB := gb_tr hB hs2
  replace hS0 := hS0.gb hs2
  replace hD0 := hD0.gb hs2
  refine L_run (R_move rfl) rfl ?_
  refine L_run (R_extract rfl rfl) rfl ?_
  refine L_run (R_extract rfl rfl) rfl ?_
  refine L_run (R_assign rfl) rfl ?_
  refine L_run (R_assign rfl) rfl ?_
  refine L_nil (N_then (C_seq (C_seq (C_reg ?_))))
  refine L_run (R_move rfl) rfl ?_
  refine L_run (R_lenSl rfl slc58) rfl ?_
  refine L_run (R_gtr rfl rfl) rfl ?_
  refine L_nil (N_then (C_condF rfl (decide_eq_false (show ¬ (64 < (xs0.length : Int)) by omega)) (C_skip (N_then (C_seq (C_seq (C_reg ?_)))))))
  refine L_run (R_assign rfl) rfl ?_
  refine L_nil (N_then (C_block ?_))
  refine C_loop (fun m_ a_ w_ => ∃ (σ_ : Nat → Value) (k : Nat), a_ = Ac 97 σ_ [] [(0, .slice A0 xs0.length c0), (3, .slice none 0 0), (4, .int .i64 13), (5, .int .i64 (k : Int))] ∧ w.grownBy w_ none ∧ Sli 0 0 w.heap.size w_ A0 (fl encS xs0) ∧ DeepS w.heap.size w_ xs0 ∧ (k ≤ xs0.length) ∧ xs0.length - k = m_) (xs0.length - 0) ?_ ?_
  · exact ⟨_, 0, Ac_frg ⟨rfl, rfl, rfl, (agr rfl (by first | rfl | (congr 1; omega) | (congr 1; simp; done) | (congr 1; simp only [IntKind.wrap_u64, IntKind.wrap_i64, IntKind.wrap_u8]; omega) | (congr 1 <;> omega))), trivial⟩, hB, hS0, hD0, (by omega), rfl⟩
  · clear hB
    clear hS0 hD0
    rintro m_ a_ w3 ⟨σ_, k, rfl, hB, hS0, hD0, hk, rfl⟩
    refine C_seq (C_seq (C_reg ?_))
    refine L_run (R_move rfl) rfl ?_
    refine L_run (R_move rfl) rfl ?_
    refine L_run (R_lenSl rfl slc58) rfl ?_
    refine L_run (R_lss rfl rfl) rfl ?_
    refine L_nil (N_then ?_)
    refine C_if rfl (fun h1 => ?_) (fun h1 => ?_)
    · refine C_skip (N_then (C_seq (C_block (C_seq ?_))))
      refine C_draw2 mix ?_
      intro w4 hs3 hz1
      replace hB := gb_tr hB hs3
      replace hS0 := hS0.gb hs3
      replace hD0 := hD0.gb hs3
      have hl1 : k < xs0.length := by first | omega | (simp; omega)
      obtain ⟨g1, o1, r1, eA1, er1, ha1⟩ := Sli.place' (xs := xs0) (i := k) EncS hS0 hl1 rfl
      refine ⟨fun W_ => At W_ g1 r1 [.int .i64 ((xs0[k]).p.kind), .int .i64 ((xs0[k]).p.n), .slice ((xs0[k]).oa) ((xs0[k]).p.ops.length) ((xs0[k]).oc), .slice ((xs0[k]).ka) ((xs0[k]).p.keep.length) ((xs0[k]).kc), .int .i64 ((xs0[k]).p.torn), .int .i64 ((xs0[k]).p.cut)] ∧ True, [0, 1, 2, 3, 5, 6, 7, 8, 10], ?_⟩
      refine T_takeA (i := 0) rfl rfl (by kernel_rfl) (by kernel_rfl) (by kernel_rfl) (Y_of (fun _ ⟨ha1, _⟩ => R_move rfl)) ⟨ha1, trivial⟩ rfl ?_
      refine T_takeA (i := 1) rfl rfl (by kernel_rfl) (by kernel_rfl) (by kernel_rfl) (Y_of (fun _ ⟨ha1, _⟩ => R_move rfl)) ⟨ha1, trivial⟩ rfl ?_
      refine T_takeA (i := 2) rfl rfl (by kernel_rfl) (by kernel_rfl) (by kernel_rfl) (Y_of (fun _ ⟨ha1, _⟩ => R_indexE rfl rfl (by first | rfl | omega) slc58 hl1 eA1 er1)) ⟨ha1, trivial⟩ rfl ?_
      refine T_takeA (i := 3) rfl rfl (by kernel_rfl) (by kernel_rfl) (by kernel_rfl) (Y_of (fun _ ⟨ha1, _⟩ => R_loadA (vs := [.int .i64 ((xs0[k]).p.kind), .int .i64 ((xs0[k]).p.n), .slice ((xs0[k]).oa) ((xs0[k]).p.ops.length) ((xs0[k]).oc), .slice ((xs0[k]).ka) ((xs0[k]).p.keep.length) ((xs0[k]).kc), .int .i64 ((xs0[k]).p.torn), .int .i64 ((xs0[k]).p.cut)]) rfl agg65 (At.pre ha1 rfl) rfl)) ⟨ha1, trivial⟩ rfl ?_
      refine T_takeA (i := 5) rfl rfl (by kernel_rfl) (by kernel_rfl) (by kernel_rfl) (Y_of (fun _ ⟨ha1, _⟩ => R_move rfl)) ⟨ha1, trivial⟩ rfl ?_
      refine T_takeA (i := 6) rfl rfl (by kernel_rfl) (by kernel_rfl) (by kernel_rfl) (Y_of (fun _ ⟨ha1, _⟩ => R_move rfl)) ⟨ha1, trivial⟩ rfl ?_
      refine T_takeA (i := 7) rfl rfl (by kernel_rfl) (by kernel_rfl) (by kernel_rfl) (Y_of (fun _ ⟨ha1, _⟩ => R_indexE rfl rfl (by first | rfl | omega) slc58 hl1 eA1 er1)) ⟨ha1, trivial⟩ rfl ?_
      refine T_takeA (i := 8) rfl rfl (by kernel_rfl) (by kernel_rfl) (by kernel_rfl) (Y_of (fun _ ⟨ha1, _⟩ => R_loadA (vs := [.int .i64 ((xs0[k]).p.kind), .int .i64 ((xs0[k]).p.n), .slice ((xs0[k]).oa) ((xs0[k]).p.ops.length) ((xs0[k]).oc), .slice ((xs0[k]).ka) ((xs0[k]).p.keep.length) ((xs0[k]).kc), .int .i64 ((xs0[k]).p.torn), .int .i64 ((xs0[k]).p.cut)]) rfl agg65 (At.pre ha1 rfl) rfl)) ⟨ha1, trivial⟩ rfl ?_
      refine T_all (rs := [4]) (by kernel_rfl) rfl (all1 (O_one rfl ?_))
      refine L_call rfl cb53 (script_Right (ops := (xs0[k]).p.ops) (hD0.getO (i := k) (by first | assumption | omega | (simp; omega))) (by first | (have h_ := (hk0.1 _ (List.getElem_mem (show k < xs0.length by omega))).1; omega) | (have h_ := (hk0.1 _ (List.getElem_mem (show i < xs0.length by omega))).1; omega))) rfl ?_
      rintro _ w5 ⟨hs4, rfl⟩
      replace hB := gb_tr hB hs4
      replace hS0 := hS0.gb hs4
      replace hD0 := hD0.gb hs4
      replace ha1 := At.gb ha1 hs4 (by simp)
      refine L_nil (N_then ⟨fun hN_ => ⟨ha1, trivial⟩, ?_⟩)
      refine T_all (rs := [9]) (by kernel_rfl) rfl (all1 (O_one rfl ?_))
      refine L_call rfl cb54 (ref38_Right (ops := (xs0[k]).p.ops) (hD0.getO (i := k) (by first | assumption | omega | (simp; omega))) (by first | (have h_ := (hk0.1 _ (List.getElem_mem (show k < xs0.length by omega))).1; omega) | (have h_ := (hk0.1 _ (List.getElem_mem (show i < xs0.length by omega))).1; omega))) rfl ?_
      rintro _ w6 ⟨hs5, rfl⟩
      replace hB := gb_tr hB hs5
      replace hS0 := hS0.gb hs5
      replace hD0 := hD0.gb hs5
      replace ha1 := At.gb ha1 hs5 (by simp)
      refine L_nil (N_then ⟨fun hN_ => ⟨ha1, trivial⟩, ?_⟩)
      refine T_takeA (i := 10) rfl rfl (by kernel_rfl) (by kernel_rfl) (by kernel_rfl) (Y_of (fun _ ⟨ha1, _⟩ => R_eqv (R_neqB rfl rfl boo4) (v' := .bool false) (by simp))) ⟨ha1, trivial⟩ rfl ?_
      refine T_done (by kernel_rfl) (NoPanic.normal ?_)
      refine N_then (C_condF rfl rfl (C_skip (N_in (N_then (C_reg ?_)))))
      refine L_run (R_move rfl) rfl ?_
      refine L_run (R_add64 rfl rfl (by omega)) rfl ?_
      refine L_run (R_assign rfl) rfl ?_
      refine L_nil (N_then ?_)
      exact ⟨xs0.length - (k + 1), by omega, _, (k + 1), Ac_frg ⟨rfl, rfl, rfl, (agr rfl (by first | rfl | (congr 1; omega) | (congr 1; simp; done) | (congr 1; simp only [IntKind.wrap_u64, IntKind.wrap_i64, IntKind.wrap_u8]; omega) | (congr 1 <;> omega))), trivial⟩, hB, hS0, hD0, (by omega), rfl⟩
    · refine C_exit (X_then (X_then (X_hit (N_then (C_seq (C_seq (C_reg ?_)))))))
      refine L_run (R_assign rfl) rfl ?_
      refine L_nil (N_then (C_block ?_))
      refine C_loop (fun m_ a_ w_ => ∃ (σ_ : Nat → Value) (i : Nat), a_ = Ac 97 σ_ [] [(0, .slice A0 xs0.length c0), (3, .slice none 0 0), (4, .int .i64 13), (6, .int .i64 (i : Int))] ∧ w.grownBy w_ none ∧ Sli 0 0 w.heap.size w_ A0 (fl encS xs0) ∧ DeepS w.heap.size w_ xs0 ∧ (i ≤ xs0.length) ∧ (∀ p ∈ ps (xs0.take i), sOk p) ∧ xs0.length - i = m_) (xs0.length - 0) ?_ ?_
      · exact ⟨_, 0, Ac_frg ⟨rfl, rfl, rfl, (agr rfl (by first | rfl | (congr 1; omega) | (congr 1; simp; done) | (congr 1; simp only [IntKind.wrap_u64, IntKind.wrap_i64, IntKind.wrap_u8]; omega) | (congr 1 <;> omega))), trivial⟩, hB, hS0, hD0, (by omega), (by intro p hp; simp [ps] at hp), rfl⟩
      · clear hB
        clear hS0 hD0
        rintro m_ a_ w7 ⟨σ_, i, rfl, hB, hS0, hD0, hi_, hall, rfl⟩
        refine C_seq (C_seq (C_reg ?_))
        refine L_run (R_move rfl) rfl ?_
        refine L_run (R_move rfl) rfl ?_
        refine L_run (R_lenSl rfl slc58) rfl ?_
        refine L_run (R_lss rfl rfl) rfl ?_
        refine L_nil (N_then ?_)
        refine C_if rfl (fun h2 => ?_) (fun h2 => ?_)
        · refine C_skip (N_then (C_seq (C_block (C_seq (C_reg ?_)))))
          refine L_run (R_move rfl) rfl ?_
          refine L_run (R_move rfl) rfl ?_
          have hl2 : i < xs0.length := by first | omega | (simp; omega)
          refine T_index (xs := xs0) (i := i) EncS rfl rfl (by first | rfl | omega) slc58 hl2 hS0 rfl ?_
          intro g2 o2 ha2
          refine L_run (R_loadA (vs := [.int .i64 ((xs0[i]).p.kind), .int .i64 ((xs0[i]).p.n), .slice ((xs0[i]).oa) ((xs0[i]).p.ops.length) ((xs0[i]).oc), .slice ((xs0[i]).ka) ((xs0[i]).p.keep.length) ((xs0[i]).kc), .int .i64 ((xs0[i]).p.torn), .int .i64 ((xs0[i]).p.cut)]) rfl agg65 (At.pre ha2 rfl) rfl) rfl ?_
          refine L_call rfl cb54 (ref38_Right (ops := (xs0[i]).p.ops) (hD0.getO (i := i) (by first | assumption | omega | (simp; omega))) (by first | (have h_ := (hk0.1 _ (List.getElem_mem (show k < xs0.length by omega))).1; omega) | (have h_ := (hk0.1 _ (List.getElem_mem (show i < xs0.length by omega))).1; omega))) rfl ?_
          rintro _ w8 ⟨hs6, rfl⟩
          replace hB := gb_tr hB hs6
          replace hS0 := hS0.gb hs6
          replace hD0 := hD0.gb hs6
          replace ha2 := At.gb ha2 hs6 (by simp)
          refine L_run (R_notD rfl) rfl ?_
          refine L_nil (N_then ?_)
          refine C_ifN rfl (fun h3 => ?_) (fun h3 => ?_)
          · refine C_seq (C_reg ?_)
            refine L_run (R_move rfl) rfl ?_
            refine L_run (R_eqv (R_eql rfl rfl) (v' := .bool true) rfl) rfl ?_
            refine L_run (R_move rfl) rfl ?_
            refine L_yes rfl rfl rfl rfl ?_
            refine L_run (R_move rfl) rfl ?_
            refine L_yes rfl rfl rfl rfl ?_
            refine L_run (R_eqv (R_lenSl rfl slc42) (v' := .int .i64 0) rfl) rfl ?_
            refine L_yes rfl rfl rfl rfl ?_
            refine L_run (R_eqv (R_eql rfl rfl) (v' := .bool true) rfl) rfl ?_
            refine L_run (R_pickT rfl rfl rfl) rfl ?_
            refine L_run (R_move rfl) rfl ?_
            refine L_yes rfl rfl rfl rfl ?_
            refine L_call rfl cb51 (awake38) rfl ?_
            rintro _ w9 ⟨hs7, rfl⟩
            replace hB := gb_tr hB hs7
            replace hS0 := hS0.gb hs7
            replace hD0 := hD0.gb hs7
            replace ha2 := At.gb ha2 hs7 (by simp)
            refine L_run (R_pickT rfl rfl rfl) rfl ?_
            refine L_run (R_assign rfl) rfl ?_
            refine L_nil (N_then (C_ret (R_in (R_then (R_then (R_in (R_then ?_)))))))
            refine ret1 Try.results11 rfl ?_
            exact ⟨hB, rfl⟩
          · refine C_skip (N_in (N_then (C_reg ?_)))
            refine L_run (R_move rfl) rfl ?_
            refine L_run (R_add64 rfl rfl (by omega)) rfl ?_
            refine L_run (R_assign rfl) rfl ?_
            refine L_nil (N_then ?_)
            exact ⟨xs0.length - (i + 1), by omega, _, (i + 1), Ac_frg ⟨rfl, rfl, rfl, (agr rfl (by first | rfl | (congr 1; omega) | (congr 1; simp; done) | (congr 1; simp only [IntKind.wrap_u64, IntKind.wrap_i64, IntKind.wrap_u8]; omega) | (congr 1 <;> omega))), trivial⟩, hB, hS0, hD0, (by omega), (sall_succ hall (show i < xs0.length by omega) (by first | assumption | exact Decidable.not_not.1 (by assumption))), rfl⟩
        · refine C_exit (X_then (X_then (X_hit (N_then (C_seq (C_reg ?_))))))
          refine L_run (R_move rfl) rfl ?_
          exfalso; rw [List.take_of_length_le (by omega)] at hall; exact hno hall

theorem walk3 {w : World} {A0 : Option Addr} {c0 : Nat} {xs0 : List StepD} (hS0 : Sli 0 0 w.heap.size w A0 (fl encS xs0)) (hl0 : xs0.length ≤ c0) (hm0 : c0 * 80 ≤ 140737488351232) (hg0 : ∀ x ∈ xs0, GoodS w x) (hk0 : FewSs xs0) (hn : xs0.length ≤ 64) (hok : ∀ p ∈ ps xs0, sOk p) :
    Runs Try.prog 11 #[.slice A0 xs0.length c0] w (fun v w' => w.grownBy w' none ∧ v = .bool true) := by
  have hB := gb_refl w none
  have hD0 : DeepS w.heap.size w xs0 := fun y hy => hg0 y hy
  have hG := sdec_sencs hok (by rw [ps_len]; exact hn)
  have hE := sencs_len hok
  rw [ps_len] at hE
  refine enter Try.func11 Try.ntmps11 rfl rfl ?_
  refine C_seq (C_reg ?_)
  refine L_run (R_assign rfl) rfl ?_
  refine L_nil (N_then (C_seq (C_seq (C_reg ?_))))
  refine L_run (R_move rfl) rfl ?_
  refine L_call rfl cb50 (law38_Few (l := xs0) hS0 (by omega)) rfl ?_
  rintro _ w1 ⟨hs1, rfl⟩
  replace hB := gb_tr hB hs1
  replace hS0 := hS0.gb hs1
  replace hD0 := hD0.gb hs1
  refine L_run (R_notD rfl) rfl ?_
  refine L_nil (N_then (C_condF rfl (decide_eq_false (fun hn => hn hk0)) (C_skip (N_then (C_seq (C_reg ?_))))))
  refine L_run (R_move rfl) rfl ?_
  have ge1 : w.heap.size ≤ w1.heap.size := hB.size
  refine L_call rfl cb52 (script_Encode_ok (l := xs0) hS0 hD0 hk0.1 hn hok) rfl ?_
  rintro _ w2 ⟨hs2, A_1, c_1, rfl, ho1⟩
  replace hB := gb_tr hB hs2
  replace hS0 := hS0.gb hs2
  replace hD0 := hD0.gb hs2
  have hlo1 : w1.heap.size ≤ w2.heap.size := hs2.size
  refine L_run (R_move rfl) rfl ?_
  refine L_run (R_extract rfl rfl) rfl ?_
  refine L_run (R_extract rfl rfl) rfl ?_
  refine L_run (R_assign rfl) rfl ?_
  refine L_run (R_assign rfl) rfl ?_
  refine L_nil (N_then (C_seq (C_seq (C_reg ?_))))
  refine L_run (R_move rfl) rfl ?_
  refine L_run (R_lenSl rfl slc58) rfl ?_
  refine L_run (R_gtr rfl rfl) rfl ?_
  refine L_nil (N_then (C_condF rfl (decide_eq_false (show ¬ (64 < (xs0.length : Int)) by omega)) (C_skip (N_then (C_seq (C_seq (C_reg ?_)))))))
  refine L_run (R_assign rfl) rfl ?_
  refine L_nil (N_then (C_block ?_))
  refine C_loop (fun m_ a_ w_ => ∃ (σ_ : Nat → Value) (k : Nat), a_ = Ac 97 σ_ [] [(0, .slice A0 xs0.length c0), (3, .slice A_1 ((sencs (ps xs0)).length) c_1), (4, .int .i64 0), (5, .int .i64 (k : Int))] ∧ w.grownBy w_ none ∧ Sli 0 0 w.heap.size w_ A0 (fl encS xs0) ∧ DeepS w.heap.size w_ xs0 ∧ World.ownsRow w_ w1.heap.size 5 1 (.slice A_1 (sencs (ps xs0)).length c_1) (sencs (ps xs0)).length (fl encB (sencs (ps xs0))) ∧ w1.heap.size ≤ w_.heap.size ∧ (k ≤ xs0.length) ∧ xs0.length - k = m_) (xs0.length - 0) ?_ ?_
  · exact ⟨_, 0, Ac_frg ⟨rfl, rfl, rfl, (agr rfl (by first | rfl | (congr 1; omega) | (congr 1; simp; done) | (congr 1; simp only [IntKind.wrap_u64, IntKind.wrap_i64, IntKind.wrap_u8]; omega) | (congr 1 <;> omega))), trivial⟩, hB, hS0, hD0, ho1, hlo1, (by omega), rfl⟩
  · clear hB
    clear hS0 hD0 ho1 hlo1
    rintro m_ a_ w3 ⟨σ_, k, rfl, hB, hS0, hD0, ho1, hlo1, hk, rfl⟩
    refine C_seq (C_seq (C_reg ?_))
    refine L_run (R_move rfl) rfl ?_
    refine L_run (R_move rfl) rfl ?_
    refine L_run (R_lenSl rfl slc58) rfl ?_
    refine L_run (R_lss rfl rfl) rfl ?_
    refine L_nil (N_then ?_)
    refine C_if rfl (fun h1 => ?_) (fun h1 => ?_)
    · refine C_skip (N_then (C_seq (C_block (C_seq ?_))))
      refine C_draw2 mix ?_
      intro w4 hs3 hz1
      replace hB := gb_tr hB hs3
      replace hS0 := hS0.gb hs3
      replace hD0 := hD0.gb hs3
      replace ho1 := own_gb ho1 hs3
      replace hlo1 := Nat.le_trans hlo1 hs3.size
      have hl1 : k < xs0.length := by first | omega | (simp; omega)
      obtain ⟨g1, o1, r1, eA1, er1, ha1⟩ := Sli.place' (xs := xs0) (i := k) EncS hS0 hl1 rfl
      refine ⟨fun W_ => At W_ g1 r1 [.int .i64 ((xs0[k]).p.kind), .int .i64 ((xs0[k]).p.n), .slice ((xs0[k]).oa) ((xs0[k]).p.ops.length) ((xs0[k]).oc), .slice ((xs0[k]).ka) ((xs0[k]).p.keep.length) ((xs0[k]).kc), .int .i64 ((xs0[k]).p.torn), .int .i64 ((xs0[k]).p.cut)] ∧ True, [0, 1, 2, 3, 5, 6, 7, 8, 10], ?_⟩
      refine T_takeA (i := 0) rfl rfl (by kernel_rfl) (by kernel_rfl) (by kernel_rfl) (Y_of (fun _ ⟨ha1, _⟩ => R_move rfl)) ⟨ha1, trivial⟩ rfl ?_
      refine T_takeA (i := 1) rfl rfl (by kernel_rfl) (by kernel_rfl) (by kernel_rfl) (Y_of (fun _ ⟨ha1, _⟩ => R_move rfl)) ⟨ha1, trivial⟩ rfl ?_
      refine T_takeA (i := 2) rfl rfl (by kernel_rfl) (by kernel_rfl) (by kernel_rfl) (Y_of (fun _ ⟨ha1, _⟩ => R_indexE rfl rfl (by first | rfl | omega) slc58 hl1 eA1 er1)) ⟨ha1, trivial⟩ rfl ?_
      refine T_takeA (i := 3) rfl rfl (by kernel_rfl) (by kernel_rfl) (by kernel_rfl) (Y_of (fun _ ⟨ha1, _⟩ => R_loadA (vs := [.int .i64 ((xs0[k]).p.kind), .int .i64 ((xs0[k]).p.n), .slice ((xs0[k]).oa) ((xs0[k]).p.ops.length) ((xs0[k]).oc), .slice ((xs0[k]).ka) ((xs0[k]).p.keep.length) ((xs0[k]).kc), .int .i64 ((xs0[k]).p.torn), .int .i64 ((xs0[k]).p.cut)]) rfl agg65 (At.pre ha1 rfl) rfl)) ⟨ha1, trivial⟩ rfl ?_
      refine T_takeA (i := 5) rfl rfl (by kernel_rfl) (by kernel_rfl) (by kernel_rfl) (Y_of (fun _ ⟨ha1, _⟩ => R_move rfl)) ⟨ha1, trivial⟩ rfl ?_
      refine T_takeA (i := 6) rfl rfl (by kernel_rfl) (by kernel_rfl) (by kernel_rfl) (Y_of (fun _ ⟨ha1, _⟩ => R_move rfl)) ⟨ha1, trivial⟩ rfl ?_
      refine T_takeA (i := 7) rfl rfl (by kernel_rfl) (by kernel_rfl) (by kernel_rfl) (Y_of (fun _ ⟨ha1, _⟩ => R_indexE rfl rfl (by first | rfl | omega) slc58 hl1 eA1 er1)) ⟨ha1, trivial⟩ rfl ?_
      refine T_takeA (i := 8) rfl rfl (by kernel_rfl) (by kernel_rfl) (by kernel_rfl) (Y_of (fun _ ⟨ha1, _⟩ => R_loadA (vs := [.int .i64 ((xs0[k]).p.kind), .int .i64 ((xs0[k]).p.n), .slice ((xs0[k]).oa) ((xs0[k]).p.ops.length) ((xs0[k]).oc), .slice ((xs0[k]).ka) ((xs0[k]).p.keep.length) ((xs0[k]).kc), .int .i64 ((xs0[k]).p.torn), .int .i64 ((xs0[k]).p.cut)]) rfl agg65 (At.pre ha1 rfl) rfl)) ⟨ha1, trivial⟩ rfl ?_
      refine T_all (rs := [4]) (by kernel_rfl) rfl (all1 (O_one rfl ?_))
      refine L_call rfl cb53 (script_Right (ops := (xs0[k]).p.ops) (hD0.getO (i := k) (by first | assumption | omega | (simp; omega))) (by first | (have h_ := (hk0.1 _ (List.getElem_mem (show k < xs0.length by omega))).1; omega) | (have h_ := (hk0.1 _ (List.getElem_mem (show i < xs0.length by omega))).1; omega))) rfl ?_
      rintro _ w5 ⟨hs4, rfl⟩
      replace hB := gb_tr hB hs4
      replace hS0 := hS0.gb hs4
      replace hD0 := hD0.gb hs4
      replace ho1 := own_gb ho1 hs4
      replace hlo1 := Nat.le_trans hlo1 hs4.size
      replace ha1 := At.gb ha1 hs4 (by simp)
      refine L_nil (N_then ⟨fun hN_ => ⟨ha1, trivial⟩, ?_⟩)
      refine T_all (rs := [9]) (by kernel_rfl) rfl (all1 (O_one rfl ?_))
      refine L_call rfl cb54 (ref38_Right (ops := (xs0[k]).p.ops) (hD0.getO (i := k) (by first | assumption | omega | (simp; omega))) (by first | (have h_ := (hk0.1 _ (List.getElem_mem (show k < xs0.length by omega))).1; omega) | (have h_ := (hk0.1 _ (List.getElem_mem (show i < xs0.length by omega))).1; omega))) rfl ?_
      rintro _ w6 ⟨hs5, rfl⟩
      replace hB := gb_tr hB hs5
      replace hS0 := hS0.gb hs5
      replace hD0 := hD0.gb hs5
      replace ho1 := own_gb ho1 hs5
      replace hlo1 := Nat.le_trans hlo1 hs5.size
      replace ha1 := At.gb ha1 hs5 (by simp)
      refine L_nil (N_then ⟨fun hN_ => ⟨ha1, trivial⟩, ?_⟩)
      refine T_takeA (i := 10) rfl rfl (by kernel_rfl) (by kernel_rfl) (by kernel_rfl) (Y_of (fun _ ⟨ha1, _⟩ => R_eqv (R_neqB rfl rfl boo4) (v' := .bool false) (by simp))) ⟨ha1, trivial⟩ rfl ?_
      refine T_done (by kernel_rfl) (NoPanic.normal ?_)
      refine N_then (C_condF rfl rfl (C_skip (N_in (N_then (C_reg ?_)))))
      refine L_run (R_move rfl) rfl ?_
      refine L_run (R_add64 rfl rfl (by omega)) rfl ?_
      refine L_run (R_assign rfl) rfl ?_
      refine L_nil (N_then ?_)
      exact ⟨xs0.length - (k + 1), by omega, _, (k + 1), Ac_frg ⟨rfl, rfl, rfl, (agr rfl (by first | rfl | (congr 1; omega) | (congr 1; simp; done) | (congr 1; simp only [IntKind.wrap_u64, IntKind.wrap_i64, IntKind.wrap_u8]; omega) | (congr 1 <;> omega))), trivial⟩, hB, hS0, hD0, ho1, hlo1, (by omega), rfl⟩
    · refine C_exit (X_then (X_then (X_hit (N_then (C_seq (C_seq (C_reg ?_)))))))
      refine L_run (R_assign rfl) rfl ?_
      refine L_nil (N_then (C_block ?_))
      refine C_loop (fun m_ a_ w_ => ∃ (σ_ : Nat → Value) (i : Nat), a_ = Ac 97 σ_ [] [(0, .slice A0 xs0.length c0), (3, .slice A_1 ((sencs (ps xs0)).length) c_1), (4, .int .i64 0), (6, .int .i64 (i : Int))] ∧ w.grownBy w_ none ∧ Sli 0 0 w.heap.size w_ A0 (fl encS xs0) ∧ DeepS w.heap.size w_ xs0 ∧ World.ownsRow w_ w1.heap.size 5 1 (.slice A_1 (sencs (ps xs0)).length c_1) (sencs (ps xs0)).length (fl encB (sencs (ps xs0))) ∧ w1.heap.size ≤ w_.heap.size ∧ (i ≤ xs0.length) ∧ xs0.length - i = m_) (xs0.length - 0) ?_ ?_
      · exact ⟨_, 0, Ac_frg ⟨rfl, rfl, rfl, (agr rfl (by first | rfl | (congr 1; omega) | (congr 1; simp; done) | (congr 1; simp only [IntKind.wrap_u64, IntKind.wrap_i64, IntKind.wrap_u8]; omega) | (congr 1 <;> omega))), trivial⟩, hB, hS0, hD0, ho1, hlo1, (by omega), rfl⟩
      · clear hB
        clear hS0 hD0 ho1 hlo1
        rintro m_ a_ w7 ⟨σ_, i, rfl, hB, hS0, hD0, ho1, hlo1, hi_, rfl⟩
        refine C_seq (C_seq (C_reg ?_))
        refine L_run (R_move rfl) rfl ?_
        refine L_run (R_move rfl) rfl ?_
        refine L_run (R_lenSl rfl slc58) rfl ?_
        refine L_run (R_lss rfl rfl) rfl ?_
        refine L_nil (N_then ?_)
        refine C_if rfl (fun h2 => ?_) (fun h2 => ?_)
        · refine C_skip (N_then (C_seq (C_block (C_seq (C_reg ?_)))))
          refine L_run (R_move rfl) rfl ?_
          refine L_run (R_move rfl) rfl ?_
          have hl2 : i < xs0.length := by first | omega | (simp; omega)
          refine T_index (xs := xs0) (i := i) EncS rfl rfl (by first | rfl | omega) slc58 hl2 hS0 rfl ?_
          intro g2 o2 ha2
          refine L_run (R_loadA (vs := [.int .i64 ((xs0[i]).p.kind), .int .i64 ((xs0[i]).p.n), .slice ((xs0[i]).oa) ((xs0[i]).p.ops.length) ((xs0[i]).oc), .slice ((xs0[i]).ka) ((xs0[i]).p.keep.length) ((xs0[i]).kc), .int .i64 ((xs0[i]).p.torn), .int .i64 ((xs0[i]).p.cut)]) rfl agg65 (At.pre ha2 rfl) rfl) rfl ?_
          refine L_call rfl cb54 (ref38_Right (ops := (xs0[i]).p.ops) (hD0.getO (i := i) (by first | assumption | omega | (simp; omega))) (by first | (have h_ := (hk0.1 _ (List.getElem_mem (show k < xs0.length by omega))).1; omega) | (have h_ := (hk0.1 _ (List.getElem_mem (show i < xs0.length by omega))).1; omega))) rfl ?_
          rintro _ w8 ⟨hs6, rfl⟩
          replace hB := gb_tr hB hs6
          replace hS0 := hS0.gb hs6
          replace hD0 := hD0.gb hs6
          replace ho1 := own_gb ho1 hs6
          replace hlo1 := Nat.le_trans hlo1 hs6.size
          replace ha2 := At.gb ha2 hs6 (by simp)
          refine L_run (R_notD rfl) rfl ?_
          refine L_nil (N_then (C_condF rfl (decide_eq_false (fun hn => hn (sall hok (show i < xs0.length by omega)))) (C_skip (N_in (N_then (C_reg ?_))))))
          refine L_run (R_move rfl) rfl ?_
          refine L_run (R_add64 rfl rfl (by omega)) rfl ?_
          refine L_run (R_assign rfl) rfl ?_
          refine L_nil (N_then ?_)
          exact ⟨xs0.length - (i + 1), by omega, _, (i + 1), Ac_frg ⟨rfl, rfl, rfl, (agr rfl (by first | rfl | (congr 1; omega) | (congr 1; simp; done) | (congr 1; simp only [IntKind.wrap_u64, IntKind.wrap_i64, IntKind.wrap_u8]; omega) | (congr 1 <;> omega))), trivial⟩, hB, hS0, hD0, ho1, hlo1, (by omega), rfl⟩
        · refine C_exit (X_then (X_then (X_hit (N_then (C_seq (C_reg ?_))))))
          refine L_run (R_move rfl) rfl ?_
          have ge2 : w.heap.size ≤ w7.heap.size := hB.size
          refine L_call rfl cb55 (script_Decode (bs := sencs (ps xs0)) (own_of ho1).2.2 (by omega) (own_cap ho1)) rfl ?_
          rintro _ w9 ⟨hs7, A_2, c_2, ls1, rfl, hps1, hS_1, hDT1, hlc1⟩
          replace hB := gb_tr hB hs7
          replace hS0 := hS0.gb hs7
          replace hD0 := hD0.gb hs7
          replace ho1 := own_gb ho1 hs7
          replace hlo1 := Nat.le_trans hlo1 hs7.size
          refine L_run (R_move rfl) rfl ?_
          refine L_run (R_extract rfl rfl) rfl ?_
          refine L_run (R_extract rfl rfl) rfl ?_
          refine L_run (R_assign rfl) rfl ?_
          refine L_run (R_assign rfl) rfl ?_
          refine L_nil (N_then (C_seq ?_))
          refine C_draw2 mix ?_
          intro w10 hs8 hz2
          replace hB := gb_tr hB hs8
          replace hS0 := hS0.gb hs8
          replace hD0 := hD0.gb hs8
          replace ho1 := own_gb ho1 hs8
          replace hlo1 := Nat.le_trans hlo1 hs8.size
          replace hS_1 := hS_1.gb hs8
          replace hDT1 := hDT1.gb hs8
          refine ⟨fun W_ => World.ownsRow W_ w1.heap.size 5 1 (.slice A_1 (sencs (ps xs0)).length c_1) (sencs (ps xs0)).length (fl encB (sencs (ps xs0))) ∧ True, [0, 1, 2, 3, 4, 5, 8, 9, 10, 11, 12, 13, 14, 15, 16, 18, 19, 21, 22], ?_⟩
          refine T_takeA (i := 0) rfl rfl (by kernel_rfl) (by kernel_rfl) (by kernel_rfl) (Y_of (fun _ ⟨ho1, _⟩ => R_move rfl)) ⟨ho1, trivial⟩ rfl ?_
          refine T_takeA (i := 1) rfl rfl (by kernel_rfl) (by kernel_rfl) (by kernel_rfl) (Y_of (fun _ ⟨ho1, _⟩ => R_eqv (R_eql rfl rfl) (v' := .bool true) rfl)) ⟨ho1, trivial⟩ rfl ?_
          refine T_takeA (i := 2) rfl rfl (by kernel_rfl) (by kernel_rfl) (by kernel_rfl) (Y_of (fun _ ⟨ho1, _⟩ => R_move rfl)) ⟨ho1, trivial⟩ rfl ?_
          refine T_takeA (i := 3) rfl rfl (by kernel_rfl) (by kernel_rfl) (by kernel_rfl) (Y_yes rfl rfl rfl rfl (fun _ ⟨ho1, _⟩ => R_move rfl)) ⟨ho1, trivial⟩ rfl ?_
          refine T_takeA (i := 4) rfl rfl (by kernel_rfl) (by kernel_rfl) (by kernel_rfl) (Y_yes rfl rfl rfl rfl (fun _ ⟨ho1, _⟩ => R_b2s' (bs := sencs (ps xs0)) rfl slc42 int5 str9 (own_of ho1).2.2)) ⟨ho1, trivial⟩ rfl ?_
          refine T_takeA (i := 5) rfl rfl (by kernel_rfl) (by kernel_rfl) (by kernel_rfl) (Y_yes rfl rfl rfl rfl (fun _ ⟨ho1, _⟩ => R_move rfl)) ⟨ho1, trivial⟩ rfl ?_
          refine T_all (rs := [6]) (by kernel_rfl) rfl (all1 (O_one rfl ?_))
          refine L_yes rfl rfl rfl rfl ?_
          have ge3 : w.heap.size ≤ w10.heap.size := hB.size
          refine L_call rfl cb56 (ref38_Bytes (l := xs0) hS0 hD0 hk0.1 hn hok) rfl ?_
          rintro _ w11 ⟨hs9, A_3, c_3, rfl, ho2⟩
          replace hB := gb_tr hB hs9
          replace hS0 := hS0.gb hs9
          replace hD0 := hD0.gb hs9
          replace ho1 := own_gb ho1 hs9
          replace hlo1 := Nat.le_trans hlo1 hs9.size
          replace hS_1 := hS_1.gb hs9
          replace hDT1 := hDT1.gb hs9
          have hlo2 : w10.heap.size ≤ w11.heap.size := hs9.size
          refine L_nil (N_then ⟨fun hN_ => ⟨ho1, trivial⟩, ?_⟩)
          refine T_all (rs := [7]) (by kernel_rfl) rfl (all1 (O_one rfl ?_))
          refine L_yes rfl rfl rfl rfl ?_
          refine L_run (R_b2s' (bs := sencs (ps xs0)) rfl slc42 int5 str9 (own_of ho2).2.2) rfl ?_
          refine L_nil (N_then ⟨fun hN_ => ⟨ho1, trivial⟩, ?_⟩)
          refine T_takeA (i := 8) rfl rfl (by kernel_rfl) (by kernel_rfl) (by kernel_rfl) (Y_yes rfl rfl rfl rfl (fun _ ⟨ho1, _⟩ => R_eqv (R_eqlS rfl rfl) (v' := .bool true) (bT' rfl))) ⟨ho1, trivial⟩ rfl ?_
          refine T_takeA (i := 9) rfl rfl (by kernel_rfl) (by kernel_rfl) (by kernel_rfl) (Y_of (fun _ ⟨ho1, _⟩ => R_pickT rfl rfl rfl)) ⟨ho1, trivial⟩ rfl ?_
          refine T_takeA (i := 10) rfl rfl (by kernel_rfl) (by kernel_rfl) (by kernel_rfl) (Y_of (fun _ ⟨ho1, _⟩ => R_move rfl)) ⟨ho1, trivial⟩ rfl ?_
          refine T_takeA (i := 11) rfl rfl (by kernel_rfl) (by kernel_rfl) (by kernel_rfl) (Y_yes rfl rfl rfl rfl (fun _ ⟨ho1, _⟩ => R_move rfl)) ⟨ho1, trivial⟩ rfl ?_
          refine T_takeA (i := 12) rfl rfl (by kernel_rfl) (by kernel_rfl) (by kernel_rfl) (Y_yes rfl rfl rfl rfl (fun _ ⟨ho1, _⟩ => R_eqv (R_eql rfl rfl) (v' := .bool true) (bT' (by rw [hG])))) ⟨ho1, trivial⟩ rfl ?_
          refine T_takeA (i := 13) rfl rfl (by kernel_rfl) (by kernel_rfl) (by kernel_rfl) (Y_of (fun _ ⟨ho1, _⟩ => R_pickT rfl rfl rfl)) ⟨ho1, trivial⟩ rfl ?_
          refine T_takeA (i := 14) rfl rfl (by kernel_rfl) (by kernel_rfl) (by kernel_rfl) (Y_of (fun _ ⟨ho1, _⟩ => R_move rfl)) ⟨ho1, trivial⟩ rfl ?_
          refine T_takeA (i := 15) rfl rfl (by kernel_rfl) (by kernel_rfl) (by kernel_rfl) (Y_yes rfl rfl rfl rfl (fun _ ⟨ho1, _⟩ => R_move rfl)) ⟨ho1, trivial⟩ rfl ?_
          refine T_takeA (i := 16) rfl rfl (by kernel_rfl) (by kernel_rfl) (by kernel_rfl) (Y_yes rfl rfl rfl rfl (fun _ ⟨ho1, _⟩ => R_move rfl)) ⟨ho1, trivial⟩ rfl ?_
          refine T_all (rs := [17]) (by kernel_rfl) rfl (all1 (O_one rfl ?_))
          refine L_yes rfl rfl rfl rfl ?_
          refine L_call rfl cb57 (ref38_Same (a := ls1) (b := xs0) hS_1 hS0 hDT1.bare hD0 (by rw [← ps_len, hps1, hG, ps_len]; omega) (ps_few (by rw [hps1, hG]; exact hok)) hk0.1) rfl ?_
          rintro _ w12 ⟨hs10, rfl⟩
          replace hB := gb_tr hB hs10
          replace hS0 := hS0.gb hs10
          replace hD0 := hD0.gb hs10
          replace ho1 := own_gb ho1 hs10
          replace hlo1 := Nat.le_trans hlo1 hs10.size
          replace hS_1 := hS_1.gb hs10
          replace hDT1 := hDT1.gb hs10
          replace ho2 := own_gb ho2 hs10
          replace hlo2 := Nat.le_trans hlo2 hs10.size
          refine L_nil (N_then ⟨fun hN_ => ⟨ho1, trivial⟩, ?_⟩)
          refine T_takeA (i := 18) rfl rfl (by kernel_rfl) (by kernel_rfl) (by kernel_rfl) (Y_of (fun _ ⟨ho1, _⟩ => R_pickT rfl rfl rfl)) ⟨ho1, trivial⟩ rfl ?_
          refine T_takeA (i := 19) rfl rfl (by kernel_rfl) (by kernel_rfl) (by kernel_rfl) (Y_of (fun _ ⟨ho1, _⟩ => R_move rfl)) ⟨ho1, trivial⟩ rfl ?_
          refine T_all (rs := [20]) (by kernel_rfl) rfl (all1 (O_one rfl ?_))
          refine L_yes rfl rfl rfl (decide_eq_true (by rw [hps1, hG])) ?_
          refine L_call rfl cb51 (awake38) rfl ?_
          rintro _ w13 ⟨hs11, rfl⟩
          replace hB := gb_tr hB hs11
          replace hS0 := hS0.gb hs11
          replace hD0 := hD0.gb hs11
          replace ho1 := own_gb ho1 hs11
          replace hlo1 := Nat.le_trans hlo1 hs11.size
          replace hS_1 := hS_1.gb hs11
          replace hDT1 := hDT1.gb hs11
          replace ho2 := own_gb ho2 hs11
          replace hlo2 := Nat.le_trans hlo2 hs11.size
          refine L_nil (N_then ⟨fun hN_ => ⟨ho1, trivial⟩, ?_⟩)
          refine T_takeA (i := 21) rfl rfl (by kernel_rfl) (by kernel_rfl) (by kernel_rfl) (Y_of (fun _ ⟨ho1, _⟩ => R_pickT rfl (decide_eq_true (by rw [hps1, hG])) rfl)) ⟨ho1, trivial⟩ rfl ?_
          refine T_takeA (i := 22) rfl rfl (by kernel_rfl) (by kernel_rfl) (by kernel_rfl) (Y_of (fun _ ⟨ho1, _⟩ => R_assign rfl)) ⟨ho1, trivial⟩ rfl ?_
          refine T_done (by kernel_rfl) (NoPanic.normal ?_)
          refine N_then (C_ret ?_)
          refine ret1 Try.results11 rfl ?_
          exact ⟨hB, rfl⟩

theorem walk4 {w : World} {A0 : Option Addr} {c0 : Nat} {xs0 : List StepD} (hS0 : Sli 0 0 w.heap.size w A0 (fl encS xs0)) (hl0 : xs0.length ≤ c0) (hm0 : c0 * 80 ≤ 140737488351232) (hg0 : ∀ x ∈ xs0, GoodS w x) (hk0 : ¬ FewSs xs0) :
    Runs Try.prog 11 #[.slice A0 xs0.length c0] w (fun v w' => w.grownBy w' none ∧ v = .bool true) := by
  have hB := gb_refl w none
  have hD0 : DeepS w.heap.size w xs0 := fun y hy => hg0 y hy
  refine enter Try.func11 Try.ntmps11 rfl rfl ?_
  refine C_seq (C_reg ?_)
  refine L_run (R_assign rfl) rfl ?_
  refine L_nil (N_then (C_seq (C_seq (C_reg ?_))))
  refine L_run (R_move rfl) rfl ?_
  refine L_call rfl cb50 (law38_Few (l := xs0) hS0 (by omega)) rfl ?_
  rintro _ w1 ⟨hs1, rfl⟩
  replace hB := gb_tr hB hs1
  replace hS0 := hS0.gb hs1
  replace hD0 := hD0.gb hs1
  refine L_run (R_notD rfl) rfl ?_
  refine L_nil (N_then (C_condT rfl (decide_eq_true hk0) (C_seq (C_reg ?_))))
  refine L_call rfl cb51 (awake38) rfl ?_
  rintro _ w2 ⟨hs2, rfl⟩
  replace hB := gb_tr hB hs2
  replace hS0 := hS0.gb hs2
  replace hD0 := hD0.gb hs2
  refine L_run (R_assign rfl) rfl ?_
  refine L_nil (N_then (C_ret (R_then ?_)))
  refine ret1 Try.results11 rfl ?_
  exact ⟨hB, rfl⟩

theorem walk {w : World} {A0 : Option Addr} {c0 : Nat} {xs0 : List StepD} (hS0 : Sli 0 0 w.heap.size w A0 (fl encS xs0)) (hl0 : xs0.length ≤ c0) (hm0 : c0 * 80 ≤ 140737488351232) (hg0 : ∀ x ∈ xs0, GoodS w x) : Runs Try.prog 11 #[.slice A0 xs0.length c0] w (fun v w' => w.grownBy w' none ∧ v = .bool true) := by
  by_cases h0 : FewSs xs0
  · by_cases h1 : 64 < xs0.length
    · exact walk1 hS0 hl0 hm0 hg0 h0 h1
    · by_cases h2 : ∀ p ∈ ps xs0, sOk p
      · exact walk3 hS0 hl0 hm0 hg0 h0 (by omega) h2
      · exact walk2 hS0 hl0 hm0 hg0 h0 (by omega) h2
  · exact walk4 hS0 hl0 hm0 hg0 h0

open Go.ChangeShapes Go.WideShapes Go.ChangeAt
theorem own : ownKnob Try.prog.godebug = none := by kernel_rfl
theorem laidOut : laidOutB Try.prog = true := by kernel_rfl
set_option maxRecDepth 100000 in
theorem lifted (os : Os) (started : os.Started) (H : Type) (enc : TypeId × Value → H) :
    ReturnsInHanded {} Try.checked os 11 .any (Rows.scriptEncodesSpec.pre6 enc Try.prog Try.f11 Rows.scriptEncodesRow.domain false) (Rows.scriptEncodesSpec.post enc Try.prog Try.f11 false true false false) := by
  refine returnsInHanded_of_change_sized (C := Try.checked) own started (by kernel_rfl) Try.func11
    (ChangeSpec.witness6 (enc := enc) (C := Try.checked) false ⟨#[], #[.slice none 0 0], []⟩ 8 (by kernel_rfl) (by kernel_rfl) (by kernel_rfl) (by kernel_rfl)) ?_
  intro W base args ds gs before hval0 hW hcnd hsz0 _
  have hsz : (DataW.weightsEach Try.prog (Try.f11.params.toList ++ Rows.scriptEncodesSpec.plain.varTypes Try.prog) (ds ++ gs)).all (· ≤ reachBytes) = true := hsz0
  have hval : ∀ (j : Nat) t v, Try.f11.params[j]? = some t → args[j]? = some v → Value.okWide Try.prog W .any base t v := hval0
  have hW' := hW
  obtain ⟨p, q, hA0, hV, rfl, hfz, hnd⟩ := hW
  have hA : DataW.TrodAll enc Try.prog W 0 (fun _ => true) true Try.f11.params.toList args.toList ds p := hA0
  rw [Try.params11] at hA hval hsz
  obtain ⟨v0, vs0, d0, ds0, p0, q0, hargs, rfl, rfl, h0, r0⟩ := trodAll_cons hA
  obtain ⟨rfl, rfl, rfl⟩ := trodAll_nil r0
  obtain rfl : args = #[v0] := by cases args; simp_all
  obtain ⟨rfl, rfl⟩ := trodVars_none hV
  have lt0 : ∀ x ∈ p0, x.block < W.heap.size := by obtain ⟨m, hm⟩ := h0; exact DataW.trod_lt m _ _ _ hm
  obtain ⟨⟨A0, c0, xs0⟩, e0, hS0, hl0, hm0, hg0⟩ := Rdr.arg (enc := enc) (P := Try.prog) (W := W) (Rdr.slice (ec := encS) (sz := 6) (by_ := 80) ((Rdr.struct Try.underlying65 rfl (by kernel_rfl) (Rds.cons (off := 0) (sz := 1) (Rdr.int Try.underlying3) (by kernel_rfl) rfl (by decide) (Rds.cons (off := 1) (sz := 1) (Rdr.int Try.underlying3) (by kernel_rfl) rfl (by decide) (Rds.cons (off := 2) (sz := 1) (Rdr.slice (ec := encOp) (sz := 3) (by_ := 40) ((Rdr.struct Try.underlying44 rfl (by kernel_rfl) (Rds.cons (off := 0) (sz := 1) (Rdr.int Try.underlying3) (by kernel_rfl) rfl (by decide) (Rds.cons (off := 1) (sz := 1) (Rdr.str Try.underlying9) (by kernel_rfl) rfl (by decide) (Rds.cons (off := 2) (sz := 1) (Rdr.str Try.underlying9) (by kernel_rfl) rfl (by decide) (Rds.nil))))).map (fun y => (⟨y.1, y.2.1, y.2.2.1⟩ : Opd)) (e' := encOp) (fun _ _ => rfl) (good' := GoodOp) (fun _ h => ⟨h.1, h.2.1, h.2.2.1⟩)) EncOp Try.underlying22 (by kernel_rfl) (by kernel_rfl)) (by kernel_rfl) rfl (by decide) (Rds.cons (off := 3) (sz := 3) (Rdr.struct Try.underlying63 rfl (by kernel_rfl) (Rds.cons (off := 0) (sz := 1) (Rdr.slice (ec := encB) (sz := 1) (by_ := 1) ((Rdr.int Try.underlying5).map (fun n => UInt8.ofNat n.toNat) byte_of (good' := fun _ => True) (fun _ _ => trivial)) EncB Try.underlying42 (by kernel_rfl) (by kernel_rfl)) (by kernel_rfl) rfl (by decide) (Rds.cons (off := 1) (sz := 1) (Rdr.int Try.underlying3) (by kernel_rfl) rfl (by decide) (Rds.cons (off := 2) (sz := 1) (Rdr.int Try.underlying3) (by kernel_rfl) rfl (by decide) (Rds.nil))))) (by kernel_rfl) rfl (by decide) (Rds.nil)))))).map (fun y => (⟨y.2.2.1.1, y.2.2.1.2.1, y.2.2.2.1.1.1, y.2.2.2.1.1.2.1, ⟨y.1, y.2.1, y.2.2.1.2.2, y.2.2.2.1.1.2.2, y.2.2.2.1.2.1, y.2.2.2.1.2.2.1⟩⟩ : StepD)) (e' := encS) (fun _ _ => rfl) (good' := GoodS W) (fun _ h => ⟨h.2.2.1.1, h.2.2.2.1.1.1⟩)) EncS Try.underlying58 (by kernel_rfl) (by kernel_rfl)) hsz (j := 0) rfl rfl h0
  obtain rfl := of_cell e0 (by intro cs e_; obtain ⟨a_, l_, k_, e2_⟩ := okWide_slice Try.underlying58 (hval 0 58 v0 rfl rfl); rw [e2_] at e_; cases e_)
  refine (walk (w := W) hS0 hl0 hm0 hg0).calls.mono fun e W' ⟨v_, he, hgb, hv_⟩ => ?_
  subst he
  subst hv_
  have bel := gb_below hgb
  exact ⟨_, rfl, _, _, _, [], _, [], hW', trodAll_mk1 (shut_bool Try.underlying4 _), (trodAll_cons_mk (Below.trod laidOut (by kernel_rfl) (of_decide_eq_true (by kernel_rfl)) h0 bel lt0) trodAll_mk0), rfl, bel.frame _, fun h => by cases h⟩
theorem over : Rows.scriptEncodesRow.holds Try.pinned (OpenSpec.ofChange Rows.scriptEncodesSpec) :=
  OpenClaim.holds_of_wide 11 Try.f11 rfl rfl rfl rfl rfl rfl rfl ⟨rfl, rfl, rfl, rfl, rfl⟩ rfl rfl rfl rfl rfl (by kernel_rfl) Try.func11 (by kernel_rfl)
    (of_decide_eq_true (by kernel_rfl)) (by unfold Func.isWrapper; first | (rw [if_pos (by decide +kernel)]; kernel_rfl) | (rw [if_neg (by decide +kernel)]; exact ⟨rfl, rfl⟩))
    (fun os started H enc _ => lifted os started H enc)
/-- The given statement. -/
theorem proved : Rows.ScriptEncodesSaid := over
#print axioms proved

end Go.Proofs.Ytnggbodilhpohaa.LScriptEncodes
