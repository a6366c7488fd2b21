/-
  Contracts of layer 40's own and awake.
-/
import Derived.Test.YtbmohojdlgedpaaHt
namespace Go.Proofs.Ytbmohojdlgedpaa
open Go.RowKit Gw Pl
set_option linter.unusedVariables false
set_option linter.unusedSimpArgs false
theorem cb12 : callB Try.prog 12 = true := by kernel_rfl
theorem cb13 : callB Try.prog 13 = true := by kernel_rfl
theorem cb15 : callB Try.prog 15 = true := by kernel_rfl
theorem cb16 : callB Try.prog 16 = true := by kernel_rfl
theorem cb17 : callB Try.prog 17 = true := by kernel_rfl
theorem cb18 : callB Try.prog 18 = true := by kernel_rfl
theorem cb19 : callB Try.prog 19 = true := by kernel_rfl
theorem fld46_0 : fldB Try.prog 46 0 0 = true := by kernel_rfl
theorem fld46_1 : fldB Try.prog 46 1 1 = true := by kernel_rfl
theorem zer87 : (Try.prog.info? 87).bind (·.zero) = some (.agg #[.int .i64 0, .int .i64 0, .int .i64 0, .int .i64 0, .slice none 0 0]) := by kernel_rfl
abbrev aS : StepD := ⟨none, 0, none, 0, ⟨2, 0, [], [], 0, 0⟩⟩
abbrev aE (k : Int) : EvD := ⟨k, 0, 0, 0, none, 0, []⟩
theorem aw_deepS {w : World} : DeepS w.heap.size w [aS] := fun y hy => by rw [List.mem_singleton.1 hy]; exact ⟨Sli.nil, Sli.nil⟩
theorem aw_deepV {w : World} {k : Int} : DeepV w.heap.size w [aE k] := fun y hy => by rw [List.mem_singleton.1 hy]; exact Sli.nil
theorem aw_deepN {w : World} : DeepV w.heap.size w [] := fun y hy => by cases hy
theorem aw_pr {k : Int} : ∀ x ∈ [aE k], x.prs.length ≤ 100 := fun x hx => by rw [List.mem_singleton.1 hx]; exact Nat.zero_le _
theorem aw_prN : ∀ x ∈ ([] : List EvD), x.prs.length ≤ 100 := fun x hx => by cases hx
theorem aw_few : FewSs [aS] := by decide
theorem aw1 : atI [aS] [aE 2] = -1 := by decide +kernel
theorem aw2 : ¬ atI [aS] [aE 3] = -1 := by decide +kernel
theorem aw3 : atI [aS] [] = 0 := by decide +kernel
theorem awake40 {w : World} :
    Runs Try.prog 13 #[] w (fun v w' => w.grownBy w' none ∧ v = .bool true) := by
  have hB := gb_refl w none
  refine enter Try.func13 Try.ntmps13 rfl rfl ?_
  refine C_seq (C_reg rfl ?_)
  refine L_run (R_assign rfl) rfl ?_
  refine L_nil (N_then (C_seq (C_reg rfl ?_)))
  refine L_run (R_build (pv := [(0, .int .i64 2)]) (cs := [.int .i64 2, .int .i64 0, .slice none 0 0, .slice none 0 0, .int .i64 0, .int .i64 0]) rfl (by kernel_rfl)) rfl ?_
  refine L_buildSlice (pv := [(0, .agg #[.int .i64 2, .int .i64 0, .slice none 0 0, .slice none 0 0, .int .i64 0, .int .i64 0])]) (cs := [.int .i64 2, .int .i64 0, .slice none 0 0, .slice none 0 0, .int .i64 0, .int .i64 0]) slc39 zer86 rfl rfl (by kernel_rfl) rfl ?_
  intro g1 w1 eg1 hb1 hs1 hz1
  have ge1 : w.heap.size ≤ g1 := eg_ge hB eg1
  replace hB := gb_tr hB hs1
  refine L_run (R_assign rfl) rfl ?_
  refine L_nil (N_then (C_seq (C_reg rfl ?_)))
  refine L_run (R_move rfl) rfl ?_
  refine L_run (R_build (pv := [(0, .int .i64 2)]) (cs := [.int .i64 2, .int .i64 0, .int .i64 0, .int .i64 0, .slice none 0 0]) rfl (by kernel_rfl)) rfl ?_
  refine L_buildSlice (pv := [(0, .agg #[.int .i64 2, .int .i64 0, .int .i64 0, .int .i64 0, .slice none 0 0])]) (cs := [.int .i64 2, .int .i64 0, .int .i64 0, .int .i64 0, .slice none 0 0]) slc48 zer87 rfl rfl (by kernel_rfl) rfl ?_
  intro g2 w2 eg2 hb2 hs2 hz2
  have ge2 : w.heap.size ≤ g2 := eg_ge hB eg2
  have lt1 : g1 < g2 := lt_of_eg hb1.lt eg2
  replace hB := gb_tr hB hs2
  replace hb1 := hb1.gb hs2
  refine L_call rfl cb19 (fair_ok (l := [aS]) (ev := [aE 2]) (Sli.any (Blk.sli (m := 0) hb1)) aw_deepS (Sli.any (Blk.sli (m := 0) hb2)) aw_deepV aw_few (by decide) aw_pr) rfl ?_
  rintro _ w3 ⟨hs3, rfl⟩
  replace hB := gb_tr hB hs3
  replace hb1 := hb1.gb hs3
  replace hb2 := hb2.gb hs3
  refine L_run (R_eqv (R_move rfl) (v' := .bool true) (bT' aw1)) rfl ?_
  refine L_yes rfl rfl rfl rfl ?_
  refine L_run (R_move rfl) rfl ?_
  refine L_yes rfl rfl rfl rfl ?_
  refine L_run (R_build (pv := [(0, .int .i64 3)]) (cs := [.int .i64 3, .int .i64 0, .int .i64 0, .int .i64 0, .slice none 0 0]) rfl (by kernel_rfl)) rfl ?_
  refine L_yes rfl rfl rfl rfl ?_
  refine L_buildSlice (pv := [(0, .agg #[.int .i64 3, .int .i64 0, .int .i64 0, .int .i64 0, .slice none 0 0])]) (cs := [.int .i64 3, .int .i64 0, .int .i64 0, .int .i64 0, .slice none 0 0]) slc48 zer87 rfl rfl (by kernel_rfl) rfl ?_
  intro g3 w4 eg3 hb3 hs4 hz3
  have ge3 : w.heap.size ≤ g3 := eg_ge hB eg3
  have lt2 : g1 < g3 := lt_of_eg hb1.lt eg3
  have lt3 : g2 < g3 := lt_of_eg hb2.lt eg3
  replace hB := gb_tr hB hs4
  replace hb1 := hb1.gb hs4
  replace hb2 := hb2.gb hs4
  refine L_yes rfl rfl rfl rfl ?_
  refine L_call rfl cb19 (fair_ok (l := [aS]) (ev := [aE 3]) (Sli.any (Blk.sli (m := 0) hb1)) aw_deepS (Sli.any (Blk.sli (m := 0) hb3)) aw_deepV aw_few (by decide) aw_pr) rfl ?_
  rintro _ w5 ⟨hs5, rfl⟩
  replace hB := gb_tr hB hs5
  replace hb1 := hb1.gb hs5
  replace hb2 := hb2.gb hs5
  replace hb3 := hb3.gb hs5
  refine L_yes rfl rfl rfl rfl ?_
  refine L_run (R_eqv (R_notD rfl) (v' := .bool true) (bT' aw2)) rfl ?_
  refine L_run (R_pickT rfl rfl rfl) rfl ?_
  refine L_run (R_move rfl) rfl ?_
  refine L_yes rfl rfl rfl rfl ?_
  refine L_run (R_move rfl) rfl ?_
  refine L_yes rfl rfl rfl rfl ?_
  refine L_call rfl cb14 (check_ok (l := [aS]) (ev := ([] : List EvD)) (Sli.any (Blk.sli (m := 0) hb1)) aw_deepS (Sli.any (Sli.nil (t := 0) (lo := 0) (hi := 0))) aw_deepN aw_few (by decide) aw_prN) rfl ?_
  rintro _ w6 ⟨hs6, tx, rfl, htx⟩
  replace hB := gb_tr hB hs6
  replace hb1 := hb1.gb hs6
  replace hb2 := hb2.gb hs6
  replace hb3 := hb3.gb hs6
  refine L_yes rfl rfl rfl rfl ?_
  refine L_run (R_field1 rfl Try.underlying46 rfl scl3 rfl) rfl ?_
  refine L_yes rfl rfl rfl rfl ?_
  refine L_run (R_eqv (R_eql rfl rfl) (v' := .bool true) (bT' aw3)) rfl ?_
  refine L_run (R_pickT rfl rfl rfl) rfl ?_
  refine L_run (R_assign rfl) rfl ?_
  refine L_nil (N_then (C_ret ?_))
  refine ret1 Try.results13 rfl ?_
  exact ⟨hB, rfl⟩

theorem own40_ok {w : World} {t1 lo hi : Nat} {A : Option Addr} {c : Nat} {ev : List EvD} (hV : Sli t1 lo hi w A (fl encEv ev)) (hb : ev.length ≤ 80) :
    Runs Try.prog 15 #[.slice A ev.length c] w (fun v_ w' => w.grownBy w' none ∧ ∃ A' c', v_ = .slice A' ev.length c' ∧ World.ownsRow w' w.heap.size 87 5 (.slice A' ev.length c') ev.length (fl encEv ev)) := by
  have hB := gb_refl w none
  replace hV := hV.top
  refine enter Try.func15 Try.ntmps15 rfl rfl ?_
  refine C_seq (C_reg rfl ?_)
  refine L_run (R_assign rfl) rfl ?_
  refine L_nil (N_then (C_seq (C_reg rfl ?_)))
  refine L_run (R_assign rfl) rfl ?_
  refine L_nil (N_then (C_seq (C_seq (C_reg rfl ?_))))
  refine L_run (R_assign rfl) rfl ?_
  refine L_nil (N_then (C_block ?_))
  refine C_loop (fun m_ a_ w_ => ∃ (σ_ : Nat → Value) (i : Nat) (Aj : Option Addr) (cj : Nat), a_ = Ac 19 σ_ [] [(0, .slice A ev.length c), (2, .slice none 0 0), (3, .slice Aj ((ev.take i).length) cj), (4, .int .i64 (i : Int))] ∧ w.grownBy w_ none ∧ Sli t1 lo w.heap.size w_ A (fl encEv ev) ∧ World.ownsRow w_ w.heap.size 87 5 (.slice Aj (ev.take i).length cj) (ev.take i).length (fl encEv (ev.take i)) ∧ (i ≤ ev.length) ∧ ev.length - i = m_) (ev.length - 0) ?_ ?_
  · exact ⟨_, 0, none, 0, Ac_frg ⟨rfl, rfl, (agr rfl (by first | rfl | (congr 1; omega) | (congr 1; simp; done) | (congr 1; simp only [IntKind.wrap_u64, IntKind.wrap_i64, IntKind.wrap_u8]; omega) | (congr 1 <;> omega))), (agr rfl (by first | rfl | (congr 1; omega) | (congr 1; simp; done) | (congr 1; simp only [IntKind.wrap_u64, IntKind.wrap_i64, IntKind.wrap_u8]; omega) | (congr 1 <;> omega))), trivial⟩, hB, hV, (own_nil _ _ _ _), (Nat.zero_le _), rfl⟩
  · clear hB
    clear hV
    rintro m_ a_ w1 ⟨σ_, i, Aj, cj, rfl, hB, hV, hoP, hi_, rfl⟩
    refine C_seq (C_seq (C_reg rfl ?_))
    refine L_run (R_move rfl) rfl ?_
    refine L_run (R_move rfl) rfl ?_
    refine L_run (R_lenSl rfl slc40) rfl ?_
    refine L_run (R_lss rfl rfl) rfl ?_
    refine L_nil (N_then ?_)
    refine C_if rfl (fun h1 => ?_) (fun h1 => ?_)
    · refine C_skip (N_then (C_seq (C_block (C_reg rfl ?_))))
      refine L_run (R_move rfl) rfl ?_
      have hli : i < ev.length := by omega
      refine L_run (R_move rfl) rfl ?_
      refine L_run (R_move rfl) rfl ?_
      have hl1 : i < ev.length := by first | omega | (simp; omega)
      refine T_index (xs := ev) (i := i) EncEv rfl rfl (by first | rfl | omega) slc40 hl1 hV rfl ?_
      intro g1 o1 ha1
      refine L_run (R_loadA (vs := [.int .i64 ((ev[i]).kind), .int .i64 ((ev[i]).e), .int .i64 ((ev[i]).bat), .int .i64 ((ev[i]).syn), .slice ((ev[i]).pa) ((ev[i]).prs.length) ((ev[i]).pc)]) rfl agg44 (At.pre ha1 rfl) rfl) rfl ?_
      refine L_buildSlice (pv := [(0, .agg #[.int .i64 ((ev[i]).kind), .int .i64 ((ev[i]).e), .int .i64 ((ev[i]).bat), .int .i64 ((ev[i]).syn), .slice ((ev[i]).pa) ((ev[i]).prs.length) ((ev[i]).pc)])]) (cs := [.int .i64 ((ev[i]).kind), .int .i64 ((ev[i]).e), .int .i64 ((ev[i]).bat), .int .i64 ((ev[i]).syn), .slice ((ev[i]).pa) ((ev[i]).prs.length) ((ev[i]).pc)]) slc48 zer87 rfl rfl (by kernel_rfl) rfl ?_
      intro g2 w2 eg1 hb1 hs1 hz1
      have ge1 : w.heap.size ≤ g2 := eg_ge hB eg1
      have hap1 : ∀ k_, (Value.slice Aj (ev.take i).length cj).ownBlock = some k_ → k_ ≠ g2 := fun k_ hk => by have h_ := (World.ownsRow.lt hoP k_ hk).2; omega
      replace hB := gb_tr hB hs1
      replace hV := hV.gb hs1
      replace hoP := own_gb hoP hs1
      replace ha1 := At.gb ha1 hs1 (by simp)
      refine T_append (xs := ev.take i) (ys := [(ev[i])]) EncEv slc48 rfl rfl hoP (Blk.sli (m := 0) hb1) (by simp only [List.length_take, List.length_cons, List.length_nil]; omega) (by have := hB.size; omega) rfl ?_
      intro A_1 c_1 w3 ho1 hs2 hat1
      replace hB := gb_tro hB hoP hs2 (Nat.le_refl _)
      replace hV := hV.grown hs2 (fun k hk => .inr (Nat.le_trans (Nat.le_refl _) (World.ownsRow.lt hoP k hk).1))
      refine L_run (R_assign rfl) rfl ?_
      refine L_nil (N_in (N_then (C_reg rfl ?_)))
      refine L_run (R_move rfl) rfl ?_
      refine L_run (R_add64 rfl rfl (by omega)) rfl ?_
      refine L_run (R_assign rfl) rfl ?_
      refine L_nil (N_then ?_)
      have et_ := List.take_succ_eq_append_getElem hli
      exact ⟨ev.length - (i + 1), by omega, _, (i + 1), A_1, c_1, Ac_frg ⟨rfl, rfl, (agr rfl (by rw [et_])), (agr rfl (by first | rfl | (congr 1; omega) | (congr 1; simp; done) | (congr 1; simp only [IntKind.wrap_u64, IntKind.wrap_i64, IntKind.wrap_u8]; omega) | (congr 1 <;> omega))), trivial⟩, hB, hV, (by rw [et_]; exact (own_lo ho1 (Nat.le_refl _))), (by omega), rfl⟩
    · refine C_exit (X_then (X_then (X_hit (N_then (C_seq (C_reg rfl ?_))))))
      refine L_run (R_move rfl) rfl ?_
      refine L_run (R_assign rfl) rfl ?_
      refine L_nil (N_then (C_ret ?_))
      refine ret1 Try.results15 rfl ?_
      have et_ : ev.take i = ev := List.take_of_length_le (by omega)
      exact ⟨hB, _, _, (by rw [et_]), (by have h_ := (own_lo hoP (Nat.le_refl _)); rw [et_] at h_; exact h_)⟩

end Go.Proofs.Ytbmohojdlgedpaa
