/-
  For every list of numbers the law ExploreSafe returns true, and changes nothing that was there.
-/
import Derived.Test.YtbeafehpjjojnaaGreatDoorXb
import Derived.Test.YtbeafehpjjojnaaGreatDoorWx
import Derived.Test.YtbeafehpjjojnaaGreatDoorTie
import Derived.Test.YtbeafehpjjojnaaGreatDoorCards
import Derived.WalkKit
import Derived.ProofKit
import Derived.OpenShut
import Derived.ShutString
import Derived.ChangeOld
import Derived.Below
import Derived.SizedLaws
import Derived.LaidMore
import Derived.SevenTiedAt
import Derived.Stop.Joined
namespace Go.Proofs.YtbeafehpjjojnaaGreatDoor.LExploreSafe
open Go.RowKit Gw Pl
set_option linter.unusedVariables false
set_option linter.unusedSimpArgs false
theorem boo4 : Tryz.prog.underlying 4 = some .bool := by kernel_rfl
theorem cb56 : callB Tryz.prog 56 = true := by kernel_rfl
theorem cb57 : callB Tryz.prog 57 = true := by kernel_rfl
theorem slc75 : slcB Tryz.prog 75 3 1 8 = true := by kernel_rfl
theorem half_laid {W : World} (h : laidMetH Tryz.prog Rows.exploreSafeRow.laid W) : ∃ T fz, W.heap[0]? = some (.cells Gw.tblV.toArray T fz) :=
  Ev.table_at (nm := "strandline/crc.half") (G := 0) (t := 508) (te := 162) (ks := [0, 274646895, 549293790, 820201905, 1098587580, 1361435347, 1640403810, 1905808397, 2197175160, 2460548119, 2722870694, 2987750089, 3280807620, 3553878443, 3811616794, 4084100981]) (by kernel_rfl) (by kernel_rfl) Tryz.underlying508 Tryz.underlying162 (by kernel_rfl) (by kernel_rfl) h

theorem walk {w : World} (hT : ∃ T fz, w.heap[0]? = some (.cells Gw.tblV.toArray T fz)) {A0 : Option Addr} {c0 : Nat} {xs0 : List Int} (hS0 : Sli 0 0 w.heap.size w A0 (fl encI xs0)) (hl0 : xs0.length ≤ c0) (hm0 : c0 * 8 ≤ 140737488351232) (hg0 : ∀ x ∈ xs0, (Lit.int .i64 x).wf = true) :
    Runs Tryz.prog 8 #[.slice A0 xs0.length c0] w (fun v w' => w.grownBy w' none ∧ v = .bool true) := by
  have hB := gb_refl w none
  refine enter Tryz.func8 Tryz.ntmps8 rfl rfl ?_
  refine C_seq (C_reg rfl ?_)
  refine L_run (R_assign rfl) rfl ?_
  refine L_nil (N_then (C_seq (C_seq (C_reg rfl ?_))))
  refine L_run (R_move rfl) rfl ?_
  refine L_run (R_lenSl rfl slc75) rfl ?_
  refine L_run (R_gtr rfl rfl) rfl ?_
  refine L_nil (N_then ?_)
  refine C_if rfl (fun h1 => ?_) (fun h1 => ?_)
  · refine C_seq (C_reg rfl ?_)
    refine L_call rfl cb56 (awakeY (halfT hT hB)) rfl ?_
    rintro _ w1 ⟨hs1, rfl⟩
    replace hB := gb_tr hB hs1
    replace hS0 := hS0.gb hs1
    refine L_run (R_assign rfl) rfl ?_
    refine L_nil (N_then (C_ret (R_then ?_)))
    refine ret1 Tryz.results8 rfl ?_
    exact ⟨hB, rfl⟩
  · refine C_skip (N_then (C_seq (C_reg rfl ?_)))
    refine L_run (R_assign rfl) rfl ?_
    refine L_nil (N_then (C_seq (C_reg rfl ?_)))
    refine L_run (R_assign rfl) rfl ?_
    refine L_nil (N_then (C_seq (C_reg rfl ?_)))
    refine L_run (R_assign rfl) rfl ?_
    refine L_nil (N_then (C_seq (C_seq (C_reg rfl ?_))))
    refine L_run (R_assign rfl) rfl ?_
    refine L_nil (N_then (C_block ?_))
    refine C_loop (fun m_ a_ w_ => ∃ (σ_ : Nat → Value) (A' : Option Addr) (c' : Nat) (i : Nat) (v : Int), a_ = Ac 60 σ_ [] [(0, .slice A0 xs0.length c0), (3, .slice A' ((xs0.take i).length) c'), (4, .int .i64 v), (5, .bool (decide (AllP (xs0.take i)))), (6, .int .i64 (i : Int))] ∧ w.grownBy w_ none ∧ Sli 0 0 w.heap.size w_ A0 (fl encI xs0) ∧ World.ownsRow w_ w.heap.size 80 7 (.slice A' (xs0.take i).length c') (xs0.take i).length (fl encW (xs0.take i)) ∧ (i ≤ xs0.length) ∧ (v = wst (xs0.take i)) ∧ xs0.length - i = m_) (xs0.length - 0) ?_ ?_
    · exact ⟨_, none, 0, 0, -1, Ac_frg ⟨rfl, (agr rfl (by first | rfl | (congr 1; omega) | (congr 1; simp; done) | (congr 1; simp only [IntKind.wrap_u64, IntKind.wrap_i64, IntKind.wrap_u8]; omega) | (congr 1 <;> omega))), rfl, (agr rfl (by first | rfl | (congr 1; omega) | (congr 1; simp; done) | (congr 1; simp only [IntKind.wrap_u64, IntKind.wrap_i64, IntKind.wrap_u8]; omega) | (congr 1 <;> omega))), (agr rfl (by first | rfl | (congr 1; omega) | (congr 1; simp; done) | (congr 1; simp only [IntKind.wrap_u64, IntKind.wrap_i64, IntKind.wrap_u8]; omega) | (congr 1 <;> omega))), trivial⟩, hB, hS0, (own_nil _ _ _ _), (by omega), rfl, rfl⟩
    · clear hB
      clear hS0
      rintro m_ a_ w2 ⟨σ_, A', c', i, v, rfl, hB, hS0, ho, hi, hv, rfl⟩
      refine C_seq (C_seq (C_reg rfl ?_))
      refine L_run (R_move rfl) rfl ?_
      refine L_run (R_move rfl) rfl ?_
      refine L_run (R_lenSl rfl slc75) rfl ?_
      refine L_run (R_lss rfl rfl) rfl ?_
      refine L_nil (N_then ?_)
      refine C_if rfl (fun h2 => ?_) (fun h2 => ?_)
      · refine C_skip (N_then (C_seq (C_block (C_seq (C_reg rfl ?_)))))
        refine L_run (R_move rfl) rfl ?_
        refine L_run (R_move rfl) rfl ?_
        refine L_run (R_move rfl) rfl ?_
        have hl1 : i < xs0.length := by first | omega | (simp; omega)
        refine T_index (xs := xs0) (i := i) EncI rfl rfl (by first | rfl | omega) slc75 hl1 hS0 rfl ?_
        intro g1 o1 ha1
        refine L_run (R_load1 rfl scl3 (ha1 0 _ rfl)) rfl ?_
        refine L_run (R_build (pv := [(4, .int .i64 (xs0[i]))]) (cs := [.slice none 0 0, .int .i64 0, .int .i64 0, .int .i64 0, .int .i64 0, .slice none 0 0, .int .i64 (xs0[i])]) rfl (by kernel_rfl)) rfl ?_
        refine L_buildSlice (pv := [(0, .agg #[.slice none 0 0, .int .i64 0, .int .i64 0, .int .i64 0, .int .i64 0, .slice none 0 0, .int .i64 (xs0[i])])]) (cs := [.slice none 0 0, .int .i64 0, .int .i64 0, .int .i64 0, .int .i64 0, .slice none 0 0, .int .i64 (xs0[i])]) slc76 zer80 rfl rfl (by kernel_rfl) rfl ?_
        intro g2 w3 eg1 hb1 hs2 hz1
        have ge1 : w.heap.size ≤ g2 := eg_ge hB eg1
        have hap1 : ∀ k_, (Value.slice A' (xs0.take i).length c').ownBlock = some k_ → k_ ≠ g2 := fun k_ hk => by have h_ := (World.ownsRow.lt ho k_ hk).2; omega
        replace hB := gb_tr hB hs2
        replace hS0 := hS0.gb hs2
        replace ho := own_gb ho hs2
        replace ha1 := At.gb ha1 hs2 (by simp)
        refine T_append (xs := xs0.take i) (ys := [xs0[i]]) EncW slc76 rfl rfl ho (Blk.sli (m := 0) hb1) (by first | omega | (simp; done) | (simp; omega)) (by have := hB.size; omega) rfl ?_
        intro A_1 c_1 w4 ho1 hs3 hat1
        replace hB := gb_tro hB ho hs3 (Nat.le_refl _)
        replace hS0 := hS0.grown hs3 (fun k hk => .inr (Nat.le_trans (Nat.le_refl _) (World.ownsRow.lt ho k hk).1))
        refine L_run (R_assign rfl) rfl ?_
        refine L_nil (N_then (C_seq (C_reg rfl ?_)))
        refine L_run (R_move rfl) rfl ?_
        refine L_run (R_move rfl) rfl ?_
        refine L_splitD (p := AllP (xs0.take i)) (fun h3 => ?_) (fun h3 => ?_)
        · refine L_yes rfl rfl rfl (decide_eq_true h3) ?_
          refine L_run (R_move rfl) rfl ?_
          refine L_yes rfl rfl rfl (decide_eq_true h3) ?_
          refine L_run (R_move rfl) rfl ?_
          refine L_yes rfl rfl rfl (decide_eq_true h3) ?_
          have hl2 : i < xs0.length := by first | omega | (simp; omega)
          refine T_index (xs := xs0) (i := i) EncI rfl rfl (by first | rfl | omega) slc75 hl2 hS0 rfl ?_
          intro g3 o2 ha2
          refine L_yes rfl rfl rfl (decide_eq_true h3) ?_
          refine L_run (R_load1 rfl scl3 (ha2 0 _ rfl)) rfl ?_
          refine L_yes rfl rfl rfl (decide_eq_true h3) ?_
          refine L_run (R_geq rfl rfl) rfl ?_
          refine L_run (R_eqv (R_pickT rfl (decide_eq_true h3) rfl) (v' := .bool (decide (AllP (xs0.take (i + 1))))) (by first | exact bD (all_next (by omega) (by assumption)) | exact (bF' (fun h => absurd (all_pre h) (by assumption))).symm)) rfl ?_
          refine L_run (R_assign rfl) rfl ?_
          refine L_nil (N_then (C_seq (C_reg rfl ?_)))
          refine L_run (R_move rfl) rfl ?_
          refine L_run (R_eql rfl rfl) rfl ?_
          refine L_run (R_move rfl) rfl ?_
          refine L_splitD (p := (i : Int) = 0) (fun h4 => ?_) (fun h4 => ?_)
          · refine L_no rfl rfl rfl (decide_eq_true h4) rfl ?_
            refine L_no rfl rfl rfl (decide_eq_true h4) rfl ?_
            refine L_no rfl rfl rfl (decide_eq_true h4) rfl ?_
            refine L_no rfl rfl rfl (decide_eq_true h4) rfl ?_
            refine L_no rfl rfl rfl (decide_eq_true h4) rfl ?_
            refine L_no rfl rfl rfl (decide_eq_true h4) rfl ?_
            refine L_run (R_pickT rfl (decide_eq_true h4) rfl) rfl ?_
            refine L_nil (N_then (C_condT rfl rfl (C_reg rfl ?_)))
            refine L_run (R_move rfl) rfl ?_
            refine L_run (R_move rfl) rfl ?_
            have hl3 : i < xs0.length := by first | omega | (simp; omega)
            refine T_index (xs := xs0) (i := i) EncI rfl rfl (by first | rfl | omega) slc75 hl3 hS0 rfl ?_
            intro g4 o3 ha3
            refine L_run (R_load1 rfl scl3 (ha3 0 _ rfl)) rfl ?_
            refine L_run (R_assign rfl) rfl ?_
            refine L_nil (N_in (N_then (C_reg rfl ?_)))
            refine L_run (R_move rfl) rfl ?_
            refine L_run (R_add64 rfl rfl (by omega)) rfl ?_
            refine L_run (R_assign rfl) rfl ?_
            refine L_nil (N_then ?_)
            have et_ : xs0.take i ++ [xs0[i]] = xs0.take (i + 1) := (List.take_succ_eq_append_getElem (by omega)).symm
            exact ⟨xs0.length - (i + 1), by omega, _, A_1, c_1, (i + 1), xs0[i], Ac_frg ⟨rfl, (agr rfl (by rw [← et_])), rfl, rfl, (agr rfl (by first | rfl | (congr 1; omega) | (congr 1; simp; done) | (congr 1; simp only [IntKind.wrap_u64, IntKind.wrap_i64, IntKind.wrap_u8]; omega) | (congr 1 <;> omega))), trivial⟩, hB, hS0, (by rw [← et_]; exact ho1), (by omega), (wst_next (by omega) hv (by omega)), rfl⟩
          · refine L_yes rfl rfl rfl (decide_eq_false h4) ?_
            refine L_run (R_move rfl) rfl ?_
            refine L_yes rfl rfl rfl (decide_eq_false h4) ?_
            refine L_run (R_move rfl) rfl ?_
            refine L_yes rfl rfl rfl (decide_eq_false h4) ?_
            have hl4 : i < xs0.length := by first | omega | (simp; omega)
            refine T_index (xs := xs0) (i := i) EncI rfl rfl (by first | rfl | omega) slc75 hl4 hS0 rfl ?_
            intro g5 o4 ha4
            refine L_yes rfl rfl rfl (decide_eq_false h4) ?_
            refine L_run (R_load1 rfl scl3 (ha4 0 _ rfl)) rfl ?_
            refine L_yes rfl rfl rfl (decide_eq_false h4) ?_
            refine L_run (R_move rfl) rfl ?_
            refine L_yes rfl rfl rfl (decide_eq_false h4) ?_
            refine L_run (R_lss rfl rfl) rfl ?_
            refine L_run (R_pickF rfl (decide_eq_false h4) rfl) rfl ?_
            refine L_nil (N_then ?_)
            refine C_if rfl (fun h5 => ?_) (fun h5 => ?_)
            · refine C_reg rfl ?_
              refine L_run (R_move rfl) rfl ?_
              refine L_run (R_move rfl) rfl ?_
              have hl5 : i < xs0.length := by first | omega | (simp; omega)
              refine T_index (xs := xs0) (i := i) EncI rfl rfl (by first | rfl | omega) slc75 hl5 hS0 rfl ?_
              intro g6 o5 ha5
              refine L_run (R_load1 rfl scl3 (ha5 0 _ rfl)) rfl ?_
              refine L_run (R_assign rfl) rfl ?_
              refine L_nil (N_in (N_then (C_reg rfl ?_)))
              refine L_run (R_move rfl) rfl ?_
              refine L_run (R_add64 rfl rfl (by omega)) rfl ?_
              refine L_run (R_assign rfl) rfl ?_
              refine L_nil (N_then ?_)
              have et_ : xs0.take i ++ [xs0[i]] = xs0.take (i + 1) := (List.take_succ_eq_append_getElem (by omega)).symm
              exact ⟨xs0.length - (i + 1), by omega, _, A_1, c_1, (i + 1), xs0[i], Ac_frg ⟨rfl, (agr rfl (by rw [← et_])), rfl, rfl, (agr rfl (by first | rfl | (congr 1; omega) | (congr 1; simp; done) | (congr 1; simp only [IntKind.wrap_u64, IntKind.wrap_i64, IntKind.wrap_u8]; omega) | (congr 1 <;> omega))), trivial⟩, hB, hS0, (by rw [← et_]; exact ho1), (by omega), (wst_next (by omega) hv (by omega)), rfl⟩
            · refine C_skip (N_in (N_then (C_reg rfl ?_)))
              refine L_run (R_move rfl) rfl ?_
              refine L_run (R_add64 rfl rfl (by omega)) rfl ?_
              refine L_run (R_assign rfl) rfl ?_
              refine L_nil (N_then ?_)
              have et_ : xs0.take i ++ [xs0[i]] = xs0.take (i + 1) := (List.take_succ_eq_append_getElem (by omega)).symm
              exact ⟨xs0.length - (i + 1), by omega, _, A_1, c_1, (i + 1), v, Ac_frg ⟨rfl, (agr rfl (by rw [← et_])), rfl, rfl, (agr rfl (by first | rfl | (congr 1; omega) | (congr 1; simp; done) | (congr 1; simp only [IntKind.wrap_u64, IntKind.wrap_i64, IntKind.wrap_u8]; omega) | (congr 1 <;> omega))), trivial⟩, hB, hS0, (by rw [← et_]; exact ho1), (by omega), (wst_next (by omega) hv (by omega)), rfl⟩
        · refine L_no rfl rfl rfl (decide_eq_false h3) rfl ?_
          refine L_no rfl rfl rfl (decide_eq_false h3) rfl ?_
          refine L_no rfl rfl rfl (decide_eq_false h3) rfl ?_
          refine L_no rfl rfl rfl (decide_eq_false h3) rfl ?_
          refine L_no rfl rfl rfl (decide_eq_false h3) rfl ?_
          refine L_run (R_eqv (R_pickF rfl (decide_eq_false h3) rfl) (v' := .bool (decide (AllP (xs0.take (i + 1))))) (by first | exact bD (all_next (by omega) (by assumption)) | exact (bF' (fun h => absurd (all_pre h) (by assumption))).symm)) rfl ?_
          refine L_run (R_assign rfl) rfl ?_
          refine L_nil (N_then (C_seq (C_reg rfl ?_)))
          refine L_run (R_move rfl) rfl ?_
          refine L_run (R_eql rfl rfl) rfl ?_
          refine L_run (R_move rfl) rfl ?_
          refine L_splitD (p := (i : Int) = 0) (fun h6 => ?_) (fun h6 => ?_)
          · refine L_no rfl rfl rfl (decide_eq_true h6) rfl ?_
            refine L_no rfl rfl rfl (decide_eq_true h6) rfl ?_
            refine L_no rfl rfl rfl (decide_eq_true h6) rfl ?_
            refine L_no rfl rfl rfl (decide_eq_true h6) rfl ?_
            refine L_no rfl rfl rfl (decide_eq_true h6) rfl ?_
            refine L_no rfl rfl rfl (decide_eq_true h6) rfl ?_
            refine L_run (R_pickT rfl (decide_eq_true h6) rfl) rfl ?_
            refine L_nil (N_then (C_condT rfl rfl (C_reg rfl ?_)))
            refine L_run (R_move rfl) rfl ?_
            refine L_run (R_move rfl) rfl ?_
            have hl6 : i < xs0.length := by first | omega | (simp; omega)
            refine T_index (xs := xs0) (i := i) EncI rfl rfl (by first | rfl | omega) slc75 hl6 hS0 rfl ?_
            intro g7 o6 ha6
            refine L_run (R_load1 rfl scl3 (ha6 0 _ rfl)) rfl ?_
            refine L_run (R_assign rfl) rfl ?_
            refine L_nil (N_in (N_then (C_reg rfl ?_)))
            refine L_run (R_move rfl) rfl ?_
            refine L_run (R_add64 rfl rfl (by omega)) rfl ?_
            refine L_run (R_assign rfl) rfl ?_
            refine L_nil (N_then ?_)
            have et_ : xs0.take i ++ [xs0[i]] = xs0.take (i + 1) := (List.take_succ_eq_append_getElem (by omega)).symm
            exact ⟨xs0.length - (i + 1), by omega, _, A_1, c_1, (i + 1), xs0[i], Ac_frg ⟨rfl, (agr rfl (by rw [← et_])), rfl, rfl, (agr rfl (by first | rfl | (congr 1; omega) | (congr 1; simp; done) | (congr 1; simp only [IntKind.wrap_u64, IntKind.wrap_i64, IntKind.wrap_u8]; omega) | (congr 1 <;> omega))), trivial⟩, hB, hS0, (by rw [← et_]; exact ho1), (by omega), (wst_next (by omega) hv (by omega)), rfl⟩
          · refine L_yes rfl rfl rfl (decide_eq_false h6) ?_
            refine L_run (R_move rfl) rfl ?_
            refine L_yes rfl rfl rfl (decide_eq_false h6) ?_
            refine L_run (R_move rfl) rfl ?_
            refine L_yes rfl rfl rfl (decide_eq_false h6) ?_
            have hl7 : i < xs0.length := by first | omega | (simp; omega)
            refine T_index (xs := xs0) (i := i) EncI rfl rfl (by first | rfl | omega) slc75 hl7 hS0 rfl ?_
            intro g8 o7 ha7
            refine L_yes rfl rfl rfl (decide_eq_false h6) ?_
            refine L_run (R_load1 rfl scl3 (ha7 0 _ rfl)) rfl ?_
            refine L_yes rfl rfl rfl (decide_eq_false h6) ?_
            refine L_run (R_move rfl) rfl ?_
            refine L_yes rfl rfl rfl (decide_eq_false h6) ?_
            refine L_run (R_lss rfl rfl) rfl ?_
            refine L_run (R_pickF rfl (decide_eq_false h6) rfl) rfl ?_
            refine L_nil (N_then ?_)
            refine C_if rfl (fun h7 => ?_) (fun h7 => ?_)
            · refine C_reg rfl ?_
              refine L_run (R_move rfl) rfl ?_
              refine L_run (R_move rfl) rfl ?_
              have hl8 : i < xs0.length := by first | omega | (simp; omega)
              refine T_index (xs := xs0) (i := i) EncI rfl rfl (by first | rfl | omega) slc75 hl8 hS0 rfl ?_
              intro g9 o8 ha8
              refine L_run (R_load1 rfl scl3 (ha8 0 _ rfl)) rfl ?_
              refine L_run (R_assign rfl) rfl ?_
              refine L_nil (N_in (N_then (C_reg rfl ?_)))
              refine L_run (R_move rfl) rfl ?_
              refine L_run (R_add64 rfl rfl (by omega)) rfl ?_
              refine L_run (R_assign rfl) rfl ?_
              refine L_nil (N_then ?_)
              have et_ : xs0.take i ++ [xs0[i]] = xs0.take (i + 1) := (List.take_succ_eq_append_getElem (by omega)).symm
              exact ⟨xs0.length - (i + 1), by omega, _, A_1, c_1, (i + 1), xs0[i], Ac_frg ⟨rfl, (agr rfl (by rw [← et_])), rfl, rfl, (agr rfl (by first | rfl | (congr 1; omega) | (congr 1; simp; done) | (congr 1; simp only [IntKind.wrap_u64, IntKind.wrap_i64, IntKind.wrap_u8]; omega) | (congr 1 <;> omega))), trivial⟩, hB, hS0, (by rw [← et_]; exact ho1), (by omega), (wst_next (by omega) hv (by omega)), rfl⟩
            · refine C_skip (N_in (N_then (C_reg rfl ?_)))
              refine L_run (R_move rfl) rfl ?_
              refine L_run (R_add64 rfl rfl (by omega)) rfl ?_
              refine L_run (R_assign rfl) rfl ?_
              refine L_nil (N_then ?_)
              have et_ : xs0.take i ++ [xs0[i]] = xs0.take (i + 1) := (List.take_succ_eq_append_getElem (by omega)).symm
              exact ⟨xs0.length - (i + 1), by omega, _, A_1, c_1, (i + 1), v, Ac_frg ⟨rfl, (agr rfl (by rw [← et_])), rfl, rfl, (agr rfl (by first | rfl | (congr 1; omega) | (congr 1; simp; done) | (congr 1; simp only [IntKind.wrap_u64, IntKind.wrap_i64, IntKind.wrap_u8]; omega) | (congr 1 <;> omega))), trivial⟩, hB, hS0, (by rw [← et_]; exact ho1), (by omega), (wst_next (by omega) hv (by omega)), rfl⟩
      · refine C_exit (X_then (X_then (X_hit (N_then (C_seq (C_reg rfl ?_))))))
        refine L_run (R_move rfl) rfl ?_
        refine L_call rfl cb57 (safe_ok (xs := xs0.take i) (own_of ho).2.2 (by rw [List.length_take]; omega)) rfl ?_
        rintro _ w5 ⟨hs4, rfl⟩
        replace hB := gb_tr hB hs4
        replace hS0 := hS0.gb hs4
        replace ho := own_gb ho hs4
        refine L_run (R_move rfl) rfl ?_
        refine L_run (R_eqv (R_eqlB rfl rfl boo4) (v' := .bool true) (by simp)) rfl ?_
        refine L_run (R_move rfl) rfl ?_
        refine L_yes rfl rfl rfl rfl ?_
        refine L_run (R_move rfl) rfl ?_
        refine L_yes rfl rfl rfl rfl ?_
        refine L_call rfl cb58 (worst_ok (xs := xs0.take i) (own_of ho).2.2 (by rw [List.length_take]; omega)) rfl ?_
        rintro _ w6 ⟨hs5, rfl⟩
        replace hB := gb_tr hB hs5
        replace hS0 := hS0.gb hs5
        replace ho := own_gb ho hs5
        refine L_yes rfl rfl rfl rfl ?_
        refine L_run (R_move rfl) rfl ?_
        refine L_yes rfl rfl rfl rfl ?_
        refine L_run (R_eqv (R_eql rfl rfl) (v' := .bool true) (bT' hv.symm)) rfl ?_
        refine L_run (R_pickT rfl rfl rfl) rfl ?_
        refine L_run (R_move rfl) rfl ?_
        refine L_yes rfl rfl rfl rfl ?_
        refine L_call rfl cb56 (awakeY (halfT hT hB)) rfl ?_
        rintro _ w7 ⟨hs6, rfl⟩
        replace hB := gb_tr hB hs6
        replace hS0 := hS0.gb hs6
        replace ho := own_gb ho hs6
        refine L_run (R_pickT rfl rfl rfl) rfl ?_
        refine L_run (R_assign rfl) rfl ?_
        refine L_nil (N_then (C_ret ?_))
        refine ret1 Tryz.results8 rfl ?_
        exact ⟨hB, rfl⟩

open Go.ChangeShapes Go.WideShapes Go.ChangeAt
theorem own : ownKnob Tryz.prog.godebug = none := by kernel_rfl
theorem laidOut : laidOutB Tryz.prog = true := by kernel_rfl
theorem door_met (os : Os) (args : Array Value) : laidMetH Tryz.prog Rows.exploreSafeRow.laid ((World.doorLaid Tryz.prog 14 os).forCall (fun _ _ => 0) ⟨#[], args, []⟩).memory :=
  laidMetH_of_parts3 (fuel := 8) (laidMet_of_run' 8 (by kernel_rfl) (by kernel_rfl)) (by kernel_rfl) (by kernel_rfl)
set_option maxRecDepth 100000 in
theorem lifted (os : Os) (started : os.Started) (H : Type) (enc : TypeId × Value → H) :
    ReturnsInHanded {} Tryz.checked os 8 .any (fun w args => (Rows.exploreSafeSpec.pre enc Tryz.prog Tryz.f8 [] false w args ∧ laidMetH Tryz.prog Rows.exploreSafeRow.laid w) ∧ sizedMet enc Tryz.prog Tryz.f8 (OpenSpec.ofChange Rows.exploreSafeSpec) false w args) (Rows.exploreSafeSpec.post enc Tryz.prog Tryz.f8 false true false false) := by
  refine returnsInHanded_of_change_and (C := Tryz.checked) (X := fun w _ => laidMetH Tryz.prog Rows.exploreSafeRow.laid w) (fun _ _ _ hh h => h.of_heap hh) own started (by kernel_rfl) Tryz.func8
    (ChangeSpec.witness_shaped (enc := enc) (C := Tryz.checked) (os := os) (X := fun w _ => laidMetH Tryz.prog Rows.exploreSafeRow.laid w) false (World.doorLaid Tryz.prog 14 os) #[.slice none 0 0] 8 rfl (World.shaped_of_RefB (by kernel_rfl) (by kernel_rfl)) (by kernel_rfl) (by kernel_rfl) (by kernel_rfl) (door_met os _)) ?_
  intro W base args ds gs before hval0 hW hcnd hsz0 hL _
  have hsz : (DataW.weightsEach Tryz.prog (Tryz.f8.params.toList ++ Rows.exploreSafeSpec.plain.varTypes Tryz.prog) (ds ++ gs)).all (· ≤ reachBytes) = true := hsz0
  have hval : ∀ (j : Nat) t v, Tryz.f8.params[j]? = some t → args[j]? = some v → Value.okWide Tryz.prog W .any base t v := hval0
  have hW' := hW
  obtain ⟨p, q, hA0, hV, rfl, hfz, hnd⟩ := hW
  have hA : DataW.TrodAll enc Tryz.prog W 0 (fun _ => true) true Tryz.f8.params.toList args.toList ds p := hA0
  rw [Tryz.params8] at hA hval hsz
  obtain ⟨v0, vs0, d0, ds0, p0, q0, hargs, rfl, rfl, h0, r0⟩ := trodAll_cons hA
  obtain ⟨rfl, rfl, rfl⟩ := trodAll_nil r0
  obtain rfl : args = #[v0] := by cases args; simp_all
  obtain ⟨rfl, rfl⟩ := trodVars_none hV
  have lt0 : ∀ x ∈ p0, x.block < W.heap.size := by obtain ⟨m, hm⟩ := h0; exact DataW.trod_lt m _ _ _ hm
  obtain ⟨⟨A0, c0, xs0⟩, e0, hS0, hl0, hm0, hg0⟩ := Rdr.arg (enc := enc) (P := Tryz.prog) (W := W) (Rdr.slice (ec := encI) (sz := 1) (by_ := 8) (Rdr.int Tryz.underlying3) EncI Tryz.underlying75 (by kernel_rfl) (by kernel_rfl)) hsz (j := 0) rfl rfl h0
  obtain rfl := of_cell e0 (by intro cs e_; obtain ⟨a_, l_, k_, e2_⟩ := okWide_slice Tryz.underlying75 (hval 0 75 v0 rfl rfl); rw [e2_] at e_; cases e_)
  refine (walk (w := W) (half_laid hL) hS0 hl0 hm0 hg0).calls.mono fun e W' ⟨v_, he, hgb, hv_⟩ => ?_
  subst he
  subst hv_
  have bel := gb_below hgb
  exact ⟨_, rfl, _, _, _, [], _, [], hW', trodAll_mk1 (shut_bool Tryz.underlying4 _), (trodAll_cons_mk (Below.trod laidOut (by kernel_rfl) (of_decide_eq_true (by kernel_rfl)) h0 bel lt0) trodAll_mk0), rfl, bel.frame _, fun h => by cases h⟩
set_option maxHeartbeats 100000000 in
theorem over : Rows.exploreSafeRow.holds Tryz.pinned (OpenSpec.ofChange Rows.exploreSafeSpec) :=
  OpenClaim.holds_of_wide 8 Tryz.f8 rfl rfl rfl rfl rfl rfl rfl ⟨rfl, rfl, rfl, rfl, rfl⟩ rfl rfl rfl rfl rfl (by as_aux_lemma => kernel_rfl) Tryz.func8 (by unfold joinedFacts; simp only [Bool.and_eq_true]; (repeat' refine And.intro ?_ ?_) <;> (as_aux_lemma => kernel_rfl))
    (of_decide_eq_true (by as_aux_lemma => kernel_rfl)) (by unfold Func.isWrapper; first | (rw [if_pos (by decide +kernel)]; kernel_rfl) | (rw [if_neg (by decide +kernel)]; exact ⟨rfl, rfl⟩))
    (fun os started H enc _ => lifted os started H enc)
set_option maxHeartbeats 100000000 in
/-- The given statement. -/
theorem proved : Rows.ExploreSafeCardSaid :=
  Claim7.holds_tied_plain_at .later [] [.data] true (true, "32079b500fd51209bf8c4774f4656eaec7ef77643ad52c924eb12e5585a238aa") false
    over (fun _ h => by cases h) (by as_aux_lemma => kernel_rfl) (fun _ h => by cases h) exploreSafe_row_tie rfl ⟨rfl, rfl⟩ (by as_aux_lemma => kernel_rfl) rfl
    (fun f fn hf hfn => by
      obtain rfl : f = 8 := Option.some.inj ((show Tryz.prog.funcNamed "strandline/strandlinelaw41.ExploreSafe" = some 8 by as_aux_lemma => kernel_rfl).symm.trans hf) |>.symm
      obtain rfl : fn = Tryz.f8 := (Option.some.inj (Tryz.func8.symm.trans hfn)).symm
      exact ⟨by as_aux_lemma => kernel_rfl, fun j t ht => by
        rw [Tryz.params8] at ht
        have hm : t ∈ [75] := by simpa using Array.mem_of_getElem? ht
        have hall : ([75].all fun u => !Tryz.prog.wantsStandIn u) = true := by as_aux_lemma => kernel_rfl
        exact (show Tryz.prog.wantsStandIn t = false by simpa using List.all_eq_true.1 hall t hm)⟩)
    (by as_aux_lemma => kernel_rfl)
#print axioms proved

end Go.Proofs.YtbeafehpjjojnaaGreatDoor.LExploreSafe
