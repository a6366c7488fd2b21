/-
  LedgerFolds: the pairs that ledger.Fold tells are the document's, and ledger.Fits says what the document says. Conditions: none; every input.
-/
import Derived.Test.YtbmohojdlgedpaaHk
import Derived.WalkKit
import Derived.ProofKit
import Derived.OpenShut
import Derived.ShutString
import Derived.ChangeOld
import Derived.Below
import Derived.SizedLaws
namespace Go.Proofs.Ytbmohojdlgedpaa.LLedgerFolds
open Go.RowKit Gw Pl
set_option linter.unusedVariables false
set_option linter.unusedSimpArgs false
theorem agg27 : aggB Try.prog 27 3 = true := by kernel_rfl
theorem cb10 : callB Try.prog 10 = true := by kernel_rfl
theorem cb11 : callB Try.prog 11 = true := by kernel_rfl
theorem cb6 : callB Try.prog 6 = true := by kernel_rfl
theorem cb7 : callB Try.prog 7 = true := by kernel_rfl
theorem cb8 : callB Try.prog 8 = true := by kernel_rfl
theorem cb9 : callB Try.prog 9 = true := by kernel_rfl
theorem walk {w : World} {A : Option Addr} {c : Nat} {l : List Ent} (hS : Sli 0 0 w.heap.size w A (fl encEn l)) (hl : l.length ≤ c) (hm : c * 40 ≤ 140737488351232) (hg : ∀ x ∈ l, GoodEn w x) :
    Runs Try.prog 3 #[.slice A l.length c] w (fun v w' => w.grownBy w' none ∧ v = .bool true) := by
  have hB := gb_refl w none
  have hD : DeepE w.heap.size w l := fun y hy => hg y hy
  refine enter Try.func3 Try.ntmps3 rfl rfl ?_
  refine C_seq (C_reg rfl ?_)
  refine L_run (R_assign rfl) rfl ?_
  refine L_nil (N_then (C_seq (C_seq (C_reg rfl ?_))))
  refine L_run (R_move rfl) rfl ?_
  refine L_run (R_lenSl rfl slc22) rfl ?_
  refine L_run (R_gtr rfl rfl) rfl ?_
  refine L_nil (N_then ?_)
  refine C_if rfl (fun h1 => ?_) (fun h1 => ?_)
  · refine C_seq (C_reg rfl ?_)
    refine L_call rfl cb6 (awake47) rfl ?_
    rintro _ w1 ⟨hs1, rfl⟩
    replace hB := gb_tr hB hs1
    replace hS := hS.gb hs1
    replace hD := hD.gb hs1
    refine L_run (R_assign rfl) rfl ?_
    refine L_nil (N_then (C_ret (R_then ?_)))
    refine ret1 Try.results3 rfl ?_
    exact ⟨hB, rfl⟩
  · refine C_skip (N_then (C_seq (C_reg rfl ?_)))
    refine L_run (R_assign rfl) rfl ?_
    refine L_nil (N_then (C_seq (C_seq (C_reg rfl ?_))))
    refine L_run (R_assign rfl) rfl ?_
    refine L_nil (N_then (C_block ?_))
    refine C_loop (fun m_ a_ w_ => ∃ (σ_ : Nat → Value) (i : Nat) (Aj : Option Addr) (cj : Nat), a_ = Ac 85 σ_ [] [(0, .slice A l.length c), (2, .bool false), (3, .slice Aj ((l.take i).length) cj), (4, .int .i64 (i : Int))] ∧ w.grownBy w_ none ∧ Sli 0 0 w.heap.size w_ A (fl encEn l) ∧ DeepE w.heap.size w_ l ∧ World.ownsRow w_ w.heap.size 28 3 (.slice Aj (l.take i).length cj) (l.take i).length (fl encEn (l.take i)) ∧ (i ≤ l.length) ∧ (∀ y ∈ l.take i, y.ch.length ≤ 60) ∧ l.length - i = m_) (l.length - 0) ?_ ?_
    · exact ⟨_, 0, none, 0, Ac_frg ⟨rfl, rfl, (agr rfl (by first | rfl | (congr 1; omega) | (congr 1; simp; done) | (congr 1; simp only [IntKind.wrap_u64, IntKind.wrap_i64, IntKind.wrap_u8]; omega) | (congr 1 <;> omega))), (agr rfl (by first | rfl | (congr 1; omega) | (congr 1; simp; done) | (congr 1; simp only [IntKind.wrap_u64, IntKind.wrap_i64, IntKind.wrap_u8]; omega) | (congr 1 <;> omega))), trivial⟩, hB, hS, hD, (own_nil _ _ _ _), (Nat.zero_le _), (by intro y hy; cases hy), rfl⟩
    · clear hB
      clear hS hD
      rintro m_ a_ w2 ⟨σ_, i, Aj, cj, rfl, hB, hS, hD, hoP, hi_, h6t, rfl⟩
      refine C_seq (C_seq (C_reg rfl ?_))
      refine L_run (R_move rfl) rfl ?_
      refine L_run (R_move rfl) rfl ?_
      refine L_run (R_lenSl rfl slc22) rfl ?_
      refine L_run (R_lss rfl rfl) rfl ?_
      refine L_nil (N_then ?_)
      refine C_if rfl (fun h2 => ?_) (fun h2 => ?_)
      · refine C_skip (N_then (C_seq (C_block (C_seq (C_seq (C_reg rfl ?_))))))
        have hli : i < l.length := by omega
        refine L_run (R_move rfl) rfl ?_
        refine L_run (R_move rfl) rfl ?_
        have hl1 : i < l.length := by first | omega | (simp; omega)
        refine T_index (xs := l) (i := i) EncEn rfl rfl (by first | rfl | omega) slc22 hl1 hS rfl ?_
        intro g1 o1 ha1
        refine L_run (R_field rfl fld27_2 rfl) rfl ?_
        refine L_run (R_load1 rfl scl25 (ha1 2 _ rfl)) rfl ?_
        refine L_run (R_lenSl rfl slc25) rfl ?_
        refine L_run (R_gtr rfl rfl) rfl ?_
        refine L_nil (N_then ?_)
        refine C_if rfl (fun h3 => ?_) (fun h3 => ?_)
        · refine C_seq (C_reg rfl ?_)
          refine L_call rfl cb6 (awake47) rfl ?_
          rintro _ w3 ⟨hs2, rfl⟩
          replace hB := gb_tr hB hs2
          replace hS := hS.gb hs2
          replace hD := hD.gb hs2
          replace hoP := own_gb hoP hs2
          replace ha1 := At.gb ha1 hs2 (by simp)
          refine L_run (R_assign rfl) rfl ?_
          refine L_nil (N_then (C_ret (R_then (R_in (R_then (R_then (R_in (R_then ?_))))))))
          refine ret1 Try.results3 rfl ?_
          exact ⟨hB, rfl⟩
        · refine C_skip (N_then (C_reg rfl ?_))
          refine L_run (R_move rfl) rfl ?_
          refine L_run (R_move rfl) rfl ?_
          refine L_run (R_move rfl) rfl ?_
          have hl2 : i < l.length := by first | omega | (simp; omega)
          refine T_index (xs := l) (i := i) EncEn rfl rfl (by first | rfl | omega) slc22 hl2 hS rfl ?_
          intro g2 o2 ha2
          refine L_run (R_loadA (vs := [.int .i64 ((l[i]).lsn), .int .i64 ((l[i]).chain), .slice ((l[i]).la) ((l[i]).ch.length) ((l[i]).lc)]) rfl agg27 (At.pre ha2 rfl) rfl) rfl ?_
          refine L_buildSlice (pv := [(0, .agg #[.int .i64 ((l[i]).lsn), .int .i64 ((l[i]).chain), .slice ((l[i]).la) ((l[i]).ch.length) ((l[i]).lc)])]) (cs := [.int .i64 ((l[i]).lsn), .int .i64 ((l[i]).chain), .slice ((l[i]).la) ((l[i]).ch.length) ((l[i]).lc)]) slc24 zer28 rfl rfl (by kernel_rfl) rfl ?_
          intro g3 w4 eg1 hb1 hs3 hz1
          have ge1 : w.heap.size ≤ g3 := eg_ge hB eg1
          have hap1 : ∀ k_, (Value.slice Aj (l.take i).length cj).ownBlock = some k_ → k_ ≠ g3 := fun k_ hk => by have h_ := (World.ownsRow.lt hoP k_ hk).2; omega
          replace hB := gb_tr hB hs3
          replace hS := hS.gb hs3
          replace hD := hD.gb hs3
          replace hoP := own_gb hoP hs3
          replace ha1 := At.gb ha1 hs3 (by simp)
          replace ha2 := At.gb ha2 hs3 (by simp)
          refine T_append (xs := l.take i) (ys := [(l[i])]) EncEn slc24 rfl rfl hoP (Blk.sli (m := 0) hb1) (by simp only [List.length_take, List.length_cons, List.length_nil]; omega) (by have := hB.size; omega) rfl ?_
          intro A_1 c_1 w5 ho1 hs4 hat1
          replace hB := gb_tro hB hoP hs4 (Nat.le_refl _)
          replace hS := hS.grown hs4 (fun k hk => .inr (Nat.le_trans (Nat.le_refl _) (World.ownsRow.lt hoP k hk).1))
          replace hD := hD.own hoP (Nat.le_refl _) hs4
          refine L_run (R_assign rfl) rfl ?_
          refine L_nil (N_in (N_then (C_reg rfl ?_)))
          refine L_run (R_move rfl) rfl ?_
          refine L_run (R_add64 rfl rfl (by omega)) rfl ?_
          refine L_run (R_assign rfl) rfl ?_
          refine L_nil (N_then ?_)
          have et_ := List.take_succ_eq_append_getElem hli
          exact ⟨l.length - (i + 1), by omega, _, (i + 1), A_1, c_1, Ac_frg ⟨rfl, rfl, (agr rfl (by rw [et_])), (agr rfl (by first | rfl | (congr 1; omega) | (congr 1; simp; done) | (congr 1; simp only [IntKind.wrap_u64, IntKind.wrap_i64, IntKind.wrap_u8]; omega) | (congr 1 <;> omega))), trivial⟩, hB, hS, hD, (by rw [et_]; exact (own_lo ho1 (Nat.le_refl _))), (by omega), (by intro y hy; rw [et_] at hy; rcases List.mem_append.1 hy with hy | hy <;> first | exact h6t y hy | (rw [List.mem_singleton.1 hy]; omega)), rfl⟩
      · refine C_exit (X_then (X_then (X_hit (N_then (C_seq (C_reg rfl ?_))))))
        have et_ : l.take i = l := List.take_of_length_le (by omega)
        rw [et_] at hoP h6t ⊢
        have hl60 : l.length ≤ 60 := by omega
        have h60 := h6t
        have hkb : (kvF (chs l) []).length ≤ 1000000 := by
          have h1_ := kv_len (l := chs l) (s := [])
          have h2_ := chs_len hl60 h60
          simp only [List.length_nil] at h1_
          omega
        refine L_run (R_move rfl) rfl ?_
        have ge2 : w.heap.size ≤ w2.heap.size := hB.size
        refine L_call rfl cb7 (fold47_ok (l := l) hS hD.top hl60 h60) rfl ?_
        rintro _ w6 ⟨hs5, A_2, c_2, rfl, ho2⟩
        replace hB := gb_tr hB hs5
        replace hS := hS.gb hs5
        replace hD := hD.gb hs5
        replace hoP := own_gb hoP hs5
        refine L_run (R_move rfl) rfl ?_
        refine L_run (R_extract rfl rfl) rfl ?_
        refine L_run (R_extract rfl rfl) rfl ?_
        refine L_run (R_assign rfl) rfl ?_
        refine L_run (R_assign rfl) rfl ?_
        refine L_nil (N_then (C_seq (C_reg rfl ?_)))
        refine L_run (R_assign rfl) rfl ?_
        refine L_nil (N_then (C_seq (C_seq (C_reg rfl ?_))))
        refine L_run (R_assign rfl) rfl ?_
        refine L_nil (N_then (C_block ?_))
        refine C_loop (fun m_ a_ w_ => ∃ (σ_ : Nat → Value) (i2 : Nat) (fb : Bool), a_ = Ac 85 σ_ [] [(0, .slice A l.length c), (2, .bool false), (3, .slice Aj l.length cj), (5, .slice A_2 ((kvF (chs l) []).length) c_2), (6, .bool (fitsB (chs l) [])), (7, .bool fb), (8, .int .i64 (i2 : Int))] ∧ w.grownBy w_ none ∧ Sli 0 0 w.heap.size w_ A (fl encEn l) ∧ DeepE w.heap.size w_ l ∧ World.ownsRow w_ w.heap.size 28 3 (.slice Aj l.length cj) l.length (fl encEn l) ∧ World.ownsRow w_ w2.heap.size 75 2 (.slice A_2 (kvF (chs l) []).length c_2) (kvF (chs l) []).length (fl encK (kvF (chs l) [])) ∧ (i2 ≤ l.length) ∧ l.length - i2 = m_) (l.length - 0) ?_ ?_
        · exact ⟨_, 0, true, Ac_frg ⟨rfl, rfl, rfl, rfl, rfl, rfl, (agr rfl (by first | rfl | (congr 1; omega) | (congr 1; simp; done) | (congr 1; simp only [IntKind.wrap_u64, IntKind.wrap_i64, IntKind.wrap_u8]; omega) | (congr 1 <;> omega))), trivial⟩, hB, hS, hD, hoP, ho2, (Nat.zero_le _), rfl⟩
        · clear hB
          clear hS hD hoP ho2
          rintro m_ a_ w7 ⟨σ_, i2, fb, rfl, hB, hS, hD, hoP, ho2, hi2_, rfl⟩
          refine C_seq (C_seq (C_reg rfl ?_))
          refine L_run (R_move rfl) rfl ?_
          refine L_run (R_move rfl) rfl ?_
          refine L_run (R_lenSl rfl slc22) rfl ?_
          refine L_run (R_lss rfl rfl) rfl ?_
          refine L_nil (N_then ?_)
          refine C_if rfl (fun h4 => ?_) (fun h4 => ?_)
          · refine C_skip (N_then (C_seq (C_block (C_seq (C_reg rfl ?_)))))
            refine L_run (R_assign rfl) rfl ?_
            refine L_nil (N_then (C_block ?_))
            have hli2 : i2 < l.length := by omega
            have hl62 := h60 _ (List.getElem_mem hli2)
            refine C_loop (fun m_ a_ w_ => ∃ (σ_ : Nat → Value) (j : Nat) (fb2 : Bool), a_ = Ac 85 σ_ [] [(0, .slice A l.length c), (2, .bool false), (3, .slice Aj l.length cj), (5, .slice A_2 ((kvF (chs l) []).length) c_2), (6, .bool (fitsB (chs l) [])), (7, .bool fb2), (8, .int .i64 (i2 : Int)), (9, .int .i64 (j : Int))] ∧ w.grownBy w_ none ∧ Sli 0 0 w.heap.size w_ A (fl encEn l) ∧ DeepE w.heap.size w_ l ∧ World.ownsRow w_ w.heap.size 28 3 (.slice Aj l.length cj) l.length (fl encEn l) ∧ World.ownsRow w_ w2.heap.size 75 2 (.slice A_2 (kvF (chs l) []).length c_2) (kvF (chs l) []).length (fl encK (kvF (chs l) [])) ∧ (j ≤ (l[i2]).ch.length) ∧ (l[i2]).ch.length - j = m_) ((l[i2]).ch.length - 0) ?_ ?_
            · exact ⟨_, 0, fb, Ac_frg ⟨rfl, rfl, rfl, rfl, rfl, rfl, rfl, (agr rfl (by first | rfl | (congr 1; omega) | (congr 1; simp; done) | (congr 1; simp only [IntKind.wrap_u64, IntKind.wrap_i64, IntKind.wrap_u8]; omega) | (congr 1 <;> omega))), trivial⟩, hB, hS, hD, hoP, ho2, (Nat.zero_le _), rfl⟩
            · clear hB
              clear hS hD hoP ho2
              rintro m_ a_ w8 ⟨σ_, j, fb2, rfl, hB, hS, hD, hoP, ho2, hj_, rfl⟩
              refine C_seq (C_seq (C_reg rfl ?_))
              refine L_run (R_move rfl) rfl ?_
              refine L_run (R_move rfl) rfl ?_
              refine L_run (R_move rfl) rfl ?_
              have hl3 : i2 < l.length := by first | omega | (simp; omega)
              refine T_index (xs := l) (i := i2) EncEn rfl rfl (by first | rfl | omega) slc22 hl3 hS rfl ?_
              intro g4 o3 ha3
              refine L_run (R_field rfl fld27_2 rfl) rfl ?_
              refine L_run (R_load1 rfl scl25 (ha3 2 _ rfl)) rfl ?_
              refine L_run (R_lenSl rfl slc25) rfl ?_
              refine L_run (R_lss rfl rfl) rfl ?_
              refine L_nil (N_then ?_)
              refine C_if rfl (fun h5 => ?_) (fun h5 => ?_)
              · refine C_skip (N_then (C_seq (C_block (C_reg rfl ?_))))
                refine L_run (R_move rfl) rfl ?_
                refine L_run (R_move rfl) rfl ?_
                refine L_split fb2 (fun h6 => ?_) (fun h6 => ?_)
                · refine L_yes rfl rfl rfl h6 ?_
                  refine L_run (R_move rfl) rfl ?_
                  refine L_yes rfl rfl rfl h6 ?_
                  refine L_run (R_move rfl) rfl ?_
                  refine L_yes rfl rfl rfl h6 ?_
                  have hl4 : i2 < l.length := by first | omega | (simp; omega)
                  refine T_index (xs := l) (i := i2) EncEn rfl rfl (by first | rfl | omega) slc22 hl4 hS rfl ?_
                  intro g5 o4 ha4
                  refine L_yes rfl rfl rfl h6 ?_
                  refine L_run (R_field rfl fld27_2 rfl) rfl ?_
                  refine L_yes rfl rfl rfl h6 ?_
                  refine L_run (R_load1 rfl scl25 (ha4 2 _ rfl)) rfl ?_
                  refine L_yes rfl rfl rfl h6 ?_
                  refine L_run (R_move rfl) rfl ?_
                  refine L_yes rfl rfl rfl h6 ?_
                  have hl5 : j < ((l[i2]).ch).length := by first | omega | (simp; omega)
                  refine T_index (xs := (l[i2]).ch) (i := j) EncC rfl rfl (by first | rfl | omega) slc25 hl5 (hD.getL (i := i2) (by first | assumption | omega | (simp; omega))) rfl ?_
                  intro g6 o5 ha5
                  refine L_yes rfl rfl rfl h6 ?_
                  refine L_run (R_loadA (vs := [.string ((((l[i2]).ch)[j]).key), .bool ((((l[i2]).ch)[j]).was), .bool ((((l[i2]).ch)[j]).is), .string ((((l[i2]).ch)[j]).old), .string ((((l[i2]).ch)[j]).new), .int .i64 ((((l[i2]).ch)[j]).next)]) rfl agg34 (At.pre ha5 rfl) rfl) rfl ?_
                  refine L_yes rfl rfl rfl h6 ?_
                  refine L_call rfl cb8 (right42_ok (c := (((l[i2]).ch)[j]))) rfl ?_
                  rintro _ w9 ⟨hs6, rb1, rfl⟩
                  replace hB := gb_tr hB hs6
                  replace hS := hS.gb hs6
                  replace hD := hD.gb hs6
                  replace hoP := own_gb hoP hs6
                  replace ho2 := own_gb ho2 hs6
                  replace ha3 := At.gb ha3 hs6 (by simp)
                  replace ha4 := At.gb ha4 hs6 (by simp)
                  replace ha5 := At.gb ha5 hs6 (by simp)
                  refine L_run (R_pickT rfl h6 rfl) rfl ?_
                  refine L_run (R_assign rfl) rfl ?_
                  refine L_nil (N_in (N_then (C_reg rfl ?_)))
                  refine L_run (R_move rfl) rfl ?_
                  refine L_run (R_add64 rfl rfl (by omega)) rfl ?_
                  refine L_run (R_assign rfl) rfl ?_
                  refine L_nil (N_then ?_)
                  exact ⟨(l[i2]).ch.length - (j + 1), by omega, _, (j + 1), rb1, Ac_frg ⟨rfl, rfl, rfl, rfl, rfl, rfl, rfl, (agr rfl (by first | rfl | (congr 1; omega) | (congr 1; simp; done) | (congr 1; simp only [IntKind.wrap_u64, IntKind.wrap_i64, IntKind.wrap_u8]; omega) | (congr 1 <;> omega))), trivial⟩, hB, hS, hD, hoP, ho2, (by omega), rfl⟩
                · refine L_no rfl rfl rfl h6 rfl ?_
                  refine L_no rfl rfl rfl h6 rfl ?_
                  refine L_no rfl rfl rfl h6 rfl ?_
                  refine L_no rfl rfl rfl h6 rfl ?_
                  refine L_no rfl rfl rfl h6 rfl ?_
                  refine L_no rfl rfl rfl h6 rfl ?_
                  refine L_no rfl rfl rfl h6 rfl ?_
                  refine L_no rfl rfl rfl h6 rfl ?_
                  refine L_no rfl rfl rfl h6 rfl ?_
                  refine L_run (R_pickF rfl h6 rfl) rfl ?_
                  refine L_run (R_assign rfl) rfl ?_
                  refine L_nil (N_in (N_then (C_reg rfl ?_)))
                  refine L_run (R_move rfl) rfl ?_
                  refine L_run (R_add64 rfl rfl (by omega)) rfl ?_
                  refine L_run (R_assign rfl) rfl ?_
                  refine L_nil (N_then ?_)
                  exact ⟨(l[i2]).ch.length - (j + 1), by omega, _, (j + 1), false, Ac_frg ⟨rfl, rfl, rfl, rfl, rfl, rfl, rfl, (agr rfl (by first | rfl | (congr 1; omega) | (congr 1; simp; done) | (congr 1; simp only [IntKind.wrap_u64, IntKind.wrap_i64, IntKind.wrap_u8]; omega) | (congr 1 <;> omega))), trivial⟩, hB, hS, hD, hoP, ho2, (by omega), rfl⟩
              · refine C_exit (X_then (X_then (X_hit (N_in (N_then (C_reg rfl ?_))))))
                refine L_run (R_move rfl) rfl ?_
                refine L_run (R_add64 rfl rfl (by omega)) rfl ?_
                refine L_run (R_assign rfl) rfl ?_
                refine L_nil (N_then ?_)
                exact ⟨l.length - (i2 + 1), by omega, _, (i2 + 1), fb2, Ac_frg ⟨rfl, rfl, rfl, rfl, rfl, rfl, (agr rfl (by first | rfl | (congr 1; omega) | (congr 1; simp; done) | (congr 1; simp only [IntKind.wrap_u64, IntKind.wrap_i64, IntKind.wrap_u8]; omega) | (congr 1 <;> omega))), trivial⟩, hB, hS, hD, hoP, ho2, (by omega), rfl⟩
          · refine C_exit (X_then (X_then (X_hit (N_then (C_seq (C_reg rfl ?_))))))
            refine L_run (R_move rfl) rfl ?_
            have ge3 : w.heap.size ≤ w7.heap.size := hB.size
            refine L_call rfl cb10 (lfold_ok (l := l) (own_of hoP).2.2 hD.top hl60 h60) rfl ?_
            rintro _ w10 ⟨hs7, A_3, c_3, rfl, ho3⟩
            replace hB := gb_tr hB hs7
            replace hS := hS.gb hs7
            replace hD := hD.gb hs7
            replace hoP := own_gb hoP hs7
            replace ho2 := own_gb ho2 hs7
            refine L_run (R_move rfl) rfl ?_
            refine L_call rfl cb9 (same31_ok (l := (kvF (chs l) [])) (own_of ho3).2.2 (own_of ho2).2.2 hkb) rfl ?_
            rintro _ w11 ⟨hs8, rfl⟩
            replace hB := gb_tr hB hs8
            replace hS := hS.gb hs8
            replace hD := hD.gb hs8
            replace hoP := own_gb hoP hs8
            replace ho2 := own_gb ho2 hs8
            replace ho3 := own_gb ho3 hs8
            refine L_run (R_move rfl) rfl ?_
            refine L_yes rfl rfl rfl rfl ?_
            refine L_run (R_move rfl) rfl ?_
            refine L_yes rfl rfl rfl rfl ?_
            refine L_run (R_not rfl) rfl ?_
            refine L_yes rfl rfl rfl rfl ?_
            refine L_run (R_move rfl) rfl ?_
            refine L_split (!fb) (fun h7 => ?_) (fun h7 => ?_)
            · refine L_no rfl rfl rfl h7 rfl ?_
              refine L_no rfl rfl rfl h7 rfl ?_
              refine L_no rfl rfl rfl h7 rfl ?_
              refine L_no rfl rfl rfl h7 rfl ?_
              refine L_yes rfl rfl rfl rfl ?_
              refine L_run (R_pickT rfl h7 rfl) rfl ?_
              refine L_run (R_pickT rfl rfl rfl) rfl ?_
              refine L_run (R_move rfl) rfl ?_
              refine L_yes rfl rfl rfl rfl ?_
              refine L_call rfl cb6 (awake47) rfl ?_
              rintro _ w12 ⟨hs9, rfl⟩
              replace hB := gb_tr hB hs9
              replace hS := hS.gb hs9
              replace hD := hD.gb hs9
              replace hoP := own_gb hoP hs9
              replace ho2 := own_gb ho2 hs9
              replace ho3 := own_gb ho3 hs9
              refine L_run (R_pickT rfl rfl rfl) rfl ?_
              refine L_run (R_assign rfl) rfl ?_
              refine L_nil (N_then (C_ret ?_))
              refine ret1 Try.results3 rfl ?_
              exact ⟨hB, rfl⟩
            · refine L_yes rfl rfl rfl h7 ?_
              refine L_run (R_move rfl) rfl ?_
              refine L_yes rfl rfl rfl h7 ?_
              refine L_call rfl cb11 (lfits_ok (l := l) (own_of hoP).2.2 hD.top hl60 h60) rfl ?_
              rintro _ w13 ⟨hs10, rfl⟩
              replace hB := gb_tr hB hs10
              replace hS := hS.gb hs10
              replace hD := hD.gb hs10
              replace hoP := own_gb hoP hs10
              replace ho2 := own_gb ho2 hs10
              replace ho3 := own_gb ho3 hs10
              refine L_yes rfl rfl rfl h7 ?_
              refine L_run (R_move rfl) rfl ?_
              refine L_yes rfl rfl rfl h7 ?_
              refine L_run (R_eqv (R_eqlB rfl rfl boo4) (v' := .bool true) (by simp)) rfl ?_
              refine L_yes rfl rfl rfl rfl ?_
              refine L_run (R_pickF rfl h7 rfl) rfl ?_
              refine L_run (R_pickT rfl rfl rfl) rfl ?_
              refine L_run (R_move rfl) rfl ?_
              refine L_yes rfl rfl rfl rfl ?_
              refine L_call rfl cb6 (awake47) rfl ?_
              rintro _ w14 ⟨hs11, rfl⟩
              replace hB := gb_tr hB hs11
              replace hS := hS.gb hs11
              replace hD := hD.gb hs11
              replace hoP := own_gb hoP hs11
              replace ho2 := own_gb ho2 hs11
              replace ho3 := own_gb ho3 hs11
              refine L_run (R_pickT rfl rfl rfl) rfl ?_
              refine L_run (R_assign rfl) rfl ?_
              refine L_nil (N_then (C_ret ?_))
              refine ret1 Try.results3 rfl ?_
              exact ⟨hB, rfl⟩

open Go.ChangeShapes Go.WideShapes Go.ChangeAt
theorem own : ownKnob Try.prog.godebug = none := by kernel_rfl
theorem laidOut : laidOutB Try.prog = true := by kernel_rfl
set_option maxRecDepth 100000 in
theorem lifted (os : Os) (started : os.Started) (H : Type) (enc : TypeId × Value → H) :
    ReturnsInHanded {} Try.checked os 3 .any (Rows.ledgerFoldsSpec.pre6 enc Try.prog Try.f3 Rows.ledgerFoldsRow.domain false) (Rows.ledgerFoldsSpec.post enc Try.prog Try.f3 false true false false) := by
  refine returnsInHanded_of_change_sized (C := Try.checked) own started (by kernel_rfl) Try.func3
    (ChangeSpec.witness6 (enc := enc) (C := Try.checked) false ⟨#[], #[.slice none 0 0], []⟩ 8 (by kernel_rfl) (by kernel_rfl) (by kernel_rfl) (by kernel_rfl)) ?_
  intro W base args ds gs before hval0 hW hcnd hsz0 _
  have hsz : (DataW.weightsEach Try.prog (Try.f3.params.toList ++ Rows.ledgerFoldsSpec.plain.varTypes Try.prog) (ds ++ gs)).all (· ≤ reachBytes) = true := hsz0
  have hval : ∀ (j : Nat) t v, Try.f3.params[j]? = some t → args[j]? = some v → Value.okWide Try.prog W .any base t v := hval0
  have hW' := hW
  obtain ⟨p, q, hA0, hV, rfl, hfz, hnd⟩ := hW
  have hA : DataW.TrodAll enc Try.prog W 0 (fun _ => true) true Try.f3.params.toList args.toList ds p := hA0
  rw [Try.params3] at hA hval hsz
  obtain ⟨v0, vs0, d0, ds0, p0, q0, hargs, rfl, rfl, h0, r0⟩ := trodAll_cons hA
  obtain ⟨rfl, rfl, rfl⟩ := trodAll_nil r0
  obtain rfl : args = #[v0] := by cases args; simp_all
  obtain ⟨rfl, rfl⟩ := trodVars_none hV
  have lt0 : ∀ x ∈ p0, x.block < W.heap.size := by obtain ⟨m, hm⟩ := h0; exact DataW.trod_lt m _ _ _ hm
  obtain ⟨⟨A0, c0, xs0⟩, e0, hS0, hl0, hm0, hg0⟩ := Rdr.arg (enc := enc) (P := Try.prog) (W := W) (Rdr.slice (ec := encEn) (sz := 3) (by_ := 40) ((Rdr.struct Try.underlying27 rfl (by kernel_rfl) (Rds.cons (off := 0) (sz := 1) (Rdr.int Try.underlying3) (by kernel_rfl) rfl (by decide) (Rds.cons (off := 1) (sz := 1) (Rdr.int Try.underlying3) (by kernel_rfl) rfl (by decide) (Rds.cons (off := 2) (sz := 1) (Rdr.slice (ec := encC) (sz := 6) (by_ := 64) ((Rdr.struct Try.underlying34 rfl (by kernel_rfl) (Rds.cons (off := 0) (sz := 1) (Rdr.str Try.underlying9) (by kernel_rfl) rfl (by decide) (Rds.cons (off := 1) (sz := 1) (Rdr.bool Try.underlying4) (by kernel_rfl) rfl (by decide) (Rds.cons (off := 2) (sz := 1) (Rdr.bool Try.underlying4) (by kernel_rfl) rfl (by decide) (Rds.cons (off := 3) (sz := 1) (Rdr.str Try.underlying9) (by kernel_rfl) rfl (by decide) (Rds.cons (off := 4) (sz := 1) (Rdr.str Try.underlying9) (by kernel_rfl) rfl (by decide) (Rds.cons (off := 5) (sz := 1) (Rdr.int Try.underlying3) (by kernel_rfl) rfl (by decide) (Rds.nil)))))))).map (fun y => (⟨y.1, y.2.1, y.2.2.1, y.2.2.2.1, y.2.2.2.2.1, y.2.2.2.2.2.1⟩ : Chg)) (e' := encC) (fun _ _ => rfl) (good' := fun _ => True) (fun _ _ => trivial)) EncC Try.underlying25 (by kernel_rfl) (by kernel_rfl)) (by kernel_rfl) rfl (by decide) (Rds.nil))))).map (fun y => (⟨y.1, y.2.1, y.2.2.1.1, y.2.2.1.2.1, y.2.2.1.2.2⟩ : Ent)) (e' := encEn) (fun _ _ => rfl) (good' := GoodEn W) (fun _ h => h.2.2.1.1)) EncEn Try.underlying22 (by kernel_rfl) (by kernel_rfl)) hsz (j := 0) rfl rfl h0
  obtain rfl := of_cell e0 (by intro cs e_; obtain ⟨a_, l_, k_, e2_⟩ := okWide_slice Try.underlying22 (hval 0 22 v0 rfl rfl); rw [e2_] at e_; cases e_)
  refine (walk (w := W) hS0 hl0 hm0 hg0).calls.mono fun e W' ⟨v_, he, hgb, hv_⟩ => ?_
  subst he
  subst hv_
  have bel := gb_below hgb
  exact ⟨_, rfl, _, _, _, [], _, [], hW', trodAll_mk1 (shut_bool Try.underlying4 _), (trodAll_cons_mk (Below.trod laidOut (by kernel_rfl) (of_decide_eq_true (by kernel_rfl)) h0 bel lt0) trodAll_mk0), rfl, bel.frame _, fun h => by cases h⟩
theorem over : Rows.ledgerFoldsRow.holds Try.pinned (OpenSpec.ofChange Rows.ledgerFoldsSpec) :=
  OpenClaim.holds_of_wide 3 Try.f3 rfl rfl rfl rfl rfl rfl rfl ⟨rfl, rfl, rfl, rfl, rfl⟩ rfl rfl rfl rfl rfl (by kernel_rfl) Try.func3 (by kernel_rfl)
    (of_decide_eq_true (by kernel_rfl)) (by unfold Func.isWrapper; first | (rw [if_pos (by decide +kernel)]; kernel_rfl) | (rw [if_neg (by decide +kernel)]; exact ⟨rfl, rfl⟩))
    (fun os started H enc _ => lifted os started H enc)
/-- The given statement. -/
theorem proved : Rows.LedgerFoldsSaid := over
#print axioms proved

end Go.Proofs.Ytbmohojdlgedpaa.LLedgerFolds
