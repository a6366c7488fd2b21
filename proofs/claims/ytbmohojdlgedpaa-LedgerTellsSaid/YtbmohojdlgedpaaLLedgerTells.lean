/-
  LedgerTells: ledger.Of and ledger.Clashes tell of any records what the document says. Conditions: none; every input.
-/
import Derived.Test.YtbmohojdlgedpaaKk
import Derived.WalkKit
import Derived.ProofKit
import Derived.OpenShut
import Derived.ShutString
import Derived.ChangeOld
import Derived.Below
import Derived.SizedLaws
namespace Go.Proofs.Ytbmohojdlgedpaa.LLedgerTells
open Go.RowKit Gw Pl
set_option linter.unusedVariables false
set_option linter.unusedSimpArgs false

theorem walk {w : World} {A : Option Addr} {c : Nat} {l : List RecC} (hS : Sli 0 0 w.heap.size w A (fl encRC l)) (hl : l.length ≤ c) (hm : c * 56 ≤ 140737488351232) (hg : ∀ x ∈ l, GoodRC w x) :
    Runs Try.prog 5 #[.slice A l.length c] w (fun v w' => w.grownBy w' none ∧ v = .bool true) := by
 have hB := gb_refl w none
 have hD : DeepRC w.heap.size w l := fun y hy => hg y hy
 refine enter Try.func5 Try.ntmps5 rfl rfl ?_
 refine C_seq (C_reg rfl ?_)
 refine L_run (R_assign rfl) rfl ?_
 refine L_nil (N_then (C_seq (C_seq (C_reg rfl ?_))))
 refine L_run (R_move rfl) rfl ?_
 refine L_call rfl cb20 (few45_ok (l := l) hS (by omega)) rfl ?_
 rintro _ w1 ⟨hs1, rfl⟩
 replace hB := gb_tr hB hs1
 replace hS := hS.gb hs1
 replace hD := hD.gb hs1
 refine L_run (R_notD rfl) rfl ?_
 refine L_nil (N_then ?_)
 refine C_ifN rfl (fun h1 => ?_) (fun h1 => ?_)
 ·refine C_seq (C_reg rfl ?_)
  refine L_call rfl cb6 (awake47) rfl ?_
  rintro _ w2 ⟨hs2, rfl⟩
  replace hB := gb_tr hB hs2
  replace hS := hS.gb hs2
  replace hD := hD.gb hs2
  refine L_run (R_assign rfl) rfl ?_
  refine L_nil (N_then (C_ret (R_then ?_)))
  refine ret1 Try.results5 rfl ?_
  exact ⟨hB, rfl⟩
 ·refine C_skip (N_then (C_seq (C_reg rfl ?_)))
  refine L_run (R_move rfl) rfl ?_
  have hl100 := h1.2
  have hclr := clR_len (l := l) (i := l.length)
  by_cases h2 : okB l l.length = true
  ·have hlg1 : w.heap.size ≤ w1.heap.size := hB.size
   refine L_call rfl cb21 (lof_y (l := l) hS.top hD.top h1 h2) rfl ?_
   rintro _ w3 ⟨hs3, Ae1, ce1, E1, rfl, hoE1, hFz1, hkE1⟩
   replace hB := gb_tr hB hs3
   replace hS := hS.gb hs3
   replace hD := hD.gb hs3
   have hE1b := key_bd hkE1
   refine L_run (R_move rfl) rfl ?_
   refine L_run (R_extract rfl rfl) rfl ?_
   refine L_run (R_extract rfl rfl) rfl ?_
   refine L_run (R_assign rfl) rfl ?_
   refine L_run (R_assign rfl) rfl ?_
   refine L_nil (N_then (C_seq (C_reg rfl ?_)))
   refine L_run (R_move rfl) rfl ?_
   have hlg2 : w.heap.size ≤ w3.heap.size := hB.size
   refine L_call rfl cb22 (rof_y (l := l) hS.top hD.top h1 h2) rfl ?_
   rintro _ w4 ⟨hs4, Ae2, ce2, E2, rfl, hoE2, hFz2, hkE2⟩
   replace hB := gb_tr hB hs4
   replace hS := hS.gb hs4
   replace hD := hD.gb hs4
   replace hoE1 := own_gb hoE1 hs4
   replace hFz1 := hFz1.gb hs4
   have hle := key_len hkE1 hkE2
   refine L_run (R_move rfl) rfl ?_
   refine L_run (R_extract rfl rfl) rfl ?_
   refine L_run (R_extract rfl rfl) rfl ?_
   refine L_run (R_assign rfl) rfl ?_
   refine L_run (R_assign rfl) rfl ?_
   refine L_nil (N_then (C_seq (C_seq (C_reg rfl ?_))))
   refine L_run (R_move rfl) rfl ?_
   refine L_run (R_move rfl) rfl ?_
   refine L_run (R_eqv (R_neq rfl rfl) (v' := .bool false) rfl) rfl ?_
   refine L_run (R_move rfl) rfl ?_
   refine L_yes rfl rfl rfl rfl ?_
   refine L_run (R_move rfl) rfl ?_
   refine L_yes rfl rfl rfl rfl ?_
   refine L_run (R_lenSl rfl slc24) rfl ?_
   refine L_yes rfl rfl rfl rfl ?_
   refine L_run (R_move rfl) rfl ?_
   refine L_yes rfl rfl rfl rfl ?_
   refine L_run (R_lenSl rfl slc22) rfl ?_
   refine L_yes rfl rfl rfl rfl ?_
   refine L_run (R_neq rfl rfl) rfl ?_
   refine L_run (R_pickF rfl rfl rfl) rfl ?_
   refine L_nil (N_then (C_condF rfl (decide_eq_false (fun q_ => q_ (by rw [hle]))) (C_skip (N_then (C_seq (C_seq (C_reg rfl ?_)))))))
   refine L_run (R_assign rfl) rfl ?_
   refine L_nil (N_then (C_block ?_))
   refine C_loop (fun m_ a_ w_ => ∃ (σ_ : Nat → Value) (i : Nat), a_ = Ac 133 σ_ [] [(0, .slice A l.length c), (3, .slice Ae1 E1.length ce1), (5, .slice Ae2 E2.length ce2), (7, .int .i64 (i : Int))] ∧ w.grownBy w_ none ∧ Sli 0 0 w.heap.size w_ A (fl encRC l) ∧ DeepRC w.heap.size w_ l ∧ World.ownsRow w_ w1.heap.size 28 3 (.slice Ae1 E1.length ce1) E1.length (fl encEn E1) ∧ FrzE w_ E1 ∧ World.ownsRow w_ w3.heap.size 27 3 (.slice Ae2 E2.length ce2) E2.length (fl encEn E2) ∧ FrzE w_ E2 ∧ (i ≤ E1.length) ∧ E1.length - i = m_) (E1.length - 0) ?_ ?_
   ·exact ⟨_, 0, Ac_frg ⟨rfl, rfl, rfl, (agr rfl (by first | rfl | (congr 1; omega) | (congr 1 <;> omega))), trivial⟩, hB, hS, hD, hoE1, hFz1, hoE2, hFz2, (Nat.zero_le _), rfl⟩
   ·clear hB
    clear hS hD hoE1 hFz1 hoE2 hFz2
    rintro m_ a_ w5 ⟨σ_, i, rfl, hB, hS, hD, hoE1, hFz1, hoE2, hFz2, hi_, rfl⟩
    refine C_seq (C_seq (C_reg rfl ?_))
    refine L_run (R_move rfl) rfl ?_
    refine L_run (R_move rfl) rfl ?_
    refine L_run (R_lenSl rfl slc24) rfl ?_
    refine L_run (R_lss rfl rfl) rfl ?_
    refine L_nil (N_then ?_)
    refine C_if rfl (fun h3 => ?_) (fun h3 => ?_)
    ·refine C_skip (N_then (C_seq (C_block (C_seq (C_seq ?_)))))
     refine C_draw2 rfl mix ?_
     intro w6 hs5 hz1
     replace hB := gb_tr hB hs5
     replace hS := hS.gb hs5
     replace hD := hD.gb hs5
     replace hoE1 := own_gb hoE1 hs5
     replace hFz1 := hFz1.gb hs5
     replace hoE2 := own_gb hoE2 hs5
     replace hFz2 := hFz2.gb hs5
     have hl1 : i < E1.length := by first | omega | (simp; omega)
     obtain ⟨g1, o1, r1, eA1, er1, ha1⟩ := Sli.place' (xs := E1) (i := i) EncEn (own_of hoE1).2.2 hl1 rfl
     have hl2 : i < E2.length := by first | omega | (simp; omega)
     obtain ⟨g2, o2, r2, eA2, er2, ha2⟩ := Sli.place' (xs := E2) (i := i) EncEn (own_of hoE2).2.2 hl2 rfl
     refine ⟨fun W_ => At W_ g1 r1 [.int .i64 ((E1[i]).lsn), .int .i64 ((E1[i]).chain), .slice ((E1[i]).la) ((E1[i]).ch.length) ((E1[i]).lc)] ∧ At W_ g2 r2 [.int .i64 ((E2[i]).lsn), .int .i64 ((E2[i]).chain), .slice ((E2[i]).la) ((E2[i]).ch.length) ((E2[i]).lc)] ∧ True, [0, 1, 2, 3, 4, 5, 6, 7, 8, 9, 10, 11, 12, 13, 14, 15, 16, 17, 18, 19, 20, 21, 22, 23, 24, 25, 26, 27, 28, 29, 30, 31, 32, 33, 34, 35, 36, 37, 38], ?_⟩
     refine T_tk (i := 0) rfl (Y_of (fun _ _ => R_move rfl)) ⟨ha1, ha2, trivial⟩ rfl ?_
     refine T_tk (i := 1) rfl (Y_of (fun _ _ => R_move rfl)) ⟨ha1, ha2, trivial⟩ rfl ?_
     refine T_tk (i := 2) rfl (Y_of (fun _ _ => R_indexE rfl rfl (by first | rfl | omega) slc24 hl1 eA1 er1)) ⟨ha1, ha2, trivial⟩ rfl ?_
     refine T_tk (i := 3) rfl (Y_of (fun _ _ => R_field rfl fld28_0 rfl)) ⟨ha1, ha2, trivial⟩ rfl ?_
     refine T_tk (i := 4) rfl (Y_of (fun _ ⟨ha1, ha2, _⟩ => R_load1 rfl scl3 (ha1 0 _ rfl))) ⟨ha1, ha2, trivial⟩ rfl ?_
     refine T_tk (i := 5) rfl (Y_of (fun _ _ => R_move rfl)) ⟨ha1, ha2, trivial⟩ rfl ?_
     refine T_tk (i := 6) rfl (Y_of (fun _ _ => R_move rfl)) ⟨ha1, ha2, trivial⟩ rfl ?_
     refine T_tk (i := 7) rfl (Y_of (fun _ _ => R_indexE rfl rfl (by first | rfl | omega) slc22 hl2 eA2 er2)) ⟨ha1, ha2, trivial⟩ rfl ?_
     refine T_tk (i := 8) rfl (Y_of (fun _ _ => R_field rfl fld27_0 rfl)) ⟨ha1, ha2, trivial⟩ rfl ?_
     refine T_tk (i := 9) rfl (Y_of (fun _ ⟨ha1, ha2, _⟩ => R_load1 rfl scl3 (ha2 0 _ rfl))) ⟨ha1, ha2, trivial⟩ rfl ?_
     refine T_tk (i := 10) rfl (Y_of (fun _ _ => R_neq rfl rfl)) ⟨ha1, ha2, trivial⟩ rfl ?_
     refine T_tk (i := 11) rfl (Y_of (fun _ _ => R_move rfl)) ⟨ha1, ha2, trivial⟩ rfl ?_
     by_cases h4 : (E1[i]).lsn ≠ (E2[i]).lsn
     ·refine T_tk (i := 12) rfl (Y_no rfl rfl rfl (decide_eq_true h4)) ⟨ha1, ha2, trivial⟩ rfl ?_
      refine T_tk (i := 13) rfl (Y_no rfl rfl rfl (decide_eq_true h4)) ⟨ha1, ha2, trivial⟩ rfl ?_
      refine T_tk (i := 14) rfl (Y_no rfl rfl rfl (decide_eq_true h4)) ⟨ha1, ha2, trivial⟩ rfl ?_
      refine T_tk (i := 15) rfl (Y_no rfl rfl rfl (decide_eq_true h4)) ⟨ha1, ha2, trivial⟩ rfl ?_
      refine T_tk (i := 16) rfl (Y_no rfl rfl rfl (decide_eq_true h4)) ⟨ha1, ha2, trivial⟩ rfl ?_
      refine T_tk (i := 17) rfl (Y_no rfl rfl rfl (decide_eq_true h4)) ⟨ha1, ha2, trivial⟩ rfl ?_
      refine T_tk (i := 18) rfl (Y_no rfl rfl rfl (decide_eq_true h4)) ⟨ha1, ha2, trivial⟩ rfl ?_
      refine T_tk (i := 19) rfl (Y_no rfl rfl rfl (decide_eq_true h4)) ⟨ha1, ha2, trivial⟩ rfl ?_
      refine T_tk (i := 20) rfl (Y_no rfl rfl rfl (decide_eq_true h4)) ⟨ha1, ha2, trivial⟩ rfl ?_
      refine T_tk (i := 21) rfl (Y_no rfl rfl rfl (decide_eq_true h4)) ⟨ha1, ha2, trivial⟩ rfl ?_
      refine T_tk (i := 22) rfl (Y_no rfl rfl rfl (decide_eq_true h4)) ⟨ha1, ha2, trivial⟩ rfl ?_
      refine T_tk (i := 23) rfl (Y_of (fun _ _ => R_pickT rfl (decide_eq_true h4) rfl)) ⟨ha1, ha2, trivial⟩ rfl ?_
      refine T_tk (i := 24) rfl (Y_of (fun _ _ => R_move rfl)) ⟨ha1, ha2, trivial⟩ rfl ?_
      refine T_tk (i := 25) rfl (Y_no rfl rfl rfl rfl) ⟨ha1, ha2, trivial⟩ rfl ?_
      refine T_tk (i := 26) rfl (Y_no rfl rfl rfl rfl) ⟨ha1, ha2, trivial⟩ rfl ?_
      refine T_tk (i := 27) rfl (Y_no rfl rfl rfl rfl) ⟨ha1, ha2, trivial⟩ rfl ?_
      refine T_tk (i := 28) rfl (Y_no rfl rfl rfl rfl) ⟨ha1, ha2, trivial⟩ rfl ?_
      refine T_tk (i := 29) rfl (Y_no rfl rfl rfl rfl) ⟨ha1, ha2, trivial⟩ rfl ?_
      refine T_tk (i := 30) rfl (Y_no rfl rfl rfl rfl) ⟨ha1, ha2, trivial⟩ rfl ?_
      refine T_tk (i := 31) rfl (Y_no rfl rfl rfl rfl) ⟨ha1, ha2, trivial⟩ rfl ?_
      refine T_tk (i := 32) rfl (Y_no rfl rfl rfl rfl) ⟨ha1, ha2, trivial⟩ rfl ?_
      refine T_tk (i := 33) rfl (Y_no rfl rfl rfl rfl) ⟨ha1, ha2, trivial⟩ rfl ?_
      refine T_tk (i := 34) rfl (Y_no rfl rfl rfl rfl) ⟨ha1, ha2, trivial⟩ rfl ?_
      refine T_tk (i := 35) rfl (Y_no rfl rfl rfl rfl) ⟨ha1, ha2, trivial⟩ rfl ?_
      refine T_tk (i := 36) rfl (Y_no rfl rfl rfl rfl) ⟨ha1, ha2, trivial⟩ rfl ?_
      refine T_tk (i := 37) rfl (Y_no rfl rfl rfl rfl) ⟨ha1, ha2, trivial⟩ rfl ?_
      refine T_tk (i := 38) rfl (Y_of (fun _ _ => R_pickT rfl rfl rfl)) ⟨ha1, ha2, trivial⟩ rfl ?_
      refine T_done (by kernel_rfl) (CalmE.normal ?_)
      refine N_then (C_condT rfl rfl (C_seq (C_reg rfl ?_)))
      refine L_run (R_assign rfl) rfl ?_
      refine L_nil (N_then (C_ret (R_then (R_in (R_then (R_then (R_in (R_then ?_))))))))
      refine ret1 Try.results5 rfl ?_
      exfalso
      have hi1 : i < E1.length := by omega
      have hi2 : i < E2.length := by omega
      obtain ⟨k1, k2, k3⟩ := key_eq hkE1 hkE2 hi1 hi2
      first | omega | simp_all
     ·refine T_tk (i := 12) rfl (Y_yes rfl rfl rfl (decide_eq_false h4) (fun _ _ => R_move rfl)) ⟨ha1, ha2, trivial⟩ rfl ?_
      refine T_tk (i := 13) rfl (Y_yes rfl rfl rfl (decide_eq_false h4) (fun _ _ => R_move rfl)) ⟨ha1, ha2, trivial⟩ rfl ?_
      refine T_tk (i := 14) rfl (Y_yes rfl rfl rfl (decide_eq_false h4) (fun _ _ => R_indexE rfl rfl (by first | rfl | omega) slc24 hl1 eA1 er1)) ⟨ha1, ha2, trivial⟩ rfl ?_
      refine T_tk (i := 15) rfl (Y_yes rfl rfl rfl (decide_eq_false h4) (fun _ _ => R_field rfl fld28_1 rfl)) ⟨ha1, ha2, trivial⟩ rfl ?_
      refine T_tk (i := 16) rfl (Y_yes rfl rfl rfl (decide_eq_false h4) (fun _ ⟨ha1, ha2, _⟩ => R_load1 rfl scl3 (ha1 1 _ rfl))) ⟨ha1, ha2, trivial⟩ rfl ?_
      refine T_tk (i := 17) rfl (Y_yes rfl rfl rfl (decide_eq_false h4) (fun _ _ => R_move rfl)) ⟨ha1, ha2, trivial⟩ rfl ?_
      refine T_tk (i := 18) rfl (Y_yes rfl rfl rfl (decide_eq_false h4) (fun _ _ => R_move rfl)) ⟨ha1, ha2, trivial⟩ rfl ?_
      refine T_tk (i := 19) rfl (Y_yes rfl rfl rfl (decide_eq_false h4) (fun _ _ => R_indexE rfl rfl (by first | rfl | omega) slc22 hl2 eA2 er2)) ⟨ha1, ha2, trivial⟩ rfl ?_
      refine T_tk (i := 20) rfl (Y_yes rfl rfl rfl (decide_eq_false h4) (fun _ _ => R_field rfl fld27_1 rfl)) ⟨ha1, ha2, trivial⟩ rfl ?_
      refine T_tk (i := 21) rfl (Y_yes rfl rfl rfl (decide_eq_false h4) (fun _ ⟨ha1, ha2, _⟩ => R_load1 rfl scl3 (ha2 1 _ rfl))) ⟨ha1, ha2, trivial⟩ rfl ?_
      refine T_tk (i := 22) rfl (Y_yes rfl rfl rfl (decide_eq_false h4) (fun _ _ => R_neq rfl rfl)) ⟨ha1, ha2, trivial⟩ rfl ?_
      refine T_tk (i := 23) rfl (Y_of (fun _ _ => R_pickF rfl (decide_eq_false h4) rfl)) ⟨ha1, ha2, trivial⟩ rfl ?_
      refine T_tk (i := 24) rfl (Y_of (fun _ _ => R_move rfl)) ⟨ha1, ha2, trivial⟩ rfl ?_
      by_cases h5 : (E1[i]).chain ≠ (E2[i]).chain
      ·refine T_tk (i := 25) rfl (Y_no rfl rfl rfl (decide_eq_true h5)) ⟨ha1, ha2, trivial⟩ rfl ?_
       refine T_tk (i := 26) rfl (Y_no rfl rfl rfl (decide_eq_true h5)) ⟨ha1, ha2, trivial⟩ rfl ?_
       refine T_tk (i := 27) rfl (Y_no rfl rfl rfl (decide_eq_true h5)) ⟨ha1, ha2, trivial⟩ rfl ?_
       refine T_tk (i := 28) rfl (Y_no rfl rfl rfl (decide_eq_true h5)) ⟨ha1, ha2, trivial⟩ rfl ?_
       refine T_tk (i := 29) rfl (Y_no rfl rfl rfl (decide_eq_true h5)) ⟨ha1, ha2, trivial⟩ rfl ?_
       refine T_tk (i := 30) rfl (Y_no rfl rfl rfl (decide_eq_true h5)) ⟨ha1, ha2, trivial⟩ rfl ?_
       refine T_tk (i := 31) rfl (Y_no rfl rfl rfl (decide_eq_true h5)) ⟨ha1, ha2, trivial⟩ rfl ?_
       refine T_tk (i := 32) rfl (Y_no rfl rfl rfl (decide_eq_true h5)) ⟨ha1, ha2, trivial⟩ rfl ?_
       refine T_tk (i := 33) rfl (Y_no rfl rfl rfl (decide_eq_true h5)) ⟨ha1, ha2, trivial⟩ rfl ?_
       refine T_tk (i := 34) rfl (Y_no rfl rfl rfl (decide_eq_true h5)) ⟨ha1, ha2, trivial⟩ rfl ?_
       refine T_tk (i := 35) rfl (Y_no rfl rfl rfl (decide_eq_true h5)) ⟨ha1, ha2, trivial⟩ rfl ?_
       refine T_tk (i := 36) rfl (Y_no rfl rfl rfl (decide_eq_true h5)) ⟨ha1, ha2, trivial⟩ rfl ?_
       refine T_tk (i := 37) rfl (Y_no rfl rfl rfl (decide_eq_true h5)) ⟨ha1, ha2, trivial⟩ rfl ?_
       refine T_tk (i := 38) rfl (Y_of (fun _ _ => R_pickT rfl (decide_eq_true h5) rfl)) ⟨ha1, ha2, trivial⟩ rfl ?_
       refine T_done (by kernel_rfl) (CalmE.normal ?_)
       refine N_then (C_condT rfl rfl (C_seq (C_reg rfl ?_)))
       refine L_run (R_assign rfl) rfl ?_
       refine L_nil (N_then (C_ret (R_then (R_in (R_then (R_then (R_in (R_then ?_))))))))
       refine ret1 Try.results5 rfl ?_
       exfalso
       have hi1 : i < E1.length := by omega
       have hi2 : i < E2.length := by omega
       obtain ⟨k1, k2, k3⟩ := key_eq hkE1 hkE2 hi1 hi2
       first | omega | simp_all
      ·refine T_tk (i := 25) rfl (Y_yes rfl rfl rfl (decide_eq_false h5) (fun _ _ => R_move rfl)) ⟨ha1, ha2, trivial⟩ rfl ?_
       refine T_tk (i := 26) rfl (Y_yes rfl rfl rfl (decide_eq_false h5) (fun _ _ => R_move rfl)) ⟨ha1, ha2, trivial⟩ rfl ?_
       refine T_tk (i := 27) rfl (Y_yes rfl rfl rfl (decide_eq_false h5) (fun _ _ => R_indexE rfl rfl (by first | rfl | omega) slc24 hl1 eA1 er1)) ⟨ha1, ha2, trivial⟩ rfl ?_
       refine T_tk (i := 28) rfl (Y_yes rfl rfl rfl (decide_eq_false h5) (fun _ _ => R_field rfl fld28_2 rfl)) ⟨ha1, ha2, trivial⟩ rfl ?_
       refine T_tk (i := 29) rfl (Y_yes rfl rfl rfl (decide_eq_false h5) (fun _ ⟨ha1, ha2, _⟩ => R_load1 rfl scl25 (ha1 2 _ rfl))) ⟨ha1, ha2, trivial⟩ rfl ?_
       refine T_tk (i := 30) rfl (Y_yes rfl rfl rfl (decide_eq_false h5) (fun _ _ => R_lenSl rfl slc25)) ⟨ha1, ha2, trivial⟩ rfl ?_
       refine T_tk (i := 31) rfl (Y_yes rfl rfl rfl (decide_eq_false h5) (fun _ _ => R_move rfl)) ⟨ha1, ha2, trivial⟩ rfl ?_
       refine T_tk (i := 32) rfl (Y_yes rfl rfl rfl (decide_eq_false h5) (fun _ _ => R_move rfl)) ⟨ha1, ha2, trivial⟩ rfl ?_
       refine T_tk (i := 33) rfl (Y_yes rfl rfl rfl (decide_eq_false h5) (fun _ _ => R_indexE rfl rfl (by first | rfl | omega) slc22 hl2 eA2 er2)) ⟨ha1, ha2, trivial⟩ rfl ?_
       refine T_tk (i := 34) rfl (Y_yes rfl rfl rfl (decide_eq_false h5) (fun _ _ => R_field rfl fld27_2 rfl)) ⟨ha1, ha2, trivial⟩ rfl ?_
       refine T_tk (i := 35) rfl (Y_yes rfl rfl rfl (decide_eq_false h5) (fun _ ⟨ha1, ha2, _⟩ => R_load1 rfl scl25 (ha2 2 _ rfl))) ⟨ha1, ha2, trivial⟩ rfl ?_
       refine T_tk (i := 36) rfl (Y_yes rfl rfl rfl (decide_eq_false h5) (fun _ _ => R_lenSl rfl slc25)) ⟨ha1, ha2, trivial⟩ rfl ?_
       refine T_tk (i := 37) rfl (Y_yes rfl rfl rfl (decide_eq_false h5) (fun _ _ => R_neq rfl rfl)) ⟨ha1, ha2, trivial⟩ rfl ?_
       refine T_tk (i := 38) rfl (Y_of (fun _ _ => R_pickF rfl (decide_eq_false h5) rfl)) ⟨ha1, ha2, trivial⟩ rfl ?_
       refine T_done (by kernel_rfl) (CalmE.normal ?_)
       refine N_then ?_
       refine C_if rfl (fun h6 => ?_) (fun h6 => ?_)
       ·refine C_seq (C_reg rfl ?_)
        refine L_run (R_assign rfl) rfl ?_
        refine L_nil (N_then (C_ret (R_then (R_in (R_then (R_then (R_in (R_then ?_))))))))
        refine ret1 Try.results5 rfl ?_
        exfalso
        have hi1 : i < E1.length := by omega
        have hi2 : i < E2.length := by omega
        obtain ⟨k1, k2, k3⟩ := key_eq hkE1 hkE2 hi1 hi2
        first | omega | simp_all
       ·refine C_skip (N_then (C_seq (C_reg rfl ?_)))
        refine L_run (R_assign rfl) rfl ?_
        refine L_nil (N_then (C_block ?_))
        have hi1_ : i < E1.length := by omega
        have hchb := key_ch hkE1 hi1_
        refine C_loop (fun m_ a_ w_ => ∃ (σ_ : Nat → Value) (j : Nat), a_ = Ac 133 σ_ [] [(0, .slice A l.length c), (3, .slice Ae1 E1.length ce1), (5, .slice Ae2 E2.length ce2), (7, .int .i64 (i : Int)), (8, .int .i64 (j : Int))] ∧ w.grownBy w_ none ∧ Sli 0 0 w.heap.size w_ A (fl encRC l) ∧ DeepRC w.heap.size w_ l ∧ World.ownsRow w_ w1.heap.size 28 3 (.slice Ae1 E1.length ce1) E1.length (fl encEn E1) ∧ FrzE w_ E1 ∧ World.ownsRow w_ w3.heap.size 27 3 (.slice Ae2 E2.length ce2) E2.length (fl encEn E2) ∧ FrzE w_ E2 ∧ (j ≤ (E1[i]).ch.length) ∧ (E1[i]).ch.length - j = m_) ((E1[i]).ch.length - 0) ?_ ?_
        ·exact ⟨_, 0, Ac_frg ⟨rfl, rfl, rfl, rfl, (agr rfl (by first | rfl | (congr 1; omega) | (congr 1 <;> omega))), trivial⟩, hB, hS, hD, hoE1, hFz1, hoE2, hFz2, (Nat.zero_le _), rfl⟩
        ·clear hB
         clear hS hD hoE1 hFz1 hoE2 hFz2 ha1 ha2
         rintro m_ a_ w7 ⟨σ_, j, rfl, hB, hS, hD, hoE1, hFz1, hoE2, hFz2, hj_, rfl⟩
         refine C_seq (C_seq (C_reg rfl ?_))
         refine L_run (R_move rfl) rfl ?_
         refine L_run (R_move rfl) rfl ?_
         refine L_run (R_move rfl) rfl ?_
         have hl3 : i < E1.length := by first | omega | (simp; omega)
         refine T_index (xs := E1) (i := i) EncEn rfl rfl (by first | rfl | omega) slc24 hl3 (own_of hoE1).2.2 rfl ?_
         intro g3 o3 ha3
         refine L_run (R_field rfl fld28_2 rfl) rfl ?_
         refine L_run (R_load1 rfl scl25 (ha3 2 _ rfl)) rfl ?_
         refine L_run (R_lenSl rfl slc25) rfl ?_
         refine L_run (R_lss rfl rfl) rfl ?_
         refine L_nil (N_then ?_)
         refine C_if rfl (fun h7 => ?_) (fun h7 => ?_)
         ·refine C_skip (N_then (C_seq (C_block (C_seq ?_))))
          refine C_draw2 rfl mix ?_
          intro w8 hs6 hz2
          replace hB := gb_tr hB hs6
          replace hS := hS.gb hs6
          replace hD := hD.gb hs6
          replace hoE1 := own_gb hoE1 hs6
          replace hFz1 := hFz1.gb hs6
          replace hoE2 := own_gb hoE2 hs6
          replace hFz2 := hFz2.gb hs6
          replace ha3 := At.gb ha3 hs6 (by simp)
          have hl4 : i < E1.length := by first | omega | (simp; omega)
          obtain ⟨g4, o4, r3, eA3, er3, ha4⟩ := Sli.place' (xs := E1) (i := i) EncEn (own_of hoE1).2.2 hl4 rfl
          have hl5 : j < ((E1[i]).ch).length := by first | omega | (simp; omega)
          obtain ⟨g5, o5, r4, eA4, er4, ha5⟩ := Sli.place' (xs := (E1[i]).ch) (i := j) EncC (hFz1.getL (i := i) (by first | assumption | omega | (simp; omega))) hl5 rfl
          have hl6 : i < E2.length := by first | omega | (simp; omega)
          obtain ⟨g6, o6, r5, eA5, er5, ha6⟩ := Sli.place' (xs := E2) (i := i) EncEn (own_of hoE2).2.2 hl6 rfl
          have hl7 : j < ((E2[i]).ch).length := by first | omega | (simp; omega)
          obtain ⟨g7, o7, r6, eA6, er6, ha7⟩ := Sli.place' (xs := (E2[i]).ch) (i := j) EncC (hFz2.getL (i := i) (by first | assumption | omega | (simp; omega))) hl7 rfl
          refine ⟨fun W_ => At W_ g4 r3 [.int .i64 ((E1[i]).lsn), .int .i64 ((E1[i]).chain), .slice ((E1[i]).la) ((E1[i]).ch.length) ((E1[i]).lc)] ∧ At W_ g5 r4 [.string ((((E1[i]).ch)[j]).key), .bool ((((E1[i]).ch)[j]).was), .bool ((((E1[i]).ch)[j]).is), .string ((((E1[i]).ch)[j]).old), .string ((((E1[i]).ch)[j]).new), .int .i64 ((((E1[i]).ch)[j]).next)] ∧ At W_ g6 r5 [.int .i64 ((E2[i]).lsn), .int .i64 ((E2[i]).chain), .slice ((E2[i]).la) ((E2[i]).ch.length) ((E2[i]).lc)] ∧ At W_ g7 r6 [.string ((((E2[i]).ch)[j]).key), .bool ((((E2[i]).ch)[j]).was), .bool ((((E2[i]).ch)[j]).is), .string ((((E2[i]).ch)[j]).old), .string ((((E2[i]).ch)[j]).new), .int .i64 ((((E2[i]).ch)[j]).next)] ∧ True, [0, 1, 2, 3, 4, 5, 6, 7, 8, 9, 10, 11, 12, 13, 14, 15, 16], ?_⟩
          refine T_tk (i := 0) rfl (Y_of (fun _ _ => R_move rfl)) ⟨ha4, ha5, ha6, ha7, trivial⟩ rfl ?_
          refine T_tk (i := 1) rfl (Y_of (fun _ _ => R_move rfl)) ⟨ha4, ha5, ha6, ha7, trivial⟩ rfl ?_
          refine T_tk (i := 2) rfl (Y_of (fun _ _ => R_indexE rfl rfl (by first | rfl | omega) slc24 hl4 eA3 er3)) ⟨ha4, ha5, ha6, ha7, trivial⟩ rfl ?_
          refine T_tk (i := 3) rfl (Y_of (fun _ _ => R_field rfl fld28_2 rfl)) ⟨ha4, ha5, ha6, ha7, trivial⟩ rfl ?_
          refine T_tk (i := 4) rfl (Y_of (fun _ ⟨ha4, ha5, ha6, ha7, _⟩ => R_load1 rfl scl25 (ha4 2 _ rfl))) ⟨ha4, ha5, ha6, ha7, trivial⟩ rfl ?_
          refine T_tk (i := 5) rfl (Y_of (fun _ _ => R_move rfl)) ⟨ha4, ha5, ha6, ha7, trivial⟩ rfl ?_
          refine T_tk (i := 6) rfl (Y_of (fun _ _ => R_indexE rfl rfl (by first | rfl | omega) slc25 hl5 eA4 er4)) ⟨ha4, ha5, ha6, ha7, trivial⟩ rfl ?_
          refine T_tk (i := 7) rfl (Y_of (fun _ ⟨ha4, ha5, ha6, ha7, _⟩ => R_loadA (vs := [.string ((((E1[i]).ch)[j]).key), .bool ((((E1[i]).ch)[j]).was), .bool ((((E1[i]).ch)[j]).is), .string ((((E1[i]).ch)[j]).old), .string ((((E1[i]).ch)[j]).new), .int .i64 ((((E1[i]).ch)[j]).next)]) rfl agg34 (At.pre ha5 rfl) rfl)) ⟨ha4, ha5, ha6, ha7, trivial⟩ rfl ?_
          refine T_tk (i := 8) rfl (Y_of (fun _ _ => R_move rfl)) ⟨ha4, ha5, ha6, ha7, trivial⟩ rfl ?_
          refine T_tk (i := 9) rfl (Y_of (fun _ _ => R_move rfl)) ⟨ha4, ha5, ha6, ha7, trivial⟩ rfl ?_
          refine T_tk (i := 10) rfl (Y_of (fun _ _ => R_indexE rfl rfl (by first | rfl | omega) slc22 hl6 eA5 er5)) ⟨ha4, ha5, ha6, ha7, trivial⟩ rfl ?_
          refine T_tk (i := 11) rfl (Y_of (fun _ _ => R_field rfl fld27_2 rfl)) ⟨ha4, ha5, ha6, ha7, trivial⟩ rfl ?_
          refine T_tk (i := 12) rfl (Y_of (fun _ ⟨ha4, ha5, ha6, ha7, _⟩ => R_load1 rfl scl25 (ha6 2 _ rfl))) ⟨ha4, ha5, ha6, ha7, trivial⟩ rfl ?_
          refine T_tk (i := 13) rfl (Y_of (fun _ _ => R_move rfl)) ⟨ha4, ha5, ha6, ha7, trivial⟩ rfl ?_
          refine T_tk (i := 14) rfl (Y_of (fun _ _ => R_indexE rfl rfl (by first | rfl | omega) slc25 hl7 eA6 er6)) ⟨ha4, ha5, ha6, ha7, trivial⟩ rfl ?_
          refine T_tk (i := 15) rfl (Y_of (fun _ ⟨ha4, ha5, ha6, ha7, _⟩ => R_loadA (vs := [.string ((((E2[i]).ch)[j]).key), .bool ((((E2[i]).ch)[j]).was), .bool ((((E2[i]).ch)[j]).is), .string ((((E2[i]).ch)[j]).old), .string ((((E2[i]).ch)[j]).new), .int .i64 ((((E2[i]).ch)[j]).next)]) rfl agg34 (At.pre ha7 rfl) rfl)) ⟨ha4, ha5, ha6, ha7, trivial⟩ rfl ?_
          refine T_tk (i := 16) rfl (Y_of (fun _ _ => R_neqA rfl rfl eqg34 (eqs_struct und34 sih34 (eqf_cons (by decide) scl9 rfl rfl (eqs_str str9) (eqf_cons (by decide) scl4 rfl rfl (eqs_bool boo4) (eqf_cons (by decide) scl4 rfl rfl (eqs_bool boo4) (eqf_cons (by decide) scl9 rfl rfl (eqs_str str9) (eqf_cons (by decide) scl9 rfl rfl (eqs_str str9) (eqf_cons (by decide) scl3 rfl rfl (eqs_int int3) eqf_nil))))))))) ⟨ha4, ha5, ha6, ha7, trivial⟩ rfl ?_
          refine T_done (by kernel_rfl) (CalmE.normal ?_)
          refine N_then ?_
          refine C_ifN rfl (fun h8 => ?_) (fun h8 => ?_)
          ·refine C_seq (C_reg rfl ?_)
           refine L_run (R_assign rfl) rfl ?_
           refine L_nil (N_then (C_ret (R_in (R_then (R_then (R_in (R_in (R_then (R_then (R_in (R_then ?_)))))))))))
           refine ret1 Try.results5 rfl ?_
           exfalso
           have hi1 : i < E1.length := by omega
           have hi2 : i < E2.length := by omega
           obtain ⟨k1, k2, k3⟩ := key_eq hkE1 hkE2 hi1 hi2
           have hj1 : j < (E1[i]).ch.length := by omega
           have k4 := List.getElem_of_eq k3 hj1
           first | omega | simp_all
          ·refine C_skip (N_in (N_then (C_reg rfl ?_)))
           refine L_run (R_move rfl) rfl ?_
           refine L_run (R_add64 rfl rfl (by omega)) rfl ?_
           refine L_run (R_assign rfl) rfl ?_
           refine L_nil (N_then ?_)
           exact ⟨(E1[i]).ch.length - (j + 1), by omega, _, (j + 1), Ac_frg ⟨rfl, rfl, rfl, rfl, (agr rfl (by first | rfl | (congr 1; omega) | (congr 1 <;> omega))), trivial⟩, hB, hS, hD, hoE1, hFz1, hoE2, hFz2, (by omega), rfl⟩
         ·refine C_exit (X_then (X_then (X_hit (N_in (N_then (C_reg rfl ?_))))))
          refine L_run (R_move rfl) rfl ?_
          refine L_run (R_add64 rfl rfl (by omega)) rfl ?_
          refine L_run (R_assign rfl) rfl ?_
          refine L_nil (N_then ?_)
          exact ⟨E1.length - (i + 1), by omega, _, (i + 1), Ac_frg ⟨rfl, rfl, rfl, (agr rfl (by first | rfl | (congr 1; omega) | (congr 1 <;> omega))), trivial⟩, hB, hS, hD, hoE1, hFz1, hoE2, hFz2, (by omega), rfl⟩
    ·refine C_exit (X_then (X_then (X_hit (N_then (C_seq (C_reg rfl ?_))))))
     refine L_run (R_move rfl) rfl ?_
     have hlc1 : w.heap.size ≤ w5.heap.size := hB.size
     refine L_call rfl cb23 (lcl_ok (l := l) hS.top hD.top h1) rfl ?_
     rintro _ w9 ⟨hs7, Ac1, cc1, rfl, hoC1⟩
     replace hB := gb_tr hB hs7
     replace hS := hS.gb hs7
     replace hD := hD.gb hs7
     replace hoE1 := own_gb hoE1 hs7
     replace hFz1 := hFz1.gb hs7
     replace hoE2 := own_gb hoE2 hs7
     replace hFz2 := hFz2.gb hs7
     refine L_run (R_move rfl) rfl ?_
     have hlc2 : w.heap.size ≤ w9.heap.size := hB.size
     refine L_call rfl cb24 (rcl_ok (l := l) hS.top hD.top h1) rfl ?_
     rintro _ w10 ⟨hs8, Ac2, cc2, rfl, hoC2⟩
     replace hB := gb_tr hB hs8
     replace hS := hS.gb hs8
     replace hD := hD.gb hs8
     replace hoE1 := own_gb hoE1 hs8
     replace hFz1 := hFz1.gb hs8
     replace hoE2 := own_gb hoE2 hs8
     replace hFz2 := hFz2.gb hs8
     replace hoC1 := own_gb hoC1 hs8
     refine L_run (R_assign rfl) rfl ?_
     refine L_run (R_assign rfl) rfl ?_
     refine L_nil (N_then (C_seq (C_seq (C_reg rfl ?_))))
     refine L_run (R_move rfl) rfl ?_
     refine L_run (R_lenSl rfl slc51) rfl ?_
     refine L_run (R_move rfl) rfl ?_
     refine L_run (R_lenSl rfl slc51) rfl ?_
     refine L_run (R_eqv (R_neq rfl rfl) (v' := .bool false) (bF' (fun h => h rfl))) rfl ?_
     refine L_nil (N_then (C_condF rfl rfl (C_skip (N_then (C_seq (C_seq (C_reg rfl ?_)))))))
     refine L_run (R_assign rfl) rfl ?_
     refine L_nil (N_then (C_block ?_))
     refine C_loop (fun m_ a_ w_ => ∃ (σ_ : Nat → Value) (n : Nat), a_ = Ac 133 σ_ [] [(0, .slice A l.length c), (9, .slice Ac1 ((clR l l.length).length) cc1), (10, .slice Ac2 ((clR l l.length).length) cc2), (11, .int .i64 (n : Int))] ∧ w.grownBy w_ none ∧ Sli 0 0 w.heap.size w_ A (fl encRC l) ∧ DeepRC w.heap.size w_ l ∧ World.ownsRow w_ w1.heap.size 28 3 (.slice Ae1 E1.length ce1) E1.length (fl encEn E1) ∧ FrzE w_ E1 ∧ World.ownsRow w_ w3.heap.size 27 3 (.slice Ae2 E2.length ce2) E2.length (fl encEn E2) ∧ FrzE w_ E2 ∧ World.ownsRow w_ w5.heap.size 3 1 (.slice Ac1 (clR l l.length).length cc1) (clR l l.length).length (fl encZ (clR l l.length)) ∧ World.ownsRow w_ w9.heap.size 3 1 (.slice Ac2 (clR l l.length).length cc2) (clR l l.length).length (fl encZ (clR l l.length)) ∧ (n ≤ (clR l l.length).length) ∧ (clR l l.length).length - n = m_) ((clR l l.length).length - 0) ?_ ?_
     ·exact ⟨_, 0, Ac_frg ⟨rfl, rfl, rfl, (agr rfl (by first | rfl | (congr 1; omega) | (congr 1 <;> omega))), trivial⟩, hB, hS, hD, hoE1, hFz1, hoE2, hFz2, hoC1, hoC2, (Nat.zero_le _), rfl⟩
     ·clear hB
      clear hS hD hoE1 hFz1 hoE2 hFz2 hoC1 hoC2
      rintro m_ a_ w11 ⟨σ_, n, rfl, hB, hS, hD, hoE1, hFz1, hoE2, hFz2, hoC1, hoC2, hn_, rfl⟩
      refine C_seq (C_seq (C_reg rfl ?_))
      refine L_run (R_move rfl) rfl ?_
      refine L_run (R_move rfl) rfl ?_
      refine L_run (R_lenSl rfl slc51) rfl ?_
      refine L_run (R_lss rfl rfl) rfl ?_
      refine L_nil (N_then ?_)
      refine C_if rfl (fun h9 => ?_) (fun h9 => ?_)
      ·refine C_skip (N_then (C_seq (C_block (C_seq ?_))))
       refine C_draw2 rfl mix ?_
       intro w12 hs9 hz3
       replace hB := gb_tr hB hs9
       replace hS := hS.gb hs9
       replace hD := hD.gb hs9
       replace hoE1 := own_gb hoE1 hs9
       replace hFz1 := hFz1.gb hs9
       replace hoE2 := own_gb hoE2 hs9
       replace hFz2 := hFz2.gb hs9
       replace hoC1 := own_gb hoC1 hs9
       replace hoC2 := own_gb hoC2 hs9
       have hl8 : n < (clR l l.length).length := by first | omega | (simp; omega)
       obtain ⟨g8, o8, r7, eA7, er7, ha8⟩ := Sli.place' (xs := clR l l.length) (i := n) EncZ (own_of hoC1).2.2 hl8 rfl
       have hl9 : n < (clR l l.length).length := by first | omega | (simp; omega)
       obtain ⟨g9, o9, r8, eA8, er8, ha9⟩ := Sli.place' (xs := clR l l.length) (i := n) EncZ (own_of hoC2).2.2 hl9 rfl
       refine ⟨fun W_ => At W_ g8 r7 [.int .i64 ((clR l l.length)[n])] ∧ At W_ g9 r8 [.int .i64 ((clR l l.length)[n])] ∧ True, [0, 1, 2, 3, 4, 5, 6, 7, 8], ?_⟩
       refine T_tk (i := 0) rfl (Y_of (fun _ _ => R_move rfl)) ⟨ha8, ha9, trivial⟩ rfl ?_
       refine T_tk (i := 1) rfl (Y_of (fun _ _ => R_move rfl)) ⟨ha8, ha9, trivial⟩ rfl ?_
       refine T_tk (i := 2) rfl (Y_of (fun _ _ => R_indexE rfl rfl (by first | rfl | omega) slc51 hl8 eA7 er7)) ⟨ha8, ha9, trivial⟩ rfl ?_
       refine T_tk (i := 3) rfl (Y_of (fun _ ⟨ha8, ha9, _⟩ => R_load1 rfl scl3 (ha8 0 _ rfl))) ⟨ha8, ha9, trivial⟩ rfl ?_
       refine T_tk (i := 4) rfl (Y_of (fun _ _ => R_move rfl)) ⟨ha8, ha9, trivial⟩ rfl ?_
       refine T_tk (i := 5) rfl (Y_of (fun _ _ => R_move rfl)) ⟨ha8, ha9, trivial⟩ rfl ?_
       refine T_tk (i := 6) rfl (Y_of (fun _ _ => R_indexE rfl rfl (by first | rfl | omega) slc51 hl9 eA8 er8)) ⟨ha8, ha9, trivial⟩ rfl ?_
       refine T_tk (i := 7) rfl (Y_of (fun _ ⟨ha8, ha9, _⟩ => R_load1 rfl scl3 (ha9 0 _ rfl))) ⟨ha8, ha9, trivial⟩ rfl ?_
       refine T_tk (i := 8) rfl (Y_of (fun _ _ => R_eqv (R_neq rfl rfl) (v' := .bool false) (bF' (fun h => h rfl)))) ⟨ha8, ha9, trivial⟩ rfl ?_
       refine T_done (by kernel_rfl) (CalmE.normal ?_)
       refine N_then (C_condF rfl rfl (C_skip (N_in (N_then (C_reg rfl ?_)))))
       refine L_run (R_move rfl) rfl ?_
       refine L_run (R_add64 rfl rfl (by omega)) rfl ?_
       refine L_run (R_assign rfl) rfl ?_
       refine L_nil (N_then ?_)
       exact ⟨(clR l l.length).length - (n + 1), by omega, _, (n + 1), Ac_frg ⟨rfl, rfl, rfl, (agr rfl (by first | rfl | (congr 1; omega) | (congr 1 <;> omega))), trivial⟩, hB, hS, hD, hoE1, hFz1, hoE2, hFz2, hoC1, hoC2, (by omega), rfl⟩
      ·refine C_exit (X_then (X_then (X_hit (N_then (C_seq (C_reg rfl ?_))))))
       refine L_call rfl cb6 (awake47) rfl ?_
       rintro _ w13 ⟨hs10, rfl⟩
       replace hB := gb_tr hB hs10
       replace hS := hS.gb hs10
       replace hD := hD.gb hs10
       replace hoE1 := own_gb hoE1 hs10
       replace hFz1 := hFz1.gb hs10
       replace hoE2 := own_gb hoE2 hs10
       replace hFz2 := hFz2.gb hs10
       replace hoC1 := own_gb hoC1 hs10
       replace hoC2 := own_gb hoC2 hs10
       refine L_run (R_assign rfl) rfl ?_
       refine L_nil (N_then (C_ret ?_))
       refine ret1 Try.results5 rfl ?_
       exact ⟨hB, rfl⟩
  ·refine L_call rfl cb21 (lof_n (l := l) hS.top hD.top h1 h2) rfl ?_
   rintro _ w14 ⟨hs11, rfl⟩
   replace hB := gb_tr hB hs11
   replace hS := hS.gb hs11
   replace hD := hD.gb hs11
   refine L_run (R_move rfl) rfl ?_
   refine L_run (R_extract rfl rfl) rfl ?_
   refine L_run (R_extract rfl rfl) rfl ?_
   refine L_run (R_assign rfl) rfl ?_
   refine L_run (R_assign rfl) rfl ?_
   refine L_nil (N_then (C_seq (C_reg rfl ?_)))
   refine L_run (R_move rfl) rfl ?_
   refine L_call rfl cb22 (rof_n (l := l) hS.top hD.top h1 h2) rfl ?_
   rintro _ w15 ⟨hs12, rfl⟩
   replace hB := gb_tr hB hs12
   replace hS := hS.gb hs12
   replace hD := hD.gb hs12
   refine L_run (R_move rfl) rfl ?_
   refine L_run (R_extract rfl rfl) rfl ?_
   refine L_run (R_extract rfl rfl) rfl ?_
   refine L_run (R_assign rfl) rfl ?_
   refine L_run (R_assign rfl) rfl ?_
   refine L_nil (N_then (C_seq (C_seq (C_reg rfl ?_))))
   refine L_run (R_move rfl) rfl ?_
   refine L_run (R_move rfl) rfl ?_
   refine L_run (R_eqv (R_neq rfl rfl) (v' := .bool false) rfl) rfl ?_
   refine L_run (R_move rfl) rfl ?_
   refine L_yes rfl rfl rfl rfl ?_
   refine L_run (R_move rfl) rfl ?_
   refine L_yes rfl rfl rfl rfl ?_
   refine L_run (R_eqv (R_lenSl rfl slc24) (v' := .int .i64 0) rfl) rfl ?_
   refine L_yes rfl rfl rfl rfl ?_
   refine L_run (R_move rfl) rfl ?_
   refine L_yes rfl rfl rfl rfl ?_
   refine L_run (R_eqv (R_lenSl rfl slc22) (v' := .int .i64 0) rfl) rfl ?_
   refine L_yes rfl rfl rfl rfl ?_
   refine L_run (R_eqv (R_neq rfl rfl) (v' := .bool false) rfl) rfl ?_
   refine L_run (R_pickF rfl rfl rfl) rfl ?_
   refine L_nil (N_then (C_condF rfl rfl (C_skip (N_then (C_seq (C_seq (C_reg rfl ?_)))))))
   refine L_run (R_assign rfl) rfl ?_
   refine L_nil (N_then (C_block ?_))
   refine C_loop (fun m_ a_ w_ => ∃ (σ_ : Nat → Value) , a_ = Ac 133 σ_ [] [(0, .slice A l.length c), (3, .slice none 0 0), (5, .slice none 0 0), (7, .int .i64 0)] ∧ w.grownBy w_ none ∧ Sli 0 0 w.heap.size w_ A (fl encRC l) ∧ DeepRC w.heap.size w_ l ∧ 0 = m_) (0) ?_ ?_
   ·exact ⟨_, Ac_frg ⟨rfl, rfl, rfl, rfl, trivial⟩, hB, hS, hD, rfl⟩
   ·clear hB
    clear hS hD
    rintro m_ a_ w16 ⟨σ_, rfl, hB, hS, hD, rfl⟩
    refine C_seq (C_seq (C_reg rfl ?_))
    refine L_run (R_move rfl) rfl ?_
    refine L_run (R_move rfl) rfl ?_
    refine L_run (R_eqv (R_lenSl rfl slc24) (v' := .int .i64 0) rfl) rfl ?_
    refine L_run (R_eqv (R_lss rfl rfl) (v' := .bool false) rfl) rfl ?_
    refine L_nil (N_then (C_condF rfl rfl (C_exit (X_then (X_then (X_hit (N_then (C_seq (C_reg rfl ?_)))))))))
    refine L_run (R_move rfl) rfl ?_
    have hlc1 : w.heap.size ≤ w16.heap.size := hB.size
    refine L_call rfl cb23 (lcl_ok (l := l) hS.top hD.top h1) rfl ?_
    rintro _ w17 ⟨hs13, Ac1, cc1, rfl, hoC1⟩
    replace hB := gb_tr hB hs13
    replace hS := hS.gb hs13
    replace hD := hD.gb hs13
    refine L_run (R_move rfl) rfl ?_
    have hlc2 : w.heap.size ≤ w17.heap.size := hB.size
    refine L_call rfl cb24 (rcl_ok (l := l) hS.top hD.top h1) rfl ?_
    rintro _ w18 ⟨hs14, Ac2, cc2, rfl, hoC2⟩
    replace hB := gb_tr hB hs14
    replace hS := hS.gb hs14
    replace hD := hD.gb hs14
    replace hoC1 := own_gb hoC1 hs14
    refine L_run (R_assign rfl) rfl ?_
    refine L_run (R_assign rfl) rfl ?_
    refine L_nil (N_then (C_seq (C_seq (C_reg rfl ?_))))
    refine L_run (R_move rfl) rfl ?_
    refine L_run (R_lenSl rfl slc51) rfl ?_
    refine L_run (R_move rfl) rfl ?_
    refine L_run (R_lenSl rfl slc51) rfl ?_
    refine L_run (R_eqv (R_neq rfl rfl) (v' := .bool false) (bF' (fun h => h rfl))) rfl ?_
    refine L_nil (N_then (C_condF rfl rfl (C_skip (N_then (C_seq (C_seq (C_reg rfl ?_)))))))
    refine L_run (R_assign rfl) rfl ?_
    refine L_nil (N_then (C_block ?_))
    refine C_loop (fun m_ a_ w_ => ∃ (σ_ : Nat → Value) (n : Nat), a_ = Ac 133 σ_ [] [(0, .slice A l.length c), (9, .slice Ac1 ((clR l l.length).length) cc1), (10, .slice Ac2 ((clR l l.length).length) cc2), (11, .int .i64 (n : Int))] ∧ w.grownBy w_ none ∧ Sli 0 0 w.heap.size w_ A (fl encRC l) ∧ DeepRC w.heap.size w_ l ∧ World.ownsRow w_ w16.heap.size 3 1 (.slice Ac1 (clR l l.length).length cc1) (clR l l.length).length (fl encZ (clR l l.length)) ∧ World.ownsRow w_ w17.heap.size 3 1 (.slice Ac2 (clR l l.length).length cc2) (clR l l.length).length (fl encZ (clR l l.length)) ∧ (n ≤ (clR l l.length).length) ∧ (clR l l.length).length - n = m_) ((clR l l.length).length - 0) ?_ ?_
    ·exact ⟨_, 0, Ac_frg ⟨rfl, rfl, rfl, (agr rfl (by first | rfl | (congr 1; omega) | (congr 1 <;> omega))), trivial⟩, hB, hS, hD, hoC1, hoC2, (Nat.zero_le _), rfl⟩
    ·clear hB
     clear hS hD hoC1 hoC2
     rintro m_ a_ w19 ⟨σ_, n, rfl, hB, hS, hD, hoC1, hoC2, hn_, rfl⟩
     refine C_seq (C_seq (C_reg rfl ?_))
     refine L_run (R_move rfl) rfl ?_
     refine L_run (R_move rfl) rfl ?_
     refine L_run (R_lenSl rfl slc51) rfl ?_
     refine L_run (R_lss rfl rfl) rfl ?_
     refine L_nil (N_then ?_)
     refine C_if rfl (fun h10 => ?_) (fun h10 => ?_)
     ·refine C_skip (N_then (C_seq (C_block (C_seq ?_))))
      refine C_draw2 rfl mix ?_
      intro w20 hs15 hz4
      replace hB := gb_tr hB hs15
      replace hS := hS.gb hs15
      replace hD := hD.gb hs15
      replace hoC1 := own_gb hoC1 hs15
      replace hoC2 := own_gb hoC2 hs15
      have hl10 : n < (clR l l.length).length := by first | omega | (simp; omega)
      obtain ⟨g10, o10, r9, eA9, er9, ha10⟩ := Sli.place' (xs := clR l l.length) (i := n) EncZ (own_of hoC1).2.2 hl10 rfl
      have hl11 : n < (clR l l.length).length := by first | omega | (simp; omega)
      obtain ⟨g11, o11, r10, eA10, er10, ha11⟩ := Sli.place' (xs := clR l l.length) (i := n) EncZ (own_of hoC2).2.2 hl11 rfl
      refine ⟨fun W_ => At W_ g10 r9 [.int .i64 ((clR l l.length)[n])] ∧ At W_ g11 r10 [.int .i64 ((clR l l.length)[n])] ∧ True, [0, 1, 2, 3, 4, 5, 6, 7, 8], ?_⟩
      refine T_tk (i := 0) rfl (Y_of (fun _ _ => R_move rfl)) ⟨ha10, ha11, trivial⟩ rfl ?_
      refine T_tk (i := 1) rfl (Y_of (fun _ _ => R_move rfl)) ⟨ha10, ha11, trivial⟩ rfl ?_
      refine T_tk (i := 2) rfl (Y_of (fun _ _ => R_indexE rfl rfl (by first | rfl | omega) slc51 hl10 eA9 er9)) ⟨ha10, ha11, trivial⟩ rfl ?_
      refine T_tk (i := 3) rfl (Y_of (fun _ ⟨ha10, ha11, _⟩ => R_load1 rfl scl3 (ha10 0 _ rfl))) ⟨ha10, ha11, trivial⟩ rfl ?_
      refine T_tk (i := 4) rfl (Y_of (fun _ _ => R_move rfl)) ⟨ha10, ha11, trivial⟩ rfl ?_
      refine T_tk (i := 5) rfl (Y_of (fun _ _ => R_move rfl)) ⟨ha10, ha11, trivial⟩ rfl ?_
      refine T_tk (i := 6) rfl (Y_of (fun _ _ => R_indexE rfl rfl (by first | rfl | omega) slc51 hl11 eA10 er10)) ⟨ha10, ha11, trivial⟩ rfl ?_
      refine T_tk (i := 7) rfl (Y_of (fun _ ⟨ha10, ha11, _⟩ => R_load1 rfl scl3 (ha11 0 _ rfl))) ⟨ha10, ha11, trivial⟩ rfl ?_
      refine T_tk (i := 8) rfl (Y_of (fun _ _ => R_eqv (R_neq rfl rfl) (v' := .bool false) (bF' (fun h => h rfl)))) ⟨ha10, ha11, trivial⟩ rfl ?_
      refine T_done (by kernel_rfl) (CalmE.normal ?_)
      refine N_then (C_condF rfl rfl (C_skip (N_in (N_then (C_reg rfl ?_)))))
      refine L_run (R_move rfl) rfl ?_
      refine L_run (R_add64 rfl rfl (by omega)) rfl ?_
      refine L_run (R_assign rfl) rfl ?_
      refine L_nil (N_then ?_)
      exact ⟨(clR l l.length).length - (n + 1), by omega, _, (n + 1), Ac_frg ⟨rfl, rfl, rfl, (agr rfl (by first | rfl | (congr 1; omega) | (congr 1 <;> omega))), trivial⟩, hB, hS, hD, hoC1, hoC2, (by omega), rfl⟩
     ·refine C_exit (X_then (X_then (X_hit (N_then (C_seq (C_reg rfl ?_))))))
      refine L_call rfl cb6 (awake47) rfl ?_
      rintro _ w21 ⟨hs16, rfl⟩
      replace hB := gb_tr hB hs16
      replace hS := hS.gb hs16
      replace hD := hD.gb hs16
      replace hoC1 := own_gb hoC1 hs16
      replace hoC2 := own_gb hoC2 hs16
      refine L_run (R_assign rfl) rfl ?_
      refine L_nil (N_then (C_ret ?_))
      refine ret1 Try.results5 rfl ?_
      exact ⟨hB, rfl⟩

open Go.ChangeShapes Go.WideShapes Go.ChangeAt
theorem own : ownKnob Try.prog.godebug = none := by kernel_rfl
theorem laidOut : laidOutB Try.prog = true := by kernel_rfl
set_option maxRecDepth 100000 in
theorem lifted (os : Os) (started : os.Started) (H : Type) (enc : TypeId × Value → H) :
    ReturnsInHanded {} Try.checked os 5 .any (Rows.ledgerTellsSpec.pre6 enc Try.prog Try.f5 Rows.ledgerTellsRow.domain false) (Rows.ledgerTellsSpec.post enc Try.prog Try.f5 false true false false) := by
  refine returnsInHanded_of_change_sized (C := Try.checked) own started (by kernel_rfl) Try.func5
    (ChangeSpec.witness6 (enc := enc) (C := Try.checked) false ⟨#[], #[.slice none 0 0], []⟩ 8 (by kernel_rfl) (by kernel_rfl) (by kernel_rfl) (by kernel_rfl)) ?_
  intro W base args ds gs before hval0 hW hcnd hsz0 _
  have hsz : (DataW.weightsEach Try.prog (Try.f5.params.toList ++ Rows.ledgerTellsSpec.plain.varTypes Try.prog) (ds ++ gs)).all (· ≤ reachBytes) = true := hsz0
  have hval : ∀ (j : Nat) t v, Try.f5.params[j]? = some t → args[j]? = some v → Value.okWide Try.prog W .any base t v := hval0
  have hW' := hW
  obtain ⟨p, q, hA0, hV, rfl, hfz, hnd⟩ := hW
  have hA : DataW.TrodAll enc Try.prog W 0 (fun _ => true) true Try.f5.params.toList args.toList ds p := hA0
  rw [Try.params5] at hA hval hsz
  obtain ⟨v0, vs0, d0, ds0, p0, q0, hargs, rfl, rfl, h0, r0⟩ := trodAll_cons hA
  obtain ⟨rfl, rfl, rfl⟩ := trodAll_nil r0
  obtain rfl : args = #[v0] := by cases args; simp_all
  obtain ⟨rfl, rfl⟩ := trodVars_none hV
  have lt0 : ∀ x ∈ p0, x.block < W.heap.size := by obtain ⟨m, hm⟩ := h0; exact DataW.trod_lt m _ _ _ hm
  obtain ⟨⟨A0, c0, xs0⟩, e0, hS0, hl0, hm0, hg0⟩ := Rdr.arg (enc := enc) (P := Try.prog) (W := W) (Rdr.slice (ec := encRC) (sz := 5) (by_ := 56) ((Rdr.struct Try.underlying65 rfl (by kernel_rfl) (Rds.cons (off := 0) (sz := 1) (Rdr.int Try.underlying3) (by kernel_rfl) rfl (by decide) (Rds.cons (off := 1) (sz := 1) (Rdr.int Try.underlying3) (by kernel_rfl) rfl (by decide) (Rds.cons (off := 2) (sz := 1) (Rdr.int Try.underlying3) (by kernel_rfl) rfl (by decide) (Rds.cons (off := 3) (sz := 1) (Rdr.int Try.underlying3) (by kernel_rfl) rfl (by decide) (Rds.cons (off := 4) (sz := 1) (Rdr.slice (ec := encB) (sz := 1) (by_ := 1) ((Rdr.int Try.underlying5).map (fun n => UInt8.ofNat n.toNat) byte_of (good' := fun _ => True) (fun _ _ => trivial)) EncB Try.underlying63 (by kernel_rfl) (by kernel_rfl)) (by kernel_rfl) rfl (by decide) (Rds.nil))))))).map (fun y => (⟨y.1, y.2.1, y.2.2.1, y.2.2.2.1, y.2.2.2.2.1.1, y.2.2.2.2.1.2.1, y.2.2.2.2.1.2.2⟩ : RecC)) (e' := encRC) (fun _ _ => rfl) (good' := GoodRC W) (fun _ h => ⟨h.2.2.2.2.1.1, h.2.2.2.2.1.2.1⟩)) EncRC Try.underlying56 (by kernel_rfl) (by kernel_rfl)) hsz (j := 0) rfl rfl h0
  obtain rfl := of_cell e0 (by intro cs e_; obtain ⟨a_, l_, k_, e2_⟩ := okWide_slice Try.underlying56 (hval 0 56 v0 rfl rfl); rw [e2_] at e_; cases e_)
  refine (walk (w := W) hS0 hl0 hm0 hg0).calls.mono fun e W' ⟨v_, he, hgb, hv_⟩ => ?_
  subst he
  subst hv_
  have bel := gb_below hgb
  exact ⟨_, rfl, _, _, _, [], _, [], hW', trodAll_mk1 (shut_bool Try.underlying4 _), (trodAll_cons_mk (Below.trod laidOut (by kernel_rfl) (of_decide_eq_true (by kernel_rfl)) h0 bel lt0) trodAll_mk0), rfl, bel.frame _, fun h => by cases h⟩
theorem over : Rows.ledgerTellsRow.holds Try.pinned (OpenSpec.ofChange Rows.ledgerTellsSpec) :=
  OpenClaim.holds_of_wide 5 Try.f5 rfl rfl rfl rfl rfl rfl rfl ⟨rfl, rfl, rfl, rfl, rfl⟩ rfl rfl rfl rfl rfl (by kernel_rfl) Try.func5 (by kernel_rfl)
    (of_decide_eq_true (by kernel_rfl)) (by unfold Func.isWrapper; first | (rw [if_pos (by decide +kernel)]; kernel_rfl) | (rw [if_neg (by decide +kernel)]; exact ⟨rfl, rfl⟩))
    (fun os started H enc _ => lifted os started H enc)
/-- The given statement. -/
theorem proved : Rows.LedgerTellsSaid := over
#print axioms proved

end Go.Proofs.Ytbmohojdlgedpaa.LLedgerTells
