/-
  Contracts of the reference 31's Same and of layer 47's awake.
-/
import Derived.Test.YtbmohojdlgedpaaHj
import Derived.Test.YtbmohojdlgedpaaEo
namespace Go.Proofs.Ytbmohojdlgedpaa
open Go.RowKit Gw Pl
set_option linter.unusedVariables false
set_option linter.unusedSimpArgs false
theorem eqg75 : Try.prog.eqGuardType Try.prog.depth 75 = false := by kernel_rfl
theorem sih75 : Try.prog.stoodInHeld 75 = false := by kernel_rfl
theorem und75 : Try.prog.underlying 75 = some (.struct #[⟨ "Key", 9, 0, false, "", "", 0⟩, ⟨ "Val", 9, 1, false, "", "", 16⟩]) := by kernel_rfl
theorem same31_ok {w : World} {t1 t2 lo hi lo2 hi2 : Nat} {A A2 : Option Addr} {c c2 : Nat} {l : List Kv} (hS : Sli t1 lo hi w A (fl encK l)) (hF : Sli t2 lo2 hi2 w A2 (fl encK l)) (hb : l.length ≤ 1000000) :
    Runs Try.prog 9 #[.slice A l.length c, .slice A2 l.length c2] w (fun v_ w' => w.grownBy w' none ∧ v_ = .bool true) := by
  have hB := gb_refl w none
  replace hS := hS.top
  replace hF := hF.top
  refine enter Try.func9 Try.ntmps9 rfl rfl ?_
  refine C_seq (C_reg rfl ?_)
  refine L_run (R_assign rfl) rfl ?_
  refine L_nil (N_then (C_seq (C_seq (C_reg rfl ?_))))
  refine L_run (R_move rfl) rfl ?_
  refine L_run (R_lenSl rfl slc29) rfl ?_
  refine L_run (R_move rfl) rfl ?_
  refine L_run (R_lenSl rfl slc29) rfl ?_
  refine L_run (R_eqv (R_neq rfl rfl) (v' := .bool false) (bF' (fun h => h rfl))) rfl ?_
  refine L_nil (N_then (C_condF rfl rfl (C_skip (N_then (C_seq (C_seq (C_reg rfl ?_)))))))
  refine L_run (R_assign rfl) rfl ?_
  refine L_nil (N_then (C_block ?_))
  refine C_loop (fun m_ a_ w_ => ∃ (σ_ : Nat → Value) (i : Nat), a_ = Ac 26 σ_ [] [(0, .slice A l.length c), (1, .slice A2 l.length c2), (4, .bool false), (5, .int .i64 (i : Int))] ∧ w.grownBy w_ none ∧ Sli t1 lo w.heap.size w_ A (fl encK l) ∧ Sli t2 lo2 w.heap.size w_ A2 (fl encK l) ∧ (i ≤ l.length) ∧ l.length - i = m_) (l.length - 0) ?_ ?_
  · exact ⟨_, 0, Ac_frg ⟨rfl, rfl, rfl, (agr rfl (by first | rfl | (congr 1; omega) | (congr 1; simp; done) | (congr 1; simp only [IntKind.wrap_u64, IntKind.wrap_i64, IntKind.wrap_u8]; omega) | (congr 1 <;> omega))), trivial⟩, hB, hS, hF, (Nat.zero_le _), rfl⟩
  · clear hB
    clear hS hF
    rintro m_ a_ w1 ⟨σ_, i, rfl, hB, hS, hF, hi_, rfl⟩
    refine C_seq (C_seq (C_reg rfl ?_))
    refine L_run (R_move rfl) rfl ?_
    refine L_run (R_move rfl) rfl ?_
    refine L_run (R_lenSl rfl slc29) rfl ?_
    refine L_run (R_lss rfl rfl) rfl ?_
    refine L_nil (N_then ?_)
    refine C_if rfl (fun h1 => ?_) (fun h1 => ?_)
    · refine C_skip (N_then (C_seq (C_block (C_seq ?_))))
      refine C_draw2 rfl mix ?_
      intro w2 hs1 hz1
      replace hB := gb_tr hB hs1
      replace hS := hS.gb hs1
      replace hF := hF.gb hs1
      have hl1 : i < l.length := by first | omega | (simp; omega)
      obtain ⟨g1, o1, r1, eA1, er1, ha1⟩ := Sli.place' (xs := l) (i := i) EncK hS hl1 rfl
      have hl2 : i < l.length := by first | omega | (simp; omega)
      obtain ⟨g2, o2, r2, eA2, er2, ha2⟩ := Sli.place' (xs := l) (i := i) EncK hF hl2 rfl
      refine ⟨fun W_ => At W_ g1 r1 [.string ((l[i]).1), .string ((l[i]).2)] ∧ At W_ g2 r2 [.string ((l[i]).1), .string ((l[i]).2)] ∧ True, [0, 1, 2, 3, 4, 5, 6, 7, 8], ?_⟩
      refine T_takeA (i := 0) rfl (by kernel_rfl) (by kernel_rfl) (by kernel_rfl) (by kernel_rfl) (Y_of (fun _ ⟨ha1, ha2, _⟩ => R_move rfl)) ⟨ha1, ha2, trivial⟩ rfl ?_
      refine T_takeA (i := 1) rfl (by kernel_rfl) (by kernel_rfl) (by kernel_rfl) (by kernel_rfl) (Y_of (fun _ ⟨ha1, ha2, _⟩ => R_move rfl)) ⟨ha1, ha2, trivial⟩ rfl ?_
      refine T_takeA (i := 2) rfl (by kernel_rfl) (by kernel_rfl) (by kernel_rfl) (by kernel_rfl) (Y_of (fun _ ⟨ha1, ha2, _⟩ => R_indexE rfl rfl (by first | rfl | omega) slc29 hl1 eA1 er1)) ⟨ha1, ha2, trivial⟩ rfl ?_
      refine T_takeA (i := 3) rfl (by kernel_rfl) (by kernel_rfl) (by kernel_rfl) (by kernel_rfl) (Y_of (fun _ ⟨ha1, ha2, _⟩ => R_loadA (vs := [.string ((l[i]).1), .string ((l[i]).2)]) rfl agg75 (At.pre ha1 rfl) rfl)) ⟨ha1, ha2, trivial⟩ rfl ?_
      refine T_takeA (i := 4) rfl (by kernel_rfl) (by kernel_rfl) (by kernel_rfl) (by kernel_rfl) (Y_of (fun _ ⟨ha1, ha2, _⟩ => R_move rfl)) ⟨ha1, ha2, trivial⟩ rfl ?_
      refine T_takeA (i := 5) rfl (by kernel_rfl) (by kernel_rfl) (by kernel_rfl) (by kernel_rfl) (Y_of (fun _ ⟨ha1, ha2, _⟩ => R_move rfl)) ⟨ha1, ha2, trivial⟩ rfl ?_
      refine T_takeA (i := 6) rfl (by kernel_rfl) (by kernel_rfl) (by kernel_rfl) (by kernel_rfl) (Y_of (fun _ ⟨ha1, ha2, _⟩ => R_indexE rfl rfl (by first | rfl | omega) slc29 hl2 eA2 er2)) ⟨ha1, ha2, trivial⟩ rfl ?_
      refine T_takeA (i := 7) rfl (by kernel_rfl) (by kernel_rfl) (by kernel_rfl) (by kernel_rfl) (Y_of (fun _ ⟨ha1, ha2, _⟩ => R_loadA (vs := [.string ((l[i]).1), .string ((l[i]).2)]) rfl agg75 (At.pre ha2 rfl) rfl)) ⟨ha1, ha2, trivial⟩ rfl ?_
      refine T_takeA (i := 8) rfl (by kernel_rfl) (by kernel_rfl) (by kernel_rfl) (by kernel_rfl) (Y_of (fun _ ⟨ha1, ha2, _⟩ => R_eqv (R_neqA rfl rfl eqg75 (eqs_struct und75 sih75 (eqf_cons (by decide) scl9 rfl rfl (eqs_str str9) (eqf_cons (by decide) scl9 rfl rfl (eqs_str str9) eqf_nil)))) (v' := .bool false) (bF' (fun h => h ⟨rfl, rfl, trivial⟩)))) ⟨ha1, ha2, trivial⟩ rfl ?_
      refine T_done (by kernel_rfl) (CalmE.normal ?_)
      refine N_then (C_condF rfl rfl (C_skip (N_in (N_then (C_reg rfl ?_)))))
      refine L_run (R_move rfl) rfl ?_
      refine L_run (R_add64 rfl rfl (by omega)) rfl ?_
      refine L_run (R_assign rfl) rfl ?_
      refine L_nil (N_then ?_)
      exact ⟨l.length - (i + 1), by omega, _, (i + 1), Ac_frg ⟨rfl, rfl, rfl, (agr rfl (by first | rfl | (congr 1; omega) | (congr 1; simp; done) | (congr 1; simp only [IntKind.wrap_u64, IntKind.wrap_i64, IntKind.wrap_u8]; omega) | (congr 1 <;> omega))), trivial⟩, hB, hS, hF, (by omega), rfl⟩
    · refine C_exit (X_then (X_then (X_hit (N_then (C_seq (C_reg rfl ?_))))))
      refine L_run (R_assign rfl) rfl ?_
      refine L_nil (N_then (C_ret ?_))
      refine ret1 Try.results9 rfl ?_
      exact ⟨hB, rfl⟩

set_option maxRecDepth 100000 in
theorem awake47 {w : World} : Runs Try.prog 6 #[] w (fun v w' => w.grownBy w' none ∧ v = .bool true) :=
  Ev.closedD (mu := Ev.nomu) (fuel := 100000) (d := 60) (xs := []) (by kernel_rfl) (by kernel_rfl)
end Go.Proofs.Ytbmohojdlgedpaa
