/-
  Contracts of ledger.Of.
-/
import Derived.Test.YtbmohojdlgedpaaKf
namespace Go.Proofs.Ytbmohojdlgedpaa
open Go.RowKit Gw Pl
set_option linter.unusedVariables false
set_option linter.unusedSimpArgs false
theorem agg65 : aggB Try.prog 65 5 = true := by kernel_rfl
theorem cb39 : callB Try.prog 39 = true := by kernel_rfl
theorem cb40 : callB Try.prog 40 = true := by kernel_rfl
theorem sz65 : szB Try.prog 65 5 = true := by kernel_rfl
theorem zer65 : (Try.prog.info? 65).bind (·.zero) = some (.agg #[.int .i64 0, .int .i64 0, .int .i64 0, .int .i64 0, .slice none 0 0]) := by kernel_rfl
theorem one_y {w wa : World} {gp i : Nat} {l : List RecC} (hM : PgI w.heap.size wa gp l i) (hB : w.grownBy wa none) (gp0 : w.heap.size ≤ gp) (hi : i < l.length) (hF : FewR l) (hD0 : DeepRC w.heap.size w l) (ho : okY (l[i]) (openR l (l[i]).chain i)) :
    Runs Try.prog 40 #[.pointer (some ⟨gp, 0, none⟩), .agg (encRC (l[i])).toArray] wa (fun v_ w' => w.grownBy w' none ∧ v_ = .bool true ∧ PgI w.heap.size w' gp l (i + 1)) :=
  (one_step hM hB gp0 hi hF hD0).mono fun v_ w' h => ⟨h.1, h.2.1.trans (bT ho).symm, h.2.2 ho⟩
theorem one_n {w wa : World} {gp i : Nat} {l : List RecC} (hM : PgI w.heap.size wa gp l i) (hB : w.grownBy wa none) (gp0 : w.heap.size ≤ gp) (hi : i < l.length) (hF : FewR l) (hD0 : DeepRC w.heap.size w l) (ho : ¬ okY (l[i]) (openR l (l[i]).chain i)) :
    Runs Try.prog 40 #[.pointer (some ⟨gp, 0, none⟩), .agg (encRC (l[i])).toArray] wa (fun v_ w' => w.grownBy w' none ∧ v_ = .bool false) :=
  (one_step hM hB gp0 hi hF hD0).mono fun v_ w' h => ⟨h.1, h.2.1.trans (bF ho).symm⟩
theorem lof_ok {w : World} {A : Option Addr} {c : Nat} {l : List RecC} (hS0 : Sli 0 0 w.heap.size w A (fl encRC l)) (hD0 : DeepRC w.heap.size w l) (hF : FewR l) :
    Runs Try.prog 21 #[.slice A l.length c] w (fun v_ w' => w.grownBy w' none ∧ ((okB l l.length = true ∧ ∃ Ao co E, v_ = .tuple #[.slice Ao (List.length E) co, .int .i64 0] ∧ World.ownsRow w' w.heap.size 28 3 (.slice Ao E.length co) E.length (fl encEn E) ∧ FrzE w' E ∧ E.map keyE = bookR l l.length) ∨ (¬ okB l l.length = true ∧ v_ = .tuple #[.slice none 0 0, .int .i64 12]))) := by
 have hB := gb_refl w none
 have hS := hS0
 have hD := hD0
 have hl100 := hF.2
 refine enter Try.func21 Try.ntmps21 rfl rfl ?_
 refine C_seq (C_reg rfl ?_)
 refine L_run (R_assign rfl) rfl ?_
 refine L_run (R_assign rfl) rfl ?_
 refine L_nil (N_then (C_seq (C_reg rfl ?_)))
 refine L_run (R_build (pv := []) (cs := [.bool false, .bool false, .bool false, .bool false, .slice none 0 0, .slice none 0 0, .slice none 0 0, .slice none 0 0, .slice none 0 0]) rfl (by kernel_rfl)) rfl ?_
 refine L_box (cs := [.bool false, .bool false, .bool false, .bool false, .slice none 0 0, .slice none 0 0, .slice none 0 0, .slice none 0 0, .slice none 0 0]) rfl rfl rfl ?_
 intro g1 w1 eg1 hb1 hs1 hz1
 have ge1 : w.heap.size ≤ g1 := eg_ge hB eg1
 replace hB := gb_tr hB hs1
 replace hS := hS.gb hs1
 replace hD := hD.gb hs1
 refine L_run (R_assign rfl) rfl ?_
 refine L_nil (N_then (C_seq (C_seq (C_reg rfl ?_))))
 refine L_run (R_move rfl) rfl ?_
 refine L_run (R_lenSl rfl slc56) rfl ?_
 refine L_run (R_move rfl) rfl ?_
 refine L_nil (N_then (C_block ?_))
 refine C_loop (fun m_ a_ w_ => ∃ (σ_ : Nat → Value) (i : Nat), a_ = Ac 28 σ_ [] [(0, .slice A l.length c), (4, .pointer (some ⟨g1, 0, none⟩)), (9, .slice A l.length c), (10, .int .i64 (l.length : Int)), (11, .int .i64 (i : Int))] ∧ w.grownBy w_ none ∧ Sli 0 0 w.heap.size w_ A (fl encRC l) ∧ DeepRC w.heap.size w_ l ∧ PgI w.heap.size w_ g1 l i ∧ (i ≤ l.length) ∧ (okB l i = true) ∧ l.length - i = m_) (l.length - 0) ?_ ?_
 ·exact ⟨_, 0, Ac_frg ⟨rfl, rfl, rfl, rfl, (agr rfl (by first | rfl | (congr 1; omega) | (congr 1 <;> omega))), trivial⟩, hB, hS, hD, (PgI.nil hb1), (Nat.zero_le _), rfl, rfl⟩
 ·clear hB
  clear hS hD hb1
  rintro m_ a_ w2 ⟨σ_, i, rfl, hB, hS, hD, hPg, hi_, hok, rfl⟩
  refine C_seq (C_reg rfl ?_)
  refine L_run (R_lss rfl rfl) rfl ?_
  refine L_nil (N_then (C_seq ?_))
  refine C_if rfl (fun h1 => ?_) (fun h1 => ?_)
  ·refine C_skip (N_then (C_seq (C_block (C_seq (C_reg rfl ?_)))))
   have hli : i < l.length := by omega
   have hl1 : i < l.length := by first | omega | (simp; omega)
   refine T_index (xs := l) (i := i) EncRC rfl rfl (by first | rfl | omega) slc56 hl1 hS rfl ?_
   intro g2 o1 ha1
   refine L_run (R_loadA (vs := [.int .i64 ((l[i]).kind), .int .i64 ((l[i]).chain), .int .i64 ((l[i]).lsn), .int .i64 ((l[i]).prev), .slice ((l[i]).da) ((l[i]).data.length) ((l[i]).dc)]) rfl agg65 (At.pre ha1 rfl) rfl) rfl ?_
   refine L_alloc (cs := [.int .i64 0, .int .i64 0, .int .i64 0, .int .i64 0, .slice none 0 0]) zer65 rfl rfl ?_
   intro g3 w3 eg2 hb2 hs2 hz2
   have ge2 : w.heap.size ≤ g3 := eg_ge hB eg2
   replace hB := gb_tr hB hs2
   replace hS := hS.gb hs2
   replace hD := hD.gb hs2
   replace hPg := hPg.gb hs2
   replace ha1 := At.gb ha1 hs2 (by simp)
   refine L_stA (vs := [.int .i64 ((l[i]).kind), .int .i64 ((l[i]).chain), .int .i64 ((l[i]).lsn), .int .i64 ((l[i]).prev), .slice ((l[i]).da) ((l[i]).data.length) ((l[i]).dc)]) rfl rfl rfl sz65 rfl hb2 rfl ?_
   intro w4 hb3 hs3 hz3
   replace hB := gb_trg hB hs3 ge2
   replace hS := hS.old hs3 ge2
   replace hD := hD.old hs3 ge2
   replace hPg := hPg.other hb2 rfl rfl rfl hs3
   refine L_nil (N_then (C_seq (C_reg rfl ?_)))
   refine L_run (R_loadA (vs := [.int .i64 ((l[i]).kind), .int .i64 ((l[i]).chain), .int .i64 ((l[i]).lsn), .int .i64 ((l[i]).prev), .slice ((l[i]).da) ((l[i]).data.length) ((l[i]).dc)]) rfl agg65 (At.pre (hb3.at_ 0) rfl) rfl) rfl ?_
   refine L_call rfl cb39 (counts_ok (r := (l[i]))) rfl ?_
   rintro _ w5 ⟨hs4, rfl⟩
   replace hB := gb_tr hB hs4
   replace hS := hS.gb hs4
   replace hD := hD.gb hs4
   replace hPg := hPg.gb hs4
   replace hb3 := hb3.gb hs4
   refine L_run (R_move rfl) rfl ?_
   refine L_splitD (p := (l[i]).chain ≠ 0 ∧ (l[i]).kind ≠ 1) (fun h2 => ?_) (fun h2 => ?_)
   ·refine L_yes rfl rfl rfl (decide_eq_true h2) ?_
    refine L_run (R_move rfl) rfl ?_
    refine L_yes rfl rfl rfl (decide_eq_true h2) ?_
    refine L_run (R_loadA (vs := [.int .i64 ((l[i]).kind), .int .i64 ((l[i]).chain), .int .i64 ((l[i]).lsn), .int .i64 ((l[i]).prev), .slice ((l[i]).da) ((l[i]).data.length) ((l[i]).dc)]) rfl agg65 (At.pre (hb3.at_ 0) rfl) rfl) rfl ?_
    refine L_yes rfl rfl rfl (decide_eq_true h2) ?_
    by_cases h3 : okY (l[i]) (openR l (l[i]).chain i)
    ·refine L_call rfl cb40 (one_y hPg hB ge1 hli hF hD0 h3) rfl ?_
     rintro _ w6 ⟨hB, rfl, hPg1⟩
     have hS : Sli 0 0 w.heap.size w6 A (fl encRC l) := hS0.gb hB
     have hD : DeepRC w.heap.size w6 l := hD0.gb hB
     refine L_yes rfl rfl rfl (decide_eq_true h2) ?_
     refine L_run (R_not rfl) rfl ?_
     refine L_run (R_pickT rfl (decide_eq_true h2) rfl) rfl ?_
     refine L_nil (N_then (C_condF rfl rfl (C_skip (N_in (N_then (C_reg rfl ?_))))))
     refine L_run (R_add64 rfl rfl (by omega)) rfl ?_
     refine L_run (R_move rfl) rfl ?_
     refine L_nil (N_then ?_)
     exact ⟨l.length - (i + 1), by omega, _, (i + 1), Ac_frg ⟨rfl, rfl, rfl, rfl, (agr rfl (by first | rfl | (congr 1; omega) | (congr 1 <;> omega))), trivial⟩, hB, hS, hD, hPg1, (by omega), (okB_go hli hok h3), rfl⟩
    ·refine L_call rfl cb40 (one_n hPg hB ge1 hli hF hD0 h3) rfl ?_
     rintro _ w7 ⟨hB, rfl⟩
     have hS : Sli 0 0 w.heap.size w7 A (fl encRC l) := hS0.gb hB
     have hD : DeepRC w.heap.size w7 l := hD0.gb hB
     refine L_yes rfl rfl rfl (decide_eq_true h2) ?_
     refine L_run (R_not rfl) rfl ?_
     refine L_run (R_pickT rfl (decide_eq_true h2) rfl) rfl ?_
     refine L_nil (N_then (C_condT rfl rfl (C_seq (C_reg rfl ?_))))
     refine L_run (R_assign rfl) rfl ?_
     refine L_run (R_assign rfl) rfl ?_
     refine L_nil (N_then (C_ret (R_in (R_then (R_then (R_in (R_then ?_)))))))
     refine ret2 Try.results21 rfl rfl ?_
     exact ⟨hB, .inr ⟨by rw [okB_stop hli h2 h3]; decide, rfl⟩⟩
   ·refine L_no rfl rfl rfl (decide_eq_false h2) rfl ?_
    refine L_no rfl rfl rfl (decide_eq_false h2) rfl ?_
    refine L_no rfl rfl rfl (decide_eq_false h2) rfl ?_
    refine L_no rfl rfl rfl (decide_eq_false h2) rfl ?_
    refine L_run (R_pickF rfl (decide_eq_false h2) rfl) rfl ?_
    refine L_nil (N_then (C_condF rfl rfl (C_skip (N_in (N_then (C_reg rfl ?_))))))
    refine L_run (R_add64 rfl rfl (by omega)) rfl ?_
    refine L_run (R_move rfl) rfl ?_
    refine L_nil (N_then ?_)
    exact ⟨l.length - (i + 1), by omega, _, (i + 1), Ac_frg ⟨rfl, rfl, rfl, rfl, (agr rfl (by first | rfl | (congr 1; omega) | (congr 1 <;> omega))), trivial⟩, hB, hS, hD, (hPg.skip hli h2), (by omega), (okB_skip hli h2 hok), rfl⟩
  ·refine C_exit (X_then (X_then (X_hit (N_then (C_seq (C_reg rfl ?_))))))
   obtain rfl : i = l.length := by omega
   obtain ⟨b0, A0, n0, c0, A1, n1, c1, A2, n2, c2, A3, n3, c3, Ao, co, E, hbk, hE, hT, hkE⟩ := hPg
   have hFz := hT.2.2.1
   refine L_run (R_move rfl) rfl ?_
   refine L_run (R_nilck rfl) rfl ?_
   refine L_run (R_field (r := 8) rfl fld104_2 rfl) rfl ?_
   refine L_run (R_load1 rfl scl24 (hbk.cell (i := 8) rfl)) rfl ?_
   refine L_run (R_assign rfl) rfl ?_
   refine L_run (R_assign rfl) rfl ?_
   refine L_nil (N_then (C_ret ?_))
   refine ret2 Try.results21 rfl rfl ?_
   exact ⟨hB, .inl ⟨hok, Ao, co, E, rfl, hE, hFz, hkE⟩⟩

theorem lof_y {w : World} {A : Option Addr} {c : Nat} {l : List RecC} (hS0 : Sli 0 0 w.heap.size w A (fl encRC l)) (hD0 : DeepRC w.heap.size w l) (hF : FewR l) (ho : okB l l.length = true) : Runs Try.prog 21 #[.slice A l.length c] w (fun v_ w' => w.grownBy w' none ∧ ∃ Ao co E, v_ = .tuple #[.slice Ao (List.length E) co, .int .i64 0] ∧ World.ownsRow w' w.heap.size 28 3 (.slice Ao E.length co) E.length (fl encEn E) ∧ FrzE w' E ∧ E.map keyE = bookR l l.length) :=
  (lof_ok hS0 hD0 hF).mono fun v_ w' h => ⟨h.1, h.2.elim (fun q => q.2) (fun q => absurd ho q.1)⟩
theorem lof_n {w : World} {A : Option Addr} {c : Nat} {l : List RecC} (hS0 : Sli 0 0 w.heap.size w A (fl encRC l)) (hD0 : DeepRC w.heap.size w l) (hF : FewR l) (ho : ¬ okB l l.length = true) : Runs Try.prog 21 #[.slice A l.length c] w (fun v_ w' => w.grownBy w' none ∧ v_ = .tuple #[.slice none 0 0, .int .i64 12]) :=
  (lof_ok hS0 hD0 hF).mono fun v_ w' h => ⟨h.1, h.2.elim (fun q => absurd q.1 ho) (fun q => q.2)⟩
end Go.Proofs.Ytbmohojdlgedpaa
