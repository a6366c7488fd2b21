/-
  Contracts of lists of pairs compared, of steps that are right.
-/
import Derived.Test.YtbmohojdlgedpaaHm
import Derived.Test.YtbmohojdlgedpaaVb
import Derived.Test.YtbmohojdlgedpaaVs
import Derived.Test.YtbmohojdlgedpaaVd
namespace Go.Proofs.Ytbmohojdlgedpaa
open Go.RowKit Gw Pl
set_option linter.unusedVariables false
set_option linter.unusedSimpArgs false
theorem agg84 : aggB Try.prog 84 3 = true := by kernel_rfl
theorem cb73 : callB Try.prog 73 = true := by kernel_rfl
theorem cb84 : callB Try.prog 84 = true := by kernel_rfl
theorem cb85 : callB Try.prog 85 = true := by kernel_rfl
theorem cb87 : callB Try.prog 87 = true := by kernel_rfl
theorem eqg75 : Try.prog.eqGuardType Try.prog.depth 75 = false := by kernel_rfl
theorem fld84_0 : fldB Try.prog 84 0 0 = true := by kernel_rfl
theorem fld84_1 : fldB Try.prog 84 1 1 = true := by kernel_rfl
theorem fld84_2 : fldB Try.prog 84 2 2 = true := by kernel_rfl
theorem fld86_0 : fldB Try.prog 86 0 0 = true := by kernel_rfl
theorem fld86_1 : fldB Try.prog 86 1 1 = true := by kernel_rfl
theorem fld86_2 : fldB Try.prog 86 2 2 = true := by kernel_rfl
theorem fld86_3 : fldB Try.prog 86 3 3 = true := by kernel_rfl
theorem scl63 : sclB Try.prog 63 = true := by kernel_rfl
theorem sih75 : Try.prog.stoodInHeld 75 = false := by kernel_rfl
theorem slc39 : slcB Try.prog 39 86 6 80 = true := by kernel_rfl
theorem slc63 : slcB Try.prog 63 5 1 1 = true := by kernel_rfl
theorem sz84 : szB Try.prog 84 3 = true := by kernel_rfl
theorem und75 : Try.prog.underlying 75 = some (.struct #[⟨ "Key", 9, 0, false, "", "", 0⟩, ⟨ "Val", 9, 1, false, "", "", 16⟩]) := by kernel_rfl
theorem zer84 : (Try.prog.info? 84).bind (·.zero) = some (.agg #[.slice none 0 0, .int .i64 0, .int .i64 0]) := by kernel_rfl
theorem kvq_snoc {a b : List Kv} {i : Nat} (h : a.take i = b.take i) (ha : i < a.length) (hb : i < b.length) (e : (a[i]).1 = (b[i]).1 ∧ (a[i]).2 = (b[i]).2 ∧ True) : a.take (i + 1) = b.take (i + 1) := by
  rw [List.take_succ_eq_append_getElem ha, List.take_succ_eq_append_getElem hb, h, Prod.ext e.1 e.2.1]
theorem kvq_ne {a b : List Kv} {i : Nat} (ha : i < a.length) (hb : i < b.length) (e : ¬ ((a[i]).1 = (b[i]).1 ∧ (a[i]).2 = (b[i]).2 ∧ True)) : ¬ a = b := by
  intro q; subst q; exact e ⟨rfl, rfl, trivial⟩
theorem kvq_all {a b : List Kv} {i : Nat} (h : a.take i = b.take i) (ha : a.length ≤ i) (hb : b.length ≤ i) : a = b := by
  rw [List.take_of_length_le ha, List.take_of_length_le hb] at h; exact h
theorem sequal_ok {w : World} {t1 t2 lo hi lo2 hi2 : Nat} {A A2 : Option Addr} {c c2 : Nat} {a b : List Kv} (hS : Sli t1 lo hi w A (fl encK a)) (hF : Sli t2 lo2 hi2 w A2 (fl encK b)) (hb : a.length ≤ 1000000) :
    Runs Try.prog 87 #[.slice A a.length c, .slice A2 b.length c2] w (fun v w' => w.grownBy w' none ∧ v = .bool (decide (a = b))) := by
  have hB := gb_refl w none
  replace hS := hS.top
  replace hF := hF.top
  refine enter Try.func87 Try.ntmps87 rfl rfl ?_
  refine C_seq (C_reg rfl ?_)
  refine L_run (R_assign rfl) rfl ?_
  refine L_nil (N_then (C_seq (C_seq (C_reg rfl ?_))))
  refine L_run (R_move rfl) rfl ?_
  refine L_run (R_lenSl rfl slc29) rfl ?_
  refine L_run (R_move rfl) rfl ?_
  refine L_run (R_lenSl rfl slc29) rfl ?_
  refine L_run (R_neq rfl rfl) rfl ?_
  refine L_nil (N_then ?_)
  refine C_if rfl (fun h1 => ?_) (fun h1 => ?_)
  · refine C_seq (C_reg rfl ?_)
    refine L_run (R_assign rfl) rfl ?_
    refine L_nil (N_then (C_ret (R_then ?_)))
    refine ret1 Try.results87 rfl ?_
    exact ⟨hB, bF (by rintro rfl; omega)⟩
  · refine C_skip (N_then (C_seq (C_seq (C_reg rfl ?_))))
    refine L_run (R_move rfl) rfl ?_
    refine L_run (R_lenSl rfl slc29) rfl ?_
    refine L_run (R_move rfl) rfl ?_
    refine L_nil (N_then (C_block ?_))
    refine C_loop (fun m_ a_ w_ => ∃ (σ_ : Nat → Value) (i : Nat), a_ = Ac 26 σ_ [] [(0, .slice A a.length c), (1, .slice A2 b.length c2), (4, .bool false), (11, .slice A a.length c), (12, .int .i64 (a.length : Int)), (13, .int .i64 (i : Int))] ∧ w.grownBy w_ none ∧ Sli t1 lo w.heap.size w_ A (fl encK a) ∧ Sli t2 lo2 w.heap.size w_ A2 (fl encK b) ∧ (i ≤ a.length) ∧ (a.take i = b.take i) ∧ a.length - i = m_) (a.length - 0) ?_ ?_
    · exact ⟨_, 0, Ac_frg ⟨rfl, rfl, rfl, rfl, rfl, (agr rfl (by first | rfl | (congr 1; omega) | (congr 1; simp; done) | (congr 1; simp only [IntKind.wrap_u64, IntKind.wrap_i64, IntKind.wrap_u8]; omega) | (congr 1 <;> omega))), trivial⟩, hB, hS, hF, (Nat.zero_le _), rfl, rfl⟩
    · clear hB
      clear hS hF
      rintro m_ a_ w1 ⟨σ_, i, rfl, hB, hS, hF, hi_, hq, rfl⟩
      refine C_seq (C_reg rfl ?_)
      refine L_run (R_lss rfl rfl) rfl ?_
      refine L_nil (N_then (C_seq ?_))
      refine C_if rfl (fun h2 => ?_) (fun h2 => ?_)
      · refine C_skip (N_then (C_seq (C_block (C_seq (C_reg rfl ?_)))))
        refine L_run (R_move rfl) rfl ?_
        refine L_run (R_assign rfl) rfl ?_
        refine L_nil (N_then (C_seq ?_))
        refine C_draw2 rfl mix ?_
        intro w2 hs1 hz1
        replace hB := gb_tr hB hs1
        replace hS := hS.gb hs1
        replace hF := hF.gb hs1
        have hl1 : i < a.length := by first | omega | (simp; omega)
        obtain ⟨g1, o1, r1, eA1, er1, ha1⟩ := Sli.place' (xs := a) (i := i) EncK hS hl1 rfl
        have hl2 : i < b.length := by first | omega | (simp; omega)
        obtain ⟨g2, o2, r2, eA2, er2, ha2⟩ := Sli.place' (xs := b) (i := i) EncK hF hl2 rfl
        refine ⟨fun W_ => At W_ g1 r1 [.string ((a[i]).1), .string ((a[i]).2)] ∧ At W_ g2 r2 [.string ((b[i]).1), .string ((b[i]).2)] ∧ True, [0, 1, 2, 3, 4, 5, 6, 7, 8], ?_⟩
        refine T_takeA (i := 0) rfl (by kernel_rfl) (by kernel_rfl) (by kernel_rfl) (by kernel_rfl) (Y_of (fun _ ⟨ha1, ha2, _⟩ => R_move rfl)) ⟨ha1, ha2, trivial⟩ rfl ?_
        refine T_takeA (i := 1) rfl (by kernel_rfl) (by kernel_rfl) (by kernel_rfl) (by kernel_rfl) (Y_of (fun _ ⟨ha1, ha2, _⟩ => R_move rfl)) ⟨ha1, ha2, trivial⟩ rfl ?_
        refine T_takeA (i := 2) rfl (by kernel_rfl) (by kernel_rfl) (by kernel_rfl) (by kernel_rfl) (Y_of (fun _ ⟨ha1, ha2, _⟩ => R_indexE rfl rfl (by first | rfl | omega) slc29 hl1 eA1 er1)) ⟨ha1, ha2, trivial⟩ rfl ?_
        refine T_takeA (i := 3) rfl (by kernel_rfl) (by kernel_rfl) (by kernel_rfl) (by kernel_rfl) (Y_of (fun _ ⟨ha1, ha2, _⟩ => R_loadA (vs := [.string ((a[i]).1), .string ((a[i]).2)]) rfl agg75 (At.pre ha1 rfl) rfl)) ⟨ha1, ha2, trivial⟩ rfl ?_
        refine T_takeA (i := 4) rfl (by kernel_rfl) (by kernel_rfl) (by kernel_rfl) (by kernel_rfl) (Y_of (fun _ ⟨ha1, ha2, _⟩ => R_move rfl)) ⟨ha1, ha2, trivial⟩ rfl ?_
        refine T_takeA (i := 5) rfl (by kernel_rfl) (by kernel_rfl) (by kernel_rfl) (by kernel_rfl) (Y_of (fun _ ⟨ha1, ha2, _⟩ => R_move rfl)) ⟨ha1, ha2, trivial⟩ rfl ?_
        refine T_takeA (i := 6) rfl (by kernel_rfl) (by kernel_rfl) (by kernel_rfl) (by kernel_rfl) (Y_of (fun _ ⟨ha1, ha2, _⟩ => R_indexE rfl rfl (by first | rfl | omega) slc29 hl2 eA2 er2)) ⟨ha1, ha2, trivial⟩ rfl ?_
        refine T_takeA (i := 7) rfl (by kernel_rfl) (by kernel_rfl) (by kernel_rfl) (by kernel_rfl) (Y_of (fun _ ⟨ha1, ha2, _⟩ => R_loadA (vs := [.string ((b[i]).1), .string ((b[i]).2)]) rfl agg75 (At.pre ha2 rfl) rfl)) ⟨ha1, ha2, trivial⟩ rfl ?_
        refine T_takeA (i := 8) rfl (by kernel_rfl) (by kernel_rfl) (by kernel_rfl) (by kernel_rfl) (Y_of (fun _ ⟨ha1, ha2, _⟩ => R_neqA rfl rfl eqg75 (eqs_struct und75 sih75 (eqf_cons (by decide) scl9 rfl rfl (eqs_str str9) (eqf_cons (by decide) scl9 rfl rfl (eqs_str str9) eqf_nil))))) ⟨ha1, ha2, trivial⟩ rfl ?_
        refine T_done (by kernel_rfl) (CalmE.normal ?_)
        refine N_then ?_
        refine C_ifN rfl (fun h3 => ?_) (fun h3 => ?_)
        · refine C_seq (C_reg rfl ?_)
          refine L_run (R_assign rfl) rfl ?_
          refine L_nil (N_then (C_ret (R_in (R_then (R_then (R_in (R_then ?_)))))))
          refine ret1 Try.results87 rfl ?_
          exact ⟨hB, bF (kvq_ne (by omega) (by omega) h3)⟩
        · refine C_skip (N_in (N_then (C_reg rfl ?_)))
          refine L_run (R_add64 rfl rfl (by omega)) rfl ?_
          refine L_run (R_move rfl) rfl ?_
          refine L_nil (N_then ?_)
          exact ⟨a.length - (i + 1), by omega, _, (i + 1), Ac_frg ⟨rfl, rfl, rfl, rfl, rfl, (agr rfl (by first | rfl | (congr 1; omega) | (congr 1; simp; done) | (congr 1; simp only [IntKind.wrap_u64, IntKind.wrap_i64, IntKind.wrap_u8]; omega) | (congr 1 <;> omega))), trivial⟩, hB, hS, hF, (by omega), (kvq_snoc hq (by omega) (by omega) h3), rfl⟩
      · refine C_exit (X_then (X_then (X_hit (N_then (C_seq (C_reg rfl ?_))))))
        refine L_run (R_assign rfl) rfl ?_
        refine L_nil (N_then (C_ret ?_))
        refine ret1 Try.results87 rfl ?_
        exact ⟨hB, bT (kvq_all hq (by omega) (by omega))⟩

theorem same31d_ok {w : World} {t1 t2 lo hi lo2 hi2 : Nat} {A A2 : Option Addr} {c c2 : Nat} {a b : List Kv} (hS : Sli t1 lo hi w A (fl encK a)) (hF : Sli t2 lo2 hi2 w A2 (fl encK b)) (hb : a.length ≤ 1000000) :
    Runs Try.prog 9 #[.slice A a.length c, .slice A2 b.length c2] w (fun v w' => w.grownBy w' none ∧ v = .bool (decide (a = b))) := by
  have hB := gb_refl w none
  replace hS := hS.top
  replace hF := hF.top
  refine enter Try.func9 Try.ntmps9 rfl rfl ?_
  refine C_seq (C_reg rfl ?_)
  refine L_run (R_assign rfl) rfl ?_
  refine L_nil (N_then (C_seq (C_seq (C_reg rfl ?_))))
  refine L_run (R_move rfl) rfl ?_
  refine L_run (R_lenSl rfl slc29) rfl ?_
  refine L_run (R_move rfl) rfl ?_
  refine L_run (R_lenSl rfl slc29) rfl ?_
  refine L_run (R_neq rfl rfl) rfl ?_
  refine L_nil (N_then ?_)
  refine C_if rfl (fun h1 => ?_) (fun h1 => ?_)
  · refine C_seq (C_reg rfl ?_)
    refine L_run (R_assign rfl) rfl ?_
    refine L_nil (N_then (C_ret (R_then ?_)))
    refine ret1 Try.results9 rfl ?_
    exact ⟨hB, bF (by rintro rfl; omega)⟩
  · refine C_skip (N_then (C_seq (C_seq (C_reg rfl ?_))))
    refine L_run (R_assign rfl) rfl ?_
    refine L_nil (N_then (C_block ?_))
    refine C_loop (fun m_ a_ w_ => ∃ (σ_ : Nat → Value) (i : Nat), a_ = Ac 26 σ_ [] [(0, .slice A a.length c), (1, .slice A2 b.length c2), (4, .bool false), (5, .int .i64 (i : Int))] ∧ w.grownBy w_ none ∧ Sli t1 lo w.heap.size w_ A (fl encK a) ∧ Sli t2 lo2 w.heap.size w_ A2 (fl encK b) ∧ (i ≤ a.length) ∧ (a.take i = b.take i) ∧ a.length - i = m_) (a.length - 0) ?_ ?_
    · exact ⟨_, 0, Ac_frg ⟨rfl, rfl, rfl, (agr rfl (by first | rfl | (congr 1; omega) | (congr 1; simp; done) | (congr 1; simp only [IntKind.wrap_u64, IntKind.wrap_i64, IntKind.wrap_u8]; omega) | (congr 1 <;> omega))), trivial⟩, hB, hS, hF, (Nat.zero_le _), rfl, rfl⟩
    · clear hB
      clear hS hF
      rintro m_ a_ w1 ⟨σ_, i, rfl, hB, hS, hF, hi_, hq, rfl⟩
      refine C_seq (C_seq (C_reg rfl ?_))
      refine L_run (R_move rfl) rfl ?_
      refine L_run (R_move rfl) rfl ?_
      refine L_run (R_lenSl rfl slc29) rfl ?_
      refine L_run (R_lss rfl rfl) rfl ?_
      refine L_nil (N_then ?_)
      refine C_if rfl (fun h2 => ?_) (fun h2 => ?_)
      · refine C_skip (N_then (C_seq (C_block (C_seq ?_))))
        refine C_draw2 rfl mix ?_
        intro w2 hs1 hz1
        replace hB := gb_tr hB hs1
        replace hS := hS.gb hs1
        replace hF := hF.gb hs1
        have hl1 : i < a.length := by first | omega | (simp; omega)
        obtain ⟨g1, o1, r1, eA1, er1, ha1⟩ := Sli.place' (xs := a) (i := i) EncK hS hl1 rfl
        have hl2 : i < b.length := by first | omega | (simp; omega)
        obtain ⟨g2, o2, r2, eA2, er2, ha2⟩ := Sli.place' (xs := b) (i := i) EncK hF hl2 rfl
        refine ⟨fun W_ => At W_ g1 r1 [.string ((a[i]).1), .string ((a[i]).2)] ∧ At W_ g2 r2 [.string ((b[i]).1), .string ((b[i]).2)] ∧ True, [0, 1, 2, 3, 4, 5, 6, 7, 8], ?_⟩
        refine T_takeA (i := 0) rfl (by kernel_rfl) (by kernel_rfl) (by kernel_rfl) (by kernel_rfl) (Y_of (fun _ ⟨ha1, ha2, _⟩ => R_move rfl)) ⟨ha1, ha2, trivial⟩ rfl ?_
        refine T_takeA (i := 1) rfl (by kernel_rfl) (by kernel_rfl) (by kernel_rfl) (by kernel_rfl) (Y_of (fun _ ⟨ha1, ha2, _⟩ => R_move rfl)) ⟨ha1, ha2, trivial⟩ rfl ?_
        refine T_takeA (i := 2) rfl (by kernel_rfl) (by kernel_rfl) (by kernel_rfl) (by kernel_rfl) (Y_of (fun _ ⟨ha1, ha2, _⟩ => R_indexE rfl rfl (by first | rfl | omega) slc29 hl1 eA1 er1)) ⟨ha1, ha2, trivial⟩ rfl ?_
        refine T_takeA (i := 3) rfl (by kernel_rfl) (by kernel_rfl) (by kernel_rfl) (by kernel_rfl) (Y_of (fun _ ⟨ha1, ha2, _⟩ => R_loadA (vs := [.string ((a[i]).1), .string ((a[i]).2)]) rfl agg75 (At.pre ha1 rfl) rfl)) ⟨ha1, ha2, trivial⟩ rfl ?_
        refine T_takeA (i := 4) rfl (by kernel_rfl) (by kernel_rfl) (by kernel_rfl) (by kernel_rfl) (Y_of (fun _ ⟨ha1, ha2, _⟩ => R_move rfl)) ⟨ha1, ha2, trivial⟩ rfl ?_
        refine T_takeA (i := 5) rfl (by kernel_rfl) (by kernel_rfl) (by kernel_rfl) (by kernel_rfl) (Y_of (fun _ ⟨ha1, ha2, _⟩ => R_move rfl)) ⟨ha1, ha2, trivial⟩ rfl ?_
        refine T_takeA (i := 6) rfl (by kernel_rfl) (by kernel_rfl) (by kernel_rfl) (by kernel_rfl) (Y_of (fun _ ⟨ha1, ha2, _⟩ => R_indexE rfl rfl (by first | rfl | omega) slc29 hl2 eA2 er2)) ⟨ha1, ha2, trivial⟩ rfl ?_
        refine T_takeA (i := 7) rfl (by kernel_rfl) (by kernel_rfl) (by kernel_rfl) (by kernel_rfl) (Y_of (fun _ ⟨ha1, ha2, _⟩ => R_loadA (vs := [.string ((b[i]).1), .string ((b[i]).2)]) rfl agg75 (At.pre ha2 rfl) rfl)) ⟨ha1, ha2, trivial⟩ rfl ?_
        refine T_takeA (i := 8) rfl (by kernel_rfl) (by kernel_rfl) (by kernel_rfl) (by kernel_rfl) (Y_of (fun _ ⟨ha1, ha2, _⟩ => R_neqA rfl rfl eqg75 (eqs_struct und75 sih75 (eqf_cons (by decide) scl9 rfl rfl (eqs_str str9) (eqf_cons (by decide) scl9 rfl rfl (eqs_str str9) eqf_nil))))) ⟨ha1, ha2, trivial⟩ rfl ?_
        refine T_done (by kernel_rfl) (CalmE.normal ?_)
        refine N_then ?_
        refine C_ifN rfl (fun h3 => ?_) (fun h3 => ?_)
        · refine C_seq (C_reg rfl ?_)
          refine L_run (R_assign rfl) rfl ?_
          refine L_nil (N_then (C_ret (R_in (R_then (R_then (R_in (R_then ?_)))))))
          refine ret1 Try.results9 rfl ?_
          exact ⟨hB, bF (kvq_ne (by omega) (by omega) h3)⟩
        · refine C_skip (N_in (N_then (C_reg rfl ?_)))
          refine L_run (R_move rfl) rfl ?_
          refine L_run (R_add64 rfl rfl (by omega)) rfl ?_
          refine L_run (R_assign rfl) rfl ?_
          refine L_nil (N_then ?_)
          exact ⟨a.length - (i + 1), by omega, _, (i + 1), Ac_frg ⟨rfl, rfl, rfl, (agr rfl (by first | rfl | (congr 1; omega) | (congr 1; simp; done) | (congr 1; simp only [IntKind.wrap_u64, IntKind.wrap_i64, IntKind.wrap_u8]; omega) | (congr 1 <;> omega))), trivial⟩, hB, hS, hF, (by omega), (kvq_snoc hq (by omega) (by omega) h3), rfl⟩
      · refine C_exit (X_then (X_then (X_hit (N_then (C_seq (C_reg rfl ?_))))))
        refine L_run (R_assign rfl) rfl ?_
        refine L_nil (N_then (C_ret ?_))
        refine ret1 Try.results9 rfl ?_
        exact ⟨hB, bT (kvq_all hq (by omega) (by omega))⟩

theorem fequal_ok {w : World} {t1 t2 lo hi lo2 hi2 : Nat} {A A2 : Option Addr} {c c2 : Nat} {a b : List Kv} (hS : Sli t1 lo hi w A (fl encK a)) (hF : Sli t2 lo2 hi2 w A2 (fl encK b)) (hb : a.length ≤ 1000000) :
    Runs Try.prog 72 #[.slice A a.length c, .slice A2 b.length c2] w (fun v w' => w.grownBy w' none ∧ v = .bool (decide (a = b))) := by
  have hB := gb_refl w none
  replace hS := hS.top
  replace hF := hF.top
  refine enter Try.func72 Try.ntmps72 rfl rfl ?_
  refine C_seq (C_reg rfl ?_)
  refine L_run (R_assign rfl) rfl ?_
  refine L_nil (N_then (C_seq (C_reg rfl ?_)))
  refine L_run (R_move rfl) rfl ?_
  refine L_run (R_move rfl) rfl ?_
  refine L_call rfl cb87 (sequal_ok (a := a) (b := b) hS hF (by omega)) rfl ?_
  rintro _ w1 ⟨hs1, rfl⟩
  replace hB := gb_tr hB hs1
  replace hS := hS.gb hs1
  replace hF := hF.gb hs1
  refine L_run (R_assign rfl) rfl ?_
  refine L_nil (N_then (C_ret ?_))
  refine ret1 Try.results72 rfl ?_
  exact ⟨hB, rfl⟩

theorem batch_Right {w : World} {t1 lo hi : Nat} {A : Option Addr} {c : Nat} {l : List Opd} (hS : Sli t1 lo hi w A (fl encOp l)) (hb : l.length ≤ 140737488355328) :
    Runs Try.prog 84 #[.slice A l.length c] w (fun v w' => w.grownBy w' none ∧ v = .bool (decide (OkL l))) := by
  have hB := gb_refl w none
  replace hS := hS.top
  refine enter Try.func84 Try.ntmps84 rfl rfl ?_
  refine C_seq (C_reg rfl ?_)
  refine L_run (R_assign rfl) rfl ?_
  refine L_nil (N_then (C_seq (C_seq (C_reg rfl ?_))))
  refine L_run (R_move rfl) rfl ?_
  refine L_run (R_lenSl rfl slc80) rfl ?_
  refine L_run (R_move rfl) rfl ?_
  refine L_nil (N_then (C_block ?_))
  refine C_loop (fun m_ a_ w_ => ∃ (σ_ : Nat → Value) (k : Nat), a_ = Ac 23 σ_ [] [(0, .slice A l.length c), (2, .bool false), (5, .slice A l.length c), (6, .int .i64 (l.length : Int)), (7, .int .i64 (k : Int))] ∧ w.grownBy w_ none ∧ Sli t1 lo w.heap.size w_ A (fl encOp l) ∧ (k ≤ l.length) ∧ (∀ o ∈ l.take k, OkOp o.kind o.key o.val) ∧ l.length - k = m_) (l.length - 0) ?_ ?_
  · exact ⟨_, 0, Ac_frg ⟨rfl, rfl, rfl, rfl, (agr rfl (by first | rfl | (congr 1; omega) | (congr 1; simp; done) | (congr 1; simp only [IntKind.wrap_u64, IntKind.wrap_i64, IntKind.wrap_u8]; omega) | (congr 1 <;> omega))), trivial⟩, hB, hS, (by omega), (by intro o ho; simp at ho), rfl⟩
  · clear hB
    clear hS
    rintro m_ a_ w1 ⟨σ_, k, rfl, hB, hS, hk, hall, rfl⟩
    refine C_seq (C_reg rfl ?_)
    refine L_run (R_lss rfl rfl) rfl ?_
    refine L_nil (N_then (C_seq ?_))
    refine C_if rfl (fun h1 => ?_) (fun h1 => ?_)
    · refine C_skip (N_then (C_seq (C_block (C_seq (C_reg rfl ?_)))))
      have hk1 : k < l.length := by first | omega | (simp; omega)
      refine T_index (xs := l) (i := k) EncOp rfl rfl (by first | rfl | omega) slc80 hk1 hS rfl ?_
      intro g1 o1 ha1
      refine L_run (R_loadA (vs := [.int .i64 ((l[k]).kind), .string ((l[k]).key), .string ((l[k]).val)]) rfl agg71 (At.pre ha1 rfl) rfl) rfl ?_
      refine L_alloc (cs := [.int .i64 0, .string (⟨#[]⟩), .string (⟨#[]⟩)]) zer71 rfl rfl ?_
      intro g2 w2 eg1 hb1 hs1 hz1
      have ge1 : w.heap.size ≤ g2 := eg_ge hB eg1
      replace hB := gb_tr hB hs1
      replace hS := hS.gb hs1
      replace ha1 := At.gb ha1 hs1 (by simp)
      refine L_stA (vs := [.int .i64 ((l[k]).kind), .string ((l[k]).key), .string ((l[k]).val)]) rfl rfl rfl sz71 rfl hb1 rfl ?_
      intro w3 hb2 hs2 hz2
      replace hB := gb_trg hB hs2 ge1
      replace hS := hS.old hs2 ge1
      refine L_nil (N_then (C_seq (C_reg rfl ?_)))
      refine L_run (R_loadA (vs := [.int .i64 ((l[k]).kind), .string ((l[k]).key), .string ((l[k]).val)]) rfl agg71 (At.pre (hb2.at_ 0) rfl) rfl) rfl ?_
      refine L_call rfl cb48 (op_Right) rfl ?_
      rintro _ w4 ⟨hs3, rfl⟩
      replace hB := gb_tr hB hs3
      replace hS := hS.gb hs3
      replace hb2 := hb2.gb hs3
      refine L_run (R_notD rfl) rfl ?_
      refine L_nil (N_then ?_)
      refine C_ifN rfl (fun h2 => ?_) (fun h2 => ?_)
      · refine C_seq (C_reg rfl ?_)
        refine L_run (R_assign rfl) rfl ?_
        refine L_nil (N_then (C_ret (R_in (R_then (R_then (R_in (R_then ?_)))))))
        refine ret1 Try.results84 rfl ?_
        exact ⟨hB, bF (fun h => absurd (h.1 _ (List.getElem_mem _)) (by assumption))⟩
      · refine C_skip (N_in (N_then (C_reg rfl ?_)))
        refine L_run (R_add64 rfl rfl (by omega)) rfl ?_
        refine L_run (R_move rfl) rfl ?_
        refine L_nil (N_then ?_)
        exact ⟨l.length - (k + 1), by omega, _, (k + 1), Ac_frg ⟨rfl, rfl, rfl, rfl, (agr rfl (by first | rfl | (congr 1; omega) | (congr 1; simp; done) | (congr 1; simp only [IntKind.wrap_u64, IntKind.wrap_i64, IntKind.wrap_u8]; omega) | (congr 1 <;> omega))), trivial⟩, hB, hS, (by omega), (OkL_take hall hk1 (by assumption)), rfl⟩
    · refine C_exit (X_then (X_then (X_hit (N_then (C_seq (C_reg rfl ?_))))))
      refine L_run (R_move rfl) rfl ?_
      refine L_run (R_lenSl rfl slc80) rfl ?_
      refine L_run (R_geq rfl rfl) rfl ?_
      refine L_run (R_move rfl) rfl ?_
      refine L_splitD (p := 1 ≤ (l.length : Int)) (fun h3 => ?_) (fun h3 => ?_)
      · refine L_yes rfl rfl rfl (decide_eq_true h3) ?_
        refine L_run (R_move rfl) rfl ?_
        refine L_yes rfl rfl rfl (decide_eq_true h3) ?_
        refine L_run (R_lenSl rfl slc80) rfl ?_
        refine L_yes rfl rfl rfl (decide_eq_true h3) ?_
        refine L_run (R_leq rfl rfl) rfl ?_
        refine L_run (R_pickT rfl (decide_eq_true h3) rfl) rfl ?_
        refine L_run (R_assign rfl) rfl ?_
        refine L_nil (N_then (C_ret ?_))
        refine ret1 Try.results84 rfl ?_
        rw [List.take_of_length_le (by omega)] at hall
        exact ⟨hB, bD ⟨fun h => ⟨hall, by omega, by omega⟩, fun h => by have := h.2; omega⟩⟩
      · refine L_no rfl rfl rfl (decide_eq_false h3) rfl ?_
        refine L_no rfl rfl rfl (decide_eq_false h3) rfl ?_
        refine L_no rfl rfl rfl (decide_eq_false h3) rfl ?_
        refine L_run (R_pickF rfl (decide_eq_false h3) rfl) rfl ?_
        refine L_run (R_assign rfl) rfl ?_
        refine L_nil (N_then (C_ret ?_))
        refine ret1 Try.results84 rfl ?_
        rw [List.take_of_length_le (by omega)] at hall
        exact ⟨hB, bF (fun h => by have := h.2; omega)⟩

theorem ref12_Right {w : World} {t1 lo hi : Nat} {A : Option Addr} {c : Nat} {l : List Opd} (hS : Sli t1 lo hi w A (fl encOp l)) (hb : l.length ≤ 140737488355328) :
    Runs Try.prog 73 #[.slice A l.length c] w (fun v w' => w.grownBy w' none ∧ v = .bool (decide (OkL l))) := by
  have hB := gb_refl w none
  replace hS := hS.top
  refine enter Try.func73 Try.ntmps73 rfl rfl ?_
  refine C_seq (C_reg rfl ?_)
  refine L_run (R_assign rfl) rfl ?_
  refine L_nil (N_then (C_seq (C_seq (C_reg rfl ?_))))
  refine L_run (R_assign rfl) rfl ?_
  refine L_nil (N_then (C_block ?_))
  refine C_loop (fun m_ a_ w_ => ∃ (σ_ : Nat → Value) (k : Nat), a_ = Ac 24 σ_ [] [(0, .slice A l.length c), (2, .bool false), (3, .int .i64 (k : Int))] ∧ w.grownBy w_ none ∧ Sli t1 lo w.heap.size w_ A (fl encOp l) ∧ (k ≤ l.length) ∧ (∀ o ∈ l.take k, OkOp o.kind o.key o.val) ∧ l.length - k = m_) (l.length - 0) ?_ ?_
  · exact ⟨_, 0, Ac_frg ⟨rfl, rfl, (agr rfl (by first | rfl | (congr 1; omega) | (congr 1; simp; done) | (congr 1; simp only [IntKind.wrap_u64, IntKind.wrap_i64, IntKind.wrap_u8]; omega) | (congr 1 <;> omega))), trivial⟩, hB, hS, (by omega), (by intro o ho; simp at ho), rfl⟩
  · clear hB
    clear hS
    rintro m_ a_ w1 ⟨σ_, k, rfl, hB, hS, hk, hall, rfl⟩
    refine C_seq (C_seq (C_reg rfl ?_))
    refine L_run (R_move rfl) rfl ?_
    refine L_run (R_move rfl) rfl ?_
    refine L_run (R_lenSl rfl slc80) rfl ?_
    refine L_run (R_lss rfl rfl) rfl ?_
    refine L_nil (N_then ?_)
    refine C_if rfl (fun h1 => ?_) (fun h1 => ?_)
    · refine C_skip (N_then (C_seq (C_block (C_seq (C_reg rfl ?_)))))
      refine L_run (R_move rfl) rfl ?_
      refine L_run (R_move rfl) rfl ?_
      have hk1 : k < l.length := by first | omega | (simp; omega)
      refine T_index (xs := l) (i := k) EncOp rfl rfl (by first | rfl | omega) slc80 hk1 hS rfl ?_
      intro g1 o1 ha1
      refine L_run (R_loadA (vs := [.int .i64 ((l[k]).kind), .string ((l[k]).key), .string ((l[k]).val)]) rfl agg71 (At.pre ha1 rfl) rfl) rfl ?_
      refine L_call rfl cb27 (ref10_Right) rfl ?_
      rintro _ w2 ⟨hs1, rfl⟩
      replace hB := gb_tr hB hs1
      replace hS := hS.gb hs1
      replace ha1 := At.gb ha1 hs1 (by simp)
      refine L_run (R_notD rfl) rfl ?_
      refine L_nil (N_then ?_)
      refine C_ifN rfl (fun h2 => ?_) (fun h2 => ?_)
      · refine C_seq (C_reg rfl ?_)
        refine L_run (R_assign rfl) rfl ?_
        refine L_nil (N_then (C_ret (R_in (R_then (R_then (R_in (R_then ?_)))))))
        refine ret1 Try.results73 rfl ?_
        exact ⟨hB, bF (fun h => absurd (h.1 _ (List.getElem_mem _)) (by assumption))⟩
      · refine C_skip (N_in (N_then (C_reg rfl ?_)))
        refine L_run (R_move rfl) rfl ?_
        refine L_run (R_add64 rfl rfl (by omega)) rfl ?_
        refine L_run (R_assign rfl) rfl ?_
        refine L_nil (N_then ?_)
        exact ⟨l.length - (k + 1), by omega, _, (k + 1), Ac_frg ⟨rfl, rfl, (agr rfl (by first | rfl | (congr 1; omega) | (congr 1; simp; done) | (congr 1; simp only [IntKind.wrap_u64, IntKind.wrap_i64, IntKind.wrap_u8]; omega) | (congr 1 <;> omega))), trivial⟩, hB, hS, (by omega), (OkL_take hall hk1 (by assumption)), rfl⟩
    · refine C_exit (X_then (X_then (X_hit (N_then (C_seq (C_reg rfl ?_))))))
      refine L_run (R_move rfl) rfl ?_
      refine L_run (R_lenSl rfl slc80) rfl ?_
      refine L_run (R_gtr rfl rfl) rfl ?_
      refine L_run (R_move rfl) rfl ?_
      refine L_splitD (p := 0 < (l.length : Int)) (fun h3 => ?_) (fun h3 => ?_)
      · refine L_yes rfl rfl rfl (decide_eq_true h3) ?_
        refine L_run (R_move rfl) rfl ?_
        refine L_yes rfl rfl rfl (decide_eq_true h3) ?_
        refine L_run (R_lenSl rfl slc80) rfl ?_
        refine L_yes rfl rfl rfl (decide_eq_true h3) ?_
        refine L_run (R_leq rfl rfl) rfl ?_
        refine L_run (R_pickT rfl (decide_eq_true h3) rfl) rfl ?_
        refine L_run (R_assign rfl) rfl ?_
        refine L_nil (N_then (C_ret ?_))
        refine ret1 Try.results73 rfl ?_
        rw [List.take_of_length_le (by omega)] at hall
        exact ⟨hB, bD ⟨fun h => ⟨hall, by omega, by omega⟩, fun h => by have := h.2; omega⟩⟩
      · refine L_no rfl rfl rfl (decide_eq_false h3) rfl ?_
        refine L_no rfl rfl rfl (decide_eq_false h3) rfl ?_
        refine L_no rfl rfl rfl (decide_eq_false h3) rfl ?_
        refine L_run (R_pickF rfl (decide_eq_false h3) rfl) rfl ?_
        refine L_run (R_assign rfl) rfl ?_
        refine L_nil (N_then (C_ret ?_))
        refine ret1 Try.results73 rfl ?_
        rw [List.take_of_length_le (by omega)] at hall
        exact ⟨hB, bF (fun h => by have := h.2; omega)⟩

theorem script_none {w : World} {ka : Option Addr} {kn kc : Nat} {tn ct : Int} :
    Runs Try.prog 85 #[.agg #[.slice ka kn kc, .int .i64 tn, .int .i64 ct]] w (fun v w' => w.grownBy w' none ∧ v = .bool (decide (kn = 0 ∧ tn = 0 ∧ ct = 0))) := by
  have hB := gb_refl w none
  refine enter Try.func85 Try.ntmps85 rfl rfl ?_
  refine C_seq (C_reg rfl ?_)
  refine L_box (cs := [.slice ka kn kc, .int .i64 tn, .int .i64 ct]) rfl rfl rfl ?_
  intro g1 w1 eg1 hb1 hs1 hz1
  have ge1 : w.heap.size ≤ g1 := eg_ge hB eg1
  replace hB := gb_tr hB hs1
  refine L_run (R_assign rfl) rfl ?_
  refine L_nil (N_then (C_seq (C_reg rfl ?_)))
  refine L_run (R_field (r := 0) rfl fld84_0 rfl) rfl ?_
  refine L_run (R_load1 rfl scl63 (hb1.cell (i := 0) rfl)) rfl ?_
  refine L_run (R_lenSl rfl slc63) rfl ?_
  refine L_run (R_eql rfl rfl) rfl ?_
  refine L_run (R_move rfl) rfl ?_
  refine L_splitD (p := (kn : Int) = 0) (fun h1 => ?_) (fun h1 => ?_)
  · refine L_yes rfl rfl rfl (decide_eq_true h1) ?_
    refine L_run (R_field (r := 1) rfl fld84_1 rfl) rfl ?_
    refine L_yes rfl rfl rfl (decide_eq_true h1) ?_
    refine L_run (R_load1 rfl scl3 (hb1.cell (i := 1) rfl)) rfl ?_
    refine L_yes rfl rfl rfl (decide_eq_true h1) ?_
    refine L_run (R_eql rfl rfl) rfl ?_
    refine L_run (R_pickT rfl (decide_eq_true h1) rfl) rfl ?_
    refine L_run (R_move rfl) rfl ?_
    refine L_splitD (p := tn = 0) (fun h2 => ?_) (fun h2 => ?_)
    · refine L_yes rfl rfl rfl (decide_eq_true h2) ?_
      refine L_run (R_field (r := 2) rfl fld84_2 rfl) rfl ?_
      refine L_yes rfl rfl rfl (decide_eq_true h2) ?_
      refine L_run (R_load1 rfl scl3 (hb1.cell (i := 2) rfl)) rfl ?_
      refine L_yes rfl rfl rfl (decide_eq_true h2) ?_
      refine L_run (R_eql rfl rfl) rfl ?_
      refine L_run (R_pickT rfl (decide_eq_true h2) rfl) rfl ?_
      refine L_run (R_assign rfl) rfl ?_
      refine L_nil (N_then (C_ret ?_))
      refine ret1 Try.results85 rfl ?_
      exact ⟨hB, bD (by omega)⟩
    · refine L_no rfl rfl rfl (decide_eq_false h2) rfl ?_
      refine L_no rfl rfl rfl (decide_eq_false h2) rfl ?_
      refine L_no rfl rfl rfl (decide_eq_false h2) rfl ?_
      refine L_run (R_pickF rfl (decide_eq_false h2) rfl) rfl ?_
      refine L_run (R_assign rfl) rfl ?_
      refine L_nil (N_then (C_ret ?_))
      refine ret1 Try.results85 rfl ?_
      exact ⟨hB, bF (by omega)⟩
  · refine L_no rfl rfl rfl (decide_eq_false h1) rfl ?_
    refine L_no rfl rfl rfl (decide_eq_false h1) rfl ?_
    refine L_no rfl rfl rfl (decide_eq_false h1) rfl ?_
    refine L_run (R_pickF rfl (decide_eq_false h1) rfl) rfl ?_
    refine L_run (R_move rfl) rfl ?_
    refine L_no rfl rfl rfl rfl rfl ?_
    refine L_no rfl rfl rfl rfl rfl ?_
    refine L_no rfl rfl rfl rfl rfl ?_
    refine L_run (R_pickF rfl rfl rfl) rfl ?_
    refine L_run (R_assign rfl) rfl ?_
    refine L_nil (N_then (C_ret ?_))
    refine ret1 Try.results85 rfl ?_
    exact ⟨hB, bF (by omega)⟩

theorem script_Right {w : World} {t1 lo hi : Nat} {oa ka : Option Addr} {oc kn kc : Nat} {kd n tn ct : Int} {ops : List Opd} (hS : Sli t1 lo hi w oa (fl encOp ops)) (hb : ops.length ≤ 1000000) :
    Runs Try.prog 68 #[.agg #[.int .i64 kd, .int .i64 n, .slice oa ops.length oc, .slice ka kn kc, .int .i64 tn, .int .i64 ct]] w (fun v w' => w.grownBy w' none ∧ v = .bool (decide (SOk kd n ops kn tn ct))) := by
  have hB := gb_refl w none
  replace hS := hS.top
  refine enter Try.func68 Try.ntmps68 rfl rfl ?_
  refine C_seq (C_reg rfl ?_)
  refine L_box (cs := [.int .i64 kd, .int .i64 n, .slice oa ops.length oc, .slice ka kn kc, .int .i64 tn, .int .i64 ct]) rfl rfl rfl ?_
  intro g1 w1 eg1 hb1 hs1 hz1
  have ge1 : w.heap.size ≤ g1 := eg_ge hB eg1
  replace hB := gb_tr hB hs1
  replace hS := hS.gb hs1
  refine L_run (R_assign rfl) rfl ?_
  refine L_nil (N_then (C_seq (C_seq (C_reg rfl ?_))))
  refine L_run (R_field (r := 0) rfl fld86_0 rfl) rfl ?_
  refine L_run (R_load1 rfl scl3 (hb1.cell (i := 0) rfl)) rfl ?_
  refine L_nil (N_then (C_block (C_seq (C_reg rfl ?_))))
  refine L_run (R_eql rfl rfl) rfl ?_
  refine L_run (R_assign rfl) rfl ?_
  refine L_nil (N_then ?_)
  refine C_if rfl (fun h1 => ?_) (fun h1 => ?_)
  · refine C_seq (C_reg rfl ?_)
    refine L_run (R_field (r := 2) rfl fld86_2 rfl) rfl ?_
    refine L_run (R_load1 rfl scl80 (hb1.cell (i := 2) rfl)) rfl ?_
    refine L_call rfl cb84 (batch_Right (l := ops) hS (by first | omega | (simp; done) | (simp; omega))) rfl ?_
    rintro _ w2 ⟨hs2, rfl⟩
    replace hB := gb_tr hB hs2
    replace hS := hS.gb hs2
    replace hb1 := hb1.gb hs2
    refine L_run (R_move rfl) rfl ?_
    refine L_splitD (p := OkL ops) (fun h2 => ?_) (fun h2 => ?_)
    · refine L_yes rfl rfl rfl (decide_eq_true h2) ?_
      refine L_run (R_field (r := 1) rfl fld86_1 rfl) rfl ?_
      refine L_yes rfl rfl rfl (decide_eq_true h2) ?_
      refine L_run (R_load1 rfl scl3 (hb1.cell (i := 1) rfl)) rfl ?_
      refine L_yes rfl rfl rfl (decide_eq_true h2) ?_
      refine L_run (R_eql rfl rfl) rfl ?_
      refine L_run (R_pickT rfl (decide_eq_true h2) rfl) rfl ?_
      refine L_run (R_move rfl) rfl ?_
      refine L_splitD (p := n = 0) (fun h3 => ?_) (fun h3 => ?_)
      · refine L_yes rfl rfl rfl (decide_eq_true h3) ?_
        refine L_run (R_field (r := 3) rfl fld86_3 rfl) rfl ?_
        refine L_yes rfl rfl rfl (decide_eq_true h3) ?_
        refine L_run (R_loadA (vs := [.slice ka kn kc, .int .i64 tn, .int .i64 ct]) rfl agg84 (At.pre (hb1.at_ 3) rfl) rfl) rfl ?_
        refine L_yes rfl rfl rfl (decide_eq_true h3) ?_
        refine L_call rfl cb85 (script_none) rfl ?_
        rintro _ w3 ⟨hs3, rfl⟩
        replace hB := gb_tr hB hs3
        replace hS := hS.gb hs3
        replace hb1 := hb1.gb hs3
        refine L_run (R_pickT rfl (decide_eq_true h3) rfl) rfl ?_
        refine L_run (R_assign rfl) rfl ?_
        refine L_nil (N_then (C_ret (R_in (R_then ?_))))
        refine ret1 Try.results68 rfl ?_
        first
          | (exfalso; omega)
          | (exact ⟨hB, bD (by unfold SOk; first | omega | (simp_all; omega) | simp_all)⟩)
      · refine L_no rfl rfl rfl (decide_eq_false h3) rfl ?_
        refine L_no rfl rfl rfl (decide_eq_false h3) rfl ?_
        refine L_no rfl rfl rfl (decide_eq_false h3) rfl ?_
        refine L_run (R_pickF rfl (decide_eq_false h3) rfl) rfl ?_
        refine L_run (R_assign rfl) rfl ?_
        refine L_nil (N_then (C_ret (R_in (R_then ?_))))
        refine ret1 Try.results68 rfl ?_
        first
          | (exfalso; omega)
          | (exact ⟨hB, bF (by unfold SOk; first | omega | (simp_all; omega) | simp_all)⟩)
    · refine L_no rfl rfl rfl (decide_eq_false h2) rfl ?_
      refine L_no rfl rfl rfl (decide_eq_false h2) rfl ?_
      refine L_no rfl rfl rfl (decide_eq_false h2) rfl ?_
      refine L_run (R_pickF rfl (decide_eq_false h2) rfl) rfl ?_
      refine L_run (R_move rfl) rfl ?_
      refine L_no rfl rfl rfl rfl rfl ?_
      refine L_no rfl rfl rfl rfl rfl ?_
      refine L_no rfl rfl rfl rfl rfl ?_
      refine L_run (R_pickF rfl rfl rfl) rfl ?_
      refine L_run (R_assign rfl) rfl ?_
      refine L_nil (N_then (C_ret (R_in (R_then ?_))))
      refine ret1 Try.results68 rfl ?_
      first
        | (exfalso; omega)
        | (exact ⟨hB, bF (by unfold SOk; first | omega | (simp_all; omega) | simp_all)⟩)
  · refine C_seq (C_seq (C_reg rfl ?_))
    refine L_run (R_eql rfl rfl) rfl ?_
    refine L_run (R_assign rfl) rfl ?_
    refine L_nil (N_then ?_)
    refine C_if rfl (fun h4 => ?_) (fun h4 => ?_)
    · refine C_skip (N_then (C_condT rfl (decide_eq_true h4) (C_seq (C_reg rfl ?_))))
      refine L_run (R_field (r := 1) rfl fld86_1 rfl) rfl ?_
      refine L_run (R_load1 rfl scl3 (hb1.cell (i := 1) rfl)) rfl ?_
      refine L_run (R_eql rfl rfl) rfl ?_
      refine L_run (R_move rfl) rfl ?_
      refine L_splitD (p := n = 0) (fun h5 => ?_) (fun h5 => ?_)
      · refine L_yes rfl rfl rfl (decide_eq_true h5) ?_
        refine L_run (R_field (r := 2) rfl fld86_2 rfl) rfl ?_
        refine L_yes rfl rfl rfl (decide_eq_true h5) ?_
        refine L_run (R_load1 rfl scl80 (hb1.cell (i := 2) rfl)) rfl ?_
        refine L_yes rfl rfl rfl (decide_eq_true h5) ?_
        refine L_run (R_lenSl rfl slc80) rfl ?_
        refine L_yes rfl rfl rfl (decide_eq_true h5) ?_
        refine L_run (R_eql rfl rfl) rfl ?_
        refine L_run (R_pickT rfl (decide_eq_true h5) rfl) rfl ?_
        refine L_run (R_move rfl) rfl ?_
        refine L_splitD (p := (ops.length : Int) = 0) (fun h6 => ?_) (fun h6 => ?_)
        · refine L_yes rfl rfl rfl (decide_eq_true h6) ?_
          refine L_run (R_field (r := 3) rfl fld86_3 rfl) rfl ?_
          refine L_yes rfl rfl rfl (decide_eq_true h6) ?_
          refine L_run (R_loadA (vs := [.slice ka kn kc, .int .i64 tn, .int .i64 ct]) rfl agg84 (At.pre (hb1.at_ 3) rfl) rfl) rfl ?_
          refine L_yes rfl rfl rfl (decide_eq_true h6) ?_
          refine L_call rfl cb85 (script_none) rfl ?_
          rintro _ w4 ⟨hs4, rfl⟩
          replace hB := gb_tr hB hs4
          replace hS := hS.gb hs4
          replace hb1 := hb1.gb hs4
          refine L_run (R_pickT rfl (decide_eq_true h6) rfl) rfl ?_
          refine L_run (R_assign rfl) rfl ?_
          refine L_nil (N_then (C_ret (R_in (R_then ?_))))
          refine ret1 Try.results68 rfl ?_
          first
            | (exfalso; omega)
            | (exact ⟨hB, bD (by unfold SOk; first | omega | (simp_all; omega) | simp_all)⟩)
        · refine L_no rfl rfl rfl (decide_eq_false h6) rfl ?_
          refine L_no rfl rfl rfl (decide_eq_false h6) rfl ?_
          refine L_no rfl rfl rfl (decide_eq_false h6) rfl ?_
          refine L_run (R_pickF rfl (decide_eq_false h6) rfl) rfl ?_
          refine L_run (R_assign rfl) rfl ?_
          refine L_nil (N_then (C_ret (R_in (R_then ?_))))
          refine ret1 Try.results68 rfl ?_
          first
            | (exfalso; omega)
            | (exact ⟨hB, bF (by unfold SOk; first | omega | (simp_all; omega) | simp_all)⟩)
      · refine L_no rfl rfl rfl (decide_eq_false h5) rfl ?_
        refine L_no rfl rfl rfl (decide_eq_false h5) rfl ?_
        refine L_no rfl rfl rfl (decide_eq_false h5) rfl ?_
        refine L_no rfl rfl rfl (decide_eq_false h5) rfl ?_
        refine L_run (R_pickF rfl (decide_eq_false h5) rfl) rfl ?_
        refine L_run (R_move rfl) rfl ?_
        refine L_no rfl rfl rfl rfl rfl ?_
        refine L_no rfl rfl rfl rfl rfl ?_
        refine L_no rfl rfl rfl rfl rfl ?_
        refine L_run (R_pickF rfl rfl rfl) rfl ?_
        refine L_run (R_assign rfl) rfl ?_
        refine L_nil (N_then (C_ret (R_in (R_then ?_))))
        refine ret1 Try.results68 rfl ?_
        first
          | (exfalso; omega)
          | (exact ⟨hB, bF (by unfold SOk; first | omega | (simp_all; omega) | simp_all)⟩)
    · refine C_seq (C_reg rfl ?_)
      refine L_run (R_eql rfl rfl) rfl ?_
      refine L_run (R_assign rfl) rfl ?_
      refine L_nil (N_then ?_)
      refine C_if rfl (fun h7 => ?_) (fun h7 => ?_)
      · refine C_skip (N_then (C_condT rfl (decide_eq_true h7) (C_seq (C_reg rfl ?_))))
        refine L_run (R_field (r := 1) rfl fld86_1 rfl) rfl ?_
        refine L_run (R_load1 rfl scl3 (hb1.cell (i := 1) rfl)) rfl ?_
        refine L_run (R_eql rfl rfl) rfl ?_
        refine L_run (R_move rfl) rfl ?_
        refine L_splitD (p := n = 0) (fun h8 => ?_) (fun h8 => ?_)
        · refine L_yes rfl rfl rfl (decide_eq_true h8) ?_
          refine L_run (R_field (r := 2) rfl fld86_2 rfl) rfl ?_
          refine L_yes rfl rfl rfl (decide_eq_true h8) ?_
          refine L_run (R_load1 rfl scl80 (hb1.cell (i := 2) rfl)) rfl ?_
          refine L_yes rfl rfl rfl (decide_eq_true h8) ?_
          refine L_run (R_lenSl rfl slc80) rfl ?_
          refine L_yes rfl rfl rfl (decide_eq_true h8) ?_
          refine L_run (R_eql rfl rfl) rfl ?_
          refine L_run (R_pickT rfl (decide_eq_true h8) rfl) rfl ?_
          refine L_run (R_move rfl) rfl ?_
          refine L_splitD (p := (ops.length : Int) = 0) (fun h9 => ?_) (fun h9 => ?_)
          · refine L_yes rfl rfl rfl (decide_eq_true h9) ?_
            refine L_run (R_field (r := 3) rfl fld86_3 rfl) rfl ?_
            refine L_yes rfl rfl rfl (decide_eq_true h9) ?_
            refine L_run (R_loadA (vs := [.slice ka kn kc, .int .i64 tn, .int .i64 ct]) rfl agg84 (At.pre (hb1.at_ 3) rfl) rfl) rfl ?_
            refine L_yes rfl rfl rfl (decide_eq_true h9) ?_
            refine L_call rfl cb85 (script_none) rfl ?_
            rintro _ w5 ⟨hs5, rfl⟩
            replace hB := gb_tr hB hs5
            replace hS := hS.gb hs5
            replace hb1 := hb1.gb hs5
            refine L_run (R_pickT rfl (decide_eq_true h9) rfl) rfl ?_
            refine L_run (R_assign rfl) rfl ?_
            refine L_nil (N_then (C_ret (R_in (R_then ?_))))
            refine ret1 Try.results68 rfl ?_
            first
              | (exfalso; omega)
              | (exact ⟨hB, bD (by unfold SOk; first | omega | (simp_all; omega) | simp_all)⟩)
          · refine L_no rfl rfl rfl (decide_eq_false h9) rfl ?_
            refine L_no rfl rfl rfl (decide_eq_false h9) rfl ?_
            refine L_no rfl rfl rfl (decide_eq_false h9) rfl ?_
            refine L_run (R_pickF rfl (decide_eq_false h9) rfl) rfl ?_
            refine L_run (R_assign rfl) rfl ?_
            refine L_nil (N_then (C_ret (R_in (R_then ?_))))
            refine ret1 Try.results68 rfl ?_
            first
              | (exfalso; omega)
              | (exact ⟨hB, bF (by unfold SOk; first | omega | (simp_all; omega) | simp_all)⟩)
        · refine L_no rfl rfl rfl (decide_eq_false h8) rfl ?_
          refine L_no rfl rfl rfl (decide_eq_false h8) rfl ?_
          refine L_no rfl rfl rfl (decide_eq_false h8) rfl ?_
          refine L_no rfl rfl rfl (decide_eq_false h8) rfl ?_
          refine L_run (R_pickF rfl (decide_eq_false h8) rfl) rfl ?_
          refine L_run (R_move rfl) rfl ?_
          refine L_no rfl rfl rfl rfl rfl ?_
          refine L_no rfl rfl rfl rfl rfl ?_
          refine L_no rfl rfl rfl rfl rfl ?_
          refine L_run (R_pickF rfl rfl rfl) rfl ?_
          refine L_run (R_assign rfl) rfl ?_
          refine L_nil (N_then (C_ret (R_in (R_then ?_))))
          refine ret1 Try.results68 rfl ?_
          first
            | (exfalso; omega)
            | (exact ⟨hB, bF (by unfold SOk; first | omega | (simp_all; omega) | simp_all)⟩)
      · refine C_reg rfl ?_
        refine L_run (R_eql rfl rfl) rfl ?_
        refine L_run (R_assign rfl) rfl ?_
        refine L_nil (N_then ?_)
        refine C_if rfl (fun h10 => ?_) (fun h10 => ?_)
        · refine C_seq (C_reg rfl ?_)
          refine L_run (R_field (r := 1) rfl fld86_1 rfl) rfl ?_
          refine L_run (R_load1 rfl scl3 (hb1.cell (i := 1) rfl)) rfl ?_
          refine L_run (R_eql rfl rfl) rfl ?_
          refine L_run (R_move rfl) rfl ?_
          refine L_splitD (p := n = 0) (fun h11 => ?_) (fun h11 => ?_)
          · refine L_yes rfl rfl rfl (decide_eq_true h11) ?_
            refine L_run (R_field (r := 2) rfl fld86_2 rfl) rfl ?_
            refine L_yes rfl rfl rfl (decide_eq_true h11) ?_
            refine L_run (R_load1 rfl scl80 (hb1.cell (i := 2) rfl)) rfl ?_
            refine L_yes rfl rfl rfl (decide_eq_true h11) ?_
            refine L_run (R_lenSl rfl slc80) rfl ?_
            refine L_yes rfl rfl rfl (decide_eq_true h11) ?_
            refine L_run (R_eql rfl rfl) rfl ?_
            refine L_run (R_pickT rfl (decide_eq_true h11) rfl) rfl ?_
            refine L_run (R_move rfl) rfl ?_
            refine L_splitD (p := (ops.length : Int) = 0) (fun h12 => ?_) (fun h12 => ?_)
            · refine L_yes rfl rfl rfl (decide_eq_true h12) ?_
              refine L_run (R_field (r := 3) rfl fld86_3 rfl) rfl ?_
              refine L_yes rfl rfl rfl (decide_eq_true h12) ?_
              refine L_run (R_loadA (vs := [.slice ka kn kc, .int .i64 tn, .int .i64 ct]) rfl agg84 (At.pre (hb1.at_ 3) rfl) rfl) rfl ?_
              refine L_yes rfl rfl rfl (decide_eq_true h12) ?_
              refine L_call rfl cb85 (script_none) rfl ?_
              rintro _ w6 ⟨hs6, rfl⟩
              replace hB := gb_tr hB hs6
              replace hS := hS.gb hs6
              replace hb1 := hb1.gb hs6
              refine L_run (R_pickT rfl (decide_eq_true h12) rfl) rfl ?_
              refine L_run (R_assign rfl) rfl ?_
              refine L_nil (N_then (C_ret (R_in (R_then ?_))))
              refine ret1 Try.results68 rfl ?_
              first
                | (exfalso; omega)
                | (exact ⟨hB, bD (by unfold SOk; first | omega | (simp_all; omega) | simp_all)⟩)
            · refine L_no rfl rfl rfl (decide_eq_false h12) rfl ?_
              refine L_no rfl rfl rfl (decide_eq_false h12) rfl ?_
              refine L_no rfl rfl rfl (decide_eq_false h12) rfl ?_
              refine L_run (R_pickF rfl (decide_eq_false h12) rfl) rfl ?_
              refine L_run (R_assign rfl) rfl ?_
              refine L_nil (N_then (C_ret (R_in (R_then ?_))))
              refine ret1 Try.results68 rfl ?_
              first
                | (exfalso; omega)
                | (exact ⟨hB, bF (by unfold SOk; first | omega | (simp_all; omega) | simp_all)⟩)
          · refine L_no rfl rfl rfl (decide_eq_false h11) rfl ?_
            refine L_no rfl rfl rfl (decide_eq_false h11) rfl ?_
            refine L_no rfl rfl rfl (decide_eq_false h11) rfl ?_
            refine L_no rfl rfl rfl (decide_eq_false h11) rfl ?_
            refine L_run (R_pickF rfl (decide_eq_false h11) rfl) rfl ?_
            refine L_run (R_move rfl) rfl ?_
            refine L_no rfl rfl rfl rfl rfl ?_
            refine L_no rfl rfl rfl rfl rfl ?_
            refine L_no rfl rfl rfl rfl rfl ?_
            refine L_run (R_pickF rfl rfl rfl) rfl ?_
            refine L_run (R_assign rfl) rfl ?_
            refine L_nil (N_then (C_ret (R_in (R_then ?_))))
            refine ret1 Try.results68 rfl ?_
            first
              | (exfalso; omega)
              | (exact ⟨hB, bF (by unfold SOk; first | omega | (simp_all; omega) | simp_all)⟩)
        · refine C_seq (C_reg rfl ?_)
          refine L_run (R_eql rfl rfl) rfl ?_
          refine L_run (R_assign rfl) rfl ?_
          refine L_nil (N_then ?_)
          refine C_if rfl (fun h13 => ?_) (fun h13 => ?_)
          · refine C_seq (C_reg rfl ?_)
            refine L_run (R_field (r := 1) rfl fld86_1 rfl) rfl ?_
            refine L_run (R_load1 rfl scl3 (hb1.cell (i := 1) rfl)) rfl ?_
            refine L_run (R_geq rfl rfl) rfl ?_
            refine L_run (R_move rfl) rfl ?_
            refine L_splitD (p := 0 ≤ n) (fun h14 => ?_) (fun h14 => ?_)
            · refine L_yes rfl rfl rfl (decide_eq_true h14) ?_
              refine L_run (R_field (r := 1) rfl fld86_1 rfl) rfl ?_
              refine L_yes rfl rfl rfl (decide_eq_true h14) ?_
              refine L_run (R_load1 rfl scl3 (hb1.cell (i := 1) rfl)) rfl ?_
              refine L_yes rfl rfl rfl (decide_eq_true h14) ?_
              refine L_run (R_leq rfl rfl) rfl ?_
              refine L_run (R_pickT rfl (decide_eq_true h14) rfl) rfl ?_
              refine L_run (R_move rfl) rfl ?_
              refine L_splitD (p := n ≤ 255) (fun h15 => ?_) (fun h15 => ?_)
              · refine L_yes rfl rfl rfl (decide_eq_true h15) ?_
                refine L_run (R_field (r := 2) rfl fld86_2 rfl) rfl ?_
                refine L_yes rfl rfl rfl (decide_eq_true h15) ?_
                refine L_run (R_load1 rfl scl80 (hb1.cell (i := 2) rfl)) rfl ?_
                refine L_yes rfl rfl rfl (decide_eq_true h15) ?_
                refine L_run (R_lenSl rfl slc80) rfl ?_
                refine L_yes rfl rfl rfl (decide_eq_true h15) ?_
                refine L_run (R_eql rfl rfl) rfl ?_
                refine L_run (R_pickT rfl (decide_eq_true h15) rfl) rfl ?_
                refine L_run (R_move rfl) rfl ?_
                refine L_splitD (p := (ops.length : Int) = 0) (fun h16 => ?_) (fun h16 => ?_)
                · refine L_yes rfl rfl rfl (decide_eq_true h16) ?_
                  refine L_run (R_field (r := 3) rfl fld86_3 rfl) rfl ?_
                  refine L_yes rfl rfl rfl (decide_eq_true h16) ?_
                  refine L_run (R_loadA (vs := [.slice ka kn kc, .int .i64 tn, .int .i64 ct]) rfl agg84 (At.pre (hb1.at_ 3) rfl) rfl) rfl ?_
                  refine L_yes rfl rfl rfl (decide_eq_true h16) ?_
                  refine L_call rfl cb85 (script_none) rfl ?_
                  rintro _ w7 ⟨hs7, rfl⟩
                  replace hB := gb_tr hB hs7
                  replace hS := hS.gb hs7
                  replace hb1 := hb1.gb hs7
                  refine L_run (R_pickT rfl (decide_eq_true h16) rfl) rfl ?_
                  refine L_run (R_assign rfl) rfl ?_
                  refine L_nil (N_then (C_ret (R_in (R_then ?_))))
                  refine ret1 Try.results68 rfl ?_
                  first
                    | (exfalso; omega)
                    | (exact ⟨hB, bD (by unfold SOk; first | omega | (simp_all; omega) | simp_all)⟩)
                · refine L_no rfl rfl rfl (decide_eq_false h16) rfl ?_
                  refine L_no rfl rfl rfl (decide_eq_false h16) rfl ?_
                  refine L_no rfl rfl rfl (decide_eq_false h16) rfl ?_
                  refine L_run (R_pickF rfl (decide_eq_false h16) rfl) rfl ?_
                  refine L_run (R_assign rfl) rfl ?_
                  refine L_nil (N_then (C_ret (R_in (R_then ?_))))
                  refine ret1 Try.results68 rfl ?_
                  first
                    | (exfalso; omega)
                    | (exact ⟨hB, bF (by unfold SOk; first | omega | (simp_all; omega) | simp_all)⟩)
              · refine L_no rfl rfl rfl (decide_eq_false h15) rfl ?_
                refine L_no rfl rfl rfl (decide_eq_false h15) rfl ?_
                refine L_no rfl rfl rfl (decide_eq_false h15) rfl ?_
                refine L_no rfl rfl rfl (decide_eq_false h15) rfl ?_
                refine L_run (R_pickF rfl (decide_eq_false h15) rfl) rfl ?_
                refine L_run (R_move rfl) rfl ?_
                refine L_no rfl rfl rfl rfl rfl ?_
                refine L_no rfl rfl rfl rfl rfl ?_
                refine L_no rfl rfl rfl rfl rfl ?_
                refine L_run (R_pickF rfl rfl rfl) rfl ?_
                refine L_run (R_assign rfl) rfl ?_
                refine L_nil (N_then (C_ret (R_in (R_then ?_))))
                refine ret1 Try.results68 rfl ?_
                first
                  | (exfalso; omega)
                  | (exact ⟨hB, bF (by unfold SOk; first | omega | (simp_all; omega) | simp_all)⟩)
            · refine L_no rfl rfl rfl (decide_eq_false h14) rfl ?_
              refine L_no rfl rfl rfl (decide_eq_false h14) rfl ?_
              refine L_no rfl rfl rfl (decide_eq_false h14) rfl ?_
              refine L_run (R_pickF rfl (decide_eq_false h14) rfl) rfl ?_
              refine L_run (R_move rfl) rfl ?_
              refine L_no rfl rfl rfl rfl rfl ?_
              refine L_no rfl rfl rfl rfl rfl ?_
              refine L_no rfl rfl rfl rfl rfl ?_
              refine L_no rfl rfl rfl rfl rfl ?_
              refine L_run (R_pickF rfl rfl rfl) rfl ?_
              refine L_run (R_move rfl) rfl ?_
              refine L_no rfl rfl rfl rfl rfl ?_
              refine L_no rfl rfl rfl rfl rfl ?_
              refine L_no rfl rfl rfl rfl rfl ?_
              refine L_run (R_pickF rfl rfl rfl) rfl ?_
              refine L_run (R_assign rfl) rfl ?_
              refine L_nil (N_then (C_ret (R_in (R_then ?_))))
              refine ret1 Try.results68 rfl ?_
              first
                | (exfalso; omega)
                | (exact ⟨hB, bF (by unfold SOk; first | omega | (simp_all; omega) | simp_all)⟩)
          · refine C_seq (C_reg rfl ?_)
            refine L_run (R_eql rfl rfl) rfl ?_
            refine L_run (R_assign rfl) rfl ?_
            refine L_nil (N_then ?_)
            refine C_if rfl (fun h17 => ?_) (fun h17 => ?_)
            · refine C_seq (C_reg rfl ?_)
              refine L_run (R_field (r := 3) rfl fld86_3 rfl) rfl ?_
              refine L_run (R_loadA (vs := [.slice ka kn kc, .int .i64 tn, .int .i64 ct]) rfl agg84 (At.pre (hb1.at_ 3) rfl) rfl) rfl ?_
              refine L_alloc (cs := [.slice none 0 0, .int .i64 0, .int .i64 0]) zer84 rfl rfl ?_
              intro g2 w8 eg2 hb2 hs8 hz2
              have ge2 : w.heap.size ≤ g2 := eg_ge hB eg2
              have lt1 : g1 < g2 := lt_of_eg hb1.lt eg2
              replace hB := gb_tr hB hs8
              replace hS := hS.gb hs8
              replace hb1 := hb1.gb hs8
              refine L_stA (vs := [.slice ka kn kc, .int .i64 tn, .int .i64 ct]) rfl rfl rfl sz84 rfl hb2 rfl ?_
              intro w9 hb3 hs9 hz3
              replace hB := gb_trg hB hs9 ge2
              replace hS := hS.old hs9 ge2
              replace hb1 := hb1.grown hs9 (ne_lt lt1)
              refine L_nil (N_then (C_seq (C_reg rfl ?_)))
              refine L_run (R_field (r := 1) rfl fld86_1 rfl) rfl ?_
              refine L_run (R_load1 rfl scl3 (hb1.cell (i := 1) rfl)) rfl ?_
              refine L_run (R_eql rfl rfl) rfl ?_
              refine L_run (R_move rfl) rfl ?_
              refine L_splitD (p := n = 0) (fun h18 => ?_) (fun h18 => ?_)
              · refine L_yes rfl rfl rfl (decide_eq_true h18) ?_
                refine L_run (R_field (r := 2) rfl fld86_2 rfl) rfl ?_
                refine L_yes rfl rfl rfl (decide_eq_true h18) ?_
                refine L_run (R_load1 rfl scl80 (hb1.cell (i := 2) rfl)) rfl ?_
                refine L_yes rfl rfl rfl (decide_eq_true h18) ?_
                refine L_run (R_lenSl rfl slc80) rfl ?_
                refine L_yes rfl rfl rfl (decide_eq_true h18) ?_
                refine L_run (R_eql rfl rfl) rfl ?_
                refine L_run (R_pickT rfl (decide_eq_true h18) rfl) rfl ?_
                refine L_run (R_move rfl) rfl ?_
                refine L_splitD (p := (ops.length : Int) = 0) (fun h19 => ?_) (fun h19 => ?_)
                · refine L_yes rfl rfl rfl (decide_eq_true h19) ?_
                  refine L_run (R_field (r := 0) rfl fld84_0 rfl) rfl ?_
                  refine L_yes rfl rfl rfl (decide_eq_true h19) ?_
                  refine L_run (R_load1 rfl scl63 (hb3.cell (i := 0) rfl)) rfl ?_
                  refine L_yes rfl rfl rfl (decide_eq_true h19) ?_
                  refine L_run (R_lenSl rfl slc63) rfl ?_
                  refine L_yes rfl rfl rfl (decide_eq_true h19) ?_
                  refine L_run (R_leq rfl rfl) rfl ?_
                  refine L_run (R_pickT rfl (decide_eq_true h19) rfl) rfl ?_
                  refine L_run (R_move rfl) rfl ?_
                  refine L_splitD (p := (kn : Int) ≤ 64) (fun h20 => ?_) (fun h20 => ?_)
                  · refine L_yes rfl rfl rfl (decide_eq_true h20) ?_
                    refine L_run (R_field (r := 1) rfl fld84_1 rfl) rfl ?_
                    refine L_yes rfl rfl rfl (decide_eq_true h20) ?_
                    refine L_run (R_load1 rfl scl3 (hb3.cell (i := 1) rfl)) rfl ?_
                    refine L_yes rfl rfl rfl (decide_eq_true h20) ?_
                    refine L_run (R_geq rfl rfl) rfl ?_
                    refine L_run (R_pickT rfl (decide_eq_true h20) rfl) rfl ?_
                    refine L_run (R_move rfl) rfl ?_
                    refine L_splitD (p := -1 ≤ tn) (fun h21 => ?_) (fun h21 => ?_)
                    · refine L_yes rfl rfl rfl (decide_eq_true h21) ?_
                      refine L_run (R_field (r := 1) rfl fld84_1 rfl) rfl ?_
                      refine L_yes rfl rfl rfl (decide_eq_true h21) ?_
                      refine L_run (R_load1 rfl scl3 (hb3.cell (i := 1) rfl)) rfl ?_
                      refine L_yes rfl rfl rfl (decide_eq_true h21) ?_
                      refine L_run (R_leq rfl rfl) rfl ?_
                      refine L_run (R_pickT rfl (decide_eq_true h21) rfl) rfl ?_
                      refine L_run (R_move rfl) rfl ?_
                      refine L_splitD (p := tn ≤ 254) (fun h22 => ?_) (fun h22 => ?_)
                      · refine L_yes rfl rfl rfl (decide_eq_true h22) ?_
                        refine L_run (R_field (r := 2) rfl fld84_2 rfl) rfl ?_
                        refine L_yes rfl rfl rfl (decide_eq_true h22) ?_
                        refine L_run (R_load1 rfl scl3 (hb3.cell (i := 2) rfl)) rfl ?_
                        refine L_yes rfl rfl rfl (decide_eq_true h22) ?_
                        refine L_run (R_geq rfl rfl) rfl ?_
                        refine L_run (R_pickT rfl (decide_eq_true h22) rfl) rfl ?_
                        refine L_run (R_move rfl) rfl ?_
                        refine L_splitD (p := 0 ≤ ct) (fun h23 => ?_) (fun h23 => ?_)
                        · refine L_yes rfl rfl rfl (decide_eq_true h23) ?_
                          refine L_run (R_field (r := 2) rfl fld84_2 rfl) rfl ?_
                          refine L_yes rfl rfl rfl (decide_eq_true h23) ?_
                          refine L_run (R_load1 rfl scl3 (hb3.cell (i := 2) rfl)) rfl ?_
                          refine L_yes rfl rfl rfl (decide_eq_true h23) ?_
                          refine L_run (R_leq rfl rfl) rfl ?_
                          refine L_run (R_pickT rfl (decide_eq_true h23) rfl) rfl ?_
                          refine L_run (R_assign rfl) rfl ?_
                          refine L_nil (N_then (C_ret (R_in (R_then ?_))))
                          refine ret1 Try.results68 rfl ?_
                          first
                            | (exfalso; omega)
                            | (exact ⟨hB, bD (by unfold SOk; first | omega | (simp_all; omega) | simp_all)⟩)
                        · refine L_no rfl rfl rfl (decide_eq_false h23) rfl ?_
                          refine L_no rfl rfl rfl (decide_eq_false h23) rfl ?_
                          refine L_no rfl rfl rfl (decide_eq_false h23) rfl ?_
                          refine L_run (R_pickF rfl (decide_eq_false h23) rfl) rfl ?_
                          refine L_run (R_assign rfl) rfl ?_
                          refine L_nil (N_then (C_ret (R_in (R_then ?_))))
                          refine ret1 Try.results68 rfl ?_
                          first
                            | (exfalso; omega)
                            | (exact ⟨hB, bF (by unfold SOk; first | omega | (simp_all; omega) | simp_all)⟩)
                      · refine L_no rfl rfl rfl (decide_eq_false h22) rfl ?_
                        refine L_no rfl rfl rfl (decide_eq_false h22) rfl ?_
                        refine L_no rfl rfl rfl (decide_eq_false h22) rfl ?_
                        refine L_run (R_pickF rfl (decide_eq_false h22) rfl) rfl ?_
                        refine L_run (R_move rfl) rfl ?_
                        refine L_no rfl rfl rfl rfl rfl ?_
                        refine L_no rfl rfl rfl rfl rfl ?_
                        refine L_no rfl rfl rfl rfl rfl ?_
                        refine L_run (R_pickF rfl rfl rfl) rfl ?_
                        refine L_run (R_assign rfl) rfl ?_
                        refine L_nil (N_then (C_ret (R_in (R_then ?_))))
                        refine ret1 Try.results68 rfl ?_
                        first
                          | (exfalso; omega)
                          | (exact ⟨hB, bF (by unfold SOk; first | omega | (simp_all; omega) | simp_all)⟩)
                    · refine L_no rfl rfl rfl (decide_eq_false h21) rfl ?_
                      refine L_no rfl rfl rfl (decide_eq_false h21) rfl ?_
                      refine L_no rfl rfl rfl (decide_eq_false h21) rfl ?_
                      refine L_run (R_pickF rfl (decide_eq_false h21) rfl) rfl ?_
                      refine L_run (R_move rfl) rfl ?_
                      refine L_no rfl rfl rfl rfl rfl ?_
                      refine L_no rfl rfl rfl rfl rfl ?_
                      refine L_no rfl rfl rfl rfl rfl ?_
                      refine L_run (R_pickF rfl rfl rfl) rfl ?_
                      refine L_run (R_move rfl) rfl ?_
                      refine L_no rfl rfl rfl rfl rfl ?_
                      refine L_no rfl rfl rfl rfl rfl ?_
                      refine L_no rfl rfl rfl rfl rfl ?_
                      refine L_run (R_pickF rfl rfl rfl) rfl ?_
                      refine L_run (R_assign rfl) rfl ?_
                      refine L_nil (N_then (C_ret (R_in (R_then ?_))))
                      refine ret1 Try.results68 rfl ?_
                      first
                        | (exfalso; omega)
                        | (exact ⟨hB, bF (by unfold SOk; first | omega | (simp_all; omega) | simp_all)⟩)
                  · refine L_no rfl rfl rfl (decide_eq_false h20) rfl ?_
                    refine L_no rfl rfl rfl (decide_eq_false h20) rfl ?_
                    refine L_no rfl rfl rfl (decide_eq_false h20) rfl ?_
                    refine L_run (R_pickF rfl (decide_eq_false h20) rfl) rfl ?_
                    refine L_run (R_move rfl) rfl ?_
                    refine L_no rfl rfl rfl rfl rfl ?_
                    refine L_no rfl rfl rfl rfl rfl ?_
                    refine L_no rfl rfl rfl rfl rfl ?_
                    refine L_run (R_pickF rfl rfl rfl) rfl ?_
                    refine L_run (R_move rfl) rfl ?_
                    refine L_no rfl rfl rfl rfl rfl ?_
                    refine L_no rfl rfl rfl rfl rfl ?_
                    refine L_no rfl rfl rfl rfl rfl ?_
                    refine L_run (R_pickF rfl rfl rfl) rfl ?_
                    refine L_run (R_move rfl) rfl ?_
                    refine L_no rfl rfl rfl rfl rfl ?_
                    refine L_no rfl rfl rfl rfl rfl ?_
                    refine L_no rfl rfl rfl rfl rfl ?_
                    refine L_run (R_pickF rfl rfl rfl) rfl ?_
                    refine L_run (R_assign rfl) rfl ?_
                    refine L_nil (N_then (C_ret (R_in (R_then ?_))))
                    refine ret1 Try.results68 rfl ?_
                    first
                      | (exfalso; omega)
                      | (exact ⟨hB, bF (by unfold SOk; first | omega | (simp_all; omega) | simp_all)⟩)
                · refine L_no rfl rfl rfl (decide_eq_false h19) rfl ?_
                  refine L_no rfl rfl rfl (decide_eq_false h19) rfl ?_
                  refine L_no rfl rfl rfl (decide_eq_false h19) rfl ?_
                  refine L_no rfl rfl rfl (decide_eq_false h19) rfl ?_
                  refine L_run (R_pickF rfl (decide_eq_false h19) rfl) rfl ?_
                  refine L_run (R_move rfl) rfl ?_
                  refine L_no rfl rfl rfl rfl rfl ?_
                  refine L_no rfl rfl rfl rfl rfl ?_
                  refine L_no rfl rfl rfl rfl rfl ?_
                  refine L_run (R_pickF rfl rfl rfl) rfl ?_
                  refine L_run (R_move rfl) rfl ?_
                  refine L_no rfl rfl rfl rfl rfl ?_
                  refine L_no rfl rfl rfl rfl rfl ?_
                  refine L_no rfl rfl rfl rfl rfl ?_
                  refine L_run (R_pickF rfl rfl rfl) rfl ?_
                  refine L_run (R_move rfl) rfl ?_
                  refine L_no rfl rfl rfl rfl rfl ?_
                  refine L_no rfl rfl rfl rfl rfl ?_
                  refine L_no rfl rfl rfl rfl rfl ?_
                  refine L_run (R_pickF rfl rfl rfl) rfl ?_
                  refine L_run (R_move rfl) rfl ?_
                  refine L_no rfl rfl rfl rfl rfl ?_
                  refine L_no rfl rfl rfl rfl rfl ?_
                  refine L_no rfl rfl rfl rfl rfl ?_
                  refine L_run (R_pickF rfl rfl rfl) rfl ?_
                  refine L_run (R_assign rfl) rfl ?_
                  refine L_nil (N_then (C_ret (R_in (R_then ?_))))
                  refine ret1 Try.results68 rfl ?_
                  first
                    | (exfalso; omega)
                    | (exact ⟨hB, bF (by unfold SOk; first | omega | (simp_all; omega) | simp_all)⟩)
              · refine L_no rfl rfl rfl (decide_eq_false h18) rfl ?_
                refine L_no rfl rfl rfl (decide_eq_false h18) rfl ?_
                refine L_no rfl rfl rfl (decide_eq_false h18) rfl ?_
                refine L_no rfl rfl rfl (decide_eq_false h18) rfl ?_
                refine L_run (R_pickF rfl (decide_eq_false h18) rfl) rfl ?_
                refine L_run (R_move rfl) rfl ?_
                refine L_no rfl rfl rfl rfl rfl ?_
                refine L_no rfl rfl rfl rfl rfl ?_
                refine L_no rfl rfl rfl rfl rfl ?_
                refine L_no rfl rfl rfl rfl rfl ?_
                refine L_run (R_pickF rfl rfl rfl) rfl ?_
                refine L_run (R_move rfl) rfl ?_
                refine L_no rfl rfl rfl rfl rfl ?_
                refine L_no rfl rfl rfl rfl rfl ?_
                refine L_no rfl rfl rfl rfl rfl ?_
                refine L_run (R_pickF rfl rfl rfl) rfl ?_
                refine L_run (R_move rfl) rfl ?_
                refine L_no rfl rfl rfl rfl rfl ?_
                refine L_no rfl rfl rfl rfl rfl ?_
                refine L_no rfl rfl rfl rfl rfl ?_
                refine L_run (R_pickF rfl rfl rfl) rfl ?_
                refine L_run (R_move rfl) rfl ?_
                refine L_no rfl rfl rfl rfl rfl ?_
                refine L_no rfl rfl rfl rfl rfl ?_
                refine L_no rfl rfl rfl rfl rfl ?_
                refine L_run (R_pickF rfl rfl rfl) rfl ?_
                refine L_run (R_move rfl) rfl ?_
                refine L_no rfl rfl rfl rfl rfl ?_
                refine L_no rfl rfl rfl rfl rfl ?_
                refine L_no rfl rfl rfl rfl rfl ?_
                refine L_run (R_pickF rfl rfl rfl) rfl ?_
                refine L_run (R_assign rfl) rfl ?_
                refine L_nil (N_then (C_ret (R_in (R_then ?_))))
                refine ret1 Try.results68 rfl ?_
                first
                  | (exfalso; omega)
                  | (exact ⟨hB, bF (by unfold SOk; first | omega | (simp_all; omega) | simp_all)⟩)
            · refine C_skip (N_in (N_then (C_seq (C_reg rfl ?_))))
              refine L_run (R_assign rfl) rfl ?_
              refine L_nil (N_then (C_ret ?_))
              refine ret1 Try.results68 rfl ?_
              first
                | (exfalso; omega)
                | (exact ⟨hB, bF (by unfold SOk; first | omega | (simp_all; omega) | simp_all)⟩)

theorem ref38_Right {w : World} {t1 lo hi : Nat} {oa ka : Option Addr} {oc kn kc : Nat} {kd n tn ct : Int} {ops : List Opd} (hS : Sli t1 lo hi w oa (fl encOp ops)) (hb : ops.length ≤ 1000000) :
    Runs Try.prog 56 #[.agg #[.int .i64 kd, .int .i64 n, .slice oa ops.length oc, .slice ka kn kc, .int .i64 tn, .int .i64 ct]] w (fun v w' => w.grownBy w' none ∧ v = .bool (decide (SOk kd n ops kn tn ct))) := by
  have hB := gb_refl w none
  replace hS := hS.top
  refine enter Try.func56 Try.ntmps56 rfl rfl ?_
  refine C_seq (C_reg rfl ?_)
  refine L_box (cs := [.int .i64 kd, .int .i64 n, .slice oa ops.length oc, .slice ka kn kc, .int .i64 tn, .int .i64 ct]) rfl rfl rfl ?_
  intro g1 w1 eg1 hb1 hs1 hz1
  have ge1 : w.heap.size ≤ g1 := eg_ge hB eg1
  replace hB := gb_tr hB hs1
  replace hS := hS.gb hs1
  refine L_run (R_assign rfl) rfl ?_
  refine L_nil (N_then (C_seq (C_reg rfl ?_)))
  refine L_run (R_field (r := 3) rfl fld86_3 rfl) rfl ?_
  refine L_run (R_field (r := 3) rfl fld84_0 rfl) rfl ?_
  refine L_run (R_load1 rfl scl63 (hb1.cell (i := 3) rfl)) rfl ?_
  refine L_run (R_lenSl rfl slc63) rfl ?_
  refine L_run (R_eql rfl rfl) rfl ?_
  refine L_run (R_move rfl) rfl ?_
  refine L_splitD (p := (kn : Int) = 0) (fun h1 => ?_) (fun h1 => ?_)
  · refine L_yes rfl rfl rfl (decide_eq_true h1) ?_
    refine L_run (R_field (r := 3) rfl fld86_3 rfl) rfl ?_
    refine L_yes rfl rfl rfl (decide_eq_true h1) ?_
    refine L_run (R_field (r := 4) rfl fld84_1 rfl) rfl ?_
    refine L_yes rfl rfl rfl (decide_eq_true h1) ?_
    refine L_run (R_load1 rfl scl3 (hb1.cell (i := 4) rfl)) rfl ?_
    refine L_yes rfl rfl rfl (decide_eq_true h1) ?_
    refine L_run (R_eql rfl rfl) rfl ?_
    refine L_run (R_pickT rfl (decide_eq_true h1) rfl) rfl ?_
    refine L_run (R_move rfl) rfl ?_
    refine L_splitD (p := tn = 0) (fun h2 => ?_) (fun h2 => ?_)
    · refine L_yes rfl rfl rfl (decide_eq_true h2) ?_
      refine L_run (R_field (r := 3) rfl fld86_3 rfl) rfl ?_
      refine L_yes rfl rfl rfl (decide_eq_true h2) ?_
      refine L_run (R_field (r := 5) rfl fld84_2 rfl) rfl ?_
      refine L_yes rfl rfl rfl (decide_eq_true h2) ?_
      refine L_run (R_load1 rfl scl3 (hb1.cell (i := 5) rfl)) rfl ?_
      refine L_yes rfl rfl rfl (decide_eq_true h2) ?_
      refine L_run (R_eql rfl rfl) rfl ?_
      refine L_run (R_pickT rfl (decide_eq_true h2) rfl) rfl ?_
      refine L_run (R_assign rfl) rfl ?_
      refine L_nil (N_then (C_seq (C_seq (C_reg rfl ?_))))
      refine L_run (R_field (r := 0) rfl fld86_0 rfl) rfl ?_
      refine L_run (R_load1 rfl scl3 (hb1.cell (i := 0) rfl)) rfl ?_
      refine L_run (R_eql rfl rfl) rfl ?_
      refine L_nil (N_then ?_)
      refine C_if rfl (fun h3 => ?_) (fun h3 => ?_)
      · refine C_seq (C_reg rfl ?_)
        refine L_run (R_field (r := 2) rfl fld86_2 rfl) rfl ?_
        refine L_run (R_load1 rfl scl80 (hb1.cell (i := 2) rfl)) rfl ?_
        refine L_call rfl cb73 (ref12_Right (l := ops) hS (by first | omega | (simp; done) | (simp; omega))) rfl ?_
        rintro _ w2 ⟨hs2, rfl⟩
        replace hB := gb_tr hB hs2
        replace hS := hS.gb hs2
        replace hb1 := hb1.gb hs2
        refine L_run (R_move rfl) rfl ?_
        refine L_splitD (p := OkL ops) (fun h4 => ?_) (fun h4 => ?_)
        · refine L_yes rfl rfl rfl (decide_eq_true h4) ?_
          refine L_run (R_field (r := 1) rfl fld86_1 rfl) rfl ?_
          refine L_yes rfl rfl rfl (decide_eq_true h4) ?_
          refine L_run (R_load1 rfl scl3 (hb1.cell (i := 1) rfl)) rfl ?_
          refine L_yes rfl rfl rfl (decide_eq_true h4) ?_
          refine L_run (R_eql rfl rfl) rfl ?_
          refine L_run (R_pickT rfl (decide_eq_true h4) rfl) rfl ?_
          refine L_run (R_move rfl) rfl ?_
          refine L_splitD (p := n = 0) (fun h5 => ?_) (fun h5 => ?_)
          · refine L_yes rfl rfl rfl (decide_eq_true h5) ?_
            refine L_run (R_move rfl) rfl ?_
            refine L_run (R_pickT rfl (decide_eq_true h5) rfl) rfl ?_
            refine L_run (R_assign rfl) rfl ?_
            refine L_nil (N_then (C_ret (R_then ?_)))
            refine ret1 Try.results56 rfl ?_
            first
              | (exfalso; omega)
              | (exact ⟨hB, bD (by unfold SOk; first | omega | (simp_all; omega) | simp_all)⟩)
          · refine L_no rfl rfl rfl (decide_eq_false h5) rfl ?_
            refine L_run (R_pickF rfl (decide_eq_false h5) rfl) rfl ?_
            refine L_run (R_assign rfl) rfl ?_
            refine L_nil (N_then (C_ret (R_then ?_)))
            refine ret1 Try.results56 rfl ?_
            first
              | (exfalso; omega)
              | (exact ⟨hB, bF (by unfold SOk; first | omega | (simp_all; omega) | simp_all)⟩)
        · refine L_no rfl rfl rfl (decide_eq_false h4) rfl ?_
          refine L_no rfl rfl rfl (decide_eq_false h4) rfl ?_
          refine L_no rfl rfl rfl (decide_eq_false h4) rfl ?_
          refine L_run (R_pickF rfl (decide_eq_false h4) rfl) rfl ?_
          refine L_run (R_move rfl) rfl ?_
          refine L_no rfl rfl rfl rfl rfl ?_
          refine L_run (R_pickF rfl rfl rfl) rfl ?_
          refine L_run (R_assign rfl) rfl ?_
          refine L_nil (N_then (C_ret (R_then ?_)))
          refine ret1 Try.results56 rfl ?_
          first
            | (exfalso; omega)
            | (exact ⟨hB, bF (by unfold SOk; first | omega | (simp_all; omega) | simp_all)⟩)
      · refine C_skip (N_then (C_seq (C_seq (C_reg rfl ?_))))
        refine L_run (R_field (r := 2) rfl fld86_2 rfl) rfl ?_
        refine L_run (R_load1 rfl scl80 (hb1.cell (i := 2) rfl)) rfl ?_
        refine L_run (R_lenSl rfl slc80) rfl ?_
        refine L_run (R_gtr rfl rfl) rfl ?_
        refine L_nil (N_then ?_)
        refine C_if rfl (fun h6 => ?_) (fun h6 => ?_)
        · refine C_seq (C_reg rfl ?_)
          refine L_run (R_assign rfl) rfl ?_
          refine L_nil (N_then (C_ret (R_then ?_)))
          refine ret1 Try.results56 rfl ?_
          first
            | (exfalso; omega)
            | (exact ⟨hB, bF (by unfold SOk; first | omega | (simp_all; omega) | simp_all)⟩)
        · refine C_skip (N_then (C_seq (C_seq (C_reg rfl ?_))))
          refine L_run (R_field (r := 0) rfl fld86_0 rfl) rfl ?_
          refine L_run (R_load1 rfl scl3 (hb1.cell (i := 0) rfl)) rfl ?_
          refine L_run (R_eql rfl rfl) rfl ?_
          refine L_nil (N_then ?_)
          refine C_if rfl (fun h7 => ?_) (fun h7 => ?_)
          · refine C_seq (C_reg rfl ?_)
            refine L_run (R_field (r := 1) rfl fld86_1 rfl) rfl ?_
            refine L_run (R_load1 rfl scl3 (hb1.cell (i := 1) rfl)) rfl ?_
            refine L_run (R_eql rfl rfl) rfl ?_
            refine L_run (R_move rfl) rfl ?_
            refine L_splitD (p := n = 0) (fun h8 => ?_) (fun h8 => ?_)
            · refine L_yes rfl rfl rfl (decide_eq_true h8) ?_
              refine L_run (R_field (r := 3) rfl fld86_3 rfl) rfl ?_
              refine L_yes rfl rfl rfl (decide_eq_true h8) ?_
              refine L_run (R_field (r := 3) rfl fld84_0 rfl) rfl ?_
              refine L_yes rfl rfl rfl (decide_eq_true h8) ?_
              refine L_run (R_load1 rfl scl63 (hb1.cell (i := 3) rfl)) rfl ?_
              refine L_yes rfl rfl rfl (decide_eq_true h8) ?_
              refine L_run (R_lenSl rfl slc63) rfl ?_
              refine L_yes rfl rfl rfl (decide_eq_true h8) ?_
              refine L_run (R_leq rfl rfl) rfl ?_
              refine L_run (R_pickT rfl (decide_eq_true h8) rfl) rfl ?_
              refine L_run (R_move rfl) rfl ?_
              refine L_splitD (p := (kn : Int) ≤ 64) (fun h9 => ?_) (fun h9 => ?_)
              · refine L_yes rfl rfl rfl (decide_eq_true h9) ?_
                refine L_run (R_field (r := 3) rfl fld86_3 rfl) rfl ?_
                refine L_yes rfl rfl rfl (decide_eq_true h9) ?_
                refine L_run (R_field (r := 4) rfl fld84_1 rfl) rfl ?_
                refine L_yes rfl rfl rfl (decide_eq_true h9) ?_
                refine L_run (R_load1 rfl scl3 (hb1.cell (i := 4) rfl)) rfl ?_
                refine L_yes rfl rfl rfl (decide_eq_true h9) ?_
                refine L_run (R_geq rfl rfl) rfl ?_
                refine L_run (R_pickT rfl (decide_eq_true h9) rfl) rfl ?_
                refine L_run (R_move rfl) rfl ?_
                refine L_splitD (p := -1 ≤ tn) (fun h10 => ?_) (fun h10 => ?_)
                · refine L_yes rfl rfl rfl (decide_eq_true h10) ?_
                  refine L_run (R_field (r := 3) rfl fld86_3 rfl) rfl ?_
                  refine L_yes rfl rfl rfl (decide_eq_true h10) ?_
                  refine L_run (R_field (r := 4) rfl fld84_1 rfl) rfl ?_
                  refine L_yes rfl rfl rfl (decide_eq_true h10) ?_
                  refine L_run (R_load1 rfl scl3 (hb1.cell (i := 4) rfl)) rfl ?_
                  refine L_yes rfl rfl rfl (decide_eq_true h10) ?_
                  refine L_run (R_leq rfl rfl) rfl ?_
                  refine L_run (R_pickT rfl (decide_eq_true h10) rfl) rfl ?_
                  refine L_run (R_move rfl) rfl ?_
                  refine L_splitD (p := tn ≤ 254) (fun h11 => ?_) (fun h11 => ?_)
                  · refine L_yes rfl rfl rfl (decide_eq_true h11) ?_
                    refine L_run (R_field (r := 3) rfl fld86_3 rfl) rfl ?_
                    refine L_yes rfl rfl rfl (decide_eq_true h11) ?_
                    refine L_run (R_field (r := 5) rfl fld84_2 rfl) rfl ?_
                    refine L_yes rfl rfl rfl (decide_eq_true h11) ?_
                    refine L_run (R_load1 rfl scl3 (hb1.cell (i := 5) rfl)) rfl ?_
                    refine L_yes rfl rfl rfl (decide_eq_true h11) ?_
                    refine L_run (R_geq rfl rfl) rfl ?_
                    refine L_run (R_pickT rfl (decide_eq_true h11) rfl) rfl ?_
                    refine L_run (R_move rfl) rfl ?_
                    refine L_splitD (p := 0 ≤ ct) (fun h12 => ?_) (fun h12 => ?_)
                    · refine L_yes rfl rfl rfl (decide_eq_true h12) ?_
                      refine L_run (R_field (r := 3) rfl fld86_3 rfl) rfl ?_
                      refine L_yes rfl rfl rfl (decide_eq_true h12) ?_
                      refine L_run (R_field (r := 5) rfl fld84_2 rfl) rfl ?_
                      refine L_yes rfl rfl rfl (decide_eq_true h12) ?_
                      refine L_run (R_load1 rfl scl3 (hb1.cell (i := 5) rfl)) rfl ?_
                      refine L_yes rfl rfl rfl (decide_eq_true h12) ?_
                      refine L_run (R_leq rfl rfl) rfl ?_
                      refine L_run (R_pickT rfl (decide_eq_true h12) rfl) rfl ?_
                      refine L_run (R_assign rfl) rfl ?_
                      refine L_nil (N_then (C_ret (R_then ?_)))
                      refine ret1 Try.results56 rfl ?_
                      first
                        | (exfalso; omega)
                        | (exact ⟨hB, bD (by unfold SOk; first | omega | (simp_all; omega) | simp_all)⟩)
                    · refine L_no rfl rfl rfl (decide_eq_false h12) rfl ?_
                      refine L_no rfl rfl rfl (decide_eq_false h12) rfl ?_
                      refine L_no rfl rfl rfl (decide_eq_false h12) rfl ?_
                      refine L_no rfl rfl rfl (decide_eq_false h12) rfl ?_
                      refine L_run (R_pickF rfl (decide_eq_false h12) rfl) rfl ?_
                      refine L_run (R_assign rfl) rfl ?_
                      refine L_nil (N_then (C_ret (R_then ?_)))
                      refine ret1 Try.results56 rfl ?_
                      first
                        | (exfalso; omega)
                        | (exact ⟨hB, bF (by unfold SOk; first | omega | (simp_all; omega) | simp_all)⟩)
                  · refine L_no rfl rfl rfl (decide_eq_false h11) rfl ?_
                    refine L_no rfl rfl rfl (decide_eq_false h11) rfl ?_
                    refine L_no rfl rfl rfl (decide_eq_false h11) rfl ?_
                    refine L_no rfl rfl rfl (decide_eq_false h11) rfl ?_
                    refine L_run (R_pickF rfl (decide_eq_false h11) rfl) rfl ?_
                    refine L_run (R_move rfl) rfl ?_
                    refine L_no rfl rfl rfl rfl rfl ?_
                    refine L_no rfl rfl rfl rfl rfl ?_
                    refine L_no rfl rfl rfl rfl rfl ?_
                    refine L_no rfl rfl rfl rfl rfl ?_
                    refine L_run (R_pickF rfl rfl rfl) rfl ?_
                    refine L_run (R_assign rfl) rfl ?_
                    refine L_nil (N_then (C_ret (R_then ?_)))
                    refine ret1 Try.results56 rfl ?_
                    first
                      | (exfalso; omega)
                      | (exact ⟨hB, bF (by unfold SOk; first | omega | (simp_all; omega) | simp_all)⟩)
                · refine L_no rfl rfl rfl (decide_eq_false h10) rfl ?_
                  refine L_no rfl rfl rfl (decide_eq_false h10) rfl ?_
                  refine L_no rfl rfl rfl (decide_eq_false h10) rfl ?_
                  refine L_no rfl rfl rfl (decide_eq_false h10) rfl ?_
                  refine L_run (R_pickF rfl (decide_eq_false h10) rfl) rfl ?_
                  refine L_run (R_move rfl) rfl ?_
                  refine L_no rfl rfl rfl rfl rfl ?_
                  refine L_no rfl rfl rfl rfl rfl ?_
                  refine L_no rfl rfl rfl rfl rfl ?_
                  refine L_no rfl rfl rfl rfl rfl ?_
                  refine L_run (R_pickF rfl rfl rfl) rfl ?_
                  refine L_run (R_move rfl) rfl ?_
                  refine L_no rfl rfl rfl rfl rfl ?_
                  refine L_no rfl rfl rfl rfl rfl ?_
                  refine L_no rfl rfl rfl rfl rfl ?_
                  refine L_no rfl rfl rfl rfl rfl ?_
                  refine L_run (R_pickF rfl rfl rfl) rfl ?_
                  refine L_run (R_assign rfl) rfl ?_
                  refine L_nil (N_then (C_ret (R_then ?_)))
                  refine ret1 Try.results56 rfl ?_
                  first
                    | (exfalso; omega)
                    | (exact ⟨hB, bF (by unfold SOk; first | omega | (simp_all; omega) | simp_all)⟩)
              · refine L_no rfl rfl rfl (decide_eq_false h9) rfl ?_
                refine L_no rfl rfl rfl (decide_eq_false h9) rfl ?_
                refine L_no rfl rfl rfl (decide_eq_false h9) rfl ?_
                refine L_no rfl rfl rfl (decide_eq_false h9) rfl ?_
                refine L_run (R_pickF rfl (decide_eq_false h9) rfl) rfl ?_
                refine L_run (R_move rfl) rfl ?_
                refine L_no rfl rfl rfl rfl rfl ?_
                refine L_no rfl rfl rfl rfl rfl ?_
                refine L_no rfl rfl rfl rfl rfl ?_
                refine L_no rfl rfl rfl rfl rfl ?_
                refine L_run (R_pickF rfl rfl rfl) rfl ?_
                refine L_run (R_move rfl) rfl ?_
                refine L_no rfl rfl rfl rfl rfl ?_
                refine L_no rfl rfl rfl rfl rfl ?_
                refine L_no rfl rfl rfl rfl rfl ?_
                refine L_no rfl rfl rfl rfl rfl ?_
                refine L_run (R_pickF rfl rfl rfl) rfl ?_
                refine L_run (R_move rfl) rfl ?_
                refine L_no rfl rfl rfl rfl rfl ?_
                refine L_no rfl rfl rfl rfl rfl ?_
                refine L_no rfl rfl rfl rfl rfl ?_
                refine L_no rfl rfl rfl rfl rfl ?_
                refine L_run (R_pickF rfl rfl rfl) rfl ?_
                refine L_run (R_assign rfl) rfl ?_
                refine L_nil (N_then (C_ret (R_then ?_)))
                refine ret1 Try.results56 rfl ?_
                first
                  | (exfalso; omega)
                  | (exact ⟨hB, bF (by unfold SOk; first | omega | (simp_all; omega) | simp_all)⟩)
            · refine L_no rfl rfl rfl (decide_eq_false h8) rfl ?_
              refine L_no rfl rfl rfl (decide_eq_false h8) rfl ?_
              refine L_no rfl rfl rfl (decide_eq_false h8) rfl ?_
              refine L_no rfl rfl rfl (decide_eq_false h8) rfl ?_
              refine L_no rfl rfl rfl (decide_eq_false h8) rfl ?_
              refine L_run (R_pickF rfl (decide_eq_false h8) rfl) rfl ?_
              refine L_run (R_move rfl) rfl ?_
              refine L_no rfl rfl rfl rfl rfl ?_
              refine L_no rfl rfl rfl rfl rfl ?_
              refine L_no rfl rfl rfl rfl rfl ?_
              refine L_no rfl rfl rfl rfl rfl ?_
              refine L_run (R_pickF rfl rfl rfl) rfl ?_
              refine L_run (R_move rfl) rfl ?_
              refine L_no rfl rfl rfl rfl rfl ?_
              refine L_no rfl rfl rfl rfl rfl ?_
              refine L_no rfl rfl rfl rfl rfl ?_
              refine L_no rfl rfl rfl rfl rfl ?_
              refine L_run (R_pickF rfl rfl rfl) rfl ?_
              refine L_run (R_move rfl) rfl ?_
              refine L_no rfl rfl rfl rfl rfl ?_
              refine L_no rfl rfl rfl rfl rfl ?_
              refine L_no rfl rfl rfl rfl rfl ?_
              refine L_no rfl rfl rfl rfl rfl ?_
              refine L_run (R_pickF rfl rfl rfl) rfl ?_
              refine L_run (R_move rfl) rfl ?_
              refine L_no rfl rfl rfl rfl rfl ?_
              refine L_no rfl rfl rfl rfl rfl ?_
              refine L_no rfl rfl rfl rfl rfl ?_
              refine L_no rfl rfl rfl rfl rfl ?_
              refine L_run (R_pickF rfl rfl rfl) rfl ?_
              refine L_run (R_assign rfl) rfl ?_
              refine L_nil (N_then (C_ret (R_then ?_)))
              refine ret1 Try.results56 rfl ?_
              first
                | (exfalso; omega)
                | (exact ⟨hB, bF (by unfold SOk; first | omega | (simp_all; omega) | simp_all)⟩)
          · refine C_skip (N_then (C_seq (C_seq (C_reg rfl ?_))))
            refine L_run (R_field (r := 0) rfl fld86_0 rfl) rfl ?_
            refine L_run (R_load1 rfl scl3 (hb1.cell (i := 0) rfl)) rfl ?_
            refine L_run (R_eql rfl rfl) rfl ?_
            refine L_nil (N_then ?_)
            refine C_if rfl (fun h13 => ?_) (fun h13 => ?_)
            · refine C_seq (C_reg rfl ?_)
              refine L_run (R_move rfl) rfl ?_
              refine L_run (R_move rfl) rfl ?_
              refine L_splitD (p := ct = 0) (fun h14 => ?_) (fun h14 => ?_)
              · refine L_yes rfl rfl rfl (decide_eq_true h14) ?_
                refine L_run (R_field (r := 1) rfl fld86_1 rfl) rfl ?_
                refine L_yes rfl rfl rfl (decide_eq_true h14) ?_
                refine L_run (R_load1 rfl scl3 (hb1.cell (i := 1) rfl)) rfl ?_
                refine L_yes rfl rfl rfl (decide_eq_true h14) ?_
                refine L_run (R_geq rfl rfl) rfl ?_
                refine L_run (R_pickT rfl (decide_eq_true h14) rfl) rfl ?_
                refine L_run (R_move rfl) rfl ?_
                refine L_splitD (p := 0 ≤ n) (fun h15 => ?_) (fun h15 => ?_)
                · refine L_yes rfl rfl rfl (decide_eq_true h15) ?_
                  refine L_run (R_field (r := 1) rfl fld86_1 rfl) rfl ?_
                  refine L_yes rfl rfl rfl (decide_eq_true h15) ?_
                  refine L_run (R_load1 rfl scl3 (hb1.cell (i := 1) rfl)) rfl ?_
                  refine L_yes rfl rfl rfl (decide_eq_true h15) ?_
                  refine L_run (R_leq rfl rfl) rfl ?_
                  refine L_run (R_pickT rfl (decide_eq_true h15) rfl) rfl ?_
                  refine L_run (R_assign rfl) rfl ?_
                  refine L_nil (N_then (C_ret (R_then ?_)))
                  refine ret1 Try.results56 rfl ?_
                  first
                    | (exfalso; omega)
                    | (exact ⟨hB, bD (by unfold SOk; first | omega | (simp_all; omega) | simp_all)⟩)
                · refine L_no rfl rfl rfl (decide_eq_false h15) rfl ?_
                  refine L_no rfl rfl rfl (decide_eq_false h15) rfl ?_
                  refine L_no rfl rfl rfl (decide_eq_false h15) rfl ?_
                  refine L_run (R_pickF rfl (decide_eq_false h15) rfl) rfl ?_
                  refine L_run (R_assign rfl) rfl ?_
                  refine L_nil (N_then (C_ret (R_then ?_)))
                  refine ret1 Try.results56 rfl ?_
                  first
                    | (exfalso; omega)
                    | (exact ⟨hB, bF (by unfold SOk; first | omega | (simp_all; omega) | simp_all)⟩)
              · refine L_no rfl rfl rfl (decide_eq_false h14) rfl ?_
                refine L_no rfl rfl rfl (decide_eq_false h14) rfl ?_
                refine L_no rfl rfl rfl (decide_eq_false h14) rfl ?_
                refine L_run (R_pickF rfl (decide_eq_false h14) rfl) rfl ?_
                refine L_run (R_move rfl) rfl ?_
                refine L_no rfl rfl rfl rfl rfl ?_
                refine L_no rfl rfl rfl rfl rfl ?_
                refine L_no rfl rfl rfl rfl rfl ?_
                refine L_run (R_pickF rfl rfl rfl) rfl ?_
                refine L_run (R_assign rfl) rfl ?_
                refine L_nil (N_then (C_ret (R_then ?_)))
                refine ret1 Try.results56 rfl ?_
                first
                  | (exfalso; omega)
                  | (exact ⟨hB, bF (by unfold SOk; first | omega | (simp_all; omega) | simp_all)⟩)
            · refine C_skip (N_then (C_seq (C_reg rfl ?_)))
              refine L_run (R_move rfl) rfl ?_
              refine L_run (R_move rfl) rfl ?_
              refine L_splitD (p := ct = 0) (fun h16 => ?_) (fun h16 => ?_)
              · refine L_yes rfl rfl rfl (decide_eq_true h16) ?_
                refine L_run (R_field (r := 1) rfl fld86_1 rfl) rfl ?_
                refine L_yes rfl rfl rfl (decide_eq_true h16) ?_
                refine L_run (R_load1 rfl scl3 (hb1.cell (i := 1) rfl)) rfl ?_
                refine L_yes rfl rfl rfl (decide_eq_true h16) ?_
                refine L_run (R_eql rfl rfl) rfl ?_
                refine L_run (R_pickT rfl (decide_eq_true h16) rfl) rfl ?_
                refine L_run (R_move rfl) rfl ?_
                refine L_splitD (p := n = 0) (fun h17 => ?_) (fun h17 => ?_)
                · refine L_yes rfl rfl rfl (decide_eq_true h17) ?_
                  refine L_run (R_field (r := 0) rfl fld86_0 rfl) rfl ?_
                  refine L_yes rfl rfl rfl (decide_eq_true h17) ?_
                  refine L_run (R_load1 rfl scl3 (hb1.cell (i := 0) rfl)) rfl ?_
                  refine L_yes rfl rfl rfl (decide_eq_true h17) ?_
                  refine L_run (R_eql rfl rfl) rfl ?_
                  refine L_yes rfl rfl rfl (decide_eq_true h17) ?_
                  refine L_run (R_move rfl) rfl ?_
                  refine L_splitD (p := kd = 2) (fun h18 => ?_) (fun h18 => ?_)
                  · refine L_no rfl rfl rfl (decide_eq_true h18) rfl ?_
                    refine L_no rfl rfl rfl (decide_eq_true h18) rfl ?_
                    refine L_no rfl rfl rfl (decide_eq_true h18) rfl ?_
                    refine L_yes rfl rfl rfl (decide_eq_true h17) ?_
                    refine L_run (R_pickT rfl (decide_eq_true h18) rfl) rfl ?_
                    refine L_yes rfl rfl rfl (decide_eq_true h17) ?_
                    refine L_run (R_move rfl) rfl ?_
                    refine L_no rfl rfl rfl rfl rfl ?_
                    refine L_no rfl rfl rfl rfl rfl ?_
                    refine L_no rfl rfl rfl rfl rfl ?_
                    refine L_yes rfl rfl rfl (decide_eq_true h17) ?_
                    refine L_run (R_pickT rfl rfl rfl) rfl ?_
                    refine L_run (R_pickT rfl (decide_eq_true h17) rfl) rfl ?_
                    refine L_run (R_assign rfl) rfl ?_
                    refine L_nil (N_then (C_ret ?_))
                    refine ret1 Try.results56 rfl ?_
                    first
                      | (exfalso; omega)
                      | (exact ⟨hB, bT (by unfold SOk; first | omega | (simp_all; omega) | simp_all)⟩)
                  · refine L_yes rfl rfl rfl (decide_eq_false h18) ?_
                    refine L_run (R_field (r := 0) rfl fld86_0 rfl) rfl ?_
                    refine L_yes rfl rfl rfl (decide_eq_false h18) ?_
                    refine L_run (R_load1 rfl scl3 (hb1.cell (i := 0) rfl)) rfl ?_
                    refine L_yes rfl rfl rfl (decide_eq_false h18) ?_
                    refine L_run (R_eql rfl rfl) rfl ?_
                    refine L_yes rfl rfl rfl (decide_eq_true h17) ?_
                    refine L_run (R_pickF rfl (decide_eq_false h18) rfl) rfl ?_
                    refine L_yes rfl rfl rfl (decide_eq_true h17) ?_
                    refine L_run (R_move rfl) rfl ?_
                    refine L_splitD (p := kd = 3) (fun h19 => ?_) (fun h19 => ?_)
                    · refine L_no rfl rfl rfl (decide_eq_true h19) rfl ?_
                      refine L_no rfl rfl rfl (decide_eq_true h19) rfl ?_
                      refine L_no rfl rfl rfl (decide_eq_true h19) rfl ?_
                      refine L_yes rfl rfl rfl (decide_eq_true h17) ?_
                      refine L_run (R_pickT rfl (decide_eq_true h19) rfl) rfl ?_
                      refine L_run (R_pickT rfl (decide_eq_true h17) rfl) rfl ?_
                      refine L_run (R_assign rfl) rfl ?_
                      refine L_nil (N_then (C_ret ?_))
                      refine ret1 Try.results56 rfl ?_
                      first
                        | (exfalso; omega)
                        | (exact ⟨hB, bT (by unfold SOk; first | omega | (simp_all; omega) | simp_all)⟩)
                    · refine L_yes rfl rfl rfl (decide_eq_false h19) ?_
                      refine L_run (R_field (r := 0) rfl fld86_0 rfl) rfl ?_
                      refine L_yes rfl rfl rfl (decide_eq_false h19) ?_
                      refine L_run (R_load1 rfl scl3 (hb1.cell (i := 0) rfl)) rfl ?_
                      refine L_yes rfl rfl rfl (decide_eq_false h19) ?_
                      refine L_run (R_eql rfl rfl) rfl ?_
                      refine L_yes rfl rfl rfl (decide_eq_true h17) ?_
                      refine L_run (R_pickF rfl (decide_eq_false h19) rfl) rfl ?_
                      refine L_run (R_pickT rfl (decide_eq_true h17) rfl) rfl ?_
                      refine L_run (R_assign rfl) rfl ?_
                      refine L_nil (N_then (C_ret ?_))
                      refine ret1 Try.results56 rfl ?_
                      first
                        | (exfalso; omega)
                        | (exact ⟨hB, bD (by unfold SOk; first | omega | (simp_all; omega) | simp_all)⟩)
                · refine L_no rfl rfl rfl (decide_eq_false h17) rfl ?_
                  refine L_no rfl rfl rfl (decide_eq_false h17) rfl ?_
                  refine L_no rfl rfl rfl (decide_eq_false h17) rfl ?_
                  refine L_no rfl rfl rfl (decide_eq_false h17) rfl ?_
                  refine L_noU rfl rfl rfl rfl ?_
                  refine L_noU rfl rfl rfl rfl ?_
                  refine L_noU rfl rfl rfl rfl ?_
                  refine L_no rfl rfl rfl (decide_eq_false h17) rfl ?_
                  refine L_no rfl rfl rfl (decide_eq_false h17) rfl ?_
                  refine L_noU rfl rfl rfl rfl ?_
                  refine L_noU rfl rfl rfl rfl ?_
                  refine L_noU rfl rfl rfl rfl ?_
                  refine L_no rfl rfl rfl (decide_eq_false h17) rfl ?_
                  refine L_run (R_pickF rfl (decide_eq_false h17) rfl) rfl ?_
                  refine L_run (R_assign rfl) rfl ?_
                  refine L_nil (N_then (C_ret ?_))
                  refine ret1 Try.results56 rfl ?_
                  first
                    | (exfalso; omega)
                    | (exact ⟨hB, bF (by unfold SOk; first | omega | (simp_all; omega) | simp_all)⟩)
              · refine L_no rfl rfl rfl (decide_eq_false h16) rfl ?_
                refine L_no rfl rfl rfl (decide_eq_false h16) rfl ?_
                refine L_no rfl rfl rfl (decide_eq_false h16) rfl ?_
                refine L_run (R_pickF rfl (decide_eq_false h16) rfl) rfl ?_
                refine L_run (R_move rfl) rfl ?_
                refine L_no rfl rfl rfl rfl rfl ?_
                refine L_no rfl rfl rfl rfl rfl ?_
                refine L_no rfl rfl rfl rfl rfl ?_
                refine L_no rfl rfl rfl rfl rfl ?_
                refine L_noU rfl rfl rfl rfl ?_
                refine L_noU rfl rfl rfl rfl ?_
                refine L_noU rfl rfl rfl rfl ?_
                refine L_no rfl rfl rfl rfl rfl ?_
                refine L_no rfl rfl rfl rfl rfl ?_
                refine L_noU rfl rfl rfl rfl ?_
                refine L_noU rfl rfl rfl rfl ?_
                refine L_noU rfl rfl rfl rfl ?_
                refine L_no rfl rfl rfl rfl rfl ?_
                refine L_run (R_pickF rfl rfl rfl) rfl ?_
                refine L_run (R_assign rfl) rfl ?_
                refine L_nil (N_then (C_ret ?_))
                refine ret1 Try.results56 rfl ?_
                first
                  | (exfalso; omega)
                  | (exact ⟨hB, bF (by unfold SOk; first | omega | (simp_all; omega) | simp_all)⟩)
    · refine L_no rfl rfl rfl (decide_eq_false h2) rfl ?_
      refine L_no rfl rfl rfl (decide_eq_false h2) rfl ?_
      refine L_no rfl rfl rfl (decide_eq_false h2) rfl ?_
      refine L_no rfl rfl rfl (decide_eq_false h2) rfl ?_
      refine L_run (R_pickF rfl (decide_eq_false h2) rfl) rfl ?_
      refine L_run (R_assign rfl) rfl ?_
      refine L_nil (N_then (C_seq (C_seq (C_reg rfl ?_))))
      refine L_run (R_field (r := 0) rfl fld86_0 rfl) rfl ?_
      refine L_run (R_load1 rfl scl3 (hb1.cell (i := 0) rfl)) rfl ?_
      refine L_run (R_eql rfl rfl) rfl ?_
      refine L_nil (N_then ?_)
      refine C_if rfl (fun h20 => ?_) (fun h20 => ?_)
      · refine C_seq (C_reg rfl ?_)
        refine L_run (R_field (r := 2) rfl fld86_2 rfl) rfl ?_
        refine L_run (R_load1 rfl scl80 (hb1.cell (i := 2) rfl)) rfl ?_
        refine L_call rfl cb73 (ref12_Right (l := ops) hS (by first | omega | (simp; done) | (simp; omega))) rfl ?_
        rintro _ w3 ⟨hs3, rfl⟩
        replace hB := gb_tr hB hs3
        replace hS := hS.gb hs3
        replace hb1 := hb1.gb hs3
        refine L_run (R_move rfl) rfl ?_
        refine L_splitD (p := OkL ops) (fun h21 => ?_) (fun h21 => ?_)
        · refine L_yes rfl rfl rfl (decide_eq_true h21) ?_
          refine L_run (R_field (r := 1) rfl fld86_1 rfl) rfl ?_
          refine L_yes rfl rfl rfl (decide_eq_true h21) ?_
          refine L_run (R_load1 rfl scl3 (hb1.cell (i := 1) rfl)) rfl ?_
          refine L_yes rfl rfl rfl (decide_eq_true h21) ?_
          refine L_run (R_eql rfl rfl) rfl ?_
          refine L_run (R_pickT rfl (decide_eq_true h21) rfl) rfl ?_
          refine L_run (R_move rfl) rfl ?_
          refine L_splitD (p := n = 0) (fun h22 => ?_) (fun h22 => ?_)
          · refine L_yes rfl rfl rfl (decide_eq_true h22) ?_
            refine L_run (R_move rfl) rfl ?_
            refine L_run (R_pickT rfl (decide_eq_true h22) rfl) rfl ?_
            refine L_run (R_assign rfl) rfl ?_
            refine L_nil (N_then (C_ret (R_then ?_)))
            refine ret1 Try.results56 rfl ?_
            first
              | (exfalso; omega)
              | (exact ⟨hB, bF (by unfold SOk; first | omega | (simp_all; omega) | simp_all)⟩)
          · refine L_no rfl rfl rfl (decide_eq_false h22) rfl ?_
            refine L_run (R_pickF rfl (decide_eq_false h22) rfl) rfl ?_
            refine L_run (R_assign rfl) rfl ?_
            refine L_nil (N_then (C_ret (R_then ?_)))
            refine ret1 Try.results56 rfl ?_
            first
              | (exfalso; omega)
              | (exact ⟨hB, bF (by unfold SOk; first | omega | (simp_all; omega) | simp_all)⟩)
        · refine L_no rfl rfl rfl (decide_eq_false h21) rfl ?_
          refine L_no rfl rfl rfl (decide_eq_false h21) rfl ?_
          refine L_no rfl rfl rfl (decide_eq_false h21) rfl ?_
          refine L_run (R_pickF rfl (decide_eq_false h21) rfl) rfl ?_
          refine L_run (R_move rfl) rfl ?_
          refine L_no rfl rfl rfl rfl rfl ?_
          refine L_run (R_pickF rfl rfl rfl) rfl ?_
          refine L_run (R_assign rfl) rfl ?_
          refine L_nil (N_then (C_ret (R_then ?_)))
          refine ret1 Try.results56 rfl ?_
          first
            | (exfalso; omega)
            | (exact ⟨hB, bF (by unfold SOk; first | omega | (simp_all; omega) | simp_all)⟩)
      · refine C_skip (N_then (C_seq (C_seq (C_reg rfl ?_))))
        refine L_run (R_field (r := 2) rfl fld86_2 rfl) rfl ?_
        refine L_run (R_load1 rfl scl80 (hb1.cell (i := 2) rfl)) rfl ?_
        refine L_run (R_lenSl rfl slc80) rfl ?_
        refine L_run (R_gtr rfl rfl) rfl ?_
        refine L_nil (N_then ?_)
        refine C_if rfl (fun h23 => ?_) (fun h23 => ?_)
        · refine C_seq (C_reg rfl ?_)
          refine L_run (R_assign rfl) rfl ?_
          refine L_nil (N_then (C_ret (R_then ?_)))
          refine ret1 Try.results56 rfl ?_
          first
            | (exfalso; omega)
            | (exact ⟨hB, bF (by unfold SOk; first | omega | (simp_all; omega) | simp_all)⟩)
        · refine C_skip (N_then (C_seq (C_seq (C_reg rfl ?_))))
          refine L_run (R_field (r := 0) rfl fld86_0 rfl) rfl ?_
          refine L_run (R_load1 rfl scl3 (hb1.cell (i := 0) rfl)) rfl ?_
          refine L_run (R_eql rfl rfl) rfl ?_
          refine L_nil (N_then ?_)
          refine C_if rfl (fun h24 => ?_) (fun h24 => ?_)
          · refine C_seq (C_reg rfl ?_)
            refine L_run (R_field (r := 1) rfl fld86_1 rfl) rfl ?_
            refine L_run (R_load1 rfl scl3 (hb1.cell (i := 1) rfl)) rfl ?_
            refine L_run (R_eql rfl rfl) rfl ?_
            refine L_run (R_move rfl) rfl ?_
            refine L_splitD (p := n = 0) (fun h25 => ?_) (fun h25 => ?_)
            · refine L_yes rfl rfl rfl (decide_eq_true h25) ?_
              refine L_run (R_field (r := 3) rfl fld86_3 rfl) rfl ?_
              refine L_yes rfl rfl rfl (decide_eq_true h25) ?_
              refine L_run (R_field (r := 3) rfl fld84_0 rfl) rfl ?_
              refine L_yes rfl rfl rfl (decide_eq_true h25) ?_
              refine L_run (R_load1 rfl scl63 (hb1.cell (i := 3) rfl)) rfl ?_
              refine L_yes rfl rfl rfl (decide_eq_true h25) ?_
              refine L_run (R_lenSl rfl slc63) rfl ?_
              refine L_yes rfl rfl rfl (decide_eq_true h25) ?_
              refine L_run (R_leq rfl rfl) rfl ?_
              refine L_run (R_pickT rfl (decide_eq_true h25) rfl) rfl ?_
              refine L_run (R_move rfl) rfl ?_
              refine L_splitD (p := (kn : Int) ≤ 64) (fun h26 => ?_) (fun h26 => ?_)
              · refine L_yes rfl rfl rfl (decide_eq_true h26) ?_
                refine L_run (R_field (r := 3) rfl fld86_3 rfl) rfl ?_
                refine L_yes rfl rfl rfl (decide_eq_true h26) ?_
                refine L_run (R_field (r := 4) rfl fld84_1 rfl) rfl ?_
                refine L_yes rfl rfl rfl (decide_eq_true h26) ?_
                refine L_run (R_load1 rfl scl3 (hb1.cell (i := 4) rfl)) rfl ?_
                refine L_yes rfl rfl rfl (decide_eq_true h26) ?_
                refine L_run (R_geq rfl rfl) rfl ?_
                refine L_run (R_pickT rfl (decide_eq_true h26) rfl) rfl ?_
                refine L_run (R_move rfl) rfl ?_
                refine L_splitD (p := -1 ≤ tn) (fun h27 => ?_) (fun h27 => ?_)
                · refine L_yes rfl rfl rfl (decide_eq_true h27) ?_
                  refine L_run (R_field (r := 3) rfl fld86_3 rfl) rfl ?_
                  refine L_yes rfl rfl rfl (decide_eq_true h27) ?_
                  refine L_run (R_field (r := 4) rfl fld84_1 rfl) rfl ?_
                  refine L_yes rfl rfl rfl (decide_eq_true h27) ?_
                  refine L_run (R_load1 rfl scl3 (hb1.cell (i := 4) rfl)) rfl ?_
                  refine L_yes rfl rfl rfl (decide_eq_true h27) ?_
                  refine L_run (R_leq rfl rfl) rfl ?_
                  refine L_run (R_pickT rfl (decide_eq_true h27) rfl) rfl ?_
                  refine L_run (R_move rfl) rfl ?_
                  refine L_splitD (p := tn ≤ 254) (fun h28 => ?_) (fun h28 => ?_)
                  · refine L_yes rfl rfl rfl (decide_eq_true h28) ?_
                    refine L_run (R_field (r := 3) rfl fld86_3 rfl) rfl ?_
                    refine L_yes rfl rfl rfl (decide_eq_true h28) ?_
                    refine L_run (R_field (r := 5) rfl fld84_2 rfl) rfl ?_
                    refine L_yes rfl rfl rfl (decide_eq_true h28) ?_
                    refine L_run (R_load1 rfl scl3 (hb1.cell (i := 5) rfl)) rfl ?_
                    refine L_yes rfl rfl rfl (decide_eq_true h28) ?_
                    refine L_run (R_geq rfl rfl) rfl ?_
                    refine L_run (R_pickT rfl (decide_eq_true h28) rfl) rfl ?_
                    refine L_run (R_move rfl) rfl ?_
                    refine L_splitD (p := 0 ≤ ct) (fun h29 => ?_) (fun h29 => ?_)
                    · refine L_yes rfl rfl rfl (decide_eq_true h29) ?_
                      refine L_run (R_field (r := 3) rfl fld86_3 rfl) rfl ?_
                      refine L_yes rfl rfl rfl (decide_eq_true h29) ?_
                      refine L_run (R_field (r := 5) rfl fld84_2 rfl) rfl ?_
                      refine L_yes rfl rfl rfl (decide_eq_true h29) ?_
                      refine L_run (R_load1 rfl scl3 (hb1.cell (i := 5) rfl)) rfl ?_
                      refine L_yes rfl rfl rfl (decide_eq_true h29) ?_
                      refine L_run (R_leq rfl rfl) rfl ?_
                      refine L_run (R_pickT rfl (decide_eq_true h29) rfl) rfl ?_
                      refine L_run (R_assign rfl) rfl ?_
                      refine L_nil (N_then (C_ret (R_then ?_)))
                      refine ret1 Try.results56 rfl ?_
                      first
                        | (exfalso; omega)
                        | (exact ⟨hB, bD (by unfold SOk; first | omega | (simp_all; omega) | simp_all)⟩)
                    · refine L_no rfl rfl rfl (decide_eq_false h29) rfl ?_
                      refine L_no rfl rfl rfl (decide_eq_false h29) rfl ?_
                      refine L_no rfl rfl rfl (decide_eq_false h29) rfl ?_
                      refine L_no rfl rfl rfl (decide_eq_false h29) rfl ?_
                      refine L_run (R_pickF rfl (decide_eq_false h29) rfl) rfl ?_
                      refine L_run (R_assign rfl) rfl ?_
                      refine L_nil (N_then (C_ret (R_then ?_)))
                      refine ret1 Try.results56 rfl ?_
                      first
                        | (exfalso; omega)
                        | (exact ⟨hB, bF (by unfold SOk; first | omega | (simp_all; omega) | simp_all)⟩)
                  · refine L_no rfl rfl rfl (decide_eq_false h28) rfl ?_
                    refine L_no rfl rfl rfl (decide_eq_false h28) rfl ?_
                    refine L_no rfl rfl rfl (decide_eq_false h28) rfl ?_
                    refine L_no rfl rfl rfl (decide_eq_false h28) rfl ?_
                    refine L_run (R_pickF rfl (decide_eq_false h28) rfl) rfl ?_
                    refine L_run (R_move rfl) rfl ?_
                    refine L_no rfl rfl rfl rfl rfl ?_
                    refine L_no rfl rfl rfl rfl rfl ?_
                    refine L_no rfl rfl rfl rfl rfl ?_
                    refine L_no rfl rfl rfl rfl rfl ?_
                    refine L_run (R_pickF rfl rfl rfl) rfl ?_
                    refine L_run (R_assign rfl) rfl ?_
                    refine L_nil (N_then (C_ret (R_then ?_)))
                    refine ret1 Try.results56 rfl ?_
                    first
                      | (exfalso; omega)
                      | (exact ⟨hB, bF (by unfold SOk; first | omega | (simp_all; omega) | simp_all)⟩)
                · refine L_no rfl rfl rfl (decide_eq_false h27) rfl ?_
                  refine L_no rfl rfl rfl (decide_eq_false h27) rfl ?_
                  refine L_no rfl rfl rfl (decide_eq_false h27) rfl ?_
                  refine L_no rfl rfl rfl (decide_eq_false h27) rfl ?_
                  refine L_run (R_pickF rfl (decide_eq_false h27) rfl) rfl ?_
                  refine L_run (R_move rfl) rfl ?_
                  refine L_no rfl rfl rfl rfl rfl ?_
                  refine L_no rfl rfl rfl rfl rfl ?_
                  refine L_no rfl rfl rfl rfl rfl ?_
                  refine L_no rfl rfl rfl rfl rfl ?_
                  refine L_run (R_pickF rfl rfl rfl) rfl ?_
                  refine L_run (R_move rfl) rfl ?_
                  refine L_no rfl rfl rfl rfl rfl ?_
                  refine L_no rfl rfl rfl rfl rfl ?_
                  refine L_no rfl rfl rfl rfl rfl ?_
                  refine L_no rfl rfl rfl rfl rfl ?_
                  refine L_run (R_pickF rfl rfl rfl) rfl ?_
                  refine L_run (R_assign rfl) rfl ?_
                  refine L_nil (N_then (C_ret (R_then ?_)))
                  refine ret1 Try.results56 rfl ?_
                  first
                    | (exfalso; omega)
                    | (exact ⟨hB, bF (by unfold SOk; first | omega | (simp_all; omega) | simp_all)⟩)
              · refine L_no rfl rfl rfl (decide_eq_false h26) rfl ?_
                refine L_no rfl rfl rfl (decide_eq_false h26) rfl ?_
                refine L_no rfl rfl rfl (decide_eq_false h26) rfl ?_
                refine L_no rfl rfl rfl (decide_eq_false h26) rfl ?_
                refine L_run (R_pickF rfl (decide_eq_false h26) rfl) rfl ?_
                refine L_run (R_move rfl) rfl ?_
                refine L_no rfl rfl rfl rfl rfl ?_
                refine L_no rfl rfl rfl rfl rfl ?_
                refine L_no rfl rfl rfl rfl rfl ?_
                refine L_no rfl rfl rfl rfl rfl ?_
                refine L_run (R_pickF rfl rfl rfl) rfl ?_
                refine L_run (R_move rfl) rfl ?_
                refine L_no rfl rfl rfl rfl rfl ?_
                refine L_no rfl rfl rfl rfl rfl ?_
                refine L_no rfl rfl rfl rfl rfl ?_
                refine L_no rfl rfl rfl rfl rfl ?_
                refine L_run (R_pickF rfl rfl rfl) rfl ?_
                refine L_run (R_move rfl) rfl ?_
                refine L_no rfl rfl rfl rfl rfl ?_
                refine L_no rfl rfl rfl rfl rfl ?_
                refine L_no rfl rfl rfl rfl rfl ?_
                refine L_no rfl rfl rfl rfl rfl ?_
                refine L_run (R_pickF rfl rfl rfl) rfl ?_
                refine L_run (R_assign rfl) rfl ?_
                refine L_nil (N_then (C_ret (R_then ?_)))
                refine ret1 Try.results56 rfl ?_
                first
                  | (exfalso; omega)
                  | (exact ⟨hB, bF (by unfold SOk; first | omega | (simp_all; omega) | simp_all)⟩)
            · refine L_no rfl rfl rfl (decide_eq_false h25) rfl ?_
              refine L_no rfl rfl rfl (decide_eq_false h25) rfl ?_
              refine L_no rfl rfl rfl (decide_eq_false h25) rfl ?_
              refine L_no rfl rfl rfl (decide_eq_false h25) rfl ?_
              refine L_no rfl rfl rfl (decide_eq_false h25) rfl ?_
              refine L_run (R_pickF rfl (decide_eq_false h25) rfl) rfl ?_
              refine L_run (R_move rfl) rfl ?_
              refine L_no rfl rfl rfl rfl rfl ?_
              refine L_no rfl rfl rfl rfl rfl ?_
              refine L_no rfl rfl rfl rfl rfl ?_
              refine L_no rfl rfl rfl rfl rfl ?_
              refine L_run (R_pickF rfl rfl rfl) rfl ?_
              refine L_run (R_move rfl) rfl ?_
              refine L_no rfl rfl rfl rfl rfl ?_
              refine L_no rfl rfl rfl rfl rfl ?_
              refine L_no rfl rfl rfl rfl rfl ?_
              refine L_no rfl rfl rfl rfl rfl ?_
              refine L_run (R_pickF rfl rfl rfl) rfl ?_
              refine L_run (R_move rfl) rfl ?_
              refine L_no rfl rfl rfl rfl rfl ?_
              refine L_no rfl rfl rfl rfl rfl ?_
              refine L_no rfl rfl rfl rfl rfl ?_
              refine L_no rfl rfl rfl rfl rfl ?_
              refine L_run (R_pickF rfl rfl rfl) rfl ?_
              refine L_run (R_move rfl) rfl ?_
              refine L_no rfl rfl rfl rfl rfl ?_
              refine L_no rfl rfl rfl rfl rfl ?_
              refine L_no rfl rfl rfl rfl rfl ?_
              refine L_no rfl rfl rfl rfl rfl ?_
              refine L_run (R_pickF rfl rfl rfl) rfl ?_
              refine L_run (R_assign rfl) rfl ?_
              refine L_nil (N_then (C_ret (R_then ?_)))
              refine ret1 Try.results56 rfl ?_
              first
                | (exfalso; omega)
                | (exact ⟨hB, bF (by unfold SOk; first | omega | (simp_all; omega) | simp_all)⟩)
          · refine C_skip (N_then (C_seq (C_seq (C_reg rfl ?_))))
            refine L_run (R_field (r := 0) rfl fld86_0 rfl) rfl ?_
            refine L_run (R_load1 rfl scl3 (hb1.cell (i := 0) rfl)) rfl ?_
            refine L_run (R_eql rfl rfl) rfl ?_
            refine L_nil (N_then ?_)
            refine C_if rfl (fun h30 => ?_) (fun h30 => ?_)
            · refine C_seq (C_reg rfl ?_)
              refine L_run (R_move rfl) rfl ?_
              refine L_run (R_move rfl) rfl ?_
              refine L_no rfl rfl rfl rfl rfl ?_
              refine L_no rfl rfl rfl rfl rfl ?_
              refine L_no rfl rfl rfl rfl rfl ?_
              refine L_run (R_pickF rfl rfl rfl) rfl ?_
              refine L_run (R_move rfl) rfl ?_
              refine L_no rfl rfl rfl rfl rfl ?_
              refine L_no rfl rfl rfl rfl rfl ?_
              refine L_no rfl rfl rfl rfl rfl ?_
              refine L_run (R_pickF rfl rfl rfl) rfl ?_
              refine L_run (R_assign rfl) rfl ?_
              refine L_nil (N_then (C_ret (R_then ?_)))
              refine ret1 Try.results56 rfl ?_
              first
                | (exfalso; omega)
                | (exact ⟨hB, bF (by unfold SOk; first | omega | (simp_all; omega) | simp_all)⟩)
            · refine C_skip (N_then (C_seq (C_reg rfl ?_)))
              refine L_run (R_move rfl) rfl ?_
              refine L_run (R_move rfl) rfl ?_
              refine L_no rfl rfl rfl rfl rfl ?_
              refine L_no rfl rfl rfl rfl rfl ?_
              refine L_no rfl rfl rfl rfl rfl ?_
              refine L_run (R_pickF rfl rfl rfl) rfl ?_
              refine L_run (R_move rfl) rfl ?_
              refine L_no rfl rfl rfl rfl rfl ?_
              refine L_no rfl rfl rfl rfl rfl ?_
              refine L_no rfl rfl rfl rfl rfl ?_
              refine L_no rfl rfl rfl rfl rfl ?_
              refine L_noU rfl rfl rfl rfl ?_
              refine L_noU rfl rfl rfl rfl ?_
              refine L_noU rfl rfl rfl rfl ?_
              refine L_no rfl rfl rfl rfl rfl ?_
              refine L_no rfl rfl rfl rfl rfl ?_
              refine L_noU rfl rfl rfl rfl ?_
              refine L_noU rfl rfl rfl rfl ?_
              refine L_noU rfl rfl rfl rfl ?_
              refine L_no rfl rfl rfl rfl rfl ?_
              refine L_run (R_pickF rfl rfl rfl) rfl ?_
              refine L_run (R_assign rfl) rfl ?_
              refine L_nil (N_then (C_ret ?_))
              refine ret1 Try.results56 rfl ?_
              first
                | (exfalso; omega)
                | (exact ⟨hB, bF (by unfold SOk; first | omega | (simp_all; omega) | simp_all)⟩)
  · refine L_no rfl rfl rfl (decide_eq_false h1) rfl ?_
    refine L_no rfl rfl rfl (decide_eq_false h1) rfl ?_
    refine L_no rfl rfl rfl (decide_eq_false h1) rfl ?_
    refine L_no rfl rfl rfl (decide_eq_false h1) rfl ?_
    refine L_run (R_pickF rfl (decide_eq_false h1) rfl) rfl ?_
    refine L_run (R_move rfl) rfl ?_
    refine L_no rfl rfl rfl rfl rfl ?_
    refine L_no rfl rfl rfl rfl rfl ?_
    refine L_no rfl rfl rfl rfl rfl ?_
    refine L_no rfl rfl rfl rfl rfl ?_
    refine L_run (R_pickF rfl rfl rfl) rfl ?_
    refine L_run (R_assign rfl) rfl ?_
    refine L_nil (N_then (C_seq (C_seq (C_reg rfl ?_))))
    refine L_run (R_field (r := 0) rfl fld86_0 rfl) rfl ?_
    refine L_run (R_load1 rfl scl3 (hb1.cell (i := 0) rfl)) rfl ?_
    refine L_run (R_eql rfl rfl) rfl ?_
    refine L_nil (N_then ?_)
    refine C_if rfl (fun h31 => ?_) (fun h31 => ?_)
    · refine C_seq (C_reg rfl ?_)
      refine L_run (R_field (r := 2) rfl fld86_2 rfl) rfl ?_
      refine L_run (R_load1 rfl scl80 (hb1.cell (i := 2) rfl)) rfl ?_
      refine L_call rfl cb73 (ref12_Right (l := ops) hS (by first | omega | (simp; done) | (simp; omega))) rfl ?_
      rintro _ w4 ⟨hs4, rfl⟩
      replace hB := gb_tr hB hs4
      replace hS := hS.gb hs4
      replace hb1 := hb1.gb hs4
      refine L_run (R_move rfl) rfl ?_
      refine L_splitD (p := OkL ops) (fun h32 => ?_) (fun h32 => ?_)
      · refine L_yes rfl rfl rfl (decide_eq_true h32) ?_
        refine L_run (R_field (r := 1) rfl fld86_1 rfl) rfl ?_
        refine L_yes rfl rfl rfl (decide_eq_true h32) ?_
        refine L_run (R_load1 rfl scl3 (hb1.cell (i := 1) rfl)) rfl ?_
        refine L_yes rfl rfl rfl (decide_eq_true h32) ?_
        refine L_run (R_eql rfl rfl) rfl ?_
        refine L_run (R_pickT rfl (decide_eq_true h32) rfl) rfl ?_
        refine L_run (R_move rfl) rfl ?_
        refine L_splitD (p := n = 0) (fun h33 => ?_) (fun h33 => ?_)
        · refine L_yes rfl rfl rfl (decide_eq_true h33) ?_
          refine L_run (R_move rfl) rfl ?_
          refine L_run (R_pickT rfl (decide_eq_true h33) rfl) rfl ?_
          refine L_run (R_assign rfl) rfl ?_
          refine L_nil (N_then (C_ret (R_then ?_)))
          refine ret1 Try.results56 rfl ?_
          first
            | (exfalso; omega)
            | (exact ⟨hB, bF (by unfold SOk; first | omega | (simp_all; omega) | simp_all)⟩)
        · refine L_no rfl rfl rfl (decide_eq_false h33) rfl ?_
          refine L_run (R_pickF rfl (decide_eq_false h33) rfl) rfl ?_
          refine L_run (R_assign rfl) rfl ?_
          refine L_nil (N_then (C_ret (R_then ?_)))
          refine ret1 Try.results56 rfl ?_
          first
            | (exfalso; omega)
            | (exact ⟨hB, bF (by unfold SOk; first | omega | (simp_all; omega) | simp_all)⟩)
      · refine L_no rfl rfl rfl (decide_eq_false h32) rfl ?_
        refine L_no rfl rfl rfl (decide_eq_false h32) rfl ?_
        refine L_no rfl rfl rfl (decide_eq_false h32) rfl ?_
        refine L_run (R_pickF rfl (decide_eq_false h32) rfl) rfl ?_
        refine L_run (R_move rfl) rfl ?_
        refine L_no rfl rfl rfl rfl rfl ?_
        refine L_run (R_pickF rfl rfl rfl) rfl ?_
        refine L_run (R_assign rfl) rfl ?_
        refine L_nil (N_then (C_ret (R_then ?_)))
        refine ret1 Try.results56 rfl ?_
        first
          | (exfalso; omega)
          | (exact ⟨hB, bF (by unfold SOk; first | omega | (simp_all; omega) | simp_all)⟩)
    · refine C_skip (N_then (C_seq (C_seq (C_reg rfl ?_))))
      refine L_run (R_field (r := 2) rfl fld86_2 rfl) rfl ?_
      refine L_run (R_load1 rfl scl80 (hb1.cell (i := 2) rfl)) rfl ?_
      refine L_run (R_lenSl rfl slc80) rfl ?_
      refine L_run (R_gtr rfl rfl) rfl ?_
      refine L_nil (N_then ?_)
      refine C_if rfl (fun h34 => ?_) (fun h34 => ?_)
      · refine C_seq (C_reg rfl ?_)
        refine L_run (R_assign rfl) rfl ?_
        refine L_nil (N_then (C_ret (R_then ?_)))
        refine ret1 Try.results56 rfl ?_
        first
          | (exfalso; omega)
          | (exact ⟨hB, bF (by unfold SOk; first | omega | (simp_all; omega) | simp_all)⟩)
      · refine C_skip (N_then (C_seq (C_seq (C_reg rfl ?_))))
        refine L_run (R_field (r := 0) rfl fld86_0 rfl) rfl ?_
        refine L_run (R_load1 rfl scl3 (hb1.cell (i := 0) rfl)) rfl ?_
        refine L_run (R_eql rfl rfl) rfl ?_
        refine L_nil (N_then ?_)
        refine C_if rfl (fun h35 => ?_) (fun h35 => ?_)
        · refine C_seq (C_reg rfl ?_)
          refine L_run (R_field (r := 1) rfl fld86_1 rfl) rfl ?_
          refine L_run (R_load1 rfl scl3 (hb1.cell (i := 1) rfl)) rfl ?_
          refine L_run (R_eql rfl rfl) rfl ?_
          refine L_run (R_move rfl) rfl ?_
          refine L_splitD (p := n = 0) (fun h36 => ?_) (fun h36 => ?_)
          · refine L_yes rfl rfl rfl (decide_eq_true h36) ?_
            refine L_run (R_field (r := 3) rfl fld86_3 rfl) rfl ?_
            refine L_yes rfl rfl rfl (decide_eq_true h36) ?_
            refine L_run (R_field (r := 3) rfl fld84_0 rfl) rfl ?_
            refine L_yes rfl rfl rfl (decide_eq_true h36) ?_
            refine L_run (R_load1 rfl scl63 (hb1.cell (i := 3) rfl)) rfl ?_
            refine L_yes rfl rfl rfl (decide_eq_true h36) ?_
            refine L_run (R_lenSl rfl slc63) rfl ?_
            refine L_yes rfl rfl rfl (decide_eq_true h36) ?_
            refine L_run (R_leq rfl rfl) rfl ?_
            refine L_run (R_pickT rfl (decide_eq_true h36) rfl) rfl ?_
            refine L_run (R_move rfl) rfl ?_
            refine L_splitD (p := (kn : Int) ≤ 64) (fun h37 => ?_) (fun h37 => ?_)
            · refine L_yes rfl rfl rfl (decide_eq_true h37) ?_
              refine L_run (R_field (r := 3) rfl fld86_3 rfl) rfl ?_
              refine L_yes rfl rfl rfl (decide_eq_true h37) ?_
              refine L_run (R_field (r := 4) rfl fld84_1 rfl) rfl ?_
              refine L_yes rfl rfl rfl (decide_eq_true h37) ?_
              refine L_run (R_load1 rfl scl3 (hb1.cell (i := 4) rfl)) rfl ?_
              refine L_yes rfl rfl rfl (decide_eq_true h37) ?_
              refine L_run (R_geq rfl rfl) rfl ?_
              refine L_run (R_pickT rfl (decide_eq_true h37) rfl) rfl ?_
              refine L_run (R_move rfl) rfl ?_
              refine L_splitD (p := -1 ≤ tn) (fun h38 => ?_) (fun h38 => ?_)
              · refine L_yes rfl rfl rfl (decide_eq_true h38) ?_
                refine L_run (R_field (r := 3) rfl fld86_3 rfl) rfl ?_
                refine L_yes rfl rfl rfl (decide_eq_true h38) ?_
                refine L_run (R_field (r := 4) rfl fld84_1 rfl) rfl ?_
                refine L_yes rfl rfl rfl (decide_eq_true h38) ?_
                refine L_run (R_load1 rfl scl3 (hb1.cell (i := 4) rfl)) rfl ?_
                refine L_yes rfl rfl rfl (decide_eq_true h38) ?_
                refine L_run (R_leq rfl rfl) rfl ?_
                refine L_run (R_pickT rfl (decide_eq_true h38) rfl) rfl ?_
                refine L_run (R_move rfl) rfl ?_
                refine L_splitD (p := tn ≤ 254) (fun h39 => ?_) (fun h39 => ?_)
                · refine L_yes rfl rfl rfl (decide_eq_true h39) ?_
                  refine L_run (R_field (r := 3) rfl fld86_3 rfl) rfl ?_
                  refine L_yes rfl rfl rfl (decide_eq_true h39) ?_
                  refine L_run (R_field (r := 5) rfl fld84_2 rfl) rfl ?_
                  refine L_yes rfl rfl rfl (decide_eq_true h39) ?_
                  refine L_run (R_load1 rfl scl3 (hb1.cell (i := 5) rfl)) rfl ?_
                  refine L_yes rfl rfl rfl (decide_eq_true h39) ?_
                  refine L_run (R_geq rfl rfl) rfl ?_
                  refine L_run (R_pickT rfl (decide_eq_true h39) rfl) rfl ?_
                  refine L_run (R_move rfl) rfl ?_
                  refine L_splitD (p := 0 ≤ ct) (fun h40 => ?_) (fun h40 => ?_)
                  · refine L_yes rfl rfl rfl (decide_eq_true h40) ?_
                    refine L_run (R_field (r := 3) rfl fld86_3 rfl) rfl ?_
                    refine L_yes rfl rfl rfl (decide_eq_true h40) ?_
                    refine L_run (R_field (r := 5) rfl fld84_2 rfl) rfl ?_
                    refine L_yes rfl rfl rfl (decide_eq_true h40) ?_
                    refine L_run (R_load1 rfl scl3 (hb1.cell (i := 5) rfl)) rfl ?_
                    refine L_yes rfl rfl rfl (decide_eq_true h40) ?_
                    refine L_run (R_leq rfl rfl) rfl ?_
                    refine L_run (R_pickT rfl (decide_eq_true h40) rfl) rfl ?_
                    refine L_run (R_assign rfl) rfl ?_
                    refine L_nil (N_then (C_ret (R_then ?_)))
                    refine ret1 Try.results56 rfl ?_
                    first
                      | (exfalso; omega)
                      | (exact ⟨hB, bD (by unfold SOk; first | omega | (simp_all; omega) | simp_all)⟩)
                  · refine L_no rfl rfl rfl (decide_eq_false h40) rfl ?_
                    refine L_no rfl rfl rfl (decide_eq_false h40) rfl ?_
                    refine L_no rfl rfl rfl (decide_eq_false h40) rfl ?_
                    refine L_no rfl rfl rfl (decide_eq_false h40) rfl ?_
                    refine L_run (R_pickF rfl (decide_eq_false h40) rfl) rfl ?_
                    refine L_run (R_assign rfl) rfl ?_
                    refine L_nil (N_then (C_ret (R_then ?_)))
                    refine ret1 Try.results56 rfl ?_
                    first
                      | (exfalso; omega)
                      | (exact ⟨hB, bF (by unfold SOk; first | omega | (simp_all; omega) | simp_all)⟩)
                · refine L_no rfl rfl rfl (decide_eq_false h39) rfl ?_
                  refine L_no rfl rfl rfl (decide_eq_false h39) rfl ?_
                  refine L_no rfl rfl rfl (decide_eq_false h39) rfl ?_
                  refine L_no rfl rfl rfl (decide_eq_false h39) rfl ?_
                  refine L_run (R_pickF rfl (decide_eq_false h39) rfl) rfl ?_
                  refine L_run (R_move rfl) rfl ?_
                  refine L_no rfl rfl rfl rfl rfl ?_
                  refine L_no rfl rfl rfl rfl rfl ?_
                  refine L_no rfl rfl rfl rfl rfl ?_
                  refine L_no rfl rfl rfl rfl rfl ?_
                  refine L_run (R_pickF rfl rfl rfl) rfl ?_
                  refine L_run (R_assign rfl) rfl ?_
                  refine L_nil (N_then (C_ret (R_then ?_)))
                  refine ret1 Try.results56 rfl ?_
                  first
                    | (exfalso; omega)
                    | (exact ⟨hB, bF (by unfold SOk; first | omega | (simp_all; omega) | simp_all)⟩)
              · refine L_no rfl rfl rfl (decide_eq_false h38) rfl ?_
                refine L_no rfl rfl rfl (decide_eq_false h38) rfl ?_
                refine L_no rfl rfl rfl (decide_eq_false h38) rfl ?_
                refine L_no rfl rfl rfl (decide_eq_false h38) rfl ?_
                refine L_run (R_pickF rfl (decide_eq_false h38) rfl) rfl ?_
                refine L_run (R_move rfl) rfl ?_
                refine L_no rfl rfl rfl rfl rfl ?_
                refine L_no rfl rfl rfl rfl rfl ?_
                refine L_no rfl rfl rfl rfl rfl ?_
                refine L_no rfl rfl rfl rfl rfl ?_
                refine L_run (R_pickF rfl rfl rfl) rfl ?_
                refine L_run (R_move rfl) rfl ?_
                refine L_no rfl rfl rfl rfl rfl ?_
                refine L_no rfl rfl rfl rfl rfl ?_
                refine L_no rfl rfl rfl rfl rfl ?_
                refine L_no rfl rfl rfl rfl rfl ?_
                refine L_run (R_pickF rfl rfl rfl) rfl ?_
                refine L_run (R_assign rfl) rfl ?_
                refine L_nil (N_then (C_ret (R_then ?_)))
                refine ret1 Try.results56 rfl ?_
                first
                  | (exfalso; omega)
                  | (exact ⟨hB, bF (by unfold SOk; first | omega | (simp_all; omega) | simp_all)⟩)
            · refine L_no rfl rfl rfl (decide_eq_false h37) rfl ?_
              refine L_no rfl rfl rfl (decide_eq_false h37) rfl ?_
              refine L_no rfl rfl rfl (decide_eq_false h37) rfl ?_
              refine L_no rfl rfl rfl (decide_eq_false h37) rfl ?_
              refine L_run (R_pickF rfl (decide_eq_false h37) rfl) rfl ?_
              refine L_run (R_move rfl) rfl ?_
              refine L_no rfl rfl rfl rfl rfl ?_
              refine L_no rfl rfl rfl rfl rfl ?_
              refine L_no rfl rfl rfl rfl rfl ?_
              refine L_no rfl rfl rfl rfl rfl ?_
              refine L_run (R_pickF rfl rfl rfl) rfl ?_
              refine L_run (R_move rfl) rfl ?_
              refine L_no rfl rfl rfl rfl rfl ?_
              refine L_no rfl rfl rfl rfl rfl ?_
              refine L_no rfl rfl rfl rfl rfl ?_
              refine L_no rfl rfl rfl rfl rfl ?_
              refine L_run (R_pickF rfl rfl rfl) rfl ?_
              refine L_run (R_move rfl) rfl ?_
              refine L_no rfl rfl rfl rfl rfl ?_
              refine L_no rfl rfl rfl rfl rfl ?_
              refine L_no rfl rfl rfl rfl rfl ?_
              refine L_no rfl rfl rfl rfl rfl ?_
              refine L_run (R_pickF rfl rfl rfl) rfl ?_
              refine L_run (R_assign rfl) rfl ?_
              refine L_nil (N_then (C_ret (R_then ?_)))
              refine ret1 Try.results56 rfl ?_
              first
                | (exfalso; omega)
                | (exact ⟨hB, bF (by unfold SOk; first | omega | (simp_all; omega) | simp_all)⟩)
          · refine L_no rfl rfl rfl (decide_eq_false h36) rfl ?_
            refine L_no rfl rfl rfl (decide_eq_false h36) rfl ?_
            refine L_no rfl rfl rfl (decide_eq_false h36) rfl ?_
            refine L_no rfl rfl rfl (decide_eq_false h36) rfl ?_
            refine L_no rfl rfl rfl (decide_eq_false h36) rfl ?_
            refine L_run (R_pickF rfl (decide_eq_false h36) rfl) rfl ?_
            refine L_run (R_move rfl) rfl ?_
            refine L_no rfl rfl rfl rfl rfl ?_
            refine L_no rfl rfl rfl rfl rfl ?_
            refine L_no rfl rfl rfl rfl rfl ?_
            refine L_no rfl rfl rfl rfl rfl ?_
            refine L_run (R_pickF rfl rfl rfl) rfl ?_
            refine L_run (R_move rfl) rfl ?_
            refine L_no rfl rfl rfl rfl rfl ?_
            refine L_no rfl rfl rfl rfl rfl ?_
            refine L_no rfl rfl rfl rfl rfl ?_
            refine L_no rfl rfl rfl rfl rfl ?_
            refine L_run (R_pickF rfl rfl rfl) rfl ?_
            refine L_run (R_move rfl) rfl ?_
            refine L_no rfl rfl rfl rfl rfl ?_
            refine L_no rfl rfl rfl rfl rfl ?_
            refine L_no rfl rfl rfl rfl rfl ?_
            refine L_no rfl rfl rfl rfl rfl ?_
            refine L_run (R_pickF rfl rfl rfl) rfl ?_
            refine L_run (R_move rfl) rfl ?_
            refine L_no rfl rfl rfl rfl rfl ?_
            refine L_no rfl rfl rfl rfl rfl ?_
            refine L_no rfl rfl rfl rfl rfl ?_
            refine L_no rfl rfl rfl rfl rfl ?_
            refine L_run (R_pickF rfl rfl rfl) rfl ?_
            refine L_run (R_assign rfl) rfl ?_
            refine L_nil (N_then (C_ret (R_then ?_)))
            refine ret1 Try.results56 rfl ?_
            first
              | (exfalso; omega)
              | (exact ⟨hB, bF (by unfold SOk; first | omega | (simp_all; omega) | simp_all)⟩)
        · refine C_skip (N_then (C_seq (C_seq (C_reg rfl ?_))))
          refine L_run (R_field (r := 0) rfl fld86_0 rfl) rfl ?_
          refine L_run (R_load1 rfl scl3 (hb1.cell (i := 0) rfl)) rfl ?_
          refine L_run (R_eql rfl rfl) rfl ?_
          refine L_nil (N_then ?_)
          refine C_if rfl (fun h41 => ?_) (fun h41 => ?_)
          · refine C_seq (C_reg rfl ?_)
            refine L_run (R_move rfl) rfl ?_
            refine L_run (R_move rfl) rfl ?_
            refine L_no rfl rfl rfl rfl rfl ?_
            refine L_no rfl rfl rfl rfl rfl ?_
            refine L_no rfl rfl rfl rfl rfl ?_
            refine L_run (R_pickF rfl rfl rfl) rfl ?_
            refine L_run (R_move rfl) rfl ?_
            refine L_no rfl rfl rfl rfl rfl ?_
            refine L_no rfl rfl rfl rfl rfl ?_
            refine L_no rfl rfl rfl rfl rfl ?_
            refine L_run (R_pickF rfl rfl rfl) rfl ?_
            refine L_run (R_assign rfl) rfl ?_
            refine L_nil (N_then (C_ret (R_then ?_)))
            refine ret1 Try.results56 rfl ?_
            first
              | (exfalso; omega)
              | (exact ⟨hB, bF (by unfold SOk; first | omega | (simp_all; omega) | simp_all)⟩)
          · refine C_skip (N_then (C_seq (C_reg rfl ?_)))
            refine L_run (R_move rfl) rfl ?_
            refine L_run (R_move rfl) rfl ?_
            refine L_no rfl rfl rfl rfl rfl ?_
            refine L_no rfl rfl rfl rfl rfl ?_
            refine L_no rfl rfl rfl rfl rfl ?_
            refine L_run (R_pickF rfl rfl rfl) rfl ?_
            refine L_run (R_move rfl) rfl ?_
            refine L_no rfl rfl rfl rfl rfl ?_
            refine L_no rfl rfl rfl rfl rfl ?_
            refine L_no rfl rfl rfl rfl rfl ?_
            refine L_no rfl rfl rfl rfl rfl ?_
            refine L_noU rfl rfl rfl rfl ?_
            refine L_noU rfl rfl rfl rfl ?_
            refine L_noU rfl rfl rfl rfl ?_
            refine L_no rfl rfl rfl rfl rfl ?_
            refine L_no rfl rfl rfl rfl rfl ?_
            refine L_noU rfl rfl rfl rfl ?_
            refine L_noU rfl rfl rfl rfl ?_
            refine L_noU rfl rfl rfl rfl ?_
            refine L_no rfl rfl rfl rfl rfl ?_
            refine L_run (R_pickF rfl rfl rfl) rfl ?_
            refine L_run (R_assign rfl) rfl ?_
            refine L_nil (N_then (C_ret ?_))
            refine ret1 Try.results56 rfl ?_
            first
              | (exfalso; omega)
              | (exact ⟨hB, bF (by unfold SOk; first | omega | (simp_all; omega) | simp_all)⟩)

theorem law38_Few {w : World} {t1 lo hi : Nat} {A : Option Addr} {c : Nat} {l : List StepD} (hS : Sli t1 lo hi w A (fl encS l)) (hb : l.length ≤ 140737488355328) :
    Runs Try.prog 12 #[.slice A l.length c] w (fun v w' => w.grownBy w' none ∧ v = .bool (decide (FewSs l))) := by
  have hB := gb_refl w none
  replace hS := hS.top
  refine enter Try.func12 Try.ntmps12 rfl rfl ?_
  refine C_seq (C_reg rfl ?_)
  refine L_run (R_assign rfl) rfl ?_
  refine L_nil (N_then (C_seq (C_seq (C_reg rfl ?_))))
  refine L_run (R_assign rfl) rfl ?_
  refine L_nil (N_then (C_block ?_))
  refine C_loop (fun m_ a_ w_ => ∃ (σ_ : Nat → Value) (k : Nat), a_ = Ac 30 σ_ [] [(0, .slice A l.length c), (2, .bool false), (3, .int .i64 (k : Int))] ∧ w.grownBy w_ none ∧ Sli t1 lo w.heap.size w_ A (fl encS l) ∧ (k ≤ l.length) ∧ (∀ y ∈ l.take k, FewS y) ∧ l.length - k = m_) (l.length - 0) ?_ ?_
  · exact ⟨_, 0, Ac_frg ⟨rfl, rfl, (agr rfl (by first | rfl | (congr 1; omega) | (congr 1; simp; done) | (congr 1; simp only [IntKind.wrap_u64, IntKind.wrap_i64, IntKind.wrap_u8]; omega) | (congr 1 <;> omega))), trivial⟩, hB, hS, (by omega), (by intro y hy; simp at hy), rfl⟩
  · clear hB
    clear hS
    rintro m_ a_ w1 ⟨σ_, k, rfl, hB, hS, hk, hall, rfl⟩
    refine C_seq (C_seq (C_reg rfl ?_))
    refine L_run (R_move rfl) rfl ?_
    refine L_run (R_move rfl) rfl ?_
    refine L_run (R_lenSl rfl slc39) rfl ?_
    refine L_run (R_lss rfl rfl) rfl ?_
    refine L_nil (N_then ?_)
    refine C_if rfl (fun h1 => ?_) (fun h1 => ?_)
    · refine C_skip (N_then (C_seq (C_block (C_seq (C_reg rfl ?_)))))
      refine L_run (R_move rfl) rfl ?_
      refine L_run (R_move rfl) rfl ?_
      have hl1 : k < l.length := by first | omega | (simp; omega)
      refine T_index (xs := l) (i := k) EncS rfl rfl (by first | rfl | omega) slc39 hl1 hS rfl ?_
      intro g1 o1 ha1
      refine L_run (R_field rfl fld86_2 rfl) rfl ?_
      refine L_run (R_load1 rfl scl80 (ha1 2 _ rfl)) rfl ?_
      refine L_run (R_lenSl rfl slc80) rfl ?_
      refine L_run (R_gtr rfl rfl) rfl ?_
      refine L_run (R_move rfl) rfl ?_
      refine L_splitD (p := 30 < ((l[k]).p.ops.length : Int)) (fun h2 => ?_) (fun h2 => ?_)
      · refine L_no rfl rfl rfl (decide_eq_true h2) rfl ?_
        refine L_no rfl rfl rfl (decide_eq_true h2) rfl ?_
        refine L_no rfl rfl rfl (decide_eq_true h2) rfl ?_
        refine L_no rfl rfl rfl (decide_eq_true h2) rfl ?_
        refine L_no rfl rfl rfl (decide_eq_true h2) rfl ?_
        refine L_no rfl rfl rfl (decide_eq_true h2) rfl ?_
        refine L_no rfl rfl rfl (decide_eq_true h2) rfl ?_
        refine L_no rfl rfl rfl (decide_eq_true h2) rfl ?_
        refine L_run (R_pickT rfl (decide_eq_true h2) rfl) rfl ?_
        refine L_nil (N_then (C_condT rfl rfl (C_seq (C_reg rfl ?_))))
        refine L_run (R_assign rfl) rfl ?_
        refine L_nil (N_then (C_ret (R_in (R_then (R_then (R_in (R_then ?_)))))))
        refine ret1 Try.results12 rfl ?_
        exact ⟨hB, bF (fun h => by have q_ := h.1 _ (List.getElem_mem (show k < l.length by omega)); unfold FewS at q_; omega)⟩
      · refine L_yes rfl rfl rfl (decide_eq_false h2) ?_
        refine L_run (R_move rfl) rfl ?_
        refine L_yes rfl rfl rfl (decide_eq_false h2) ?_
        refine L_run (R_move rfl) rfl ?_
        refine L_yes rfl rfl rfl (decide_eq_false h2) ?_
        have hl2 : k < l.length := by first | omega | (simp; omega)
        refine T_index (xs := l) (i := k) EncS rfl rfl (by first | rfl | omega) slc39 hl2 hS rfl ?_
        intro g2 o2 ha2
        refine L_yes rfl rfl rfl (decide_eq_false h2) ?_
        refine L_run (R_field rfl fld86_3 rfl) rfl ?_
        refine L_yes rfl rfl rfl (decide_eq_false h2) ?_
        refine L_run (R_field rfl fld84_0 rfl) rfl ?_
        refine L_yes rfl rfl rfl (decide_eq_false h2) ?_
        refine L_run (R_load1 rfl scl63 (ha2 3 _ rfl)) rfl ?_
        refine L_yes rfl rfl rfl (decide_eq_false h2) ?_
        refine L_run (R_lenSl rfl slc63) rfl ?_
        refine L_yes rfl rfl rfl (decide_eq_false h2) ?_
        refine L_run (R_gtr rfl rfl) rfl ?_
        refine L_run (R_pickF rfl (decide_eq_false h2) rfl) rfl ?_
        refine L_nil (N_then ?_)
        refine C_if rfl (fun h3 => ?_) (fun h3 => ?_)
        · refine C_seq (C_reg rfl ?_)
          refine L_run (R_assign rfl) rfl ?_
          refine L_nil (N_then (C_ret (R_in (R_then (R_then (R_in (R_then ?_)))))))
          refine ret1 Try.results12 rfl ?_
          exact ⟨hB, bF (fun h => by have q_ := h.1 _ (List.getElem_mem (show k < l.length by omega)); unfold FewS at q_; omega)⟩
        · refine C_skip (N_in (N_then (C_reg rfl ?_)))
          refine L_run (R_move rfl) rfl ?_
          refine L_run (R_add64 rfl rfl (by omega)) rfl ?_
          refine L_run (R_assign rfl) rfl ?_
          refine L_nil (N_then ?_)
          exact ⟨l.length - (k + 1), by omega, _, (k + 1), Ac_frg ⟨rfl, rfl, (agr rfl (by first | rfl | (congr 1; omega) | (congr 1; simp; done) | (congr 1; simp only [IntKind.wrap_u64, IntKind.wrap_i64, IntKind.wrap_u8]; omega) | (congr 1 <;> omega))), trivial⟩, hB, hS, (by omega), (few_succ hall (show k < l.length by omega) ⟨by omega, by omega⟩), rfl⟩
    · refine C_exit (X_then (X_then (X_hit (N_then (C_seq (C_reg rfl ?_))))))
      refine L_run (R_move rfl) rfl ?_
      refine L_run (R_lenSl rfl slc39) rfl ?_
      refine L_run (R_leq rfl rfl) rfl ?_
      refine L_run (R_assign rfl) rfl ?_
      refine L_nil (N_then (C_ret ?_))
      refine ret1 Try.results12 rfl ?_
      rw [List.take_of_length_le (by omega)] at hall
      exact ⟨hB, bD ⟨fun h => ⟨hall, by omega⟩, fun h => by have := h.2; omega⟩⟩

theorem opens_ok {w : World} {y : StepD} :
    Runs Try.prog 69 #[.agg #[.int .i64 y.p.kind, .int .i64 y.p.n, .slice y.oa y.p.ops.length y.oc, .slice y.ka y.p.keep.length y.kc, .int .i64 y.p.torn, .int .i64 y.p.cut]] w (fun v w' => w.grownBy w' none ∧ v = .bool (decide (y.p.kind = 4 ∨ y.p.kind = 6))) := by
  have hB := gb_refl w none
  refine enter Try.func69 Try.ntmps69 rfl rfl ?_
  refine C_seq (C_reg rfl ?_)
  refine L_box (cs := [.int .i64 y.p.kind, .int .i64 y.p.n, .slice y.oa y.p.ops.length y.oc, .slice y.ka y.p.keep.length y.kc, .int .i64 y.p.torn, .int .i64 y.p.cut]) rfl rfl rfl ?_
  intro g1 w1 eg1 hb1 hs1 hz1
  have ge1 : w.heap.size ≤ g1 := eg_ge hB eg1
  replace hB := gb_tr hB hs1
  refine L_run (R_assign rfl) rfl ?_
  refine L_nil (N_then (C_seq (C_reg rfl ?_)))
  refine L_run (R_field (r := 0) rfl fld86_0 rfl) rfl ?_
  refine L_run (R_load1 rfl scl3 (hb1.cell (i := 0) rfl)) rfl ?_
  refine L_run (R_eql rfl rfl) rfl ?_
  refine L_run (R_move rfl) rfl ?_
  refine L_splitD (p := y.p.kind = 4) (fun h1 => ?_) (fun h1 => ?_)
  · refine L_no rfl rfl rfl (decide_eq_true h1) rfl ?_
    refine L_no rfl rfl rfl (decide_eq_true h1) rfl ?_
    refine L_no rfl rfl rfl (decide_eq_true h1) rfl ?_
    refine L_run (R_pickT rfl (decide_eq_true h1) rfl) rfl ?_
    refine L_run (R_assign rfl) rfl ?_
    refine L_nil (N_then (C_ret ?_))
    refine ret1 Try.results69 rfl ?_
    first
      | (exfalso; omega)
      | (exact ⟨hB, bT (by omega)⟩)
  · refine L_yes rfl rfl rfl (decide_eq_false h1) ?_
    refine L_run (R_field (r := 0) rfl fld86_0 rfl) rfl ?_
    refine L_yes rfl rfl rfl (decide_eq_false h1) ?_
    refine L_run (R_load1 rfl scl3 (hb1.cell (i := 0) rfl)) rfl ?_
    refine L_yes rfl rfl rfl (decide_eq_false h1) ?_
    refine L_run (R_eql rfl rfl) rfl ?_
    refine L_run (R_pickF rfl (decide_eq_false h1) rfl) rfl ?_
    refine L_run (R_assign rfl) rfl ?_
    refine L_nil (N_then (C_ret ?_))
    refine ret1 Try.results69 rfl ?_
    first
      | (exfalso; omega)
      | (exact ⟨hB, bD (by omega)⟩)

end Go.Proofs.Ytbmohojdlgedpaa
