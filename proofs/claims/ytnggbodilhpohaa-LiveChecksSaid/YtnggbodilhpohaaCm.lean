/-
  Contracts of the reference's own: all segments gone through as one list; a segment built on the spot.
-/
import Derived.Test.YtnggbodilhpohaaCl
namespace Go.Proofs.Ytnggbodilhpohaa
open Go.RowKit Gw Pl
set_option linter.unusedVariables false
set_option linter.unusedSimpArgs false
theorem cb20 : callB Try.prog 20 = true := by kernel_rfl
theorem cb22 : callB Try.prog 22 = true := by kernel_rfl
theorem cb24 : callB Try.prog 24 = true := by kernel_rfl
theorem cb67 : callB Try.prog 67 = true := by kernel_rfl
theorem cb68 : callB Try.prog 68 = true := by kernel_rfl
theorem fld76_2 : fldB Try.prog 76 2 8 = true := by kernel_rfl
theorem fld76_4 : fldB Try.prog 76 4 10 = true := by kernel_rfl
theorem ref25_Together {w : World} {t1 lo hi hi2 : Nat} {A : Option Addr} {c : Nat} {l : List SegD} (hS : Sli t1 lo hi w A (fl encG l)) (hD : DeepG hi2 w l) (hb : l.length ≤ 1000000) (hr : ∀ g ∈ l, g.recs.length ≤ 1000000) (hok : ∀ g ∈ l, HdrOk g) :
    Runs Try.prog 68 #[.slice A l.length c] w (fun v w' => w.grownBy w' none ∧ v = .bool (tog l)) := by
  have hB := gb_refl w none
  replace hD : DeepG w.heap.size w l := fun y hy => (hD y hy).top
  replace hS := hS.top
  refine enter Try.func68 Try.ntmps68 rfl rfl ?_
  refine C_seq (C_reg ?_)
  refine L_run (R_assign rfl) rfl ?_
  refine L_nil (N_then (C_seq (C_seq (C_reg ?_))))
  refine L_run (R_move rfl) rfl ?_
  refine L_run (R_lenSl rfl slc25) rfl ?_
  refine L_run (R_eql rfl rfl) rfl ?_
  refine L_nil (N_then ?_)
  refine C_if rfl (fun h1 => ?_) (fun h1 => ?_)
  · refine C_seq (C_reg ?_)
    refine L_run (R_assign rfl) rfl ?_
    refine L_nil (N_then (C_ret (R_then ?_)))
    refine ret1 Try.results68 rfl ?_
    first
      | (exfalso; omega)
      | (have e_ : tog l = true := by first | exact tog_0 (by omega) | (rw [← hv]; exact tgo_end (by omega))
         rw [e_]; exact ⟨hB, rfl⟩)
  · refine C_skip (N_then (C_seq (C_reg ?_)))
    refine L_run (R_move rfl) rfl ?_
    have hl1 : 0 < l.length := by first | omega | (simp; omega)
    refine T_index (xs := l) (i := 0) EncG rfl rfl (by first | rfl | omega) slc25 hl1 hS rfl ?_
    intro g1 o1 ha1
    refine L_run (R_field rfl fld76_0 rfl) rfl ?_
    refine L_run (R_field rfl fld72_2 rfl) rfl ?_
    refine L_run (R_load1 rfl scl3 (ha1 2 _ rfl)) rfl ?_
    refine L_run (R_assign rfl) rfl ?_
    refine L_nil (N_then (C_seq (C_reg ?_)))
    refine L_run (R_move rfl) rfl ?_
    have hl2 : 0 < l.length := by first | omega | (simp; omega)
    refine T_index (xs := l) (i := 0) EncG rfl rfl (by first | rfl | omega) slc25 hl2 hS rfl ?_
    intro g2 o2 ha2
    refine L_run (R_field rfl fld76_0 rfl) rfl ?_
    refine L_run (R_field rfl fld72_3 rfl) rfl ?_
    refine L_run (R_loadA (vs := [.int .i64 ((l[0]).hs 0), .int .i64 ((l[0]).hs 1), .int .i64 ((l[0]).hs 2), .int .i64 ((l[0]).hs 3)]) rfl agg34 (At.part (k := 3) ha2 rfl) rfl) rfl ?_
    refine L_alloc (cs := [.int .i64 0, .int .i64 0, .int .i64 0, .int .i64 0]) zer34 rfl rfl ?_
    intro g3 w1 eg1 hb1 hs1 hz1
    have ge1 : w.heap.size ≤ g3 := eg_ge hB eg1
    replace hB := gb_tr hB hs1
    replace hS := hS.gb hs1
    replace hD := hD.gb hs1
    replace ha1 := At.gb ha1 hs1 (by simp)
    replace ha2 := At.gb ha2 hs1 (by simp)
    refine L_stA (vs := [.int .i64 ((l[0]).hs 0), .int .i64 ((l[0]).hs 1), .int .i64 ((l[0]).hs 2), .int .i64 ((l[0]).hs 3)]) rfl rfl rfl sz34 rfl hb1 rfl ?_
    intro w2 hb2 hs2 hz2
    replace hB := gb_trg hB hs2 ge1
    replace hS := hS.old hs2 ge1
    replace hD := hD.old hs2 ge1
    refine L_nil (N_then (C_seq (C_seq (C_reg ?_))))
    refine L_run (R_assign rfl) rfl ?_
    refine L_nil (N_then (C_block ?_))
    refine C_loop (fun m_ a_ w_ => ∃ (σ_ : Nat → Value) (i : Nat) (n : Int) (F : Nat → Int), a_ = Ac 137 σ_ [] [(0, .slice A l.length c), (3, .int .i64 n), (4, .pointer (some ⟨g3, 0, none⟩)), (5, .int .i64 (i : Int))] ∧ w.grownBy w_ none ∧ Sli t1 lo w.heap.size w_ A (fl encG l) ∧ DeepG w.heap.size w_ l ∧ Blk w_ g3 34 [.int .i64 (F 0), .int .i64 (F 1), .int .i64 (F 2), .int .i64 (F 3)] ∧ (i ≤ l.length) ∧ (tgo (pv l i) n F (l.drop i) = tog l) ∧ l.length - i = m_) (l.length - 0) ?_ ?_
    · exact ⟨_, 0, l[0].first, l[0].hs, Ac_frg ⟨rfl, (agr rfl (by first | rfl | (congr 1; omega) | (congr 1; simp; done) | (congr 1; simp only [IntKind.wrap_u64, IntKind.wrap_i64, IntKind.wrap_u8]; omega) | (congr 1 <;> omega))), rfl, (agr rfl (by first | rfl | (congr 1; omega) | (congr 1; simp; done) | (congr 1; simp only [IntKind.wrap_u64, IntKind.wrap_i64, IntKind.wrap_u8]; omega) | (congr 1 <;> omega))), trivial⟩, hB, hS, hD, hb2, (by omega), (tog_1 (by omega)).symm, rfl⟩
    · clear hB
      clear hS hD hb2
      rintro m_ a_ w3 ⟨σ_, i, n, F, rfl, hB, hS, hD, hbh, hk, hv, rfl⟩
      refine C_seq (C_seq (C_reg ?_))
      refine L_run (R_move rfl) rfl ?_
      refine L_run (R_move rfl) rfl ?_
      refine L_run (R_lenSl rfl slc25) rfl ?_
      refine L_run (R_lss rfl rfl) rfl ?_
      refine L_nil (N_then ?_)
      refine C_if rfl (fun h2 => ?_) (fun h2 => ?_)
      · refine C_skip (N_then (C_seq (C_block (C_seq (C_seq ?_)))))
        refine C_draw2 mix ?_
        intro w4 hs3 hz3
        replace hB := gb_tr hB hs3
        replace hS := hS.gb hs3
        replace hD := hD.gb hs3
        replace hbh := hbh.gb hs3
        have hl3 : i < l.length := by first | omega | (simp; omega)
        obtain ⟨g4, o3, r1, eA1, er1, ha3⟩ := Sli.place' (xs := l) (i := i) EncG hS hl3 rfl
        refine ⟨fun W_ => Blk W_ g3 34 [.int .i64 (F 0), .int .i64 (F 1), .int .i64 (F 2), .int .i64 (F 3)] ∧ At W_ g4 r1 [.int .u64 ((l[i]).ep), .int .i64 ((l[i]).seq), .int .i64 ((l[i]).first), .int .i64 ((l[i]).hs 0), .int .i64 ((l[i]).hs 1), .int .i64 ((l[i]).hs 2), .int .i64 ((l[i]).hs 3), .slice ((l[i]).ra) ((l[i]).recs.length) ((l[i]).rc), .slice ((l[i]).pa) ((l[i]).pn) ((l[i]).pc), .int .i64 ((l[i]).en), .int .i64 ((l[i]).kind)] ∧ True, [0, 1, 2, 3, 4, 5, 6, 7, 8, 9, 10, 11, 12, 13, 14, 15, 16, 17], ?_⟩
        refine T_takeA (i := 0) rfl rfl (by kernel_rfl) (by kernel_rfl) (by kernel_rfl) (Y_of (fun _ ⟨hbh, ha3, _⟩ => R_move rfl)) ⟨hbh, ha3, trivial⟩ rfl ?_
        refine T_takeA (i := 1) rfl rfl (by kernel_rfl) (by kernel_rfl) (by kernel_rfl) (Y_of (fun _ ⟨hbh, ha3, _⟩ => R_move rfl)) ⟨hbh, ha3, trivial⟩ rfl ?_
        refine T_takeA (i := 2) rfl rfl (by kernel_rfl) (by kernel_rfl) (by kernel_rfl) (Y_of (fun _ ⟨hbh, ha3, _⟩ => R_indexE rfl rfl (by first | rfl | omega) slc25 hl3 eA1 er1)) ⟨hbh, ha3, trivial⟩ rfl ?_
        refine T_takeA (i := 3) rfl rfl (by kernel_rfl) (by kernel_rfl) (by kernel_rfl) (Y_of (fun _ ⟨hbh, ha3, _⟩ => R_field rfl fld76_0 rfl)) ⟨hbh, ha3, trivial⟩ rfl ?_
        refine T_takeA (i := 4) rfl rfl (by kernel_rfl) (by kernel_rfl) (by kernel_rfl) (Y_of (fun _ ⟨hbh, ha3, _⟩ => R_field rfl fld72_2 rfl)) ⟨hbh, ha3, trivial⟩ rfl ?_
        refine T_takeA (i := 5) rfl rfl (by kernel_rfl) (by kernel_rfl) (by kernel_rfl) (Y_of (fun _ ⟨hbh, ha3, _⟩ => R_load1 rfl scl3 (ha3 2 _ rfl))) ⟨hbh, ha3, trivial⟩ rfl ?_
        refine T_takeA (i := 6) rfl rfl (by kernel_rfl) (by kernel_rfl) (by kernel_rfl) (Y_of (fun _ ⟨hbh, ha3, _⟩ => R_move rfl)) ⟨hbh, ha3, trivial⟩ rfl ?_
        refine T_takeA (i := 7) rfl rfl (by kernel_rfl) (by kernel_rfl) (by kernel_rfl) (Y_of (fun _ ⟨hbh, ha3, _⟩ => R_neq rfl rfl)) ⟨hbh, ha3, trivial⟩ rfl ?_
        refine T_takeA (i := 8) rfl rfl (by kernel_rfl) (by kernel_rfl) (by kernel_rfl) (Y_of (fun _ ⟨hbh, ha3, _⟩ => R_move rfl)) ⟨hbh, ha3, trivial⟩ rfl ?_
        by_cases h3 : (l[i]).first ≠ n
        · refine T_takeA (i := 9) rfl rfl (by kernel_rfl) (by kernel_rfl) (by kernel_rfl) (Y_no rfl rfl rfl (decide_eq_true h3)) ⟨hbh, ha3, trivial⟩ rfl ?_
          refine T_takeA (i := 10) rfl rfl (by kernel_rfl) (by kernel_rfl) (by kernel_rfl) (Y_no rfl rfl rfl (decide_eq_true h3)) ⟨hbh, ha3, trivial⟩ rfl ?_
          refine T_takeA (i := 11) rfl rfl (by kernel_rfl) (by kernel_rfl) (by kernel_rfl) (Y_no rfl rfl rfl (decide_eq_true h3)) ⟨hbh, ha3, trivial⟩ rfl ?_
          refine T_takeA (i := 12) rfl rfl (by kernel_rfl) (by kernel_rfl) (by kernel_rfl) (Y_no rfl rfl rfl (decide_eq_true h3)) ⟨hbh, ha3, trivial⟩ rfl ?_
          refine T_takeA (i := 13) rfl rfl (by kernel_rfl) (by kernel_rfl) (by kernel_rfl) (Y_no rfl rfl rfl (decide_eq_true h3)) ⟨hbh, ha3, trivial⟩ rfl ?_
          refine T_takeA (i := 14) rfl rfl (by kernel_rfl) (by kernel_rfl) (by kernel_rfl) (Y_no rfl rfl rfl (decide_eq_true h3)) ⟨hbh, ha3, trivial⟩ rfl ?_
          refine T_takeA (i := 15) rfl rfl (by kernel_rfl) (by kernel_rfl) (by kernel_rfl) (Y_no rfl rfl rfl (decide_eq_true h3)) ⟨hbh, ha3, trivial⟩ rfl ?_
          refine T_takeA (i := 16) rfl rfl (by kernel_rfl) (by kernel_rfl) (by kernel_rfl) (Y_no rfl rfl rfl (decide_eq_true h3)) ⟨hbh, ha3, trivial⟩ rfl ?_
          refine T_takeA (i := 17) rfl rfl (by kernel_rfl) (by kernel_rfl) (by kernel_rfl) (Y_of (fun _ ⟨hbh, ha3, _⟩ => R_pickT rfl (decide_eq_true h3) rfl)) ⟨hbh, ha3, trivial⟩ rfl ?_
          refine T_done (by kernel_rfl) (NoPanic.normal ?_)
          refine N_then (C_condT rfl rfl (C_seq (C_reg ?_)))
          refine L_run (R_assign rfl) rfl ?_
          refine L_nil (N_then (C_ret (R_then (R_in (R_then (R_then (R_in (R_then ?_))))))))
          refine ret1 Try.results68 rfl ?_
          first
            | (exfalso; omega)
            | (have e_ : tog l = false := by
                 rw [← hv]
                 first
                   | exact tgo_rec hli hv2 (by omega) (by unfold RecOk; rintro ⟨q1, q2, q3, q4⟩; omega)
                   | exact tgo_bad (by omega) (fun q => by have q1 := q.1.1; omega)
                   | exact tgo_bad (by omega) (fun q => by have q1 := q.1.2; contradiction)
                   | exact tgo_bad (by omega) (fun q => by have q1 := (joins_p (by omega) (by omega)).1 q.2; omega)
               rw [e_]; exact ⟨hB, rfl⟩)
        · refine T_takeA (i := 9) rfl rfl (by kernel_rfl) (by kernel_rfl) (by kernel_rfl) (Y_yes rfl rfl rfl (decide_eq_false h3) (fun _ ⟨hbh, ha3, _⟩ => R_move rfl)) ⟨hbh, ha3, trivial⟩ rfl ?_
          refine T_takeA (i := 10) rfl rfl (by kernel_rfl) (by kernel_rfl) (by kernel_rfl) (Y_yes rfl rfl rfl (decide_eq_false h3) (fun _ ⟨hbh, ha3, _⟩ => R_move rfl)) ⟨hbh, ha3, trivial⟩ rfl ?_
          refine T_takeA (i := 11) rfl rfl (by kernel_rfl) (by kernel_rfl) (by kernel_rfl) (Y_yes rfl rfl rfl (decide_eq_false h3) (fun _ ⟨hbh, ha3, _⟩ => R_indexE rfl rfl (by first | rfl | omega) slc25 hl3 eA1 er1)) ⟨hbh, ha3, trivial⟩ rfl ?_
          refine T_takeA (i := 12) rfl rfl (by kernel_rfl) (by kernel_rfl) (by kernel_rfl) (Y_yes rfl rfl rfl (decide_eq_false h3) (fun _ ⟨hbh, ha3, _⟩ => R_field rfl fld76_0 rfl)) ⟨hbh, ha3, trivial⟩ rfl ?_
          refine T_takeA (i := 13) rfl rfl (by kernel_rfl) (by kernel_rfl) (by kernel_rfl) (Y_yes rfl rfl rfl (decide_eq_false h3) (fun _ ⟨hbh, ha3, _⟩ => R_field rfl fld72_3 rfl)) ⟨hbh, ha3, trivial⟩ rfl ?_
          refine T_takeA (i := 14) rfl rfl (by kernel_rfl) (by kernel_rfl) (by kernel_rfl) (Y_yes rfl rfl rfl (decide_eq_false h3) (fun _ ⟨hbh, ha3, _⟩ => R_loadA (vs := [.int .i64 ((l[i]).hs 0), .int .i64 ((l[i]).hs 1), .int .i64 ((l[i]).hs 2), .int .i64 ((l[i]).hs 3)]) rfl agg34 (At.part (k := 3) ha3 rfl) rfl)) ⟨hbh, ha3, trivial⟩ rfl ?_
          refine T_takeA (i := 15) rfl rfl (by kernel_rfl) (by kernel_rfl) (by kernel_rfl) (Y_yes rfl rfl rfl (decide_eq_false h3) (fun _ ⟨hbh, ha3, _⟩ => R_loadA (vs := [.int .i64 (F 0), .int .i64 (F 1), .int .i64 (F 2), .int .i64 (F 3)]) rfl agg34 (At.pre (hbh.at_ 0) rfl) rfl)) ⟨hbh, ha3, trivial⟩ rfl ?_
          refine T_takeA (i := 16) rfl rfl (by kernel_rfl) (by kernel_rfl) (by kernel_rfl) (Y_yes rfl rfl rfl (decide_eq_false h3) (fun _ ⟨hbh, ha3, _⟩ => R_neqA rfl rfl eqg34 (eqs_arr4 arr34 int3 scl3))) ⟨hbh, ha3, trivial⟩ rfl ?_
          refine T_takeA (i := 17) rfl rfl (by kernel_rfl) (by kernel_rfl) (by kernel_rfl) (Y_of (fun _ ⟨hbh, ha3, _⟩ => R_pickF rfl (decide_eq_false h3) rfl)) ⟨hbh, ha3, trivial⟩ rfl ?_
          refine T_done (by kernel_rfl) (NoPanic.normal ?_)
          refine N_then ?_
          refine C_ifN rfl (fun h4 => ?_) (fun h4 => ?_)
          · refine C_seq (C_reg ?_)
            refine L_run (R_assign rfl) rfl ?_
            refine L_nil (N_then (C_ret (R_then (R_in (R_then (R_then (R_in (R_then ?_))))))))
            refine ret1 Try.results68 rfl ?_
            first
              | (exfalso; omega)
              | (have e_ : tog l = false := by
                   rw [← hv]
                   first
                     | exact tgo_rec hli hv2 (by omega) (by unfold RecOk; rintro ⟨q1, q2, q3, q4⟩; omega)
                     | exact tgo_bad (by omega) (fun q => by have q1 := q.1.1; omega)
                     | exact tgo_bad (by omega) (fun q => by have q1 := q.1.2; contradiction)
                     | exact tgo_bad (by omega) (fun q => by have q1 := (joins_p (by omega) (by omega)).1 q.2; omega)
                 rw [e_]; exact ⟨hB, rfl⟩)
          · refine C_skip (N_then (C_seq (C_seq ?_)))
            refine C_draw2 mix ?_
            intro w5 hs4 hz4
            replace hB := gb_tr hB hs4
            replace hS := hS.gb hs4
            replace hD := hD.gb hs4
            replace hbh := hbh.gb hs4
            replace ha3 := At.gb ha3 hs4 (by simp)
            have hl4 : i < l.length := by first | omega | (simp; omega)
            obtain ⟨g5, o4, r2, eA2, er2, ha4⟩ := Sli.place' (xs := l) (i := i) EncG hS hl4 rfl
            have hl5 : (i - 1) < l.length := by first | omega | (simp; omega)
            obtain ⟨g6, o5, r3, eA3, er3, ha5⟩ := Sli.place' (xs := l) (i := (i - 1)) EncG hS hl5 rfl
            refine ⟨fun W_ => At W_ g5 r2 [.int .u64 ((l[i]).ep), .int .i64 ((l[i]).seq), .int .i64 ((l[i]).first), .int .i64 ((l[i]).hs 0), .int .i64 ((l[i]).hs 1), .int .i64 ((l[i]).hs 2), .int .i64 ((l[i]).hs 3), .slice ((l[i]).ra) ((l[i]).recs.length) ((l[i]).rc), .slice ((l[i]).pa) ((l[i]).pn) ((l[i]).pc), .int .i64 ((l[i]).en), .int .i64 ((l[i]).kind)] ∧ At W_ g6 r3 [.int .u64 ((l[(i - 1)]).ep), .int .i64 ((l[(i - 1)]).seq), .int .i64 ((l[(i - 1)]).first), .int .i64 ((l[(i - 1)]).hs 0), .int .i64 ((l[(i - 1)]).hs 1), .int .i64 ((l[(i - 1)]).hs 2), .int .i64 ((l[(i - 1)]).hs 3), .slice ((l[(i - 1)]).ra) ((l[(i - 1)]).recs.length) ((l[(i - 1)]).rc), .slice ((l[(i - 1)]).pa) ((l[(i - 1)]).pn) ((l[(i - 1)]).pc), .int .i64 ((l[(i - 1)]).en), .int .i64 ((l[(i - 1)]).kind)] ∧ True, [0, 1, 2, 3, 4, 5, 6, 7, 8, 9, 10, 11, 12, 13, 14, 15, 16, 17, 18, 19, 20, 21, 22, 23, 24, 25, 26, 27, 28, 29, 30, 31, 32, 33, 34, 35, 36, 37, 38, 39, 40, 41, 42, 43], ?_⟩
            refine T_takeA (i := 0) rfl rfl (by kernel_rfl) (by kernel_rfl) (by kernel_rfl) (Y_of (fun _ ⟨ha4, ha5, _⟩ => R_move rfl)) ⟨ha4, ha5, trivial⟩ rfl ?_
            refine T_takeA (i := 1) rfl rfl (by kernel_rfl) (by kernel_rfl) (by kernel_rfl) (Y_of (fun _ ⟨ha4, ha5, _⟩ => R_gtr rfl rfl)) ⟨ha4, ha5, trivial⟩ rfl ?_
            refine T_takeA (i := 2) rfl rfl (by kernel_rfl) (by kernel_rfl) (by kernel_rfl) (Y_of (fun _ ⟨ha4, ha5, _⟩ => R_move rfl)) ⟨ha4, ha5, trivial⟩ rfl ?_
            by_cases h5 : 0 < (i : Int)
            · refine T_takeA (i := 3) rfl rfl (by kernel_rfl) (by kernel_rfl) (by kernel_rfl) (Y_yes rfl rfl rfl (decide_eq_true h5) (fun _ ⟨ha4, ha5, _⟩ => R_move rfl)) ⟨ha4, ha5, trivial⟩ rfl ?_
              refine T_takeA (i := 4) rfl rfl (by kernel_rfl) (by kernel_rfl) (by kernel_rfl) (Y_yes rfl rfl rfl (decide_eq_true h5) (fun _ ⟨ha4, ha5, _⟩ => R_move rfl)) ⟨ha4, ha5, trivial⟩ rfl ?_
              refine T_takeA (i := 5) rfl rfl (by kernel_rfl) (by kernel_rfl) (by kernel_rfl) (Y_yes rfl rfl rfl (decide_eq_true h5) (fun _ ⟨ha4, ha5, _⟩ => R_indexE rfl rfl (by first | rfl | omega) slc25 hl4 eA2 er2)) ⟨ha4, ha5, trivial⟩ rfl ?_
              refine T_takeA (i := 6) rfl rfl (by kernel_rfl) (by kernel_rfl) (by kernel_rfl) (Y_yes rfl rfl rfl (decide_eq_true h5) (fun _ ⟨ha4, ha5, _⟩ => R_field rfl fld76_0 rfl)) ⟨ha4, ha5, trivial⟩ rfl ?_
              refine T_takeA (i := 7) rfl rfl (by kernel_rfl) (by kernel_rfl) (by kernel_rfl) (Y_yes rfl rfl rfl (decide_eq_true h5) (fun _ ⟨ha4, ha5, _⟩ => R_field rfl fld72_1 rfl)) ⟨ha4, ha5, trivial⟩ rfl ?_
              refine T_takeA (i := 8) rfl rfl (by kernel_rfl) (by kernel_rfl) (by kernel_rfl) (Y_yes rfl rfl rfl (decide_eq_true h5) (fun _ ⟨ha4, ha5, _⟩ => R_load1 rfl scl3 (ha4 1 _ rfl))) ⟨ha4, ha5, trivial⟩ rfl ?_
              refine T_takeA (i := 9) rfl rfl (by kernel_rfl) (by kernel_rfl) (by kernel_rfl) (Y_yes rfl rfl rfl (decide_eq_true h5) (fun _ ⟨ha4, ha5, _⟩ => R_sub64 rfl rfl (by first | omega | (have h_ := hr _ (List.getElem_mem (l := l) (show i < l.length by omega)); omega) | (have h_ := (hok _ (List.getElem_mem (l := l) (show i < l.length by omega))).1.1; unfold OkB at h_; omega)))) ⟨ha4, ha5, trivial⟩ rfl ?_
              refine T_takeA (i := 10) rfl rfl (by kernel_rfl) (by kernel_rfl) (by kernel_rfl) (Y_yes rfl rfl rfl (decide_eq_true h5) (fun _ ⟨ha4, ha5, _⟩ => R_move rfl)) ⟨ha4, ha5, trivial⟩ rfl ?_
              refine T_takeA (i := 11) rfl rfl (by kernel_rfl) (by kernel_rfl) (by kernel_rfl) (Y_yes rfl rfl rfl (decide_eq_true h5) (fun _ ⟨ha4, ha5, _⟩ => R_move rfl)) ⟨ha4, ha5, trivial⟩ rfl ?_
              refine T_takeA (i := 12) rfl rfl (by kernel_rfl) (by kernel_rfl) (by kernel_rfl) (Y_yes rfl rfl rfl (decide_eq_true h5) (fun _ ⟨ha4, ha5, _⟩ => R_sub64 rfl rfl (by first | omega | (have h_ := hr _ (List.getElem_mem (l := l) (show i < l.length by omega)); omega) | (have h_ := (hok _ (List.getElem_mem (l := l) (show i < l.length by omega))).1.1; unfold OkB at h_; omega)))) ⟨ha4, ha5, trivial⟩ rfl ?_
              refine T_takeA (i := 13) rfl rfl (by kernel_rfl) (by kernel_rfl) (by kernel_rfl) (Y_yes rfl rfl rfl (decide_eq_true h5) (fun _ ⟨ha4, ha5, _⟩ => R_indexE rfl rfl (by first | rfl | omega) slc25 hl5 eA3 er3)) ⟨ha4, ha5, trivial⟩ rfl ?_
              refine T_takeA (i := 14) rfl rfl (by kernel_rfl) (by kernel_rfl) (by kernel_rfl) (Y_yes rfl rfl rfl (decide_eq_true h5) (fun _ ⟨ha4, ha5, _⟩ => R_field rfl fld76_0 rfl)) ⟨ha4, ha5, trivial⟩ rfl ?_
              refine T_takeA (i := 15) rfl rfl (by kernel_rfl) (by kernel_rfl) (by kernel_rfl) (Y_yes rfl rfl rfl (decide_eq_true h5) (fun _ ⟨ha4, ha5, _⟩ => R_field rfl fld72_1 rfl)) ⟨ha4, ha5, trivial⟩ rfl ?_
              refine T_takeA (i := 16) rfl rfl (by kernel_rfl) (by kernel_rfl) (by kernel_rfl) (Y_yes rfl rfl rfl (decide_eq_true h5) (fun _ ⟨ha4, ha5, _⟩ => R_load1 rfl scl3 (ha5 1 _ rfl))) ⟨ha4, ha5, trivial⟩ rfl ?_
              refine T_takeA (i := 17) rfl rfl (by kernel_rfl) (by kernel_rfl) (by kernel_rfl) (Y_yes rfl rfl rfl (decide_eq_true h5) (fun _ ⟨ha4, ha5, _⟩ => R_neq rfl rfl)) ⟨ha4, ha5, trivial⟩ rfl ?_
              refine T_takeA (i := 18) rfl rfl (by kernel_rfl) (by kernel_rfl) (by kernel_rfl) (Y_yes rfl rfl rfl (decide_eq_true h5) (fun _ ⟨ha4, ha5, _⟩ => R_move rfl)) ⟨ha4, ha5, trivial⟩ rfl ?_
              by_cases h6 : (((l[i]).seq) - 1) ≠ (l[(i - 1)]).seq
              · refine T_takeA (i := 19) rfl rfl (by kernel_rfl) (by kernel_rfl) (by kernel_rfl) (Y_no rfl rfl rfl (decide_eq_true h6)) ⟨ha4, ha5, trivial⟩ rfl ?_
                refine T_takeA (i := 20) rfl rfl (by kernel_rfl) (by kernel_rfl) (by kernel_rfl) (Y_no rfl rfl rfl (decide_eq_true h6)) ⟨ha4, ha5, trivial⟩ rfl ?_
                refine T_takeA (i := 21) rfl rfl (by kernel_rfl) (by kernel_rfl) (by kernel_rfl) (Y_no rfl rfl rfl (decide_eq_true h6)) ⟨ha4, ha5, trivial⟩ rfl ?_
                refine T_takeA (i := 22) rfl rfl (by kernel_rfl) (by kernel_rfl) (by kernel_rfl) (Y_no rfl rfl rfl (decide_eq_true h6)) ⟨ha4, ha5, trivial⟩ rfl ?_
                refine T_takeA (i := 23) rfl rfl (by kernel_rfl) (by kernel_rfl) (by kernel_rfl) (Y_no rfl rfl rfl (decide_eq_true h6)) ⟨ha4, ha5, trivial⟩ rfl ?_
                refine T_takeA (i := 24) rfl rfl (by kernel_rfl) (by kernel_rfl) (by kernel_rfl) (Y_no rfl rfl rfl (decide_eq_true h6)) ⟨ha4, ha5, trivial⟩ rfl ?_
                refine T_takeA (i := 25) rfl rfl (by kernel_rfl) (by kernel_rfl) (by kernel_rfl) (Y_no rfl rfl rfl (decide_eq_true h6)) ⟨ha4, ha5, trivial⟩ rfl ?_
                refine T_takeA (i := 26) rfl rfl (by kernel_rfl) (by kernel_rfl) (by kernel_rfl) (Y_no rfl rfl rfl (decide_eq_true h6)) ⟨ha4, ha5, trivial⟩ rfl ?_
                refine T_takeA (i := 27) rfl rfl (by kernel_rfl) (by kernel_rfl) (by kernel_rfl) (Y_no rfl rfl rfl (decide_eq_true h6)) ⟨ha4, ha5, trivial⟩ rfl ?_
                refine T_takeA (i := 28) rfl rfl (by kernel_rfl) (by kernel_rfl) (by kernel_rfl) (Y_no rfl rfl rfl (decide_eq_true h6)) ⟨ha4, ha5, trivial⟩ rfl ?_
                refine T_takeA (i := 29) rfl rfl (by kernel_rfl) (by kernel_rfl) (by kernel_rfl) (Y_no rfl rfl rfl (decide_eq_true h6)) ⟨ha4, ha5, trivial⟩ rfl ?_
                refine T_takeA (i := 30) rfl rfl (by kernel_rfl) (by kernel_rfl) (by kernel_rfl) (Y_no rfl rfl rfl (decide_eq_true h6)) ⟨ha4, ha5, trivial⟩ rfl ?_
                refine T_takeA (i := 31) rfl rfl (by kernel_rfl) (by kernel_rfl) (by kernel_rfl) (Y_no rfl rfl rfl (decide_eq_true h6)) ⟨ha4, ha5, trivial⟩ rfl ?_
                refine T_takeA (i := 32) rfl rfl (by kernel_rfl) (by kernel_rfl) (by kernel_rfl) (Y_no rfl rfl rfl (decide_eq_true h6)) ⟨ha4, ha5, trivial⟩ rfl ?_
                refine T_takeA (i := 33) rfl rfl (by kernel_rfl) (by kernel_rfl) (by kernel_rfl) (Y_yes rfl rfl rfl (decide_eq_true h5) (fun _ ⟨ha4, ha5, _⟩ => R_pickT rfl (decide_eq_true h6) rfl)) ⟨ha4, ha5, trivial⟩ rfl ?_
                refine T_takeA (i := 34) rfl rfl (by kernel_rfl) (by kernel_rfl) (by kernel_rfl) (Y_yes rfl rfl rfl (decide_eq_true h5) (fun _ ⟨ha4, ha5, _⟩ => R_move rfl)) ⟨ha4, ha5, trivial⟩ rfl ?_
                refine T_takeA (i := 35) rfl rfl (by kernel_rfl) (by kernel_rfl) (by kernel_rfl) (Y_no rfl rfl rfl rfl) ⟨ha4, ha5, trivial⟩ rfl ?_
                refine T_takeA (i := 36) rfl rfl (by kernel_rfl) (by kernel_rfl) (by kernel_rfl) (Y_no rfl rfl rfl rfl) ⟨ha4, ha5, trivial⟩ rfl ?_
                refine T_takeA (i := 37) rfl rfl (by kernel_rfl) (by kernel_rfl) (by kernel_rfl) (Y_no rfl rfl rfl rfl) ⟨ha4, ha5, trivial⟩ rfl ?_
                refine T_takeA (i := 38) rfl rfl (by kernel_rfl) (by kernel_rfl) (by kernel_rfl) (Y_no rfl rfl rfl rfl) ⟨ha4, ha5, trivial⟩ rfl ?_
                refine T_takeA (i := 39) rfl rfl (by kernel_rfl) (by kernel_rfl) (by kernel_rfl) (Y_no rfl rfl rfl rfl) ⟨ha4, ha5, trivial⟩ rfl ?_
                refine T_takeA (i := 40) rfl rfl (by kernel_rfl) (by kernel_rfl) (by kernel_rfl) (Y_no rfl rfl rfl rfl) ⟨ha4, ha5, trivial⟩ rfl ?_
                refine T_takeA (i := 41) rfl rfl (by kernel_rfl) (by kernel_rfl) (by kernel_rfl) (Y_no rfl rfl rfl rfl) ⟨ha4, ha5, trivial⟩ rfl ?_
                refine T_takeA (i := 42) rfl rfl (by kernel_rfl) (by kernel_rfl) (by kernel_rfl) (Y_yes rfl rfl rfl (decide_eq_true h5) (fun _ ⟨ha4, ha5, _⟩ => R_pickT rfl rfl rfl)) ⟨ha4, ha5, trivial⟩ rfl ?_
                refine T_takeA (i := 43) rfl rfl (by kernel_rfl) (by kernel_rfl) (by kernel_rfl) (Y_of (fun _ ⟨ha4, ha5, _⟩ => R_pickT rfl (decide_eq_true h5) rfl)) ⟨ha4, ha5, trivial⟩ rfl ?_
                refine T_done (by kernel_rfl) (NoPanic.normal ?_)
                refine N_then (C_condT rfl rfl (C_seq (C_reg ?_)))
                refine L_run (R_assign rfl) rfl ?_
                refine L_nil (N_then (C_ret (R_then (R_in (R_then (R_then (R_in (R_then ?_))))))))
                refine ret1 Try.results68 rfl ?_
                first
                  | (exfalso; omega)
                  | (have e_ : tog l = false := by
                       rw [← hv]
                       first
                         | exact tgo_rec hli hv2 (by omega) (by unfold RecOk; rintro ⟨q1, q2, q3, q4⟩; omega)
                         | exact tgo_bad (by omega) (fun q => by have q1 := q.1.1; omega)
                         | exact tgo_bad (by omega) (fun q => by have q1 := q.1.2; contradiction)
                         | exact tgo_bad (by omega) (fun q => by have q1 := (joins_p (by omega) (by omega)).1 q.2; omega)
                     rw [e_]; exact ⟨hB, rfl⟩)
              · refine T_takeA (i := 19) rfl rfl (by kernel_rfl) (by kernel_rfl) (by kernel_rfl) (Y_yes rfl rfl rfl (decide_eq_false h6) (fun _ ⟨ha4, ha5, _⟩ => R_move rfl)) ⟨ha4, ha5, trivial⟩ rfl ?_
                refine T_takeA (i := 20) rfl rfl (by kernel_rfl) (by kernel_rfl) (by kernel_rfl) (Y_yes rfl rfl rfl (decide_eq_false h6) (fun _ ⟨ha4, ha5, _⟩ => R_move rfl)) ⟨ha4, ha5, trivial⟩ rfl ?_
                refine T_takeA (i := 21) rfl rfl (by kernel_rfl) (by kernel_rfl) (by kernel_rfl) (Y_yes rfl rfl rfl (decide_eq_false h6) (fun _ ⟨ha4, ha5, _⟩ => R_indexE rfl rfl (by first | rfl | omega) slc25 hl4 eA2 er2)) ⟨ha4, ha5, trivial⟩ rfl ?_
                refine T_takeA (i := 22) rfl rfl (by kernel_rfl) (by kernel_rfl) (by kernel_rfl) (Y_yes rfl rfl rfl (decide_eq_false h6) (fun _ ⟨ha4, ha5, _⟩ => R_field rfl fld76_0 rfl)) ⟨ha4, ha5, trivial⟩ rfl ?_
                refine T_takeA (i := 23) rfl rfl (by kernel_rfl) (by kernel_rfl) (by kernel_rfl) (Y_yes rfl rfl rfl (decide_eq_false h6) (fun _ ⟨ha4, ha5, _⟩ => R_field rfl fld72_0 rfl)) ⟨ha4, ha5, trivial⟩ rfl ?_
                refine T_takeA (i := 24) rfl rfl (by kernel_rfl) (by kernel_rfl) (by kernel_rfl) (Y_yes rfl rfl rfl (decide_eq_false h6) (fun _ ⟨ha4, ha5, _⟩ => R_load1 rfl scl70 (ha4 0 _ rfl))) ⟨ha4, ha5, trivial⟩ rfl ?_
                refine T_takeA (i := 25) rfl rfl (by kernel_rfl) (by kernel_rfl) (by kernel_rfl) (Y_yes rfl rfl rfl (decide_eq_false h6) (fun _ ⟨ha4, ha5, _⟩ => R_move rfl)) ⟨ha4, ha5, trivial⟩ rfl ?_
                refine T_takeA (i := 26) rfl rfl (by kernel_rfl) (by kernel_rfl) (by kernel_rfl) (Y_yes rfl rfl rfl (decide_eq_false h6) (fun _ ⟨ha4, ha5, _⟩ => R_move rfl)) ⟨ha4, ha5, trivial⟩ rfl ?_
                refine T_takeA (i := 27) rfl rfl (by kernel_rfl) (by kernel_rfl) (by kernel_rfl) (Y_yes rfl rfl rfl (decide_eq_false h6) (fun _ ⟨ha4, ha5, _⟩ => R_sub64 rfl rfl (by first | omega | (have h_ := hr _ (List.getElem_mem (l := l) (show i < l.length by omega)); omega) | (have h_ := (hok _ (List.getElem_mem (l := l) (show i < l.length by omega))).1.1; unfold OkB at h_; omega)))) ⟨ha4, ha5, trivial⟩ rfl ?_
                refine T_takeA (i := 28) rfl rfl (by kernel_rfl) (by kernel_rfl) (by kernel_rfl) (Y_yes rfl rfl rfl (decide_eq_false h6) (fun _ ⟨ha4, ha5, _⟩ => R_indexE rfl rfl (by first | rfl | omega) slc25 hl5 eA3 er3)) ⟨ha4, ha5, trivial⟩ rfl ?_
                refine T_takeA (i := 29) rfl rfl (by kernel_rfl) (by kernel_rfl) (by kernel_rfl) (Y_yes rfl rfl rfl (decide_eq_false h6) (fun _ ⟨ha4, ha5, _⟩ => R_field rfl fld76_0 rfl)) ⟨ha4, ha5, trivial⟩ rfl ?_
                refine T_takeA (i := 30) rfl rfl (by kernel_rfl) (by kernel_rfl) (by kernel_rfl) (Y_yes rfl rfl rfl (decide_eq_false h6) (fun _ ⟨ha4, ha5, _⟩ => R_field rfl fld72_0 rfl)) ⟨ha4, ha5, trivial⟩ rfl ?_
                refine T_takeA (i := 31) rfl rfl (by kernel_rfl) (by kernel_rfl) (by kernel_rfl) (Y_yes rfl rfl rfl (decide_eq_false h6) (fun _ ⟨ha4, ha5, _⟩ => R_load1 rfl scl70 (ha5 0 _ rfl))) ⟨ha4, ha5, trivial⟩ rfl ?_
                refine T_takeA (i := 32) rfl rfl (by kernel_rfl) (by kernel_rfl) (by kernel_rfl) (Y_yes rfl rfl rfl (decide_eq_false h6) (fun _ ⟨ha4, ha5, _⟩ => R_leq rfl rfl)) ⟨ha4, ha5, trivial⟩ rfl ?_
                refine T_takeA (i := 33) rfl rfl (by kernel_rfl) (by kernel_rfl) (by kernel_rfl) (Y_yes rfl rfl rfl (decide_eq_true h5) (fun _ ⟨ha4, ha5, _⟩ => R_pickF rfl (decide_eq_false h6) rfl)) ⟨ha4, ha5, trivial⟩ rfl ?_
                refine T_takeA (i := 34) rfl rfl (by kernel_rfl) (by kernel_rfl) (by kernel_rfl) (Y_yes rfl rfl rfl (decide_eq_true h5) (fun _ ⟨ha4, ha5, _⟩ => R_move rfl)) ⟨ha4, ha5, trivial⟩ rfl ?_
                by_cases h7 : (l[i]).ep ≤ (l[(i - 1)]).ep
                · refine T_takeA (i := 35) rfl rfl (by kernel_rfl) (by kernel_rfl) (by kernel_rfl) (Y_no rfl rfl rfl (decide_eq_true h7)) ⟨ha4, ha5, trivial⟩ rfl ?_
                  refine T_takeA (i := 36) rfl rfl (by kernel_rfl) (by kernel_rfl) (by kernel_rfl) (Y_no rfl rfl rfl (decide_eq_true h7)) ⟨ha4, ha5, trivial⟩ rfl ?_
                  refine T_takeA (i := 37) rfl rfl (by kernel_rfl) (by kernel_rfl) (by kernel_rfl) (Y_no rfl rfl rfl (decide_eq_true h7)) ⟨ha4, ha5, trivial⟩ rfl ?_
                  refine T_takeA (i := 38) rfl rfl (by kernel_rfl) (by kernel_rfl) (by kernel_rfl) (Y_no rfl rfl rfl (decide_eq_true h7)) ⟨ha4, ha5, trivial⟩ rfl ?_
                  refine T_takeA (i := 39) rfl rfl (by kernel_rfl) (by kernel_rfl) (by kernel_rfl) (Y_no rfl rfl rfl (decide_eq_true h7)) ⟨ha4, ha5, trivial⟩ rfl ?_
                  refine T_takeA (i := 40) rfl rfl (by kernel_rfl) (by kernel_rfl) (by kernel_rfl) (Y_no rfl rfl rfl (decide_eq_true h7)) ⟨ha4, ha5, trivial⟩ rfl ?_
                  refine T_takeA (i := 41) rfl rfl (by kernel_rfl) (by kernel_rfl) (by kernel_rfl) (Y_no rfl rfl rfl (decide_eq_true h7)) ⟨ha4, ha5, trivial⟩ rfl ?_
                  refine T_takeA (i := 42) rfl rfl (by kernel_rfl) (by kernel_rfl) (by kernel_rfl) (Y_yes rfl rfl rfl (decide_eq_true h5) (fun _ ⟨ha4, ha5, _⟩ => R_pickT rfl (decide_eq_true h7) rfl)) ⟨ha4, ha5, trivial⟩ rfl ?_
                  refine T_takeA (i := 43) rfl rfl (by kernel_rfl) (by kernel_rfl) (by kernel_rfl) (Y_of (fun _ ⟨ha4, ha5, _⟩ => R_pickT rfl (decide_eq_true h5) rfl)) ⟨ha4, ha5, trivial⟩ rfl ?_
                  refine T_done (by kernel_rfl) (NoPanic.normal ?_)
                  refine N_then (C_condT rfl rfl (C_seq (C_reg ?_)))
                  refine L_run (R_assign rfl) rfl ?_
                  refine L_nil (N_then (C_ret (R_then (R_in (R_then (R_then (R_in (R_then ?_))))))))
                  refine ret1 Try.results68 rfl ?_
                  first
                    | (exfalso; omega)
                    | (have e_ : tog l = false := by
                         rw [← hv]
                         first
                           | exact tgo_rec hli hv2 (by omega) (by unfold RecOk; rintro ⟨q1, q2, q3, q4⟩; omega)
                           | exact tgo_bad (by omega) (fun q => by have q1 := q.1.1; omega)
                           | exact tgo_bad (by omega) (fun q => by have q1 := q.1.2; contradiction)
                           | exact tgo_bad (by omega) (fun q => by have q1 := (joins_p (by omega) (by omega)).1 q.2; omega)
                       rw [e_]; exact ⟨hB, rfl⟩)
                · refine T_takeA (i := 35) rfl rfl (by kernel_rfl) (by kernel_rfl) (by kernel_rfl) (Y_yes rfl rfl rfl (decide_eq_false h7) (fun _ ⟨ha4, ha5, _⟩ => R_move rfl)) ⟨ha4, ha5, trivial⟩ rfl ?_
                  refine T_takeA (i := 36) rfl rfl (by kernel_rfl) (by kernel_rfl) (by kernel_rfl) (Y_yes rfl rfl rfl (decide_eq_false h7) (fun _ ⟨ha4, ha5, _⟩ => R_move rfl)) ⟨ha4, ha5, trivial⟩ rfl ?_
                  refine T_takeA (i := 37) rfl rfl (by kernel_rfl) (by kernel_rfl) (by kernel_rfl) (Y_yes rfl rfl rfl (decide_eq_false h7) (fun _ ⟨ha4, ha5, _⟩ => R_sub64 rfl rfl (by first | omega | (have h_ := hr _ (List.getElem_mem (l := l) (show i < l.length by omega)); omega) | (have h_ := (hok _ (List.getElem_mem (l := l) (show i < l.length by omega))).1.1; unfold OkB at h_; omega)))) ⟨ha4, ha5, trivial⟩ rfl ?_
                  refine T_takeA (i := 38) rfl rfl (by kernel_rfl) (by kernel_rfl) (by kernel_rfl) (Y_yes rfl rfl rfl (decide_eq_false h7) (fun _ ⟨ha4, ha5, _⟩ => R_indexE rfl rfl (by first | rfl | omega) slc25 hl5 eA3 er3)) ⟨ha4, ha5, trivial⟩ rfl ?_
                  refine T_takeA (i := 39) rfl rfl (by kernel_rfl) (by kernel_rfl) (by kernel_rfl) (Y_yes rfl rfl rfl (decide_eq_false h7) (fun _ ⟨ha4, ha5, _⟩ => R_field rfl fld76_4 rfl)) ⟨ha4, ha5, trivial⟩ rfl ?_
                  refine T_takeA (i := 40) rfl rfl (by kernel_rfl) (by kernel_rfl) (by kernel_rfl) (Y_yes rfl rfl rfl (decide_eq_false h7) (fun _ ⟨ha4, ha5, _⟩ => R_load1 rfl scl3 (ha5 10 _ rfl))) ⟨ha4, ha5, trivial⟩ rfl ?_
                  refine T_takeA (i := 41) rfl rfl (by kernel_rfl) (by kernel_rfl) (by kernel_rfl) (Y_yes rfl rfl rfl (decide_eq_false h7) (fun _ ⟨ha4, ha5, _⟩ => R_neq rfl rfl)) ⟨ha4, ha5, trivial⟩ rfl ?_
                  refine T_takeA (i := 42) rfl rfl (by kernel_rfl) (by kernel_rfl) (by kernel_rfl) (Y_yes rfl rfl rfl (decide_eq_true h5) (fun _ ⟨ha4, ha5, _⟩ => R_pickF rfl (decide_eq_false h7) rfl)) ⟨ha4, ha5, trivial⟩ rfl ?_
                  refine T_takeA (i := 43) rfl rfl (by kernel_rfl) (by kernel_rfl) (by kernel_rfl) (Y_of (fun _ ⟨ha4, ha5, _⟩ => R_pickT rfl (decide_eq_true h5) rfl)) ⟨ha4, ha5, trivial⟩ rfl ?_
                  refine T_done (by kernel_rfl) (NoPanic.normal ?_)
                  refine N_then ?_
                  refine C_if rfl (fun h8 => ?_) (fun h8 => ?_)
                  · refine C_seq (C_reg ?_)
                    refine L_run (R_assign rfl) rfl ?_
                    refine L_nil (N_then (C_ret (R_then (R_in (R_then (R_then (R_in (R_then ?_))))))))
                    refine ret1 Try.results68 rfl ?_
                    first
                      | (exfalso; omega)
                      | (have e_ : tog l = false := by
                           rw [← hv]
                           first
                             | exact tgo_rec hli hv2 (by omega) (by unfold RecOk; rintro ⟨q1, q2, q3, q4⟩; omega)
                             | exact tgo_bad (by omega) (fun q => by have q1 := q.1.1; omega)
                             | exact tgo_bad (by omega) (fun q => by have q1 := q.1.2; contradiction)
                             | exact tgo_bad (by omega) (fun q => by have q1 := (joins_p (by omega) (by omega)).1 q.2; omega)
                         rw [e_]; exact ⟨hB, rfl⟩)
                  · refine C_skip (N_then (C_seq (C_reg ?_)))
                    refine L_run (R_assign rfl) rfl ?_
                    refine L_nil (N_then (C_block ?_))
                    have hli : i < l.length := by omega
                    have hmt : l[i].hs 0 = F 0 ∧ l[i].hs 1 = F 1 ∧ l[i].hs 2 = F 2 ∧ l[i].hs 3 = F 3 ∧ True := by assumption
                    refine C_loop (fun m_ a_ w_ => ∃ (σ_ : Nat → Value) (k : Nat) (n2 : Int) (F2 : Nat → Int), a_ = Ac 137 σ_ [] [(0, .slice A l.length c), (3, .int .i64 n2), (4, .pointer (some ⟨g3, 0, none⟩)), (5, .int .i64 (i : Int)), (6, .int .i64 (k : Int))] ∧ w.grownBy w_ none ∧ Sli t1 lo w.heap.size w_ A (fl encG l) ∧ DeepG w.heap.size w_ l ∧ Blk w_ g3 34 [.int .i64 (F2 0), .int .i64 (F2 1), .int .i64 (F2 2), .int .i64 (F2 3)] ∧ (k ≤ l[i].recs.length) ∧ (bh n2 F2 (l[i].recs.drop k) = bh n F l[i].recs) ∧ l[i].recs.length - k = m_) (l[i].recs.length - 0) ?_ ?_
                    · exact ⟨_, 0, n, F, Ac_frg ⟨rfl, rfl, rfl, rfl, (agr rfl (by first | rfl | (congr 1; omega) | (congr 1; simp; done) | (congr 1; simp only [IntKind.wrap_u64, IntKind.wrap_i64, IntKind.wrap_u8]; omega) | (congr 1 <;> omega))), trivial⟩, hB, hS, hD, hbh, (by omega), rfl, rfl⟩
                    · clear hB
                      clear hS hD hbh ha3 ha4 ha5
                      rintro m_ a_ w6 ⟨σ_, k, n2, F2, rfl, hB, hS, hD, hbi, hk2, hv2, rfl⟩
                      refine C_seq (C_seq (C_reg ?_))
                      refine L_run (R_move rfl) rfl ?_
                      refine L_run (R_move rfl) rfl ?_
                      refine L_run (R_move rfl) rfl ?_
                      have hl6 : i < l.length := by first | omega | (simp; omega)
                      refine T_index (xs := l) (i := i) EncG rfl rfl (by first | rfl | omega) slc25 hl6 hS rfl ?_
                      intro g7 o6 ha6
                      refine L_run (R_field rfl fld76_1 rfl) rfl ?_
                      refine L_run (R_load1 rfl scl73 (ha6 7 _ rfl)) rfl ?_
                      refine L_run (R_lenSl rfl slc73) rfl ?_
                      refine L_run (R_lss rfl rfl) rfl ?_
                      refine L_nil (N_then ?_)
                      refine C_if rfl (fun h9 => ?_) (fun h9 => ?_)
                      · refine C_skip (N_then (C_seq (C_block (C_seq (C_reg ?_)))))
                        refine L_run (R_move rfl) rfl ?_
                        refine L_run (R_move rfl) rfl ?_
                        have hl7 : i < l.length := by first | omega | (simp; omega)
                        refine T_index (xs := l) (i := i) EncG rfl rfl (by first | rfl | omega) slc25 hl7 hS rfl ?_
                        intro g8 o7 ha7
                        refine L_run (R_field rfl fld76_1 rfl) rfl ?_
                        refine L_run (R_load1 rfl scl73 (ha7 7 _ rfl)) rfl ?_
                        refine L_run (R_move rfl) rfl ?_
                        have hl8 : k < ((l[i]).recs).length := by first | omega | (simp; omega)
                        refine T_index (xs := (l[i]).recs) (i := k) EncR rfl rfl (by first | rfl | omega) slc73 hl8 (hD.get (i := i) (by first | assumption | omega | (simp; omega))) rfl ?_
                        intro g9 o8 ha8
                        refine L_run (R_loadA (vs := [.int .i64 ((((l[i]).recs)[k]).kind), .int .i64 ((((l[i]).recs)[k]).chain), .int .i64 ((((l[i]).recs)[k]).lsn), .int .i64 ((((l[i]).recs)[k]).prev), .slice ((((l[i]).recs)[k]).da) ((((l[i]).recs)[k]).dn) ((((l[i]).recs)[k]).dc)]) rfl agg78 (At.pre ha8 rfl) rfl) rfl ?_
                        refine L_alloc (cs := [.int .i64 0, .int .i64 0, .int .i64 0, .int .i64 0, .slice none 0 0]) zer78 rfl rfl ?_
                        intro g10 w7 eg2 hb3 hs5 hz5
                        have ge2 : w.heap.size ≤ g10 := eg_ge hB eg2
                        have lt1 : g3 < g10 := lt_of_eg hbi.lt eg2
                        replace hB := gb_tr hB hs5
                        replace hS := hS.gb hs5
                        replace hD := hD.gb hs5
                        replace hbi := hbi.gb hs5
                        replace ha6 := At.gb ha6 hs5 (by simp)
                        replace ha7 := At.gb ha7 hs5 (by simp)
                        replace ha8 := At.gb ha8 hs5 (by simp)
                        refine L_stA (vs := [.int .i64 ((((l[i]).recs)[k]).kind), .int .i64 ((((l[i]).recs)[k]).chain), .int .i64 ((((l[i]).recs)[k]).lsn), .int .i64 ((((l[i]).recs)[k]).prev), .slice ((((l[i]).recs)[k]).da) ((((l[i]).recs)[k]).dn) ((((l[i]).recs)[k]).dc)]) rfl rfl rfl sz78 rfl hb3 rfl ?_
                        intro w8 hb4 hs6 hz6
                        replace hB := gb_trg hB hs6 ge2
                        replace hS := hS.old hs6 ge2
                        replace hD := hD.old hs6 ge2
                        replace hbi := hbi.grown hs6 (ne_lt lt1)
                        refine L_nil (N_then (C_seq (C_seq ?_)))
                        refine C_draw2 mix ?_
                        intro w9 hs7 hz7
                        replace hB := gb_tr hB hs7
                        replace hS := hS.gb hs7
                        replace hD := hD.gb hs7
                        replace hbi := hbi.gb hs7
                        replace hb4 := hb4.gb hs7
                        refine ⟨fun W_ => Blk W_ g3 34 [.int .i64 (F2 0), .int .i64 (F2 1), .int .i64 (F2 2), .int .i64 (F2 3)] ∧ Blk W_ g10 78 [.int .i64 ((((l[i]).recs)[k]).kind), .int .i64 ((((l[i]).recs)[k]).chain), .int .i64 ((((l[i]).recs)[k]).lsn), .int .i64 ((((l[i]).recs)[k]).prev), .slice ((((l[i]).recs)[k]).da) ((((l[i]).recs)[k]).dn) ((((l[i]).recs)[k]).dc)] ∧ True, [0, 1, 2, 3, 4, 5, 6, 7, 8, 9, 10, 11, 12, 13, 14, 15, 16, 17, 18, 19, 20, 21, 22], ?_⟩
                        refine T_takeA (i := 0) rfl rfl (by kernel_rfl) (by kernel_rfl) (by kernel_rfl) (Y_of (fun _ ⟨hbi, hb4, _⟩ => R_field (r := 1) rfl fld78_1 rfl)) ⟨hbi, hb4, trivial⟩ rfl ?_
                        refine T_takeA (i := 1) rfl rfl (by kernel_rfl) (by kernel_rfl) (by kernel_rfl) (Y_of (fun _ ⟨hbi, hb4, _⟩ => R_load1 rfl scl3 (hb4.cell (i := 1) rfl))) ⟨hbi, hb4, trivial⟩ rfl ?_
                        refine T_takeA (i := 2) rfl rfl (by kernel_rfl) (by kernel_rfl) (by kernel_rfl) (Y_of (fun _ ⟨hbi, hb4, _⟩ => R_lss rfl rfl)) ⟨hbi, hb4, trivial⟩ rfl ?_
                        refine T_takeA (i := 3) rfl rfl (by kernel_rfl) (by kernel_rfl) (by kernel_rfl) (Y_of (fun _ ⟨hbi, hb4, _⟩ => R_move rfl)) ⟨hbi, hb4, trivial⟩ rfl ?_
                        by_cases h10 : (((l[i]).recs)[k]).chain < 0
                        · refine T_takeA (i := 4) rfl rfl (by kernel_rfl) (by kernel_rfl) (by kernel_rfl) (Y_no rfl rfl rfl (decide_eq_true h10)) ⟨hbi, hb4, trivial⟩ rfl ?_
                          refine T_takeA (i := 5) rfl rfl (by kernel_rfl) (by kernel_rfl) (by kernel_rfl) (Y_no rfl rfl rfl (decide_eq_true h10)) ⟨hbi, hb4, trivial⟩ rfl ?_
                          refine T_takeA (i := 6) rfl rfl (by kernel_rfl) (by kernel_rfl) (by kernel_rfl) (Y_no rfl rfl rfl (decide_eq_true h10)) ⟨hbi, hb4, trivial⟩ rfl ?_
                          refine T_takeA (i := 7) rfl rfl (by kernel_rfl) (by kernel_rfl) (by kernel_rfl) (Y_of (fun _ ⟨hbi, hb4, _⟩ => R_pickT rfl (decide_eq_true h10) rfl)) ⟨hbi, hb4, trivial⟩ rfl ?_
                          refine T_takeA (i := 8) rfl rfl (by kernel_rfl) (by kernel_rfl) (by kernel_rfl) (Y_of (fun _ ⟨hbi, hb4, _⟩ => R_move rfl)) ⟨hbi, hb4, trivial⟩ rfl ?_
                          refine T_takeA (i := 9) rfl rfl (by kernel_rfl) (by kernel_rfl) (by kernel_rfl) (Y_no rfl rfl rfl rfl) ⟨hbi, hb4, trivial⟩ rfl ?_
                          refine T_takeA (i := 10) rfl rfl (by kernel_rfl) (by kernel_rfl) (by kernel_rfl) (Y_no rfl rfl rfl rfl) ⟨hbi, hb4, trivial⟩ rfl ?_
                          refine T_takeA (i := 11) rfl rfl (by kernel_rfl) (by kernel_rfl) (by kernel_rfl) (Y_no rfl rfl rfl rfl) ⟨hbi, hb4, trivial⟩ rfl ?_
                          refine T_takeA (i := 12) rfl rfl (by kernel_rfl) (by kernel_rfl) (by kernel_rfl) (Y_no rfl rfl rfl rfl) ⟨hbi, hb4, trivial⟩ rfl ?_
                          refine T_takeA (i := 13) rfl rfl (by kernel_rfl) (by kernel_rfl) (by kernel_rfl) (Y_of (fun _ ⟨hbi, hb4, _⟩ => R_pickT rfl rfl rfl)) ⟨hbi, hb4, trivial⟩ rfl ?_
                          refine T_takeA (i := 14) rfl rfl (by kernel_rfl) (by kernel_rfl) (by kernel_rfl) (Y_of (fun _ ⟨hbi, hb4, _⟩ => R_move rfl)) ⟨hbi, hb4, trivial⟩ rfl ?_
                          refine T_takeA (i := 15) rfl rfl (by kernel_rfl) (by kernel_rfl) (by kernel_rfl) (Y_no rfl rfl rfl rfl) ⟨hbi, hb4, trivial⟩ rfl ?_
                          refine T_takeA (i := 16) rfl rfl (by kernel_rfl) (by kernel_rfl) (by kernel_rfl) (Y_no rfl rfl rfl rfl) ⟨hbi, hb4, trivial⟩ rfl ?_
                          refine T_takeA (i := 17) rfl rfl (by kernel_rfl) (by kernel_rfl) (by kernel_rfl) (Y_no rfl rfl rfl rfl) ⟨hbi, hb4, trivial⟩ rfl ?_
                          refine T_takeA (i := 18) rfl rfl (by kernel_rfl) (by kernel_rfl) (by kernel_rfl) (Y_no rfl rfl rfl rfl) ⟨hbi, hb4, trivial⟩ rfl ?_
                          refine T_takeA (i := 19) rfl rfl (by kernel_rfl) (by kernel_rfl) (by kernel_rfl) (Y_no rfl rfl rfl rfl) ⟨hbi, hb4, trivial⟩ rfl ?_
                          refine T_takeA (i := 20) rfl rfl (by kernel_rfl) (by kernel_rfl) (by kernel_rfl) (Y_no rfl rfl rfl rfl) ⟨hbi, hb4, trivial⟩ rfl ?_
                          refine T_takeA (i := 21) rfl rfl (by kernel_rfl) (by kernel_rfl) (by kernel_rfl) (Y_no rfl rfl rfl rfl) ⟨hbi, hb4, trivial⟩ rfl ?_
                          refine T_takeA (i := 22) rfl rfl (by kernel_rfl) (by kernel_rfl) (by kernel_rfl) (Y_of (fun _ ⟨hbi, hb4, _⟩ => R_pickT rfl rfl rfl)) ⟨hbi, hb4, trivial⟩ rfl ?_
                          refine T_done (by kernel_rfl) (NoPanic.normal ?_)
                          refine N_then (C_condT rfl rfl (C_seq (C_reg ?_)))
                          refine L_run (R_assign rfl) rfl ?_
                          refine L_nil (N_then (C_ret (R_then (R_in (R_then (R_then (R_in (R_in (R_then (R_then (R_in (R_then ?_))))))))))))
                          refine ret1 Try.results68 rfl ?_
                          first
                            | (exfalso; omega)
                            | (have e_ : tog l = false := by
                                 rw [← hv]
                                 first
                                   | exact tgo_rec hli hv2 (by omega) (by unfold RecOk; rintro ⟨q1, q2, q3, q4⟩; omega)
                                   | exact tgo_bad (by omega) (fun q => by have q1 := q.1.1; omega)
                                   | exact tgo_bad (by omega) (fun q => by have q1 := q.1.2; contradiction)
                                   | exact tgo_bad (by omega) (fun q => by have q1 := (joins_p (by omega) (by omega)).1 q.2; omega)
                               rw [e_]; exact ⟨hB, rfl⟩)
                        · refine T_takeA (i := 4) rfl rfl (by kernel_rfl) (by kernel_rfl) (by kernel_rfl) (Y_yes rfl rfl rfl (decide_eq_false h10) (fun _ ⟨hbi, hb4, _⟩ => R_field (r := 1) rfl fld78_1 rfl)) ⟨hbi, hb4, trivial⟩ rfl ?_
                          refine T_takeA (i := 5) rfl rfl (by kernel_rfl) (by kernel_rfl) (by kernel_rfl) (Y_yes rfl rfl rfl (decide_eq_false h10) (fun _ ⟨hbi, hb4, _⟩ => R_load1 rfl scl3 (hb4.cell (i := 1) rfl))) ⟨hbi, hb4, trivial⟩ rfl ?_
                          refine T_takeA (i := 6) rfl rfl (by kernel_rfl) (by kernel_rfl) (by kernel_rfl) (Y_yes rfl rfl rfl (decide_eq_false h10) (fun _ ⟨hbi, hb4, _⟩ => R_gtr rfl rfl)) ⟨hbi, hb4, trivial⟩ rfl ?_
                          refine T_takeA (i := 7) rfl rfl (by kernel_rfl) (by kernel_rfl) (by kernel_rfl) (Y_of (fun _ ⟨hbi, hb4, _⟩ => R_pickF rfl (decide_eq_false h10) rfl)) ⟨hbi, hb4, trivial⟩ rfl ?_
                          refine T_takeA (i := 8) rfl rfl (by kernel_rfl) (by kernel_rfl) (by kernel_rfl) (Y_of (fun _ ⟨hbi, hb4, _⟩ => R_move rfl)) ⟨hbi, hb4, trivial⟩ rfl ?_
                          by_cases h11 : 3 < (((l[i]).recs)[k]).chain
                          · refine T_takeA (i := 9) rfl rfl (by kernel_rfl) (by kernel_rfl) (by kernel_rfl) (Y_no rfl rfl rfl (decide_eq_true h11)) ⟨hbi, hb4, trivial⟩ rfl ?_
                            refine T_takeA (i := 10) rfl rfl (by kernel_rfl) (by kernel_rfl) (by kernel_rfl) (Y_no rfl rfl rfl (decide_eq_true h11)) ⟨hbi, hb4, trivial⟩ rfl ?_
                            refine T_takeA (i := 11) rfl rfl (by kernel_rfl) (by kernel_rfl) (by kernel_rfl) (Y_no rfl rfl rfl (decide_eq_true h11)) ⟨hbi, hb4, trivial⟩ rfl ?_
                            refine T_takeA (i := 12) rfl rfl (by kernel_rfl) (by kernel_rfl) (by kernel_rfl) (Y_no rfl rfl rfl (decide_eq_true h11)) ⟨hbi, hb4, trivial⟩ rfl ?_
                            refine T_takeA (i := 13) rfl rfl (by kernel_rfl) (by kernel_rfl) (by kernel_rfl) (Y_of (fun _ ⟨hbi, hb4, _⟩ => R_pickT rfl (decide_eq_true h11) rfl)) ⟨hbi, hb4, trivial⟩ rfl ?_
                            refine T_takeA (i := 14) rfl rfl (by kernel_rfl) (by kernel_rfl) (by kernel_rfl) (Y_of (fun _ ⟨hbi, hb4, _⟩ => R_move rfl)) ⟨hbi, hb4, trivial⟩ rfl ?_
                            refine T_takeA (i := 15) rfl rfl (by kernel_rfl) (by kernel_rfl) (by kernel_rfl) (Y_no rfl rfl rfl rfl) ⟨hbi, hb4, trivial⟩ rfl ?_
                            refine T_takeA (i := 16) rfl rfl (by kernel_rfl) (by kernel_rfl) (by kernel_rfl) (Y_no rfl rfl rfl rfl) ⟨hbi, hb4, trivial⟩ rfl ?_
                            refine T_takeA (i := 17) rfl rfl (by kernel_rfl) (by kernel_rfl) (by kernel_rfl) (Y_no rfl rfl rfl rfl) ⟨hbi, hb4, trivial⟩ rfl ?_
                            refine T_takeA (i := 18) rfl rfl (by kernel_rfl) (by kernel_rfl) (by kernel_rfl) (Y_no rfl rfl rfl rfl) ⟨hbi, hb4, trivial⟩ rfl ?_
                            refine T_takeA (i := 19) rfl rfl (by kernel_rfl) (by kernel_rfl) (by kernel_rfl) (Y_no rfl rfl rfl rfl) ⟨hbi, hb4, trivial⟩ rfl ?_
                            refine T_takeA (i := 20) rfl rfl (by kernel_rfl) (by kernel_rfl) (by kernel_rfl) (Y_no rfl rfl rfl rfl) ⟨hbi, hb4, trivial⟩ rfl ?_
                            refine T_takeA (i := 21) rfl rfl (by kernel_rfl) (by kernel_rfl) (by kernel_rfl) (Y_no rfl rfl rfl rfl) ⟨hbi, hb4, trivial⟩ rfl ?_
                            refine T_takeA (i := 22) rfl rfl (by kernel_rfl) (by kernel_rfl) (by kernel_rfl) (Y_of (fun _ ⟨hbi, hb4, _⟩ => R_pickT rfl rfl rfl)) ⟨hbi, hb4, trivial⟩ rfl ?_
                            refine T_done (by kernel_rfl) (NoPanic.normal ?_)
                            refine N_then (C_condT rfl rfl (C_seq (C_reg ?_)))
                            refine L_run (R_assign rfl) rfl ?_
                            refine L_nil (N_then (C_ret (R_then (R_in (R_then (R_then (R_in (R_in (R_then (R_then (R_in (R_then ?_))))))))))))
                            refine ret1 Try.results68 rfl ?_
                            first
                              | (exfalso; omega)
                              | (have e_ : tog l = false := by
                                   rw [← hv]
                                   first
                                     | exact tgo_rec hli hv2 (by omega) (by unfold RecOk; rintro ⟨q1, q2, q3, q4⟩; omega)
                                     | exact tgo_bad (by omega) (fun q => by have q1 := q.1.1; omega)
                                     | exact tgo_bad (by omega) (fun q => by have q1 := q.1.2; contradiction)
                                     | exact tgo_bad (by omega) (fun q => by have q1 := (joins_p (by omega) (by omega)).1 q.2; omega)
                                 rw [e_]; exact ⟨hB, rfl⟩)
                          · refine T_takeA (i := 9) rfl rfl (by kernel_rfl) (by kernel_rfl) (by kernel_rfl) (Y_yes rfl rfl rfl (decide_eq_false h11) (fun _ ⟨hbi, hb4, _⟩ => R_field (r := 2) rfl fld78_2 rfl)) ⟨hbi, hb4, trivial⟩ rfl ?_
                            refine T_takeA (i := 10) rfl rfl (by kernel_rfl) (by kernel_rfl) (by kernel_rfl) (Y_yes rfl rfl rfl (decide_eq_false h11) (fun _ ⟨hbi, hb4, _⟩ => R_load1 rfl scl3 (hb4.cell (i := 2) rfl))) ⟨hbi, hb4, trivial⟩ rfl ?_
                            refine T_takeA (i := 11) rfl rfl (by kernel_rfl) (by kernel_rfl) (by kernel_rfl) (Y_yes rfl rfl rfl (decide_eq_false h11) (fun _ ⟨hbi, hb4, _⟩ => R_move rfl)) ⟨hbi, hb4, trivial⟩ rfl ?_
                            refine T_takeA (i := 12) rfl rfl (by kernel_rfl) (by kernel_rfl) (by kernel_rfl) (Y_yes rfl rfl rfl (decide_eq_false h11) (fun _ ⟨hbi, hb4, _⟩ => R_neq rfl rfl)) ⟨hbi, hb4, trivial⟩ rfl ?_
                            refine T_takeA (i := 13) rfl rfl (by kernel_rfl) (by kernel_rfl) (by kernel_rfl) (Y_of (fun _ ⟨hbi, hb4, _⟩ => R_pickF rfl (decide_eq_false h11) rfl)) ⟨hbi, hb4, trivial⟩ rfl ?_
                            refine T_takeA (i := 14) rfl rfl (by kernel_rfl) (by kernel_rfl) (by kernel_rfl) (Y_of (fun _ ⟨hbi, hb4, _⟩ => R_move rfl)) ⟨hbi, hb4, trivial⟩ rfl ?_
                            by_cases h12 : (((l[i]).recs)[k]).lsn ≠ n2
                            · refine T_takeA (i := 15) rfl rfl (by kernel_rfl) (by kernel_rfl) (by kernel_rfl) (Y_no rfl rfl rfl (decide_eq_true h12)) ⟨hbi, hb4, trivial⟩ rfl ?_
                              refine T_takeA (i := 16) rfl rfl (by kernel_rfl) (by kernel_rfl) (by kernel_rfl) (Y_no rfl rfl rfl (decide_eq_true h12)) ⟨hbi, hb4, trivial⟩ rfl ?_
                              refine T_takeA (i := 17) rfl rfl (by kernel_rfl) (by kernel_rfl) (by kernel_rfl) (Y_no rfl rfl rfl (decide_eq_true h12)) ⟨hbi, hb4, trivial⟩ rfl ?_
                              refine T_takeA (i := 18) rfl rfl (by kernel_rfl) (by kernel_rfl) (by kernel_rfl) (Y_no rfl rfl rfl (decide_eq_true h12)) ⟨hbi, hb4, trivial⟩ rfl ?_
                              refine T_takeA (i := 19) rfl rfl (by kernel_rfl) (by kernel_rfl) (by kernel_rfl) (Y_no rfl rfl rfl (decide_eq_true h12)) ⟨hbi, hb4, trivial⟩ rfl ?_
                              refine T_takeA (i := 20) rfl rfl (by kernel_rfl) (by kernel_rfl) (by kernel_rfl) (Y_no rfl rfl rfl (decide_eq_true h12)) ⟨hbi, hb4, trivial⟩ rfl ?_
                              refine T_takeA (i := 21) rfl rfl (by kernel_rfl) (by kernel_rfl) (by kernel_rfl) (Y_no rfl rfl rfl (decide_eq_true h12)) ⟨hbi, hb4, trivial⟩ rfl ?_
                              refine T_takeA (i := 22) rfl rfl (by kernel_rfl) (by kernel_rfl) (by kernel_rfl) (Y_of (fun _ ⟨hbi, hb4, _⟩ => R_pickT rfl (decide_eq_true h12) rfl)) ⟨hbi, hb4, trivial⟩ rfl ?_
                              refine T_done (by kernel_rfl) (NoPanic.normal ?_)
                              refine N_then (C_condT rfl rfl (C_seq (C_reg ?_)))
                              refine L_run (R_assign rfl) rfl ?_
                              refine L_nil (N_then (C_ret (R_then (R_in (R_then (R_then (R_in (R_in (R_then (R_then (R_in (R_then ?_))))))))))))
                              refine ret1 Try.results68 rfl ?_
                              first
                                | (exfalso; omega)
                                | (have e_ : tog l = false := by
                                     rw [← hv]
                                     first
                                       | exact tgo_rec hli hv2 (by omega) (by unfold RecOk; rintro ⟨q1, q2, q3, q4⟩; omega)
                                       | exact tgo_bad (by omega) (fun q => by have q1 := q.1.1; omega)
                                       | exact tgo_bad (by omega) (fun q => by have q1 := q.1.2; contradiction)
                                       | exact tgo_bad (by omega) (fun q => by have q1 := (joins_p (by omega) (by omega)).1 q.2; omega)
                                   rw [e_]; exact ⟨hB, rfl⟩)
                            · refine T_takeA (i := 15) rfl rfl (by kernel_rfl) (by kernel_rfl) (by kernel_rfl) (Y_yes rfl rfl rfl (decide_eq_false h12) (fun _ ⟨hbi, hb4, _⟩ => R_field (r := 3) rfl fld78_3 rfl)) ⟨hbi, hb4, trivial⟩ rfl ?_
                              refine T_takeA (i := 16) rfl rfl (by kernel_rfl) (by kernel_rfl) (by kernel_rfl) (Y_yes rfl rfl rfl (decide_eq_false h12) (fun _ ⟨hbi, hb4, _⟩ => R_load1 rfl scl3 (hb4.cell (i := 3) rfl))) ⟨hbi, hb4, trivial⟩ rfl ?_
                              refine T_takeA (i := 17) rfl rfl (by kernel_rfl) (by kernel_rfl) (by kernel_rfl) (Y_yes rfl rfl rfl (decide_eq_false h12) (fun _ ⟨hbi, hb4, _⟩ => R_field (r := 1) rfl fld78_1 rfl)) ⟨hbi, hb4, trivial⟩ rfl ?_
                              refine T_takeA (i := 18) rfl rfl (by kernel_rfl) (by kernel_rfl) (by kernel_rfl) (Y_yes rfl rfl rfl (decide_eq_false h12) (fun _ ⟨hbi, hb4, _⟩ => R_load1 rfl scl3 (hb4.cell (i := 1) rfl))) ⟨hbi, hb4, trivial⟩ rfl ?_
                              have hl9 : ((((l[i]).recs)[k]).chain).toNat < 4 := by omega
                              refine T_takeA (i := 19) rfl rfl (by kernel_rfl) (by kernel_rfl) (by kernel_rfl) (Y_yes rfl rfl rfl (decide_eq_false h12) (fun _ ⟨hbi, hb4, _⟩ => R_indexArr (sz := 1) (o := 0) (a := (((l[i]).recs)[k]).chain) (i := ((((l[i]).recs)[k]).chain).toNat) (r := (0 + ((((l[i]).recs)[k]).chain).toNat)) rfl rfl (by first | rfl | omega) arr34 hl9 (by first | omega | rfl | simp))) ⟨hbi, hb4, trivial⟩ rfl ?_
                              refine T_takeA (i := 20) rfl rfl (by kernel_rfl) (by kernel_rfl) (by kernel_rfl) (Y_yes rfl rfl rfl (decide_eq_false h12) (fun _ ⟨hbi, hb4, _⟩ => R_load1 rfl scl3 (hbi.cell (four_at (pre := []) (post := []) (f := F2) (k := .i64) hl9)))) ⟨hbi, hb4, trivial⟩ rfl ?_
                              refine T_takeA (i := 21) rfl rfl (by kernel_rfl) (by kernel_rfl) (by kernel_rfl) (Y_yes rfl rfl rfl (decide_eq_false h12) (fun _ ⟨hbi, hb4, _⟩ => R_neq rfl rfl)) ⟨hbi, hb4, trivial⟩ rfl ?_
                              refine T_takeA (i := 22) rfl rfl (by kernel_rfl) (by kernel_rfl) (by kernel_rfl) (Y_of (fun _ ⟨hbi, hb4, _⟩ => R_pickF rfl (decide_eq_false h12) rfl)) ⟨hbi, hb4, trivial⟩ rfl ?_
                              refine T_done (by kernel_rfl) (NoPanic.normal ?_)
                              refine N_then ?_
                              refine C_if rfl (fun h13 => ?_) (fun h13 => ?_)
                              · refine C_seq (C_reg ?_)
                                refine L_run (R_assign rfl) rfl ?_
                                refine L_nil (N_then (C_ret (R_then (R_in (R_then (R_then (R_in (R_in (R_then (R_then (R_in (R_then ?_))))))))))))
                                refine ret1 Try.results68 rfl ?_
                                first
                                  | (exfalso; omega)
                                  | (have e_ : tog l = false := by
                                       rw [← hv]
                                       first
                                         | exact tgo_rec hli hv2 (by omega) (by unfold RecOk; rintro ⟨q1, q2, q3, q4⟩; omega)
                                         | exact tgo_bad (by omega) (fun q => by have q1 := q.1.1; omega)
                                         | exact tgo_bad (by omega) (fun q => by have q1 := q.1.2; contradiction)
                                         | exact tgo_bad (by omega) (fun q => by have q1 := (joins_p (by omega) (by omega)).1 q.2; omega)
                                     rw [e_]; exact ⟨hB, rfl⟩)
                              · refine C_skip (N_then (C_seq (C_reg ?_)))
                                refine L_run (R_field (r := 1) rfl fld78_1 rfl) rfl ?_
                                refine L_run (R_load1 rfl scl3 (hb4.cell (i := 1) rfl)) rfl ?_
                                refine L_run (R_field (r := 2) rfl fld78_2 rfl) rfl ?_
                                refine L_run (R_load1 rfl scl3 (hb4.cell (i := 2) rfl)) rfl ?_
                                have hl10 : ((((l[i]).recs)[k]).chain).toNat < 4 := by omega
                                refine L_run (R_indexArr (sz := 1) (o := 0) (a := (((l[i]).recs)[k]).chain) (i := ((((l[i]).recs)[k]).chain).toNat) (r := (0 + ((((l[i]).recs)[k]).chain).toNat)) rfl rfl (by first | rfl | omega) arr34 hl10 (by first | omega | rfl | simp)) rfl ?_
                                refine L_st1v rfl rfl rfl sz3 hbi (by show 0 + ((((l[i]).recs)[k]).chain).toNat < 4; omega) ?_
                                intro w10 hb5 hs8 hz8
                                replace hb5 : Blk w10 g3 34 [.int .i64 ((upd F2 (((((l[i]).recs)[k]).chain).toNat) ((((l[i]).recs)[k]).lsn)) 0), .int .i64 ((upd F2 (((((l[i]).recs)[k]).chain).toNat) ((((l[i]).recs)[k]).lsn)) 1), .int .i64 ((upd F2 (((((l[i]).recs)[k]).chain).toNat) ((((l[i]).recs)[k]).lsn)) 2), .int .i64 ((upd F2 (((((l[i]).recs)[k]).chain).toNat) ((((l[i]).recs)[k]).lsn)) 3)] := Blk.cast (four_set (pre := []) (post := []) (f := F2) (k := .i64) hl10) hb5
                                replace hB := gb_trg hB hs8 ge1
                                replace hS := hS.old hs8 ge1
                                replace hD := hD.old hs8 ge1
                                replace hb4 := hb4.grown hs8 (ne_gt lt1)
                                refine L_nil (N_then (C_reg ?_))
                                refine L_run (R_move rfl) rfl ?_
                                refine L_run (R_add rfl rfl) rfl ?_
                                refine L_run (R_assign rfl) rfl ?_
                                refine L_nil (N_in (N_then (C_reg ?_)))
                                refine L_run (R_move rfl) rfl ?_
                                refine L_run (R_add64 rfl rfl (by first | omega | (have h_ := hr _ (List.getElem_mem (l := l) (show i < l.length by omega)); omega) | (have h_ := (hok _ (List.getElem_mem (l := l) (show i < l.length by omega))).1.1; unfold OkB at h_; omega))) rfl ?_
                                refine L_run (R_assign rfl) rfl ?_
                                refine L_nil (N_then ?_)
                                have hst := (bh_step (rs := l[i].recs) (k := k) (by omega) (n := n2) (h := F2) (by unfold RecOk; exact ⟨by omega, by omega, by omega, by omega⟩)).symm.trans hv2
                                exact ⟨l[i].recs.length - (k + 1), by omega, _, (k + 1), (IntKind.i64.wrap (n2 + 1)), (upd F2 (((((l[i]).recs)[k]).chain).toNat) ((((l[i]).recs)[k]).lsn)), Ac_frg ⟨rfl, rfl, rfl, rfl, (agr rfl (by first | rfl | (congr 1; omega) | (congr 1; simp; done) | (congr 1; simp only [IntKind.wrap_u64, IntKind.wrap_i64, IntKind.wrap_u8]; omega) | (congr 1 <;> omega))), trivial⟩, hB, hS, hD, hb5, (by omega), hst, rfl⟩
                      · refine C_exit (X_then (X_then (X_hit (N_in (N_then (C_reg ?_))))))
                        refine L_run (R_move rfl) rfl ?_
                        refine L_run (R_add64 rfl rfl (by first | omega | (have h_ := hr _ (List.getElem_mem (l := l) (show i < l.length by omega)); omega) | (have h_ := (hok _ (List.getElem_mem (l := l) (show i < l.length by omega))).1.1; unfold OkB at h_; omega))) rfl ?_
                        refine L_run (R_assign rfl) rfl ?_
                        refine L_nil (N_then ?_)
                        have hj_ : Joins (pv l i) l[i] := by first | exact joins_0 (by omega) | exact (joins_p (by omega) (by omega)).2 ⟨by omega, by omega, by omega⟩
                        have hst := (tgo_step hli ⟨by omega, hmt⟩ hj_ hv2 (by omega)).symm.trans hv
                        exact ⟨l.length - (i + 1), by omega, _, (i + 1), n2, F2, Ac_frg ⟨rfl, rfl, rfl, (agr rfl (by first | rfl | (congr 1; omega) | (congr 1; simp; done) | (congr 1; simp only [IntKind.wrap_u64, IntKind.wrap_i64, IntKind.wrap_u8]; omega) | (congr 1 <;> omega))), trivial⟩, hB, hS, hD, hbi, (by omega), hst, rfl⟩
            · refine T_takeA (i := 3) rfl rfl (by kernel_rfl) (by kernel_rfl) (by kernel_rfl) (Y_no rfl rfl rfl (decide_eq_false h5)) ⟨ha4, ha5, trivial⟩ rfl ?_
              refine T_takeA (i := 4) rfl rfl (by kernel_rfl) (by kernel_rfl) (by kernel_rfl) (Y_no rfl rfl rfl (decide_eq_false h5)) ⟨ha4, ha5, trivial⟩ rfl ?_
              refine T_takeA (i := 5) rfl rfl (by kernel_rfl) (by kernel_rfl) (by kernel_rfl) (Y_no rfl rfl rfl (decide_eq_false h5)) ⟨ha4, ha5, trivial⟩ rfl ?_
              refine T_takeA (i := 6) rfl rfl (by kernel_rfl) (by kernel_rfl) (by kernel_rfl) (Y_no rfl rfl rfl (decide_eq_false h5)) ⟨ha4, ha5, trivial⟩ rfl ?_
              refine T_takeA (i := 7) rfl rfl (by kernel_rfl) (by kernel_rfl) (by kernel_rfl) (Y_no rfl rfl rfl (decide_eq_false h5)) ⟨ha4, ha5, trivial⟩ rfl ?_
              refine T_takeA (i := 8) rfl rfl (by kernel_rfl) (by kernel_rfl) (by kernel_rfl) (Y_no rfl rfl rfl (decide_eq_false h5)) ⟨ha4, ha5, trivial⟩ rfl ?_
              refine T_takeA (i := 9) rfl rfl (by kernel_rfl) (by kernel_rfl) (by kernel_rfl) (Y_no rfl rfl rfl (decide_eq_false h5)) ⟨ha4, ha5, trivial⟩ rfl ?_
              refine T_takeA (i := 10) rfl rfl (by kernel_rfl) (by kernel_rfl) (by kernel_rfl) (Y_no rfl rfl rfl (decide_eq_false h5)) ⟨ha4, ha5, trivial⟩ rfl ?_
              refine T_takeA (i := 11) rfl rfl (by kernel_rfl) (by kernel_rfl) (by kernel_rfl) (Y_no rfl rfl rfl (decide_eq_false h5)) ⟨ha4, ha5, trivial⟩ rfl ?_
              refine T_takeA (i := 12) rfl rfl (by kernel_rfl) (by kernel_rfl) (by kernel_rfl) (Y_no rfl rfl rfl (decide_eq_false h5)) ⟨ha4, ha5, trivial⟩ rfl ?_
              refine T_takeA (i := 13) rfl rfl (by kernel_rfl) (by kernel_rfl) (by kernel_rfl) (Y_no rfl rfl rfl (decide_eq_false h5)) ⟨ha4, ha5, trivial⟩ rfl ?_
              refine T_takeA (i := 14) rfl rfl (by kernel_rfl) (by kernel_rfl) (by kernel_rfl) (Y_no rfl rfl rfl (decide_eq_false h5)) ⟨ha4, ha5, trivial⟩ rfl ?_
              refine T_takeA (i := 15) rfl rfl (by kernel_rfl) (by kernel_rfl) (by kernel_rfl) (Y_no rfl rfl rfl (decide_eq_false h5)) ⟨ha4, ha5, trivial⟩ rfl ?_
              refine T_takeA (i := 16) rfl rfl (by kernel_rfl) (by kernel_rfl) (by kernel_rfl) (Y_no rfl rfl rfl (decide_eq_false h5)) ⟨ha4, ha5, trivial⟩ rfl ?_
              refine T_takeA (i := 17) rfl rfl (by kernel_rfl) (by kernel_rfl) (by kernel_rfl) (Y_no rfl rfl rfl (decide_eq_false h5)) ⟨ha4, ha5, trivial⟩ rfl ?_
              refine T_takeA (i := 18) rfl rfl (by kernel_rfl) (by kernel_rfl) (by kernel_rfl) (Y_no rfl rfl rfl (decide_eq_false h5)) ⟨ha4, ha5, trivial⟩ rfl ?_
              refine T_takeA (i := 19) rfl rfl (by kernel_rfl) (by kernel_rfl) (by kernel_rfl) (Y_noU rfl rfl rfl) ⟨ha4, ha5, trivial⟩ rfl ?_
              refine T_takeA (i := 20) rfl rfl (by kernel_rfl) (by kernel_rfl) (by kernel_rfl) (Y_noU rfl rfl rfl) ⟨ha4, ha5, trivial⟩ rfl ?_
              refine T_takeA (i := 21) rfl rfl (by kernel_rfl) (by kernel_rfl) (by kernel_rfl) (Y_noU rfl rfl rfl) ⟨ha4, ha5, trivial⟩ rfl ?_
              refine T_takeA (i := 22) rfl rfl (by kernel_rfl) (by kernel_rfl) (by kernel_rfl) (Y_noU rfl rfl rfl) ⟨ha4, ha5, trivial⟩ rfl ?_
              refine T_takeA (i := 23) rfl rfl (by kernel_rfl) (by kernel_rfl) (by kernel_rfl) (Y_noU rfl rfl rfl) ⟨ha4, ha5, trivial⟩ rfl ?_
              refine T_takeA (i := 24) rfl rfl (by kernel_rfl) (by kernel_rfl) (by kernel_rfl) (Y_noU rfl rfl rfl) ⟨ha4, ha5, trivial⟩ rfl ?_
              refine T_takeA (i := 25) rfl rfl (by kernel_rfl) (by kernel_rfl) (by kernel_rfl) (Y_noU rfl rfl rfl) ⟨ha4, ha5, trivial⟩ rfl ?_
              refine T_takeA (i := 26) rfl rfl (by kernel_rfl) (by kernel_rfl) (by kernel_rfl) (Y_noU rfl rfl rfl) ⟨ha4, ha5, trivial⟩ rfl ?_
              refine T_takeA (i := 27) rfl rfl (by kernel_rfl) (by kernel_rfl) (by kernel_rfl) (Y_noU rfl rfl rfl) ⟨ha4, ha5, trivial⟩ rfl ?_
              refine T_takeA (i := 28) rfl rfl (by kernel_rfl) (by kernel_rfl) (by kernel_rfl) (Y_noU rfl rfl rfl) ⟨ha4, ha5, trivial⟩ rfl ?_
              refine T_takeA (i := 29) rfl rfl (by kernel_rfl) (by kernel_rfl) (by kernel_rfl) (Y_noU rfl rfl rfl) ⟨ha4, ha5, trivial⟩ rfl ?_
              refine T_takeA (i := 30) rfl rfl (by kernel_rfl) (by kernel_rfl) (by kernel_rfl) (Y_noU rfl rfl rfl) ⟨ha4, ha5, trivial⟩ rfl ?_
              refine T_takeA (i := 31) rfl rfl (by kernel_rfl) (by kernel_rfl) (by kernel_rfl) (Y_noU rfl rfl rfl) ⟨ha4, ha5, trivial⟩ rfl ?_
              refine T_takeA (i := 32) rfl rfl (by kernel_rfl) (by kernel_rfl) (by kernel_rfl) (Y_noU rfl rfl rfl) ⟨ha4, ha5, trivial⟩ rfl ?_
              refine T_takeA (i := 33) rfl rfl (by kernel_rfl) (by kernel_rfl) (by kernel_rfl) (Y_no rfl rfl rfl (decide_eq_false h5)) ⟨ha4, ha5, trivial⟩ rfl ?_
              refine T_takeA (i := 34) rfl rfl (by kernel_rfl) (by kernel_rfl) (by kernel_rfl) (Y_no rfl rfl rfl (decide_eq_false h5)) ⟨ha4, ha5, trivial⟩ rfl ?_
              refine T_takeA (i := 35) rfl rfl (by kernel_rfl) (by kernel_rfl) (by kernel_rfl) (Y_noU rfl rfl rfl) ⟨ha4, ha5, trivial⟩ rfl ?_
              refine T_takeA (i := 36) rfl rfl (by kernel_rfl) (by kernel_rfl) (by kernel_rfl) (Y_noU rfl rfl rfl) ⟨ha4, ha5, trivial⟩ rfl ?_
              refine T_takeA (i := 37) rfl rfl (by kernel_rfl) (by kernel_rfl) (by kernel_rfl) (Y_noU rfl rfl rfl) ⟨ha4, ha5, trivial⟩ rfl ?_
              refine T_takeA (i := 38) rfl rfl (by kernel_rfl) (by kernel_rfl) (by kernel_rfl) (Y_noU rfl rfl rfl) ⟨ha4, ha5, trivial⟩ rfl ?_
              refine T_takeA (i := 39) rfl rfl (by kernel_rfl) (by kernel_rfl) (by kernel_rfl) (Y_noU rfl rfl rfl) ⟨ha4, ha5, trivial⟩ rfl ?_
              refine T_takeA (i := 40) rfl rfl (by kernel_rfl) (by kernel_rfl) (by kernel_rfl) (Y_noU rfl rfl rfl) ⟨ha4, ha5, trivial⟩ rfl ?_
              refine T_takeA (i := 41) rfl rfl (by kernel_rfl) (by kernel_rfl) (by kernel_rfl) (Y_noU rfl rfl rfl) ⟨ha4, ha5, trivial⟩ rfl ?_
              refine T_takeA (i := 42) rfl rfl (by kernel_rfl) (by kernel_rfl) (by kernel_rfl) (Y_no rfl rfl rfl (decide_eq_false h5)) ⟨ha4, ha5, trivial⟩ rfl ?_
              refine T_takeA (i := 43) rfl rfl (by kernel_rfl) (by kernel_rfl) (by kernel_rfl) (Y_of (fun _ ⟨ha4, ha5, _⟩ => R_pickF rfl (decide_eq_false h5) rfl)) ⟨ha4, ha5, trivial⟩ rfl ?_
              refine T_done (by kernel_rfl) (NoPanic.normal ?_)
              refine N_then (C_condF rfl rfl (C_skip (N_then (C_seq (C_reg ?_)))))
              refine L_run (R_assign rfl) rfl ?_
              refine L_nil (N_then (C_block ?_))
              have hli : i < l.length := by omega
              have hmt : l[i].hs 0 = F 0 ∧ l[i].hs 1 = F 1 ∧ l[i].hs 2 = F 2 ∧ l[i].hs 3 = F 3 ∧ True := by assumption
              refine C_loop (fun m_ a_ w_ => ∃ (σ_ : Nat → Value) (k : Nat) (n2 : Int) (F2 : Nat → Int), a_ = Ac 137 σ_ [] [(0, .slice A l.length c), (3, .int .i64 n2), (4, .pointer (some ⟨g3, 0, none⟩)), (5, .int .i64 (i : Int)), (6, .int .i64 (k : Int))] ∧ w.grownBy w_ none ∧ Sli t1 lo w.heap.size w_ A (fl encG l) ∧ DeepG w.heap.size w_ l ∧ Blk w_ g3 34 [.int .i64 (F2 0), .int .i64 (F2 1), .int .i64 (F2 2), .int .i64 (F2 3)] ∧ (k ≤ l[i].recs.length) ∧ (bh n2 F2 (l[i].recs.drop k) = bh n F l[i].recs) ∧ l[i].recs.length - k = m_) (l[i].recs.length - 0) ?_ ?_
              · exact ⟨_, 0, n, F, Ac_frg ⟨rfl, rfl, rfl, rfl, (agr rfl (by first | rfl | (congr 1; omega) | (congr 1; simp; done) | (congr 1; simp only [IntKind.wrap_u64, IntKind.wrap_i64, IntKind.wrap_u8]; omega) | (congr 1 <;> omega))), trivial⟩, hB, hS, hD, hbh, (by omega), rfl, rfl⟩
              · clear hB
                clear hS hD hbh ha3 ha4 ha5
                rintro m_ a_ w11 ⟨σ_, k, n2, F2, rfl, hB, hS, hD, hbi, hk2, hv2, rfl⟩
                refine C_seq (C_seq (C_reg ?_))
                refine L_run (R_move rfl) rfl ?_
                refine L_run (R_move rfl) rfl ?_
                refine L_run (R_move rfl) rfl ?_
                have hl11 : i < l.length := by first | omega | (simp; omega)
                refine T_index (xs := l) (i := i) EncG rfl rfl (by first | rfl | omega) slc25 hl11 hS rfl ?_
                intro g11 o9 ha9
                refine L_run (R_field rfl fld76_1 rfl) rfl ?_
                refine L_run (R_load1 rfl scl73 (ha9 7 _ rfl)) rfl ?_
                refine L_run (R_lenSl rfl slc73) rfl ?_
                refine L_run (R_lss rfl rfl) rfl ?_
                refine L_nil (N_then ?_)
                refine C_if rfl (fun h14 => ?_) (fun h14 => ?_)
                · refine C_skip (N_then (C_seq (C_block (C_seq (C_reg ?_)))))
                  refine L_run (R_move rfl) rfl ?_
                  refine L_run (R_move rfl) rfl ?_
                  have hl12 : i < l.length := by first | omega | (simp; omega)
                  refine T_index (xs := l) (i := i) EncG rfl rfl (by first | rfl | omega) slc25 hl12 hS rfl ?_
                  intro g12 o10 ha10
                  refine L_run (R_field rfl fld76_1 rfl) rfl ?_
                  refine L_run (R_load1 rfl scl73 (ha10 7 _ rfl)) rfl ?_
                  refine L_run (R_move rfl) rfl ?_
                  have hl13 : k < ((l[i]).recs).length := by first | omega | (simp; omega)
                  refine T_index (xs := (l[i]).recs) (i := k) EncR rfl rfl (by first | rfl | omega) slc73 hl13 (hD.get (i := i) (by first | assumption | omega | (simp; omega))) rfl ?_
                  intro g13 o11 ha11
                  refine L_run (R_loadA (vs := [.int .i64 ((((l[i]).recs)[k]).kind), .int .i64 ((((l[i]).recs)[k]).chain), .int .i64 ((((l[i]).recs)[k]).lsn), .int .i64 ((((l[i]).recs)[k]).prev), .slice ((((l[i]).recs)[k]).da) ((((l[i]).recs)[k]).dn) ((((l[i]).recs)[k]).dc)]) rfl agg78 (At.pre ha11 rfl) rfl) rfl ?_
                  refine L_alloc (cs := [.int .i64 0, .int .i64 0, .int .i64 0, .int .i64 0, .slice none 0 0]) zer78 rfl rfl ?_
                  intro g14 w12 eg3 hb6 hs9 hz9
                  have ge3 : w.heap.size ≤ g14 := eg_ge hB eg3
                  have lt2 : g3 < g14 := lt_of_eg hbi.lt eg3
                  replace hB := gb_tr hB hs9
                  replace hS := hS.gb hs9
                  replace hD := hD.gb hs9
                  replace hbi := hbi.gb hs9
                  replace ha9 := At.gb ha9 hs9 (by simp)
                  replace ha10 := At.gb ha10 hs9 (by simp)
                  replace ha11 := At.gb ha11 hs9 (by simp)
                  refine L_stA (vs := [.int .i64 ((((l[i]).recs)[k]).kind), .int .i64 ((((l[i]).recs)[k]).chain), .int .i64 ((((l[i]).recs)[k]).lsn), .int .i64 ((((l[i]).recs)[k]).prev), .slice ((((l[i]).recs)[k]).da) ((((l[i]).recs)[k]).dn) ((((l[i]).recs)[k]).dc)]) rfl rfl rfl sz78 rfl hb6 rfl ?_
                  intro w13 hb7 hs10 hz10
                  replace hB := gb_trg hB hs10 ge3
                  replace hS := hS.old hs10 ge3
                  replace hD := hD.old hs10 ge3
                  replace hbi := hbi.grown hs10 (ne_lt lt2)
                  refine L_nil (N_then (C_seq (C_seq ?_)))
                  refine C_draw2 mix ?_
                  intro w14 hs11 hz11
                  replace hB := gb_tr hB hs11
                  replace hS := hS.gb hs11
                  replace hD := hD.gb hs11
                  replace hbi := hbi.gb hs11
                  replace hb7 := hb7.gb hs11
                  refine ⟨fun W_ => Blk W_ g3 34 [.int .i64 (F2 0), .int .i64 (F2 1), .int .i64 (F2 2), .int .i64 (F2 3)] ∧ Blk W_ g14 78 [.int .i64 ((((l[i]).recs)[k]).kind), .int .i64 ((((l[i]).recs)[k]).chain), .int .i64 ((((l[i]).recs)[k]).lsn), .int .i64 ((((l[i]).recs)[k]).prev), .slice ((((l[i]).recs)[k]).da) ((((l[i]).recs)[k]).dn) ((((l[i]).recs)[k]).dc)] ∧ True, [0, 1, 2, 3, 4, 5, 6, 7, 8, 9, 10, 11, 12, 13, 14, 15, 16, 17, 18, 19, 20, 21, 22], ?_⟩
                  refine T_takeA (i := 0) rfl rfl (by kernel_rfl) (by kernel_rfl) (by kernel_rfl) (Y_of (fun _ ⟨hbi, hb7, _⟩ => R_field (r := 1) rfl fld78_1 rfl)) ⟨hbi, hb7, trivial⟩ rfl ?_
                  refine T_takeA (i := 1) rfl rfl (by kernel_rfl) (by kernel_rfl) (by kernel_rfl) (Y_of (fun _ ⟨hbi, hb7, _⟩ => R_load1 rfl scl3 (hb7.cell (i := 1) rfl))) ⟨hbi, hb7, trivial⟩ rfl ?_
                  refine T_takeA (i := 2) rfl rfl (by kernel_rfl) (by kernel_rfl) (by kernel_rfl) (Y_of (fun _ ⟨hbi, hb7, _⟩ => R_lss rfl rfl)) ⟨hbi, hb7, trivial⟩ rfl ?_
                  refine T_takeA (i := 3) rfl rfl (by kernel_rfl) (by kernel_rfl) (by kernel_rfl) (Y_of (fun _ ⟨hbi, hb7, _⟩ => R_move rfl)) ⟨hbi, hb7, trivial⟩ rfl ?_
                  by_cases h15 : (((l[i]).recs)[k]).chain < 0
                  · refine T_takeA (i := 4) rfl rfl (by kernel_rfl) (by kernel_rfl) (by kernel_rfl) (Y_no rfl rfl rfl (decide_eq_true h15)) ⟨hbi, hb7, trivial⟩ rfl ?_
                    refine T_takeA (i := 5) rfl rfl (by kernel_rfl) (by kernel_rfl) (by kernel_rfl) (Y_no rfl rfl rfl (decide_eq_true h15)) ⟨hbi, hb7, trivial⟩ rfl ?_
                    refine T_takeA (i := 6) rfl rfl (by kernel_rfl) (by kernel_rfl) (by kernel_rfl) (Y_no rfl rfl rfl (decide_eq_true h15)) ⟨hbi, hb7, trivial⟩ rfl ?_
                    refine T_takeA (i := 7) rfl rfl (by kernel_rfl) (by kernel_rfl) (by kernel_rfl) (Y_of (fun _ ⟨hbi, hb7, _⟩ => R_pickT rfl (decide_eq_true h15) rfl)) ⟨hbi, hb7, trivial⟩ rfl ?_
                    refine T_takeA (i := 8) rfl rfl (by kernel_rfl) (by kernel_rfl) (by kernel_rfl) (Y_of (fun _ ⟨hbi, hb7, _⟩ => R_move rfl)) ⟨hbi, hb7, trivial⟩ rfl ?_
                    refine T_takeA (i := 9) rfl rfl (by kernel_rfl) (by kernel_rfl) (by kernel_rfl) (Y_no rfl rfl rfl rfl) ⟨hbi, hb7, trivial⟩ rfl ?_
                    refine T_takeA (i := 10) rfl rfl (by kernel_rfl) (by kernel_rfl) (by kernel_rfl) (Y_no rfl rfl rfl rfl) ⟨hbi, hb7, trivial⟩ rfl ?_
                    refine T_takeA (i := 11) rfl rfl (by kernel_rfl) (by kernel_rfl) (by kernel_rfl) (Y_no rfl rfl rfl rfl) ⟨hbi, hb7, trivial⟩ rfl ?_
                    refine T_takeA (i := 12) rfl rfl (by kernel_rfl) (by kernel_rfl) (by kernel_rfl) (Y_no rfl rfl rfl rfl) ⟨hbi, hb7, trivial⟩ rfl ?_
                    refine T_takeA (i := 13) rfl rfl (by kernel_rfl) (by kernel_rfl) (by kernel_rfl) (Y_of (fun _ ⟨hbi, hb7, _⟩ => R_pickT rfl rfl rfl)) ⟨hbi, hb7, trivial⟩ rfl ?_
                    refine T_takeA (i := 14) rfl rfl (by kernel_rfl) (by kernel_rfl) (by kernel_rfl) (Y_of (fun _ ⟨hbi, hb7, _⟩ => R_move rfl)) ⟨hbi, hb7, trivial⟩ rfl ?_
                    refine T_takeA (i := 15) rfl rfl (by kernel_rfl) (by kernel_rfl) (by kernel_rfl) (Y_no rfl rfl rfl rfl) ⟨hbi, hb7, trivial⟩ rfl ?_
                    refine T_takeA (i := 16) rfl rfl (by kernel_rfl) (by kernel_rfl) (by kernel_rfl) (Y_no rfl rfl rfl rfl) ⟨hbi, hb7, trivial⟩ rfl ?_
                    refine T_takeA (i := 17) rfl rfl (by kernel_rfl) (by kernel_rfl) (by kernel_rfl) (Y_no rfl rfl rfl rfl) ⟨hbi, hb7, trivial⟩ rfl ?_
                    refine T_takeA (i := 18) rfl rfl (by kernel_rfl) (by kernel_rfl) (by kernel_rfl) (Y_no rfl rfl rfl rfl) ⟨hbi, hb7, trivial⟩ rfl ?_
                    refine T_takeA (i := 19) rfl rfl (by kernel_rfl) (by kernel_rfl) (by kernel_rfl) (Y_no rfl rfl rfl rfl) ⟨hbi, hb7, trivial⟩ rfl ?_
                    refine T_takeA (i := 20) rfl rfl (by kernel_rfl) (by kernel_rfl) (by kernel_rfl) (Y_no rfl rfl rfl rfl) ⟨hbi, hb7, trivial⟩ rfl ?_
                    refine T_takeA (i := 21) rfl rfl (by kernel_rfl) (by kernel_rfl) (by kernel_rfl) (Y_no rfl rfl rfl rfl) ⟨hbi, hb7, trivial⟩ rfl ?_
                    refine T_takeA (i := 22) rfl rfl (by kernel_rfl) (by kernel_rfl) (by kernel_rfl) (Y_of (fun _ ⟨hbi, hb7, _⟩ => R_pickT rfl rfl rfl)) ⟨hbi, hb7, trivial⟩ rfl ?_
                    refine T_done (by kernel_rfl) (NoPanic.normal ?_)
                    refine N_then (C_condT rfl rfl (C_seq (C_reg ?_)))
                    refine L_run (R_assign rfl) rfl ?_
                    refine L_nil (N_then (C_ret (R_then (R_in (R_then (R_then (R_in (R_in (R_then (R_then (R_in (R_then ?_))))))))))))
                    refine ret1 Try.results68 rfl ?_
                    first
                      | (exfalso; omega)
                      | (have e_ : tog l = false := by
                           rw [← hv]
                           first
                             | exact tgo_rec hli hv2 (by omega) (by unfold RecOk; rintro ⟨q1, q2, q3, q4⟩; omega)
                             | exact tgo_bad (by omega) (fun q => by have q1 := q.1.1; omega)
                             | exact tgo_bad (by omega) (fun q => by have q1 := q.1.2; contradiction)
                             | exact tgo_bad (by omega) (fun q => by have q1 := (joins_p (by omega) (by omega)).1 q.2; omega)
                         rw [e_]; exact ⟨hB, rfl⟩)
                  · refine T_takeA (i := 4) rfl rfl (by kernel_rfl) (by kernel_rfl) (by kernel_rfl) (Y_yes rfl rfl rfl (decide_eq_false h15) (fun _ ⟨hbi, hb7, _⟩ => R_field (r := 1) rfl fld78_1 rfl)) ⟨hbi, hb7, trivial⟩ rfl ?_
                    refine T_takeA (i := 5) rfl rfl (by kernel_rfl) (by kernel_rfl) (by kernel_rfl) (Y_yes rfl rfl rfl (decide_eq_false h15) (fun _ ⟨hbi, hb7, _⟩ => R_load1 rfl scl3 (hb7.cell (i := 1) rfl))) ⟨hbi, hb7, trivial⟩ rfl ?_
                    refine T_takeA (i := 6) rfl rfl (by kernel_rfl) (by kernel_rfl) (by kernel_rfl) (Y_yes rfl rfl rfl (decide_eq_false h15) (fun _ ⟨hbi, hb7, _⟩ => R_gtr rfl rfl)) ⟨hbi, hb7, trivial⟩ rfl ?_
                    refine T_takeA (i := 7) rfl rfl (by kernel_rfl) (by kernel_rfl) (by kernel_rfl) (Y_of (fun _ ⟨hbi, hb7, _⟩ => R_pickF rfl (decide_eq_false h15) rfl)) ⟨hbi, hb7, trivial⟩ rfl ?_
                    refine T_takeA (i := 8) rfl rfl (by kernel_rfl) (by kernel_rfl) (by kernel_rfl) (Y_of (fun _ ⟨hbi, hb7, _⟩ => R_move rfl)) ⟨hbi, hb7, trivial⟩ rfl ?_
                    by_cases h16 : 3 < (((l[i]).recs)[k]).chain
                    · refine T_takeA (i := 9) rfl rfl (by kernel_rfl) (by kernel_rfl) (by kernel_rfl) (Y_no rfl rfl rfl (decide_eq_true h16)) ⟨hbi, hb7, trivial⟩ rfl ?_
                      refine T_takeA (i := 10) rfl rfl (by kernel_rfl) (by kernel_rfl) (by kernel_rfl) (Y_no rfl rfl rfl (decide_eq_true h16)) ⟨hbi, hb7, trivial⟩ rfl ?_
                      refine T_takeA (i := 11) rfl rfl (by kernel_rfl) (by kernel_rfl) (by kernel_rfl) (Y_no rfl rfl rfl (decide_eq_true h16)) ⟨hbi, hb7, trivial⟩ rfl ?_
                      refine T_takeA (i := 12) rfl rfl (by kernel_rfl) (by kernel_rfl) (by kernel_rfl) (Y_no rfl rfl rfl (decide_eq_true h16)) ⟨hbi, hb7, trivial⟩ rfl ?_
                      refine T_takeA (i := 13) rfl rfl (by kernel_rfl) (by kernel_rfl) (by kernel_rfl) (Y_of (fun _ ⟨hbi, hb7, _⟩ => R_pickT rfl (decide_eq_true h16) rfl)) ⟨hbi, hb7, trivial⟩ rfl ?_
                      refine T_takeA (i := 14) rfl rfl (by kernel_rfl) (by kernel_rfl) (by kernel_rfl) (Y_of (fun _ ⟨hbi, hb7, _⟩ => R_move rfl)) ⟨hbi, hb7, trivial⟩ rfl ?_
                      refine T_takeA (i := 15) rfl rfl (by kernel_rfl) (by kernel_rfl) (by kernel_rfl) (Y_no rfl rfl rfl rfl) ⟨hbi, hb7, trivial⟩ rfl ?_
                      refine T_takeA (i := 16) rfl rfl (by kernel_rfl) (by kernel_rfl) (by kernel_rfl) (Y_no rfl rfl rfl rfl) ⟨hbi, hb7, trivial⟩ rfl ?_
                      refine T_takeA (i := 17) rfl rfl (by kernel_rfl) (by kernel_rfl) (by kernel_rfl) (Y_no rfl rfl rfl rfl) ⟨hbi, hb7, trivial⟩ rfl ?_
                      refine T_takeA (i := 18) rfl rfl (by kernel_rfl) (by kernel_rfl) (by kernel_rfl) (Y_no rfl rfl rfl rfl) ⟨hbi, hb7, trivial⟩ rfl ?_
                      refine T_takeA (i := 19) rfl rfl (by kernel_rfl) (by kernel_rfl) (by kernel_rfl) (Y_no rfl rfl rfl rfl) ⟨hbi, hb7, trivial⟩ rfl ?_
                      refine T_takeA (i := 20) rfl rfl (by kernel_rfl) (by kernel_rfl) (by kernel_rfl) (Y_no rfl rfl rfl rfl) ⟨hbi, hb7, trivial⟩ rfl ?_
                      refine T_takeA (i := 21) rfl rfl (by kernel_rfl) (by kernel_rfl) (by kernel_rfl) (Y_no rfl rfl rfl rfl) ⟨hbi, hb7, trivial⟩ rfl ?_
                      refine T_takeA (i := 22) rfl rfl (by kernel_rfl) (by kernel_rfl) (by kernel_rfl) (Y_of (fun _ ⟨hbi, hb7, _⟩ => R_pickT rfl rfl rfl)) ⟨hbi, hb7, trivial⟩ rfl ?_
                      refine T_done (by kernel_rfl) (NoPanic.normal ?_)
                      refine N_then (C_condT rfl rfl (C_seq (C_reg ?_)))
                      refine L_run (R_assign rfl) rfl ?_
                      refine L_nil (N_then (C_ret (R_then (R_in (R_then (R_then (R_in (R_in (R_then (R_then (R_in (R_then ?_))))))))))))
                      refine ret1 Try.results68 rfl ?_
                      first
                        | (exfalso; omega)
                        | (have e_ : tog l = false := by
                             rw [← hv]
                             first
                               | exact tgo_rec hli hv2 (by omega) (by unfold RecOk; rintro ⟨q1, q2, q3, q4⟩; omega)
                               | exact tgo_bad (by omega) (fun q => by have q1 := q.1.1; omega)
                               | exact tgo_bad (by omega) (fun q => by have q1 := q.1.2; contradiction)
                               | exact tgo_bad (by omega) (fun q => by have q1 := (joins_p (by omega) (by omega)).1 q.2; omega)
                           rw [e_]; exact ⟨hB, rfl⟩)
                    · refine T_takeA (i := 9) rfl rfl (by kernel_rfl) (by kernel_rfl) (by kernel_rfl) (Y_yes rfl rfl rfl (decide_eq_false h16) (fun _ ⟨hbi, hb7, _⟩ => R_field (r := 2) rfl fld78_2 rfl)) ⟨hbi, hb7, trivial⟩ rfl ?_
                      refine T_takeA (i := 10) rfl rfl (by kernel_rfl) (by kernel_rfl) (by kernel_rfl) (Y_yes rfl rfl rfl (decide_eq_false h16) (fun _ ⟨hbi, hb7, _⟩ => R_load1 rfl scl3 (hb7.cell (i := 2) rfl))) ⟨hbi, hb7, trivial⟩ rfl ?_
                      refine T_takeA (i := 11) rfl rfl (by kernel_rfl) (by kernel_rfl) (by kernel_rfl) (Y_yes rfl rfl rfl (decide_eq_false h16) (fun _ ⟨hbi, hb7, _⟩ => R_move rfl)) ⟨hbi, hb7, trivial⟩ rfl ?_
                      refine T_takeA (i := 12) rfl rfl (by kernel_rfl) (by kernel_rfl) (by kernel_rfl) (Y_yes rfl rfl rfl (decide_eq_false h16) (fun _ ⟨hbi, hb7, _⟩ => R_neq rfl rfl)) ⟨hbi, hb7, trivial⟩ rfl ?_
                      refine T_takeA (i := 13) rfl rfl (by kernel_rfl) (by kernel_rfl) (by kernel_rfl) (Y_of (fun _ ⟨hbi, hb7, _⟩ => R_pickF rfl (decide_eq_false h16) rfl)) ⟨hbi, hb7, trivial⟩ rfl ?_
                      refine T_takeA (i := 14) rfl rfl (by kernel_rfl) (by kernel_rfl) (by kernel_rfl) (Y_of (fun _ ⟨hbi, hb7, _⟩ => R_move rfl)) ⟨hbi, hb7, trivial⟩ rfl ?_
                      by_cases h17 : (((l[i]).recs)[k]).lsn ≠ n2
                      · refine T_takeA (i := 15) rfl rfl (by kernel_rfl) (by kernel_rfl) (by kernel_rfl) (Y_no rfl rfl rfl (decide_eq_true h17)) ⟨hbi, hb7, trivial⟩ rfl ?_
                        refine T_takeA (i := 16) rfl rfl (by kernel_rfl) (by kernel_rfl) (by kernel_rfl) (Y_no rfl rfl rfl (decide_eq_true h17)) ⟨hbi, hb7, trivial⟩ rfl ?_
                        refine T_takeA (i := 17) rfl rfl (by kernel_rfl) (by kernel_rfl) (by kernel_rfl) (Y_no rfl rfl rfl (decide_eq_true h17)) ⟨hbi, hb7, trivial⟩ rfl ?_
                        refine T_takeA (i := 18) rfl rfl (by kernel_rfl) (by kernel_rfl) (by kernel_rfl) (Y_no rfl rfl rfl (decide_eq_true h17)) ⟨hbi, hb7, trivial⟩ rfl ?_
                        refine T_takeA (i := 19) rfl rfl (by kernel_rfl) (by kernel_rfl) (by kernel_rfl) (Y_no rfl rfl rfl (decide_eq_true h17)) ⟨hbi, hb7, trivial⟩ rfl ?_
                        refine T_takeA (i := 20) rfl rfl (by kernel_rfl) (by kernel_rfl) (by kernel_rfl) (Y_no rfl rfl rfl (decide_eq_true h17)) ⟨hbi, hb7, trivial⟩ rfl ?_
                        refine T_takeA (i := 21) rfl rfl (by kernel_rfl) (by kernel_rfl) (by kernel_rfl) (Y_no rfl rfl rfl (decide_eq_true h17)) ⟨hbi, hb7, trivial⟩ rfl ?_
                        refine T_takeA (i := 22) rfl rfl (by kernel_rfl) (by kernel_rfl) (by kernel_rfl) (Y_of (fun _ ⟨hbi, hb7, _⟩ => R_pickT rfl (decide_eq_true h17) rfl)) ⟨hbi, hb7, trivial⟩ rfl ?_
                        refine T_done (by kernel_rfl) (NoPanic.normal ?_)
                        refine N_then (C_condT rfl rfl (C_seq (C_reg ?_)))
                        refine L_run (R_assign rfl) rfl ?_
                        refine L_nil (N_then (C_ret (R_then (R_in (R_then (R_then (R_in (R_in (R_then (R_then (R_in (R_then ?_))))))))))))
                        refine ret1 Try.results68 rfl ?_
                        first
                          | (exfalso; omega)
                          | (have e_ : tog l = false := by
                               rw [← hv]
                               first
                                 | exact tgo_rec hli hv2 (by omega) (by unfold RecOk; rintro ⟨q1, q2, q3, q4⟩; omega)
                                 | exact tgo_bad (by omega) (fun q => by have q1 := q.1.1; omega)
                                 | exact tgo_bad (by omega) (fun q => by have q1 := q.1.2; contradiction)
                                 | exact tgo_bad (by omega) (fun q => by have q1 := (joins_p (by omega) (by omega)).1 q.2; omega)
                             rw [e_]; exact ⟨hB, rfl⟩)
                      · refine T_takeA (i := 15) rfl rfl (by kernel_rfl) (by kernel_rfl) (by kernel_rfl) (Y_yes rfl rfl rfl (decide_eq_false h17) (fun _ ⟨hbi, hb7, _⟩ => R_field (r := 3) rfl fld78_3 rfl)) ⟨hbi, hb7, trivial⟩ rfl ?_
                        refine T_takeA (i := 16) rfl rfl (by kernel_rfl) (by kernel_rfl) (by kernel_rfl) (Y_yes rfl rfl rfl (decide_eq_false h17) (fun _ ⟨hbi, hb7, _⟩ => R_load1 rfl scl3 (hb7.cell (i := 3) rfl))) ⟨hbi, hb7, trivial⟩ rfl ?_
                        refine T_takeA (i := 17) rfl rfl (by kernel_rfl) (by kernel_rfl) (by kernel_rfl) (Y_yes rfl rfl rfl (decide_eq_false h17) (fun _ ⟨hbi, hb7, _⟩ => R_field (r := 1) rfl fld78_1 rfl)) ⟨hbi, hb7, trivial⟩ rfl ?_
                        refine T_takeA (i := 18) rfl rfl (by kernel_rfl) (by kernel_rfl) (by kernel_rfl) (Y_yes rfl rfl rfl (decide_eq_false h17) (fun _ ⟨hbi, hb7, _⟩ => R_load1 rfl scl3 (hb7.cell (i := 1) rfl))) ⟨hbi, hb7, trivial⟩ rfl ?_
                        have hl14 : ((((l[i]).recs)[k]).chain).toNat < 4 := by omega
                        refine T_takeA (i := 19) rfl rfl (by kernel_rfl) (by kernel_rfl) (by kernel_rfl) (Y_yes rfl rfl rfl (decide_eq_false h17) (fun _ ⟨hbi, hb7, _⟩ => R_indexArr (sz := 1) (o := 0) (a := (((l[i]).recs)[k]).chain) (i := ((((l[i]).recs)[k]).chain).toNat) (r := (0 + ((((l[i]).recs)[k]).chain).toNat)) rfl rfl (by first | rfl | omega) arr34 hl14 (by first | omega | rfl | simp))) ⟨hbi, hb7, trivial⟩ rfl ?_
                        refine T_takeA (i := 20) rfl rfl (by kernel_rfl) (by kernel_rfl) (by kernel_rfl) (Y_yes rfl rfl rfl (decide_eq_false h17) (fun _ ⟨hbi, hb7, _⟩ => R_load1 rfl scl3 (hbi.cell (four_at (pre := []) (post := []) (f := F2) (k := .i64) hl14)))) ⟨hbi, hb7, trivial⟩ rfl ?_
                        refine T_takeA (i := 21) rfl rfl (by kernel_rfl) (by kernel_rfl) (by kernel_rfl) (Y_yes rfl rfl rfl (decide_eq_false h17) (fun _ ⟨hbi, hb7, _⟩ => R_neq rfl rfl)) ⟨hbi, hb7, trivial⟩ rfl ?_
                        refine T_takeA (i := 22) rfl rfl (by kernel_rfl) (by kernel_rfl) (by kernel_rfl) (Y_of (fun _ ⟨hbi, hb7, _⟩ => R_pickF rfl (decide_eq_false h17) rfl)) ⟨hbi, hb7, trivial⟩ rfl ?_
                        refine T_done (by kernel_rfl) (NoPanic.normal ?_)
                        refine N_then ?_
                        refine C_if rfl (fun h18 => ?_) (fun h18 => ?_)
                        · refine C_seq (C_reg ?_)
                          refine L_run (R_assign rfl) rfl ?_
                          refine L_nil (N_then (C_ret (R_then (R_in (R_then (R_then (R_in (R_in (R_then (R_then (R_in (R_then ?_))))))))))))
                          refine ret1 Try.results68 rfl ?_
                          first
                            | (exfalso; omega)
                            | (have e_ : tog l = false := by
                                 rw [← hv]
                                 first
                                   | exact tgo_rec hli hv2 (by omega) (by unfold RecOk; rintro ⟨q1, q2, q3, q4⟩; omega)
                                   | exact tgo_bad (by omega) (fun q => by have q1 := q.1.1; omega)
                                   | exact tgo_bad (by omega) (fun q => by have q1 := q.1.2; contradiction)
                                   | exact tgo_bad (by omega) (fun q => by have q1 := (joins_p (by omega) (by omega)).1 q.2; omega)
                               rw [e_]; exact ⟨hB, rfl⟩)
                        · refine C_skip (N_then (C_seq (C_reg ?_)))
                          refine L_run (R_field (r := 1) rfl fld78_1 rfl) rfl ?_
                          refine L_run (R_load1 rfl scl3 (hb7.cell (i := 1) rfl)) rfl ?_
                          refine L_run (R_field (r := 2) rfl fld78_2 rfl) rfl ?_
                          refine L_run (R_load1 rfl scl3 (hb7.cell (i := 2) rfl)) rfl ?_
                          have hl15 : ((((l[i]).recs)[k]).chain).toNat < 4 := by omega
                          refine L_run (R_indexArr (sz := 1) (o := 0) (a := (((l[i]).recs)[k]).chain) (i := ((((l[i]).recs)[k]).chain).toNat) (r := (0 + ((((l[i]).recs)[k]).chain).toNat)) rfl rfl (by first | rfl | omega) arr34 hl15 (by first | omega | rfl | simp)) rfl ?_
                          refine L_st1v rfl rfl rfl sz3 hbi (by show 0 + ((((l[i]).recs)[k]).chain).toNat < 4; omega) ?_
                          intro w15 hb8 hs12 hz12
                          replace hb8 : Blk w15 g3 34 [.int .i64 ((upd F2 (((((l[i]).recs)[k]).chain).toNat) ((((l[i]).recs)[k]).lsn)) 0), .int .i64 ((upd F2 (((((l[i]).recs)[k]).chain).toNat) ((((l[i]).recs)[k]).lsn)) 1), .int .i64 ((upd F2 (((((l[i]).recs)[k]).chain).toNat) ((((l[i]).recs)[k]).lsn)) 2), .int .i64 ((upd F2 (((((l[i]).recs)[k]).chain).toNat) ((((l[i]).recs)[k]).lsn)) 3)] := Blk.cast (four_set (pre := []) (post := []) (f := F2) (k := .i64) hl15) hb8
                          replace hB := gb_trg hB hs12 ge1
                          replace hS := hS.old hs12 ge1
                          replace hD := hD.old hs12 ge1
                          replace hb7 := hb7.grown hs12 (ne_gt lt2)
                          refine L_nil (N_then (C_reg ?_))
                          refine L_run (R_move rfl) rfl ?_
                          refine L_run (R_add rfl rfl) rfl ?_
                          refine L_run (R_assign rfl) rfl ?_
                          refine L_nil (N_in (N_then (C_reg ?_)))
                          refine L_run (R_move rfl) rfl ?_
                          refine L_run (R_add64 rfl rfl (by first | omega | (have h_ := hr _ (List.getElem_mem (l := l) (show i < l.length by omega)); omega) | (have h_ := (hok _ (List.getElem_mem (l := l) (show i < l.length by omega))).1.1; unfold OkB at h_; omega))) rfl ?_
                          refine L_run (R_assign rfl) rfl ?_
                          refine L_nil (N_then ?_)
                          have hst := (bh_step (rs := l[i].recs) (k := k) (by omega) (n := n2) (h := F2) (by unfold RecOk; exact ⟨by omega, by omega, by omega, by omega⟩)).symm.trans hv2
                          exact ⟨l[i].recs.length - (k + 1), by omega, _, (k + 1), (IntKind.i64.wrap (n2 + 1)), (upd F2 (((((l[i]).recs)[k]).chain).toNat) ((((l[i]).recs)[k]).lsn)), Ac_frg ⟨rfl, rfl, rfl, rfl, (agr rfl (by first | rfl | (congr 1; omega) | (congr 1; simp; done) | (congr 1; simp only [IntKind.wrap_u64, IntKind.wrap_i64, IntKind.wrap_u8]; omega) | (congr 1 <;> omega))), trivial⟩, hB, hS, hD, hb8, (by omega), hst, rfl⟩
                · refine C_exit (X_then (X_then (X_hit (N_in (N_then (C_reg ?_))))))
                  refine L_run (R_move rfl) rfl ?_
                  refine L_run (R_add64 rfl rfl (by first | omega | (have h_ := hr _ (List.getElem_mem (l := l) (show i < l.length by omega)); omega) | (have h_ := (hok _ (List.getElem_mem (l := l) (show i < l.length by omega))).1.1; unfold OkB at h_; omega))) rfl ?_
                  refine L_run (R_assign rfl) rfl ?_
                  refine L_nil (N_then ?_)
                  have hj_ : Joins (pv l i) l[i] := by first | exact joins_0 (by omega) | exact (joins_p (by omega) (by omega)).2 ⟨by omega, by omega, by omega⟩
                  have hst := (tgo_step hli ⟨by omega, hmt⟩ hj_ hv2 (by omega)).symm.trans hv
                  exact ⟨l.length - (i + 1), by omega, _, (i + 1), n2, F2, Ac_frg ⟨rfl, rfl, rfl, (agr rfl (by first | rfl | (congr 1; omega) | (congr 1; simp; done) | (congr 1; simp only [IntKind.wrap_u64, IntKind.wrap_i64, IntKind.wrap_u8]; omega) | (congr 1 <;> omega))), trivial⟩, hB, hS, hD, hbi, (by omega), hst, rfl⟩
      · refine C_exit (X_then (X_then (X_hit (N_then (C_seq (C_reg ?_))))))
        refine L_run (R_assign rfl) rfl ?_
        refine L_nil (N_then (C_ret ?_))
        refine ret1 Try.results68 rfl ?_
        first
          | (exfalso; omega)
          | (have e_ : tog l = true := by first | exact tog_0 (by omega) | (rw [← hv]; exact tgo_end (by omega))
             rw [e_]; exact ⟨hB, rfl⟩)

theorem ref25_Check {w : World} {t1 lo hi hi2 : Nat} {A : Option Addr} {c : Nat} {l : List SegD} (hS : Sli t1 lo hi w A (fl encG l)) (hD : DeepG hi2 w l) (hb : l.length ≤ 1000000) (hr : ∀ g ∈ l, g.recs.length ≤ 1000000) (hep : ∀ g ∈ l, 0 ≤ g.ep) :
    Runs Try.prog 21 #[.slice A l.length c] w (fun v w' => w.grownBy w' none ∧ v = .int .i64 (chk l)) := by
  have hB := gb_refl w none
  replace hD : DeepG w.heap.size w l := fun y hy => (hD y hy).top
  replace hS := hS.top
  refine enter Try.func21 Try.ntmps21 rfl rfl ?_
  refine C_seq (C_reg ?_)
  refine L_run (R_assign rfl) rfl ?_
  refine L_nil (N_then (C_seq (C_seq (C_reg ?_))))
  refine L_run (R_assign rfl) rfl ?_
  refine L_nil (N_then (C_block ?_))
  refine C_loop (fun m_ a_ w_ => ∃ (σ_ : Nat → Value) (k : Nat), a_ = Ac 35 σ_ [] [(0, .slice A l.length c), (2, .int .i64 0), (3, .int .i64 (k : Int))] ∧ w.grownBy w_ none ∧ Sli t1 lo w.heap.size w_ A (fl encG l) ∧ DeepG w.heap.size w_ l ∧ (k ≤ l.length) ∧ (∀ g ∈ l.take k, HdrOk g) ∧ l.length - k = m_) (l.length - 0) ?_ ?_
  · exact ⟨_, 0, Ac_frg ⟨rfl, rfl, (agr rfl (by first | rfl | (congr 1; omega) | (congr 1; simp; done) | (congr 1; simp only [IntKind.wrap_u64, IntKind.wrap_i64, IntKind.wrap_u8]; omega) | (congr 1 <;> omega))), trivial⟩, hB, hS, hD, (by omega), (by intro g hg; simp at hg), rfl⟩
  · clear hB
    clear hS hD
    rintro m_ a_ w1 ⟨σ_, k, rfl, hB, hS, hD, hk, hall, rfl⟩
    refine C_seq (C_seq (C_reg ?_))
    refine L_run (R_move rfl) rfl ?_
    refine L_run (R_move rfl) rfl ?_
    refine L_run (R_lenSl rfl slc25) rfl ?_
    refine L_run (R_lss rfl rfl) rfl ?_
    refine L_nil (N_then ?_)
    refine C_if rfl (fun h1 => ?_) (fun h1 => ?_)
    · refine C_skip (N_then (C_seq (C_block (C_seq ?_))))
      refine C_draw2 mix ?_
      intro w2 hs1 hz1
      replace hB := gb_tr hB hs1
      replace hS := hS.gb hs1
      replace hD := hD.gb hs1
      have hl1 : k < l.length := by first | omega | (simp; omega)
      obtain ⟨g1, o1, r1, eA1, er1, ha1⟩ := Sli.place' (xs := l) (i := k) EncG hS hl1 rfl
      refine ⟨fun W_ => At W_ g1 r1 [.int .u64 ((l[k]).ep), .int .i64 ((l[k]).seq), .int .i64 ((l[k]).first), .int .i64 ((l[k]).hs 0), .int .i64 ((l[k]).hs 1), .int .i64 ((l[k]).hs 2), .int .i64 ((l[k]).hs 3), .slice ((l[k]).ra) ((l[k]).recs.length) ((l[k]).rc), .slice ((l[k]).pa) ((l[k]).pn) ((l[k]).pc), .int .i64 ((l[k]).en), .int .i64 ((l[k]).kind)] ∧ True, [0, 1, 2, 3, 4, 6, 7, 8, 9, 10, 11, 12, 13, 14, 15, 16, 17, 18, 19, 20, 21], ?_⟩
      refine T_takeA (i := 0) rfl rfl (by kernel_rfl) (by kernel_rfl) (by kernel_rfl) (Y_of (fun _ ⟨ha1, _⟩ => R_move rfl)) ⟨ha1, trivial⟩ rfl ?_
      refine T_takeA (i := 1) rfl rfl (by kernel_rfl) (by kernel_rfl) (by kernel_rfl) (Y_of (fun _ ⟨ha1, _⟩ => R_move rfl)) ⟨ha1, trivial⟩ rfl ?_
      refine T_takeA (i := 2) rfl rfl (by kernel_rfl) (by kernel_rfl) (by kernel_rfl) (Y_of (fun _ ⟨ha1, _⟩ => R_indexE rfl rfl (by first | rfl | omega) slc25 hl1 eA1 er1)) ⟨ha1, trivial⟩ rfl ?_
      refine T_takeA (i := 3) rfl rfl (by kernel_rfl) (by kernel_rfl) (by kernel_rfl) (Y_of (fun _ ⟨ha1, _⟩ => R_field rfl fld76_0 rfl)) ⟨ha1, trivial⟩ rfl ?_
      refine T_takeA (i := 4) rfl rfl (by kernel_rfl) (by kernel_rfl) (by kernel_rfl) (Y_of (fun _ ⟨ha1, _⟩ => R_loadA (vs := [.int .u64 ((l[k]).ep), .int .i64 ((l[k]).seq), .int .i64 ((l[k]).first), .int .i64 ((l[k]).hs 0), .int .i64 ((l[k]).hs 1), .int .i64 ((l[k]).hs 2), .int .i64 ((l[k]).hs 3)]) rfl agg72 (At.pre ha1 rfl) rfl)) ⟨ha1, trivial⟩ rfl ?_
      refine T_all (rs := [5]) (by kernel_rfl) rfl (all1 (O_one rfl ?_))
      refine L_call rfl cb67 (ref18_Right (ep := (l[k]).ep) (seq := (l[k]).seq) (first := (l[k]).first) (hs := (l[k]).hs) (hep _ (List.getElem_mem (show k < l.length by omega)))) rfl ?_
      rintro _ w3 ⟨hs2, rfl⟩
      replace hB := gb_tr hB hs2
      replace hS := hS.gb hs2
      replace hD := hD.gb hs2
      replace ha1 := At.gb ha1 hs2 (by simp)
      refine L_nil (N_then ⟨fun hN_ => ⟨ha1, trivial⟩, ?_⟩)
      refine T_takeA (i := 6) rfl rfl (by kernel_rfl) (by kernel_rfl) (by kernel_rfl) (Y_of (fun _ ⟨ha1, _⟩ => R_notD rfl)) ⟨ha1, trivial⟩ rfl ?_
      refine T_takeA (i := 7) rfl rfl (by kernel_rfl) (by kernel_rfl) (by kernel_rfl) (Y_of (fun _ ⟨ha1, _⟩ => R_move rfl)) ⟨ha1, trivial⟩ rfl ?_
      by_cases h2 : ¬ (OkH ((l[k]).ep) ((l[k]).seq) ((l[k]).first) ((l[k]).hs))
      · refine T_takeA (i := 8) rfl rfl (by kernel_rfl) (by kernel_rfl) (by kernel_rfl) (Y_no rfl rfl rfl (decide_eq_true h2)) ⟨ha1, trivial⟩ rfl ?_
        refine T_takeA (i := 9) rfl rfl (by kernel_rfl) (by kernel_rfl) (by kernel_rfl) (Y_no rfl rfl rfl (decide_eq_true h2)) ⟨ha1, trivial⟩ rfl ?_
        refine T_takeA (i := 10) rfl rfl (by kernel_rfl) (by kernel_rfl) (by kernel_rfl) (Y_no rfl rfl rfl (decide_eq_true h2)) ⟨ha1, trivial⟩ rfl ?_
        refine T_takeA (i := 11) rfl rfl (by kernel_rfl) (by kernel_rfl) (by kernel_rfl) (Y_no rfl rfl rfl (decide_eq_true h2)) ⟨ha1, trivial⟩ rfl ?_
        refine T_takeA (i := 12) rfl rfl (by kernel_rfl) (by kernel_rfl) (by kernel_rfl) (Y_no rfl rfl rfl (decide_eq_true h2)) ⟨ha1, trivial⟩ rfl ?_
        refine T_takeA (i := 13) rfl rfl (by kernel_rfl) (by kernel_rfl) (by kernel_rfl) (Y_no rfl rfl rfl (decide_eq_true h2)) ⟨ha1, trivial⟩ rfl ?_
        refine T_takeA (i := 14) rfl rfl (by kernel_rfl) (by kernel_rfl) (by kernel_rfl) (Y_no rfl rfl rfl (decide_eq_true h2)) ⟨ha1, trivial⟩ rfl ?_
        refine T_takeA (i := 15) rfl rfl (by kernel_rfl) (by kernel_rfl) (by kernel_rfl) (Y_no rfl rfl rfl (decide_eq_true h2)) ⟨ha1, trivial⟩ rfl ?_
        refine T_takeA (i := 16) rfl rfl (by kernel_rfl) (by kernel_rfl) (by kernel_rfl) (Y_no rfl rfl rfl (decide_eq_true h2)) ⟨ha1, trivial⟩ rfl ?_
        refine T_takeA (i := 17) rfl rfl (by kernel_rfl) (by kernel_rfl) (by kernel_rfl) (Y_no rfl rfl rfl (decide_eq_true h2)) ⟨ha1, trivial⟩ rfl ?_
        refine T_takeA (i := 18) rfl rfl (by kernel_rfl) (by kernel_rfl) (by kernel_rfl) (Y_no rfl rfl rfl (decide_eq_true h2)) ⟨ha1, trivial⟩ rfl ?_
        refine T_takeA (i := 19) rfl rfl (by kernel_rfl) (by kernel_rfl) (by kernel_rfl) (Y_no rfl rfl rfl (decide_eq_true h2)) ⟨ha1, trivial⟩ rfl ?_
        refine T_takeA (i := 20) rfl rfl (by kernel_rfl) (by kernel_rfl) (by kernel_rfl) (Y_no rfl rfl rfl (decide_eq_true h2)) ⟨ha1, trivial⟩ rfl ?_
        refine T_takeA (i := 21) rfl rfl (by kernel_rfl) (by kernel_rfl) (by kernel_rfl) (Y_of (fun _ ⟨ha1, _⟩ => R_pickT rfl (decide_eq_true h2) rfl)) ⟨ha1, trivial⟩ rfl ?_
        refine T_done (by kernel_rfl) (NoPanic.normal ?_)
        refine N_then (C_condT rfl rfl (C_seq (C_reg ?_)))
        refine L_run (R_assign rfl) rfl ?_
        refine L_nil (N_then (C_ret (R_in (R_then (R_then (R_in (R_then ?_)))))))
        refine ret1 Try.results21 rfl ?_
        first
          | (exfalso; omega)
          | (have e_ : chk l = 13 := chk_13 (show k < l.length by omega) (by unfold HdrOk; rintro ⟨q1, q2⟩; first | contradiction | omega)
             rw [e_]; exact ⟨hB, rfl⟩)
      · refine T_takeA (i := 8) rfl rfl (by kernel_rfl) (by kernel_rfl) (by kernel_rfl) (Y_yes rfl rfl rfl (decide_eq_false h2) (fun _ ⟨ha1, _⟩ => R_move rfl)) ⟨ha1, trivial⟩ rfl ?_
        refine T_takeA (i := 9) rfl rfl (by kernel_rfl) (by kernel_rfl) (by kernel_rfl) (Y_yes rfl rfl rfl (decide_eq_false h2) (fun _ ⟨ha1, _⟩ => R_move rfl)) ⟨ha1, trivial⟩ rfl ?_
        refine T_takeA (i := 10) rfl rfl (by kernel_rfl) (by kernel_rfl) (by kernel_rfl) (Y_yes rfl rfl rfl (decide_eq_false h2) (fun _ ⟨ha1, _⟩ => R_indexE rfl rfl (by first | rfl | omega) slc25 hl1 eA1 er1)) ⟨ha1, trivial⟩ rfl ?_
        refine T_takeA (i := 11) rfl rfl (by kernel_rfl) (by kernel_rfl) (by kernel_rfl) (Y_yes rfl rfl rfl (decide_eq_false h2) (fun _ ⟨ha1, _⟩ => R_field rfl fld76_2 rfl)) ⟨ha1, trivial⟩ rfl ?_
        refine T_takeA (i := 12) rfl rfl (by kernel_rfl) (by kernel_rfl) (by kernel_rfl) (Y_yes rfl rfl rfl (decide_eq_false h2) (fun _ ⟨ha1, _⟩ => R_load1 rfl scl74 (ha1 8 _ rfl))) ⟨ha1, trivial⟩ rfl ?_
        refine T_takeA (i := 13) rfl rfl (by kernel_rfl) (by kernel_rfl) (by kernel_rfl) (Y_yes rfl rfl rfl (decide_eq_false h2) (fun _ ⟨ha1, _⟩ => R_lenSl rfl slc74)) ⟨ha1, trivial⟩ rfl ?_
        refine T_takeA (i := 14) rfl rfl (by kernel_rfl) (by kernel_rfl) (by kernel_rfl) (Y_yes rfl rfl rfl (decide_eq_false h2) (fun _ ⟨ha1, _⟩ => R_move rfl)) ⟨ha1, trivial⟩ rfl ?_
        refine T_takeA (i := 15) rfl rfl (by kernel_rfl) (by kernel_rfl) (by kernel_rfl) (Y_yes rfl rfl rfl (decide_eq_false h2) (fun _ ⟨ha1, _⟩ => R_move rfl)) ⟨ha1, trivial⟩ rfl ?_
        refine T_takeA (i := 16) rfl rfl (by kernel_rfl) (by kernel_rfl) (by kernel_rfl) (Y_yes rfl rfl rfl (decide_eq_false h2) (fun _ ⟨ha1, _⟩ => R_indexE rfl rfl (by first | rfl | omega) slc25 hl1 eA1 er1)) ⟨ha1, trivial⟩ rfl ?_
        refine T_takeA (i := 17) rfl rfl (by kernel_rfl) (by kernel_rfl) (by kernel_rfl) (Y_yes rfl rfl rfl (decide_eq_false h2) (fun _ ⟨ha1, _⟩ => R_field rfl fld76_1 rfl)) ⟨ha1, trivial⟩ rfl ?_
        refine T_takeA (i := 18) rfl rfl (by kernel_rfl) (by kernel_rfl) (by kernel_rfl) (Y_yes rfl rfl rfl (decide_eq_false h2) (fun _ ⟨ha1, _⟩ => R_load1 rfl scl73 (ha1 7 _ rfl))) ⟨ha1, trivial⟩ rfl ?_
        refine T_takeA (i := 19) rfl rfl (by kernel_rfl) (by kernel_rfl) (by kernel_rfl) (Y_yes rfl rfl rfl (decide_eq_false h2) (fun _ ⟨ha1, _⟩ => R_lenSl rfl slc73)) ⟨ha1, trivial⟩ rfl ?_
        refine T_takeA (i := 20) rfl rfl (by kernel_rfl) (by kernel_rfl) (by kernel_rfl) (Y_yes rfl rfl rfl (decide_eq_false h2) (fun _ ⟨ha1, _⟩ => R_neq rfl rfl)) ⟨ha1, trivial⟩ rfl ?_
        refine T_takeA (i := 21) rfl rfl (by kernel_rfl) (by kernel_rfl) (by kernel_rfl) (Y_of (fun _ ⟨ha1, _⟩ => R_pickF rfl (decide_eq_false h2) rfl)) ⟨ha1, trivial⟩ rfl ?_
        refine T_done (by kernel_rfl) (NoPanic.normal ?_)
        refine N_then ?_
        refine C_if rfl (fun h3 => ?_) (fun h3 => ?_)
        · refine C_seq (C_reg ?_)
          refine L_run (R_assign rfl) rfl ?_
          refine L_nil (N_then (C_ret (R_in (R_then (R_then (R_in (R_then ?_)))))))
          refine ret1 Try.results21 rfl ?_
          first
            | (exfalso; omega)
            | (have e_ : chk l = 13 := chk_13 (show k < l.length by omega) (by unfold HdrOk; rintro ⟨q1, q2⟩; first | contradiction | omega)
               rw [e_]; exact ⟨hB, rfl⟩)
        · refine C_skip (N_in (N_then (C_reg ?_)))
          refine L_run (R_move rfl) rfl ?_
          refine L_run (R_add64 rfl rfl (by omega)) rfl ?_
          refine L_run (R_assign rfl) rfl ?_
          refine L_nil (N_then ?_)
          exact ⟨l.length - (k + 1), by omega, _, (k + 1), Ac_frg ⟨rfl, rfl, (agr rfl (by first | rfl | (congr 1; omega) | (congr 1; simp; done) | (congr 1; simp only [IntKind.wrap_u64, IntKind.wrap_i64, IntKind.wrap_u8]; omega) | (congr 1 <;> omega))), trivial⟩, hB, hS, hD, (by omega), (hdr_succ hall (show k < l.length by omega) ⟨by first | assumption | exact Decidable.not_not.1 (by assumption), by omega⟩), rfl⟩
    · refine C_exit (X_then (X_then (X_hit (N_then (C_seq (C_seq (C_reg ?_)))))))
      refine L_run (R_move rfl) rfl ?_
      have hok : ∀ g ∈ l, HdrOk g := by rw [List.take_of_length_le (by omega)] at hall; exact hall
      refine L_call rfl cb68 (ref25_Together (l := l) hS hD (by omega) hr hok) rfl ?_
      rintro _ w4 ⟨hs3, rfl⟩
      replace hB := gb_tr hB hs3
      replace hS := hS.gb hs3
      replace hD := hD.gb hs3
      refine L_run (R_not rfl) rfl ?_
      refine L_nil (N_then ?_)
      refine C_cond rfl (fun h4 => ?_) (fun h4 => ?_)
      · refine C_seq (C_reg ?_)
        refine L_run (R_assign rfl) rfl ?_
        refine L_nil (N_then (C_ret (R_then ?_)))
        refine ret1 Try.results21 rfl ?_
        have e_ : chk l = 12 := by rw [chk_go hok, cres_tog hok]; simp_all
        rw [e_]; exact ⟨hB, rfl⟩
      · refine C_skip (N_then (C_seq (C_reg ?_)))
        refine L_run (R_assign rfl) rfl ?_
        refine L_nil (N_then (C_ret ?_))
        refine ret1 Try.results21 rfl ?_
        have e_ : chk l = 0 := by rw [chk_go hok, cres_tog hok]; simp_all
        rw [e_]; exact ⟨hB, rfl⟩

theorem awake25 {w : World} :
    Runs Try.prog 18 #[] w (fun v w' => w.grownBy w' none ∧ v = .bool true) := by
  have hB := gb_refl w none
  refine enter Try.func18 Try.ntmps18 rfl rfl ?_
  refine C_seq (C_reg ?_)
  refine L_run (R_assign rfl) rfl ?_
  refine L_nil (N_then (C_seq (C_reg ?_)))
  refine L_run (R_build (pv := [(0, .int .u64 1), (1, .int .i64 1), (2, .int .i64 5)]) (cs := [.int .u64 1, .int .i64 1, .int .i64 5, .int .i64 0, .int .i64 0, .int .i64 0, .int .i64 0]) rfl (by kernel_rfl)) rfl ?_
  refine L_run (R_build (pv := [(0, .int .i64 1), (1, .int .i64 2), (2, .int .i64 5)]) (cs := [.int .i64 1, .int .i64 2, .int .i64 5, .int .i64 0, .slice none 0 0]) rfl (by kernel_rfl)) rfl ?_
  refine L_buildSlice (pv := [(0, .agg #[.int .i64 1, .int .i64 2, .int .i64 5, .int .i64 0, .slice none 0 0])]) (cs := [.int .i64 1, .int .i64 2, .int .i64 5, .int .i64 0, .slice none 0 0]) slc73 zer78 rfl rfl (by kernel_rfl) rfl ?_
  intro g1 w1 eg1 hb1 hs1 hz1
  have ge1 : w.heap.size ≤ g1 := eg_ge hB eg1
  replace hB := gb_tr hB hs1
  refine L_buildSlice (pv := [(0, .int .i64 0)]) (cs := [.int .i64 0]) slc74 zer3 rfl rfl (by kernel_rfl) rfl ?_
  intro g2 w2 eg2 hb2 hs2 hz2
  have ge2 : w.heap.size ≤ g2 := eg_ge hB eg2
  have lt1 : g1 < g2 := lt_of_eg hb1.lt eg2
  replace hB := gb_tr hB hs2
  replace hb1 := hb1.gb hs2
  refine L_run (R_build (pv := [(0, .agg #[.int .u64 1, .int .i64 1, .int .i64 5, .int .i64 0, .int .i64 0, .int .i64 0, .int .i64 0]), (1, .slice (some ⟨g1, 0, none⟩) 1 1), (2, .slice (some ⟨g2, 0, none⟩) 1 1), (4, .int .i64 1)]) (cs := [.int .u64 1, .int .i64 1, .int .i64 5, .int .i64 0, .int .i64 0, .int .i64 0, .int .i64 0, .slice (some ⟨g1, 0, none⟩) 1 1, .slice (some ⟨g2, 0, none⟩) 1 1, .int .i64 0, .int .i64 1]) rfl (by kernel_rfl)) rfl ?_
  refine L_buildSlice (pv := [(0, .agg #[.int .u64 1, .int .i64 1, .int .i64 5, .int .i64 0, .int .i64 0, .int .i64 0, .int .i64 0, .slice (some ⟨g1, 0, none⟩) 1 1, .slice (some ⟨g2, 0, none⟩) 1 1, .int .i64 0, .int .i64 1])]) (cs := [.int .u64 1, .int .i64 1, .int .i64 5, .int .i64 0, .int .i64 0, .int .i64 0, .int .i64 0, .slice (some ⟨g1, 0, none⟩) 1 1, .slice (some ⟨g2, 0, none⟩) 1 1, .int .i64 0, .int .i64 1]) slc27 zer79 rfl rfl (by kernel_rfl) rfl ?_
  intro g3 w3 eg3 hb3 hs3 hz3
  have ge3 : w.heap.size ≤ g3 := eg_ge hB eg3
  have lt2 : g1 < g3 := lt_of_eg hb1.lt eg3
  have lt3 : g2 < g3 := lt_of_eg hb2.lt eg3
  replace hB := gb_tr hB hs3
  replace hb1 := hb1.gb hs3
  replace hb2 := hb2.gb hs3
  refine L_run (R_assign rfl) rfl ?_
  refine L_nil (N_then (C_seq (C_reg ?_)))
  refine L_run (R_move rfl) rfl ?_
  refine L_call rfl cb20 (live_Check (l := [awseg (some ⟨g1, 0, none⟩) (some ⟨g2, 0, none⟩) none 0 0]) (Blk.sli (m := 0) hb3) (List.forall_mem_singleton.2 (Blk.sli0 hb1)) (Nat.le_of_ble_eq_true rfl) (List.forall_mem_singleton.2 (Nat.le_of_ble_eq_true rfl))) rfl ?_
  rintro _ w4 ⟨hs4, rfl⟩
  replace hB := gb_tr hB hs4
  replace hb1 := hb1.gb hs4
  replace hb2 := hb2.gb hs4
  replace hb3 := hb3.gb hs4
  refine L_run (R_eqv (R_eql rfl rfl) (v' := .bool true) (bT' awseg_chk)) rfl ?_
  refine L_run (R_move rfl) rfl ?_
  refine L_yes rfl rfl rfl rfl ?_
  refine L_run (R_move rfl) rfl ?_
  refine L_yes rfl rfl rfl rfl ?_
  refine L_call rfl cb22 (live_Next (l := [awseg (some ⟨g1, 0, none⟩) (some ⟨g2, 0, none⟩) none 0 0]) (Blk.sli (m := 0) hb3) (List.forall_mem_singleton.2 (Blk.sli0 hb1)) (Nat.le_of_ble_eq_true rfl) (List.forall_mem_singleton.2 (Nat.le_of_ble_eq_true rfl))) rfl ?_
  rintro _ w5 ⟨hs5, rfl⟩
  replace hB := gb_tr hB hs5
  replace hb1 := hb1.gb hs5
  replace hb2 := hb2.gb hs5
  replace hb3 := hb3.gb hs5
  refine L_yes rfl rfl rfl rfl ?_
  refine L_run (R_eqv (R_eql rfl rfl) (v' := .bool true) (bT' awseg_next)) rfl ?_
  refine L_run (R_pickT rfl rfl rfl) rfl ?_
  refine L_run (R_move rfl) rfl ?_
  refine L_yes rfl rfl rfl rfl ?_
  refine L_run (R_move rfl) rfl ?_
  refine L_yes rfl rfl rfl rfl ?_
  refine L_call rfl cb24 (live_Heads (l := [awseg (some ⟨g1, 0, none⟩) (some ⟨g2, 0, none⟩) none 0 0]) (Blk.sli (m := 0) hb3) (List.forall_mem_singleton.2 (Blk.sli0 hb1)) (Nat.le_of_ble_eq_true rfl) (List.forall_mem_singleton.2 (Nat.le_of_ble_eq_true rfl))) rfl ?_
  rintro _ w6 ⟨hs6, rfl⟩
  replace hB := gb_tr hB hs6
  replace hb1 := hb1.gb hs6
  replace hb2 := hb2.gb hs6
  replace hb3 := hb3.gb hs6
  refine L_yes rfl rfl rfl rfl ?_
  refine L_run (R_build (pv := [(0, .int .i64 0), (1, .int .i64 0), (2, .int .i64 5), (3, .int .i64 0)]) (cs := [.int .i64 0, .int .i64 0, .int .i64 5, .int .i64 0]) rfl (by kernel_rfl)) rfl ?_
  refine L_yes rfl rfl rfl rfl ?_
  refine L_run (R_eqv (R_eqlA rfl rfl eqg34 (eqs_arr4 arr34 int3 scl3)) (v' := .bool true) (bT' awseg_heads)) rfl ?_
  refine L_run (R_pickT rfl rfl rfl) rfl ?_
  refine L_run (R_assign rfl) rfl ?_
  refine L_nil (N_then (C_ret ?_))
  refine ret1 Try.results18 rfl ?_
  exact ⟨hB, rfl⟩

end Go.Proofs.Ytnggbodilhpohaa
