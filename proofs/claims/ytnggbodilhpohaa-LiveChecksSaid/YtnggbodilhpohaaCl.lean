/-
  Contracts of the packages header and live, and of their references: whether segments are right together, the next number, the heads.
-/
import Derived.Test.YtnggbodilhpohaaCn
import Derived.Test.YtnggbodilhpohaaVl
namespace Go.Proofs.Ytnggbodilhpohaa
open Go.RowKit Gw Pl
set_option linter.unusedVariables false
set_option linter.unusedSimpArgs false
theorem agg34 : aggB Try.prog 34 4 = true := by kernel_rfl
theorem agg72 : aggB Try.prog 72 7 = true := by kernel_rfl
theorem agg76 : aggB Try.prog 76 11 = true := by kernel_rfl
theorem agg78 : aggB Try.prog 78 5 = true := by kernel_rfl
theorem agg79 : aggB Try.prog 79 11 = true := by kernel_rfl
theorem arr34 : arrB Try.prog 34 3 4 1 = true := by kernel_rfl
theorem cb60 : callB Try.prog 60 = true := by kernel_rfl
theorem cb61 : callB Try.prog 61 = true := by kernel_rfl
theorem cb62 : callB Try.prog 62 = true := by kernel_rfl
theorem cb63 : callB Try.prog 63 = true := by kernel_rfl
theorem cb64 : callB Try.prog 64 = true := by kernel_rfl
theorem cb65 : callB Try.prog 65 = true := by kernel_rfl
theorem cb66 : callB Try.prog 66 = true := by kernel_rfl
theorem cb80 : callB Try.prog 80 = true := by kernel_rfl
theorem eqg34 : Try.prog.eqGuardType Try.prog.depth 34 = false := by kernel_rfl
theorem fld72_0 : fldB Try.prog 72 0 0 = true := by kernel_rfl
theorem fld72_1 : fldB Try.prog 72 1 1 = true := by kernel_rfl
theorem fld72_2 : fldB Try.prog 72 2 2 = true := by kernel_rfl
theorem fld72_3 : fldB Try.prog 72 3 3 = true := by kernel_rfl
theorem fld76_0 : fldB Try.prog 76 0 0 = true := by kernel_rfl
theorem fld76_1 : fldB Try.prog 76 1 7 = true := by kernel_rfl
theorem fld78_1 : fldB Try.prog 78 1 1 = true := by kernel_rfl
theorem fld78_2 : fldB Try.prog 78 2 2 = true := by kernel_rfl
theorem fld78_3 : fldB Try.prog 78 3 3 = true := by kernel_rfl
theorem fld78_4 : fldB Try.prog 78 4 4 = true := by kernel_rfl
theorem fld79_0 : fldB Try.prog 79 0 0 = true := by kernel_rfl
theorem fld79_1 : fldB Try.prog 79 1 7 = true := by kernel_rfl
theorem fld79_2 : fldB Try.prog 79 2 8 = true := by kernel_rfl
theorem fld79_4 : fldB Try.prog 79 4 10 = true := by kernel_rfl
theorem scl24 : sclB Try.prog 24 = true := by kernel_rfl
theorem scl70 : sclB Try.prog 70 = true := by kernel_rfl
theorem scl73 : sclB Try.prog 73 = true := by kernel_rfl
theorem scl74 : sclB Try.prog 74 = true := by kernel_rfl
theorem slc25 : slcB Try.prog 25 76 11 120 = true := by kernel_rfl
theorem slc27 : slcB Try.prog 27 79 11 120 = true := by kernel_rfl
theorem slc73 : slcB Try.prog 73 78 5 56 = true := by kernel_rfl
theorem slc74 : slcB Try.prog 74 3 1 8 = true := by kernel_rfl
theorem slc83 : slcB Try.prog 83 24 1 8 = true := by kernel_rfl
theorem sz34 : szB Try.prog 34 4 = true := by kernel_rfl
theorem sz72 : szB Try.prog 72 7 = true := by kernel_rfl
theorem sz76 : szB Try.prog 76 11 = true := by kernel_rfl
theorem sz78 : szB Try.prog 78 5 = true := by kernel_rfl
theorem sz79 : szB Try.prog 79 11 = true := by kernel_rfl
theorem zer24 : (Try.prog.info? 24).bind (·.zero) = some (.nilFunc) := by kernel_rfl
theorem zer3 : (Try.prog.info? 3).bind (·.zero) = some (.int .i64 0) := by kernel_rfl
theorem zer34 : (Try.prog.info? 34).bind (·.zero) = some (.agg #[.int .i64 0, .int .i64 0, .int .i64 0, .int .i64 0]) := by kernel_rfl
theorem zer72 : (Try.prog.info? 72).bind (·.zero) = some (.agg #[.int .u64 0, .int .i64 0, .int .i64 0, .int .i64 0, .int .i64 0, .int .i64 0, .int .i64 0]) := by kernel_rfl
theorem zer76 : (Try.prog.info? 76).bind (·.zero) = some (.agg #[.int .u64 0, .int .i64 0, .int .i64 0, .int .i64 0, .int .i64 0, .int .i64 0, .int .i64 0, .slice none 0 0, .slice none 0 0, .int .i64 0, .int .i64 0]) := by kernel_rfl
theorem zer78 : (Try.prog.info? 78).bind (·.zero) = some (.agg #[.int .i64 0, .int .i64 0, .int .i64 0, .int .i64 0, .slice none 0 0]) := by kernel_rfl
theorem zer79 : (Try.prog.info? 79).bind (·.zero) = some (.agg #[.int .u64 0, .int .i64 0, .int .i64 0, .int .i64 0, .int .i64 0, .int .i64 0, .int .i64 0, .slice none 0 0, .slice none 0 0, .int .i64 0, .int .i64 0]) := by kernel_rfl
theorem header_Right {w : World} {ep seq first : Int} {hs : Nat → Int} :
    Runs Try.prog 60 #[.agg #[.int .u64 ep, .int .i64 seq, .int .i64 first, .int .i64 (hs 0), .int .i64 (hs 1), .int .i64 (hs 2), .int .i64 (hs 3)]] w (fun v w' => w.grownBy w' none ∧ v = .bool (decide (OkH ep seq first hs))) := by
  have hB := gb_refl w none
  refine enter Try.func60 Try.ntmps60 rfl rfl ?_
  refine C_seq (C_reg ?_)
  refine L_box (cs := [.int .u64 ep, .int .i64 seq, .int .i64 first, .int .i64 (hs 0), .int .i64 (hs 1), .int .i64 (hs 2), .int .i64 (hs 3)]) rfl rfl rfl ?_
  intro g1 w1 eg1 hb1 hs1 hz1
  have ge1 : w.heap.size ≤ g1 := eg_ge hB eg1
  replace hB := gb_tr hB hs1
  refine L_run (R_assign rfl) rfl ?_
  refine L_nil (N_then (C_seq (C_seq (C_reg ?_))))
  refine L_run (R_field (r := 3) rfl fld72_3 rfl) rfl ?_
  refine L_run (R_loadA (vs := [.int .i64 (hs 0), .int .i64 (hs 1), .int .i64 (hs 2), .int .i64 (hs 3)]) rfl agg34 (At.pre (hb1.at_ 3) rfl) rfl) rfl ?_
  refine L_run (R_move rfl) rfl ?_
  refine L_nil (N_then (C_block ?_))
  refine C_loop (fun m_ a_ w_ => ∃ (σ_ : Nat → Value) (k : Nat), a_ = Ac 42 σ_ [] [(1, .pointer (some ⟨g1, 0, none⟩)), (2, .bool false), (6, .agg #[.int .i64 (hs 0), .int .i64 (hs 1), .int .i64 (hs 2), .int .i64 (hs 3)]), (7, .int .i64 (k : Int))] ∧ w.grownBy w_ none ∧ Blk w_ g1 72 [.int .u64 ep, .int .i64 seq, .int .i64 first, .int .i64 (hs 0), .int .i64 (hs 1), .int .i64 (hs 2), .int .i64 (hs 3)] ∧ (k ≤ 4) ∧ (OkK k first hs) ∧ 4 - k = m_) (4 - 0) ?_ ?_
  · exact ⟨_, 0, Ac_frg ⟨rfl, rfl, rfl, (agr rfl (by first | rfl | (congr 1; omega) | (congr 1; simp; done) | (congr 1; simp only [IntKind.wrap_u64, IntKind.wrap_i64, IntKind.wrap_u8]; omega) | (congr 1 <;> omega))), trivial⟩, hB, hb1, (by omega), OkK_0, rfl⟩
  · clear hB
    clear hb1
    rintro m_ a_ w2 ⟨σ_, k, rfl, hB, hb1, hk, hall, rfl⟩
    refine C_seq (C_reg ?_)
    refine L_run (R_lss rfl rfl) rfl ?_
    refine L_nil (N_then (C_seq ?_))
    refine C_if rfl (fun h1 => ?_) (fun h1 => ?_)
    · refine C_skip (N_then (C_seq (C_block (C_seq (C_reg ?_)))))
      refine L_run (R_indexA4 (f := hs) (a := (k : Int)) (i := k) rfl rfl (by first | rfl | omega) arr34 scl3 (by omega)) rfl ?_
      refine L_run (R_assign rfl) rfl ?_
      refine L_nil (N_then (C_seq (C_reg ?_)))
      refine L_run (R_move rfl) rfl ?_
      refine L_run (R_lss rfl rfl) rfl ?_
      refine L_run (R_move rfl) rfl ?_
      refine L_splitD (p := (hs k) < 0) (fun h2 => ?_) (fun h2 => ?_)
      · refine L_no rfl rfl rfl (decide_eq_true h2) rfl ?_
        refine L_no rfl rfl rfl (decide_eq_true h2) rfl ?_
        refine L_no rfl rfl rfl (decide_eq_true h2) rfl ?_
        refine L_no rfl rfl rfl (decide_eq_true h2) rfl ?_
        refine L_run (R_pickT rfl (decide_eq_true h2) rfl) rfl ?_
        refine L_nil (N_then (C_condT rfl rfl (C_seq (C_reg ?_))))
        refine L_run (R_assign rfl) rfl ?_
        refine L_nil (N_then (C_ret (R_in (R_then (R_then (R_in (R_then ?_)))))))
        refine ret1 Try.results60 rfl ?_
        first
          | (exfalso; omega)
          | (exact ⟨hB, bF (fun h => by have := h.2 k (by omega); omega)⟩)
      · refine L_yes rfl rfl rfl (decide_eq_false h2) ?_
        refine L_run (R_move rfl) rfl ?_
        refine L_yes rfl rfl rfl (decide_eq_false h2) ?_
        refine L_run (R_field (r := 2) rfl fld72_2 rfl) rfl ?_
        refine L_yes rfl rfl rfl (decide_eq_false h2) ?_
        refine L_run (R_load1 rfl scl3 (hb1.cell (i := 2) rfl)) rfl ?_
        refine L_yes rfl rfl rfl (decide_eq_false h2) ?_
        refine L_run (R_geq rfl rfl) rfl ?_
        refine L_run (R_pickF rfl (decide_eq_false h2) rfl) rfl ?_
        refine L_nil (N_then ?_)
        refine C_if rfl (fun h3 => ?_) (fun h3 => ?_)
        · refine C_seq (C_reg ?_)
          refine L_run (R_assign rfl) rfl ?_
          refine L_nil (N_then (C_ret (R_in (R_then (R_then (R_in (R_then ?_)))))))
          refine ret1 Try.results60 rfl ?_
          first
            | (exfalso; omega)
            | (exact ⟨hB, bF (fun h => by have := h.2 k (by omega); omega)⟩)
        · refine C_skip (N_in (N_then (C_reg ?_)))
          refine L_run (R_add64 rfl rfl (by omega)) rfl ?_
          refine L_run (R_move rfl) rfl ?_
          refine L_nil (N_then ?_)
          exact ⟨4 - (k + 1), by omega, _, (k + 1), Ac_frg ⟨rfl, rfl, rfl, (agr rfl (by first | rfl | (congr 1; omega) | (congr 1; simp; done) | (congr 1; simp only [IntKind.wrap_u64, IntKind.wrap_i64, IntKind.wrap_u8]; omega) | (congr 1 <;> omega))), trivial⟩, hB, hb1, (by omega), (OkK_succ.2 ⟨hall, by omega, by omega⟩), rfl⟩
    · refine C_exit (X_then (X_then (X_hit (N_then (C_seq (C_reg ?_))))))
      refine L_run (R_field (r := 0) rfl fld72_0 rfl) rfl ?_
      refine L_run (R_load1 rfl scl70 (hb1.cell (i := 0) rfl)) rfl ?_
      refine L_run (R_neq rfl rfl) rfl ?_
      refine L_run (R_move rfl) rfl ?_
      refine L_splitD (p := ep ≠ 0) (fun h4 => ?_) (fun h4 => ?_)
      · refine L_yes rfl rfl rfl (decide_eq_true h4) ?_
        refine L_run (R_field (r := 1) rfl fld72_1 rfl) rfl ?_
        refine L_yes rfl rfl rfl (decide_eq_true h4) ?_
        refine L_run (R_load1 rfl scl3 (hb1.cell (i := 1) rfl)) rfl ?_
        refine L_yes rfl rfl rfl (decide_eq_true h4) ?_
        refine L_run (R_geq rfl rfl) rfl ?_
        refine L_run (R_pickT rfl (decide_eq_true h4) rfl) rfl ?_
        refine L_run (R_move rfl) rfl ?_
        refine L_splitD (p := 1 ≤ seq) (fun h5 => ?_) (fun h5 => ?_)
        · refine L_yes rfl rfl rfl (decide_eq_true h5) ?_
          refine L_run (R_field (r := 1) rfl fld72_1 rfl) rfl ?_
          refine L_yes rfl rfl rfl (decide_eq_true h5) ?_
          refine L_run (R_load1 rfl scl3 (hb1.cell (i := 1) rfl)) rfl ?_
          refine L_yes rfl rfl rfl (decide_eq_true h5) ?_
          refine L_run (R_leq rfl rfl) rfl ?_
          refine L_run (R_pickT rfl (decide_eq_true h5) rfl) rfl ?_
          refine L_run (R_move rfl) rfl ?_
          refine L_splitD (p := seq ≤ 2147483647) (fun h6 => ?_) (fun h6 => ?_)
          · refine L_yes rfl rfl rfl (decide_eq_true h6) ?_
            refine L_run (R_field (r := 2) rfl fld72_2 rfl) rfl ?_
            refine L_yes rfl rfl rfl (decide_eq_true h6) ?_
            refine L_run (R_load1 rfl scl3 (hb1.cell (i := 2) rfl)) rfl ?_
            refine L_yes rfl rfl rfl (decide_eq_true h6) ?_
            refine L_run (R_geq rfl rfl) rfl ?_
            refine L_run (R_pickT rfl (decide_eq_true h6) rfl) rfl ?_
            refine L_run (R_move rfl) rfl ?_
            refine L_splitD (p := 1 ≤ first) (fun h7 => ?_) (fun h7 => ?_)
            · refine L_yes rfl rfl rfl (decide_eq_true h7) ?_
              refine L_run (R_field (r := 2) rfl fld72_2 rfl) rfl ?_
              refine L_yes rfl rfl rfl (decide_eq_true h7) ?_
              refine L_run (R_load1 rfl scl3 (hb1.cell (i := 2) rfl)) rfl ?_
              refine L_yes rfl rfl rfl (decide_eq_true h7) ?_
              refine L_run (R_leq rfl rfl) rfl ?_
              refine L_run (R_pickT rfl (decide_eq_true h7) rfl) rfl ?_
              refine L_run (R_assign rfl) rfl ?_
              refine L_nil (N_then (C_ret ?_))
              refine ret1 Try.results60 rfl ?_
              obtain rfl : k = 4 := by omega
              exact ⟨hB, bD ⟨fun h => ⟨⟨by omega, by omega, by omega, by omega, by omega⟩, hall⟩, fun h => by have := h.1; unfold OkB at this; omega⟩⟩
            · refine L_no rfl rfl rfl (decide_eq_false h7) rfl ?_
              refine L_no rfl rfl rfl (decide_eq_false h7) rfl ?_
              refine L_no rfl rfl rfl (decide_eq_false h7) rfl ?_
              refine L_run (R_pickF rfl (decide_eq_false h7) rfl) rfl ?_
              refine L_run (R_assign rfl) rfl ?_
              refine L_nil (N_then (C_ret ?_))
              refine ret1 Try.results60 rfl ?_
              obtain rfl : k = 4 := by omega
              exact ⟨hB, bF (fun h => by have := h.1; unfold OkB at this; omega)⟩
          · refine L_no rfl rfl rfl (decide_eq_false h6) rfl ?_
            refine L_no rfl rfl rfl (decide_eq_false h6) rfl ?_
            refine L_no rfl rfl rfl (decide_eq_false h6) rfl ?_
            refine L_run (R_pickF rfl (decide_eq_false h6) rfl) rfl ?_
            refine L_run (R_move rfl) rfl ?_
            refine L_no rfl rfl rfl rfl rfl ?_
            refine L_no rfl rfl rfl rfl rfl ?_
            refine L_no rfl rfl rfl rfl rfl ?_
            refine L_run (R_pickF rfl rfl rfl) rfl ?_
            refine L_run (R_assign rfl) rfl ?_
            refine L_nil (N_then (C_ret ?_))
            refine ret1 Try.results60 rfl ?_
            obtain rfl : k = 4 := by omega
            exact ⟨hB, bF (fun h => by have := h.1; unfold OkB at this; omega)⟩
        · refine L_no rfl rfl rfl (decide_eq_false h5) rfl ?_
          refine L_no rfl rfl rfl (decide_eq_false h5) rfl ?_
          refine L_no rfl rfl rfl (decide_eq_false h5) rfl ?_
          refine L_run (R_pickF rfl (decide_eq_false h5) rfl) rfl ?_
          refine L_run (R_move rfl) rfl ?_
          refine L_no rfl rfl rfl rfl rfl ?_
          refine L_no rfl rfl rfl rfl rfl ?_
          refine L_no rfl rfl rfl rfl rfl ?_
          refine L_run (R_pickF rfl rfl rfl) rfl ?_
          refine L_run (R_move rfl) rfl ?_
          refine L_no rfl rfl rfl rfl rfl ?_
          refine L_no rfl rfl rfl rfl rfl ?_
          refine L_no rfl rfl rfl rfl rfl ?_
          refine L_run (R_pickF rfl rfl rfl) rfl ?_
          refine L_run (R_assign rfl) rfl ?_
          refine L_nil (N_then (C_ret ?_))
          refine ret1 Try.results60 rfl ?_
          obtain rfl : k = 4 := by omega
          exact ⟨hB, bF (fun h => by have := h.1; unfold OkB at this; omega)⟩
      · refine L_no rfl rfl rfl (decide_eq_false h4) rfl ?_
        refine L_no rfl rfl rfl (decide_eq_false h4) rfl ?_
        refine L_no rfl rfl rfl (decide_eq_false h4) rfl ?_
        refine L_run (R_pickF rfl (decide_eq_false h4) rfl) rfl ?_
        refine L_run (R_move rfl) rfl ?_
        refine L_no rfl rfl rfl rfl rfl ?_
        refine L_no rfl rfl rfl rfl rfl ?_
        refine L_no rfl rfl rfl rfl rfl ?_
        refine L_run (R_pickF rfl rfl rfl) rfl ?_
        refine L_run (R_move rfl) rfl ?_
        refine L_no rfl rfl rfl rfl rfl ?_
        refine L_no rfl rfl rfl rfl rfl ?_
        refine L_no rfl rfl rfl rfl rfl ?_
        refine L_run (R_pickF rfl rfl rfl) rfl ?_
        refine L_run (R_move rfl) rfl ?_
        refine L_no rfl rfl rfl rfl rfl ?_
        refine L_no rfl rfl rfl rfl rfl ?_
        refine L_no rfl rfl rfl rfl rfl ?_
        refine L_run (R_pickF rfl rfl rfl) rfl ?_
        refine L_run (R_assign rfl) rfl ?_
        refine L_nil (N_then (C_ret ?_))
        refine ret1 Try.results60 rfl ?_
        obtain rfl : k = 4 := by omega
        exact ⟨hB, bF (fun h => by have := h.1; unfold OkB at this; omega)⟩

theorem live_Next {w : World} {t1 lo hi hi2 : Nat} {A : Option Addr} {c : Nat} {l : List SegD} (hS : Sli t1 lo hi w A (fl encG l)) (hD : DeepG hi2 w l) (hb : l.length ≤ 1000000) (hr : ∀ g ∈ l, g.recs.length ≤ 1000000) :
    Runs Try.prog 22 #[.slice A l.length c] w (fun v w' => w.grownBy w' none ∧ v = .int .i64 (nextOf l)) := by
  have hB := gb_refl w none
  replace hD : DeepG w.heap.size w l := fun y hy => (hD y hy).top
  replace hS := hS.top
  refine enter Try.func22 Try.ntmps22 rfl rfl ?_
  refine C_seq (C_reg ?_)
  refine L_run (R_assign rfl) rfl ?_
  refine L_nil (N_then (C_seq (C_seq (C_reg ?_))))
  refine L_run (R_move rfl) rfl ?_
  refine L_run (R_lenSl rfl slc27) rfl ?_
  refine L_run (R_eql rfl rfl) rfl ?_
  refine L_nil (N_then ?_)
  refine C_if rfl (fun h1 => ?_) (fun h1 => ?_)
  · refine C_seq (C_reg ?_)
    refine L_run (R_assign rfl) rfl ?_
    refine L_nil (N_then (C_ret (R_then ?_)))
    refine ret1 Try.results22 rfl ?_
    first
      | (exfalso; omega)
      | (have e_ : nextOf l = 1 := by first | exact nextOf_nil (by omega) | exact nextOf_0 hl1 (by omega) | exact nextOf_1 hl1 hl2
         rw [e_]; exact ⟨hB, rfl⟩)
  · refine C_skip (N_then (C_seq (C_reg ?_)))
    refine L_run (R_move rfl) rfl ?_
    refine L_run (R_move rfl) rfl ?_
    refine L_run (R_lenSl rfl slc27) rfl ?_
    refine L_run (R_sub64 rfl rfl (by first | omega | (have h_ := hr _ (List.getElem_mem hl1); omega))) rfl ?_
    have hl1 : (l.length - 1) < l.length := by first | omega | (simp; omega)
    refine T_index (xs := l) (i := (l.length - 1)) EncG rfl rfl (by first | rfl | omega) slc27 hl1 hS rfl ?_
    intro g1 o1 ha1
    refine L_run (R_loadA (vs := [.int .u64 ((l[(l.length - 1)]).ep), .int .i64 ((l[(l.length - 1)]).seq), .int .i64 ((l[(l.length - 1)]).first), .int .i64 ((l[(l.length - 1)]).hs 0), .int .i64 ((l[(l.length - 1)]).hs 1), .int .i64 ((l[(l.length - 1)]).hs 2), .int .i64 ((l[(l.length - 1)]).hs 3), .slice ((l[(l.length - 1)]).ra) ((l[(l.length - 1)]).recs.length) ((l[(l.length - 1)]).rc), .slice ((l[(l.length - 1)]).pa) ((l[(l.length - 1)]).pn) ((l[(l.length - 1)]).pc), .int .i64 ((l[(l.length - 1)]).en), .int .i64 ((l[(l.length - 1)]).kind)]) rfl agg79 (At.pre ha1 rfl) rfl) rfl ?_
    refine L_alloc (cs := [.int .u64 0, .int .i64 0, .int .i64 0, .int .i64 0, .int .i64 0, .int .i64 0, .int .i64 0, .slice none 0 0, .slice none 0 0, .int .i64 0, .int .i64 0]) zer79 rfl rfl ?_
    intro g2 w1 eg1 hb1 hs1 hz1
    have ge1 : w.heap.size ≤ g2 := eg_ge hB eg1
    replace hB := gb_tr hB hs1
    replace hS := hS.gb hs1
    replace hD := hD.gb hs1
    replace ha1 := At.gb ha1 hs1 (by simp)
    refine L_stA (vs := [.int .u64 ((l[(l.length - 1)]).ep), .int .i64 ((l[(l.length - 1)]).seq), .int .i64 ((l[(l.length - 1)]).first), .int .i64 ((l[(l.length - 1)]).hs 0), .int .i64 ((l[(l.length - 1)]).hs 1), .int .i64 ((l[(l.length - 1)]).hs 2), .int .i64 ((l[(l.length - 1)]).hs 3), .slice ((l[(l.length - 1)]).ra) ((l[(l.length - 1)]).recs.length) ((l[(l.length - 1)]).rc), .slice ((l[(l.length - 1)]).pa) ((l[(l.length - 1)]).pn) ((l[(l.length - 1)]).pc), .int .i64 ((l[(l.length - 1)]).en), .int .i64 ((l[(l.length - 1)]).kind)]) rfl rfl rfl sz79 rfl hb1 rfl ?_
    intro w2 hb2 hs2 hz2
    replace hB := gb_trg hB hs2 ge1
    replace hS := hS.old hs2 ge1
    replace hD := hD.old hs2 ge1
    refine L_nil (N_then (C_seq (C_seq (C_reg ?_))))
    refine L_run (R_field (r := 7) rfl fld79_1 rfl) rfl ?_
    refine L_run (R_load1 rfl scl73 (hb2.cell (i := 7) rfl)) rfl ?_
    refine L_run (R_lenSl rfl slc73) rfl ?_
    refine L_run (R_assign rfl) rfl ?_
    refine L_nil (N_then (C_seq (C_reg ?_)))
    refine L_run (R_move rfl) rfl ?_
    refine L_run (R_gtr rfl rfl) rfl ?_
    refine L_nil (N_then ?_)
    refine C_if rfl (fun h2 => ?_) (fun h2 => ?_)
    · refine C_seq (C_reg ?_)
      refine L_run (R_field (r := 7) rfl fld79_1 rfl) rfl ?_
      refine L_run (R_load1 rfl scl73 (hb2.cell (i := 7) rfl)) rfl ?_
      refine L_run (R_move rfl) rfl ?_
      refine L_run (R_sub64 rfl rfl (by first | omega | (have h_ := hr _ (List.getElem_mem hl1); omega))) rfl ?_
      have hl2 : ((l[(l.length - 1)]).recs.length - 1) < ((l[(l.length - 1)]).recs).length := by first | omega | (simp; omega)
      refine T_index (xs := (l[(l.length - 1)]).recs) (i := ((l[(l.length - 1)]).recs.length - 1)) EncR rfl rfl (by first | rfl | omega) slc73 hl2 (hD.get (i := (l.length - 1)) (by first | assumption | omega | (simp; omega))) rfl ?_
      intro g3 o2 ha2
      refine L_run (R_field rfl fld78_2 rfl) rfl ?_
      refine L_run (R_load1 rfl scl3 (ha2 2 _ rfl)) rfl ?_
      refine L_run (R_add rfl rfl) rfl ?_
      refine L_run (R_assign rfl) rfl ?_
      refine L_nil (N_then (C_ret (R_then ?_)))
      refine ret1 Try.results22 rfl ?_
      first
        | (exfalso; omega)
        | (have e_ : nextOf l = IntKind.i64.wrap (((((l[(l.length - 1)]).recs)[((l[(l.length - 1)]).recs.length - 1)]).lsn) + 1) := by first | exact nextOf_nil (by omega) | exact nextOf_0 hl1 (by omega) | exact nextOf_1 hl1 hl2
           rw [e_]; exact ⟨hB, rfl⟩)
    · refine C_skip (N_then (C_seq (C_reg ?_)))
      refine L_run (R_field (r := 0) rfl fld79_0 rfl) rfl ?_
      refine L_run (R_field (r := 2) rfl fld72_2 rfl) rfl ?_
      refine L_run (R_load1 rfl scl3 (hb2.cell (i := 2) rfl)) rfl ?_
      refine L_run (R_assign rfl) rfl ?_
      refine L_nil (N_then (C_ret ?_))
      refine ret1 Try.results22 rfl ?_
      first
        | (exfalso; omega)
        | (have e_ : nextOf l = (l[(l.length - 1)]).first := by first | exact nextOf_nil (by omega) | exact nextOf_0 hl1 (by omega) | exact nextOf_1 hl1 hl2
           rw [e_]; exact ⟨hB, rfl⟩)

theorem ref25_Next {w : World} {t1 lo hi hi2 : Nat} {A : Option Addr} {c : Nat} {l : List SegD} (hS : Sli t1 lo hi w A (fl encG l)) (hD : DeepG hi2 w l) (hb : l.length ≤ 1000000) (hr : ∀ g ∈ l, g.recs.length ≤ 1000000) :
    Runs Try.prog 23 #[.slice A l.length c] w (fun v w' => w.grownBy w' none ∧ v = .int .i64 (nextOf l)) := by
  have hB := gb_refl w none
  replace hD : DeepG w.heap.size w l := fun y hy => (hD y hy).top
  replace hS := hS.top
  refine enter Try.func23 Try.ntmps23 rfl rfl ?_
  refine C_seq (C_reg ?_)
  refine L_run (R_assign rfl) rfl ?_
  refine L_nil (N_then (C_seq (C_seq (C_reg ?_))))
  refine L_run (R_move rfl) rfl ?_
  refine L_run (R_lenSl rfl slc25) rfl ?_
  refine L_run (R_eql rfl rfl) rfl ?_
  refine L_nil (N_then ?_)
  refine C_if rfl (fun h1 => ?_) (fun h1 => ?_)
  · refine C_seq (C_reg ?_)
    refine L_run (R_assign rfl) rfl ?_
    refine L_nil (N_then (C_ret (R_then ?_)))
    refine ret1 Try.results23 rfl ?_
    first
      | (exfalso; omega)
      | (have e_ : nextOf l = 1 := by first | exact nextOf_nil (by omega) | exact nextOf_0 hl1 (by omega) | exact nextOf_1 hl1 hl2
         rw [e_]; exact ⟨hB, rfl⟩)
  · refine C_skip (N_then (C_seq (C_reg ?_)))
    refine L_run (R_move rfl) rfl ?_
    refine L_run (R_move rfl) rfl ?_
    refine L_run (R_lenSl rfl slc25) rfl ?_
    refine L_run (R_sub64 rfl rfl (by first | omega | (have h_ := hr _ (List.getElem_mem hl1); omega))) rfl ?_
    have hl1 : (l.length - 1) < l.length := by first | omega | (simp; omega)
    refine T_index (xs := l) (i := (l.length - 1)) EncG rfl rfl (by first | rfl | omega) slc25 hl1 hS rfl ?_
    intro g1 o1 ha1
    refine L_run (R_loadA (vs := [.int .u64 ((l[(l.length - 1)]).ep), .int .i64 ((l[(l.length - 1)]).seq), .int .i64 ((l[(l.length - 1)]).first), .int .i64 ((l[(l.length - 1)]).hs 0), .int .i64 ((l[(l.length - 1)]).hs 1), .int .i64 ((l[(l.length - 1)]).hs 2), .int .i64 ((l[(l.length - 1)]).hs 3), .slice ((l[(l.length - 1)]).ra) ((l[(l.length - 1)]).recs.length) ((l[(l.length - 1)]).rc), .slice ((l[(l.length - 1)]).pa) ((l[(l.length - 1)]).pn) ((l[(l.length - 1)]).pc), .int .i64 ((l[(l.length - 1)]).en), .int .i64 ((l[(l.length - 1)]).kind)]) rfl agg76 (At.pre ha1 rfl) rfl) rfl ?_
    refine L_alloc (cs := [.int .u64 0, .int .i64 0, .int .i64 0, .int .i64 0, .int .i64 0, .int .i64 0, .int .i64 0, .slice none 0 0, .slice none 0 0, .int .i64 0, .int .i64 0]) zer76 rfl rfl ?_
    intro g2 w1 eg1 hb1 hs1 hz1
    have ge1 : w.heap.size ≤ g2 := eg_ge hB eg1
    replace hB := gb_tr hB hs1
    replace hS := hS.gb hs1
    replace hD := hD.gb hs1
    replace ha1 := At.gb ha1 hs1 (by simp)
    refine L_stA (vs := [.int .u64 ((l[(l.length - 1)]).ep), .int .i64 ((l[(l.length - 1)]).seq), .int .i64 ((l[(l.length - 1)]).first), .int .i64 ((l[(l.length - 1)]).hs 0), .int .i64 ((l[(l.length - 1)]).hs 1), .int .i64 ((l[(l.length - 1)]).hs 2), .int .i64 ((l[(l.length - 1)]).hs 3), .slice ((l[(l.length - 1)]).ra) ((l[(l.length - 1)]).recs.length) ((l[(l.length - 1)]).rc), .slice ((l[(l.length - 1)]).pa) ((l[(l.length - 1)]).pn) ((l[(l.length - 1)]).pc), .int .i64 ((l[(l.length - 1)]).en), .int .i64 ((l[(l.length - 1)]).kind)]) rfl rfl rfl sz76 rfl hb1 rfl ?_
    intro w2 hb2 hs2 hz2
    replace hB := gb_trg hB hs2 ge1
    replace hS := hS.old hs2 ge1
    replace hD := hD.old hs2 ge1
    refine L_nil (N_then (C_seq (C_seq (C_reg ?_))))
    refine L_run (R_field (r := 7) rfl fld76_1 rfl) rfl ?_
    refine L_run (R_load1 rfl scl73 (hb2.cell (i := 7) rfl)) rfl ?_
    refine L_run (R_lenSl rfl slc73) rfl ?_
    refine L_run (R_eql rfl rfl) rfl ?_
    refine L_nil (N_then ?_)
    refine C_if rfl (fun h2 => ?_) (fun h2 => ?_)
    · refine C_seq (C_reg ?_)
      refine L_run (R_field (r := 0) rfl fld76_0 rfl) rfl ?_
      refine L_run (R_field (r := 2) rfl fld72_2 rfl) rfl ?_
      refine L_run (R_load1 rfl scl3 (hb2.cell (i := 2) rfl)) rfl ?_
      refine L_run (R_assign rfl) rfl ?_
      refine L_nil (N_then (C_ret (R_then ?_)))
      refine ret1 Try.results23 rfl ?_
      first
        | (exfalso; omega)
        | (have e_ : nextOf l = (l[(l.length - 1)]).first := by first | exact nextOf_nil (by omega) | exact nextOf_0 hl1 (by omega) | exact nextOf_1 hl1 hl2
           rw [e_]; exact ⟨hB, rfl⟩)
    · refine C_skip (N_then (C_seq (C_reg ?_)))
      refine L_run (R_field (r := 7) rfl fld76_1 rfl) rfl ?_
      refine L_run (R_load1 rfl scl73 (hb2.cell (i := 7) rfl)) rfl ?_
      refine L_run (R_field (r := 7) rfl fld76_1 rfl) rfl ?_
      refine L_run (R_load1 rfl scl73 (hb2.cell (i := 7) rfl)) rfl ?_
      refine L_run (R_lenSl rfl slc73) rfl ?_
      refine L_run (R_sub64 rfl rfl (by first | omega | (have h_ := hr _ (List.getElem_mem hl1); omega))) rfl ?_
      have hl2 : ((l[(l.length - 1)]).recs.length - 1) < ((l[(l.length - 1)]).recs).length := by first | omega | (simp; omega)
      refine T_index (xs := (l[(l.length - 1)]).recs) (i := ((l[(l.length - 1)]).recs.length - 1)) EncR rfl rfl (by first | rfl | omega) slc73 hl2 (hD.get (i := (l.length - 1)) (by first | assumption | omega | (simp; omega))) rfl ?_
      intro g3 o2 ha2
      refine L_run (R_field rfl fld78_2 rfl) rfl ?_
      refine L_run (R_load1 rfl scl3 (ha2 2 _ rfl)) rfl ?_
      refine L_run (R_add rfl rfl) rfl ?_
      refine L_run (R_assign rfl) rfl ?_
      refine L_nil (N_then (C_ret ?_))
      refine ret1 Try.results23 rfl ?_
      first
        | (exfalso; omega)
        | (have e_ : nextOf l = IntKind.i64.wrap (((((l[(l.length - 1)]).recs)[((l[(l.length - 1)]).recs.length - 1)]).lsn) + 1) := by first | exact nextOf_nil (by omega) | exact nextOf_0 hl1 (by omega) | exact nextOf_1 hl1 hl2
           rw [e_]; exact ⟨hB, rfl⟩)

theorem live_Heads {w : World} {t1 lo hi hi2 : Nat} {A : Option Addr} {c : Nat} {l : List SegD} (hS : Sli t1 lo hi w A (fl encG l)) (hD : DeepG hi2 w l) (hb : l.length ≤ 1000000) (hr : ∀ g ∈ l, g.recs.length ≤ 1000000) :
    Runs Try.prog 24 #[.slice A l.length c] w (fun v w' => w.grownBy w' none ∧ v = .agg #[.int .i64 (headsOf l 0), .int .i64 (headsOf l 1), .int .i64 (headsOf l 2), .int .i64 (headsOf l 3)]) := by
  have hB := gb_refl w none
  replace hD : DeepG w.heap.size w l := fun y hy => (hD y hy).top
  replace hS := hS.top
  refine enter Try.func24 Try.ntmps24 rfl rfl ?_
  refine C_seq (C_reg ?_)
  refine L_alloc (cs := [.int .i64 0, .int .i64 0, .int .i64 0, .int .i64 0]) zer34 rfl rfl ?_
  intro g1 w1 eg1 hb1 hs1 hz1
  have ge1 : w.heap.size ≤ g1 := eg_ge hB eg1
  replace hB := gb_tr hB hs1
  replace hS := hS.gb hs1
  replace hD := hD.gb hs1
  refine L_nil (N_then (C_seq (C_seq (C_reg ?_))))
  refine L_run (R_move rfl) rfl ?_
  refine L_run (R_lenSl rfl slc27) rfl ?_
  refine L_run (R_eql rfl rfl) rfl ?_
  refine L_nil (N_then ?_)
  refine C_if rfl (fun h1 => ?_) (fun h1 => ?_)
  · refine C_seq (C_reg ?_)
    refine L_run (R_build (pv := []) (cs := [.int .i64 0, .int .i64 0, .int .i64 0, .int .i64 0]) rfl (by kernel_rfl)) rfl ?_
    refine L_stA (vs := [.int .i64 0, .int .i64 0, .int .i64 0, .int .i64 0]) rfl rfl rfl sz34 rfl hb1 rfl ?_
    intro w2 hb2 hs2 hz2
    replace hB := gb_trg hB hs2 ge1
    replace hS := hS.old hs2 ge1
    replace hD := hD.old hs2 ge1
    refine L_nil (N_then (C_ret (R_then ?_)))
    refine retC (vs := [.int .i64 0, .int .i64 0, .int .i64 0, .int .i64 0]) Try.results24 rfl agg34 (At.pre (hb2.at_ 0) rfl) rfl  ?_
    rw [headsOf_nil (by omega)]; exact ⟨hB, rfl⟩
  · refine C_skip (N_then (C_seq (C_reg ?_)))
    refine L_run (R_move rfl) rfl ?_
    refine L_run (R_move rfl) rfl ?_
    refine L_run (R_lenSl rfl slc27) rfl ?_
    refine L_run (R_sub64 rfl rfl (by first | omega | (have h_ := hr _ (List.getElem_mem hl1); omega))) rfl ?_
    have hl1 : (l.length - 1) < l.length := by first | omega | (simp; omega)
    refine T_index (xs := l) (i := (l.length - 1)) EncG rfl rfl (by first | rfl | omega) slc27 hl1 hS rfl ?_
    intro g2 o1 ha1
    refine L_run (R_loadA (vs := [.int .u64 ((l[(l.length - 1)]).ep), .int .i64 ((l[(l.length - 1)]).seq), .int .i64 ((l[(l.length - 1)]).first), .int .i64 ((l[(l.length - 1)]).hs 0), .int .i64 ((l[(l.length - 1)]).hs 1), .int .i64 ((l[(l.length - 1)]).hs 2), .int .i64 ((l[(l.length - 1)]).hs 3), .slice ((l[(l.length - 1)]).ra) ((l[(l.length - 1)]).recs.length) ((l[(l.length - 1)]).rc), .slice ((l[(l.length - 1)]).pa) ((l[(l.length - 1)]).pn) ((l[(l.length - 1)]).pc), .int .i64 ((l[(l.length - 1)]).en), .int .i64 ((l[(l.length - 1)]).kind)]) rfl agg79 (At.pre ha1 rfl) rfl) rfl ?_
    refine L_alloc (cs := [.int .u64 0, .int .i64 0, .int .i64 0, .int .i64 0, .int .i64 0, .int .i64 0, .int .i64 0, .slice none 0 0, .slice none 0 0, .int .i64 0, .int .i64 0]) zer79 rfl rfl ?_
    intro g3 w3 eg2 hb3 hs3 hz3
    have ge2 : w.heap.size ≤ g3 := eg_ge hB eg2
    have lt1 : g1 < g3 := lt_of_eg hb1.lt eg2
    replace hB := gb_tr hB hs3
    replace hS := hS.gb hs3
    replace hD := hD.gb hs3
    replace hb1 := hb1.gb hs3
    replace ha1 := At.gb ha1 hs3 (by simp)
    refine L_stA (vs := [.int .u64 ((l[(l.length - 1)]).ep), .int .i64 ((l[(l.length - 1)]).seq), .int .i64 ((l[(l.length - 1)]).first), .int .i64 ((l[(l.length - 1)]).hs 0), .int .i64 ((l[(l.length - 1)]).hs 1), .int .i64 ((l[(l.length - 1)]).hs 2), .int .i64 ((l[(l.length - 1)]).hs 3), .slice ((l[(l.length - 1)]).ra) ((l[(l.length - 1)]).recs.length) ((l[(l.length - 1)]).rc), .slice ((l[(l.length - 1)]).pa) ((l[(l.length - 1)]).pn) ((l[(l.length - 1)]).pc), .int .i64 ((l[(l.length - 1)]).en), .int .i64 ((l[(l.length - 1)]).kind)]) rfl rfl rfl sz79 rfl hb3 rfl ?_
    intro w4 hb4 hs4 hz4
    replace hB := gb_trg hB hs4 ge2
    replace hS := hS.old hs4 ge2
    replace hD := hD.old hs4 ge2
    replace hb1 := hb1.grown hs4 (ne_lt lt1)
    refine L_nil (N_then (C_seq (C_reg ?_)))
    refine L_run (R_field (r := 0) rfl fld79_0 rfl) rfl ?_
    refine L_run (R_field (r := 3) rfl fld72_3 rfl) rfl ?_
    refine L_run (R_loadA (vs := [.int .i64 ((l[(l.length - 1)]).hs 0), .int .i64 ((l[(l.length - 1)]).hs 1), .int .i64 ((l[(l.length - 1)]).hs 2), .int .i64 ((l[(l.length - 1)]).hs 3)]) rfl agg34 (At.pre (hb4.at_ 3) rfl) rfl) rfl ?_
    refine L_alloc (cs := [.int .i64 0, .int .i64 0, .int .i64 0, .int .i64 0]) zer34 rfl rfl ?_
    intro g4 w5 eg3 hb5 hs5 hz5
    have ge3 : w.heap.size ≤ g4 := eg_ge hB eg3
    have lt2 : g1 < g4 := lt_of_eg hb1.lt eg3
    have lt3 : g3 < g4 := lt_of_eg hb4.lt eg3
    replace hB := gb_tr hB hs5
    replace hS := hS.gb hs5
    replace hD := hD.gb hs5
    replace hb1 := hb1.gb hs5
    replace hb4 := hb4.gb hs5
    refine L_stA (vs := [.int .i64 ((l[(l.length - 1)]).hs 0), .int .i64 ((l[(l.length - 1)]).hs 1), .int .i64 ((l[(l.length - 1)]).hs 2), .int .i64 ((l[(l.length - 1)]).hs 3)]) rfl rfl rfl sz34 rfl hb5 rfl ?_
    intro w6 hb6 hs6 hz6
    replace hB := gb_trg hB hs6 ge3
    replace hS := hS.old hs6 ge3
    replace hD := hD.old hs6 ge3
    replace hb1 := hb1.grown hs6 (ne_lt lt2)
    replace hb4 := hb4.grown hs6 (ne_lt lt3)
    refine L_nil (N_then (C_seq (C_seq (C_reg ?_))))
    refine L_run (R_field (r := 7) rfl fld79_1 rfl) rfl ?_
    refine L_run (R_load1 rfl scl73 (hb4.cell (i := 7) rfl)) rfl ?_
    refine L_run (R_lenSl rfl slc73) rfl ?_
    refine L_run (R_move rfl) rfl ?_
    refine L_nil (N_then (C_block ?_))
    refine C_loop (fun m_ a_ w_ => ∃ (σ_ : Nat → Value) (k : Nat), a_ = Ac 42 σ_ [] [(0, .slice A l.length c), (2, .pointer (some ⟨g1, 0, none⟩)), (3, .pointer (some ⟨g3, 0, none⟩)), (4, .pointer (some ⟨g4, 0, none⟩)), (21, .slice ((l[(l.length - 1)]).ra) ((l[(l.length - 1)]).recs.length) ((l[(l.length - 1)]).rc)), (22, .int .i64 ((l[(l.length - 1)]).recs.length : Int)), (23, .int .i64 (k : Int))] ∧ w.grownBy w_ none ∧ Sli t1 lo w.heap.size w_ A (fl encG l) ∧ DeepG w.heap.size w_ l ∧ Blk w_ g1 34 [.int .i64 0, .int .i64 0, .int .i64 0, .int .i64 0] ∧ Blk w_ g3 79 [.int .u64 ((l[(l.length - 1)]).ep), .int .i64 ((l[(l.length - 1)]).seq), .int .i64 ((l[(l.length - 1)]).first), .int .i64 ((l[(l.length - 1)]).hs 0), .int .i64 ((l[(l.length - 1)]).hs 1), .int .i64 ((l[(l.length - 1)]).hs 2), .int .i64 ((l[(l.length - 1)]).hs 3), .slice ((l[(l.length - 1)]).ra) ((l[(l.length - 1)]).recs.length) ((l[(l.length - 1)]).rc), .slice ((l[(l.length - 1)]).pa) ((l[(l.length - 1)]).pn) ((l[(l.length - 1)]).pc), .int .i64 ((l[(l.length - 1)]).en), .int .i64 ((l[(l.length - 1)]).kind)] ∧ Blk w_ g4 34 [.int .i64 ((hfold (l[(l.length - 1)]).hs ((l[(l.length - 1)]).recs.take k)) 0), .int .i64 ((hfold (l[(l.length - 1)]).hs ((l[(l.length - 1)]).recs.take k)) 1), .int .i64 ((hfold (l[(l.length - 1)]).hs ((l[(l.length - 1)]).recs.take k)) 2), .int .i64 ((hfold (l[(l.length - 1)]).hs ((l[(l.length - 1)]).recs.take k)) 3)] ∧ (k ≤ (l[(l.length - 1)]).recs.length) ∧ (l[(l.length - 1)]).recs.length - k = m_) ((l[(l.length - 1)]).recs.length - 0) ?_ ?_
    · exact ⟨_, 0, Ac_frg ⟨rfl, rfl, rfl, rfl, rfl, rfl, (agr rfl (by first | rfl | (congr 1; omega) | (congr 1; simp; done) | (congr 1; simp only [IntKind.wrap_u64, IntKind.wrap_i64, IntKind.wrap_u8]; omega) | (congr 1 <;> omega))), trivial⟩, hB, hS, hD, hb1, hb4, hb6, (by omega), rfl⟩
    · clear hB
      clear hS hD hb1 hb4 hb6
      rintro m_ a_ w7 ⟨σ_, k, rfl, hB, hS, hD, hb1, hb4, hbh, hk, rfl⟩
      refine C_seq (C_reg ?_)
      refine L_run (R_lss rfl rfl) rfl ?_
      refine L_nil (N_then (C_seq ?_))
      refine C_if rfl (fun h2 => ?_) (fun h2 => ?_)
      · refine C_skip (N_then (C_seq (C_block (C_seq (C_reg ?_)))))
        have hlk : k < ((l[(l.length - 1)]).recs).length := by first | omega | (simp; omega)
        refine T_index (xs := (l[(l.length - 1)]).recs) (i := k) EncR rfl rfl (by first | rfl | omega) slc73 hlk (hD.get (i := (l.length - 1)) (by first | assumption | omega | (simp; omega))) rfl ?_
        intro g5 o2 ha2
        refine L_run (R_loadA (vs := [.int .i64 ((((l[(l.length - 1)]).recs)[k]).kind), .int .i64 ((((l[(l.length - 1)]).recs)[k]).chain), .int .i64 ((((l[(l.length - 1)]).recs)[k]).lsn), .int .i64 ((((l[(l.length - 1)]).recs)[k]).prev), .slice ((((l[(l.length - 1)]).recs)[k]).da) ((((l[(l.length - 1)]).recs)[k]).dn) ((((l[(l.length - 1)]).recs)[k]).dc)]) rfl agg78 (At.pre ha2 rfl) rfl) rfl ?_
        refine L_alloc (cs := [.int .i64 0, .int .i64 0, .int .i64 0, .int .i64 0, .slice none 0 0]) zer78 rfl rfl ?_
        intro g6 w8 eg4 hb7 hs7 hz7
        have ge4 : w.heap.size ≤ g6 := eg_ge hB eg4
        have lt4 : g1 < g6 := lt_of_eg hb1.lt eg4
        have lt5 : g3 < g6 := lt_of_eg hb4.lt eg4
        have lt6 : g4 < g6 := lt_of_eg hbh.lt eg4
        replace hB := gb_tr hB hs7
        replace hS := hS.gb hs7
        replace hD := hD.gb hs7
        replace hb1 := hb1.gb hs7
        replace hb4 := hb4.gb hs7
        replace hbh := hbh.gb hs7
        replace ha2 := At.gb ha2 hs7 (by simp)
        refine L_stA (vs := [.int .i64 ((((l[(l.length - 1)]).recs)[k]).kind), .int .i64 ((((l[(l.length - 1)]).recs)[k]).chain), .int .i64 ((((l[(l.length - 1)]).recs)[k]).lsn), .int .i64 ((((l[(l.length - 1)]).recs)[k]).prev), .slice ((((l[(l.length - 1)]).recs)[k]).da) ((((l[(l.length - 1)]).recs)[k]).dn) ((((l[(l.length - 1)]).recs)[k]).dc)]) rfl rfl rfl sz78 rfl hb7 rfl ?_
        intro w9 hb8 hs8 hz8
        replace hB := gb_trg hB hs8 ge4
        replace hS := hS.old hs8 ge4
        replace hD := hD.old hs8 ge4
        replace hb1 := hb1.grown hs8 (ne_lt lt4)
        replace hb4 := hb4.grown hs8 (ne_lt lt5)
        replace hbh := hbh.grown hs8 (ne_lt lt6)
        refine L_nil (N_then (C_seq (C_reg ?_)))
        refine L_run (R_field (r := 1) rfl fld78_1 rfl) rfl ?_
        refine L_run (R_load1 rfl scl3 (hb8.cell (i := 1) rfl)) rfl ?_
        refine L_run (R_geq rfl rfl) rfl ?_
        refine L_run (R_move rfl) rfl ?_
        refine L_splitD (p := 0 ≤ (((l[(l.length - 1)]).recs)[k]).chain) (fun h3 => ?_) (fun h3 => ?_)
        · refine L_yes rfl rfl rfl (decide_eq_true h3) ?_
          refine L_run (R_field (r := 1) rfl fld78_1 rfl) rfl ?_
          refine L_yes rfl rfl rfl (decide_eq_true h3) ?_
          refine L_run (R_load1 rfl scl3 (hb8.cell (i := 1) rfl)) rfl ?_
          refine L_yes rfl rfl rfl (decide_eq_true h3) ?_
          refine L_run (R_lss rfl rfl) rfl ?_
          refine L_run (R_pickT rfl (decide_eq_true h3) rfl) rfl ?_
          refine L_nil (N_then ?_)
          refine C_if rfl (fun h4 => ?_) (fun h4 => ?_)
          · refine C_reg ?_
            refine L_run (R_field (r := 1) rfl fld78_1 rfl) rfl ?_
            refine L_run (R_load1 rfl scl3 (hb8.cell (i := 1) rfl)) rfl ?_
            refine L_run (R_field (r := 2) rfl fld78_2 rfl) rfl ?_
            refine L_run (R_load1 rfl scl3 (hb8.cell (i := 2) rfl)) rfl ?_
            have hl3 : ((((l[(l.length - 1)]).recs)[k]).chain).toNat < 4 := by omega
            refine L_run (R_indexArr (sz := 1) (o := 0) (a := (((l[(l.length - 1)]).recs)[k]).chain) (i := ((((l[(l.length - 1)]).recs)[k]).chain).toNat) (r := (0 + ((((l[(l.length - 1)]).recs)[k]).chain).toNat)) rfl rfl (by first | rfl | omega) arr34 hl3 (by first | omega | rfl | simp)) rfl ?_
            refine L_st1v rfl rfl rfl sz3 hbh (by show 0 + ((((l[(l.length - 1)]).recs)[k]).chain).toNat < 4; omega) ?_
            intro w10 hb9 hs9 hz9
            replace hb9 : Blk w10 g4 34 [.int .i64 ((upd (hfold (l[(l.length - 1)]).hs ((l[(l.length - 1)]).recs.take k)) (((((l[(l.length - 1)]).recs)[k]).chain).toNat) ((((l[(l.length - 1)]).recs)[k]).lsn)) 0), .int .i64 ((upd (hfold (l[(l.length - 1)]).hs ((l[(l.length - 1)]).recs.take k)) (((((l[(l.length - 1)]).recs)[k]).chain).toNat) ((((l[(l.length - 1)]).recs)[k]).lsn)) 1), .int .i64 ((upd (hfold (l[(l.length - 1)]).hs ((l[(l.length - 1)]).recs.take k)) (((((l[(l.length - 1)]).recs)[k]).chain).toNat) ((((l[(l.length - 1)]).recs)[k]).lsn)) 2), .int .i64 ((upd (hfold (l[(l.length - 1)]).hs ((l[(l.length - 1)]).recs.take k)) (((((l[(l.length - 1)]).recs)[k]).chain).toNat) ((((l[(l.length - 1)]).recs)[k]).lsn)) 3)] := Blk.cast (four_set (pre := []) (post := []) (f := (hfold (l[(l.length - 1)]).hs ((l[(l.length - 1)]).recs.take k))) (k := .i64) hl3) hb9
            replace hB := gb_trg hB hs9 ge3
            replace hS := hS.old hs9 ge3
            replace hD := hD.old hs9 ge3
            replace hb1 := hb1.grown hs9 (ne_lt lt2)
            replace hb4 := hb4.grown hs9 (ne_lt lt3)
            replace hb8 := hb8.grown hs9 (ne_gt lt6)
            refine L_nil (N_in (N_then (C_reg ?_)))
            refine L_run (R_add64 rfl rfl (by first | omega | (have h_ := hr _ (List.getElem_mem hl1); omega))) rfl ?_
            refine L_run (R_move rfl) rfl ?_
            refine L_nil (N_then ?_)
            have e_ : (upd (hfold (l[(l.length - 1)]).hs ((l[(l.length - 1)]).recs.take k)) (((((l[(l.length - 1)]).recs)[k]).chain).toNat) ((((l[(l.length - 1)]).recs)[k]).lsn)) = (hfold (l[(l.length - 1)]).hs ((l[(l.length - 1)]).recs.take (k + 1))) := hfold_y hlk ⟨by omega, by omega⟩
            rw [e_] at hb9
            exact ⟨(l[(l.length - 1)]).recs.length - (k + 1), by omega, _, (k + 1), Ac_frg ⟨rfl, rfl, rfl, rfl, rfl, rfl, (agr rfl (by first | rfl | (congr 1; omega) | (congr 1; simp; done) | (congr 1; simp only [IntKind.wrap_u64, IntKind.wrap_i64, IntKind.wrap_u8]; omega) | (congr 1 <;> omega))), trivial⟩, hB, hS, hD, hb1, hb4, hb9, (by omega), rfl⟩
          · refine C_skip (N_in (N_then (C_reg ?_)))
            refine L_run (R_add64 rfl rfl (by first | omega | (have h_ := hr _ (List.getElem_mem hl1); omega))) rfl ?_
            refine L_run (R_move rfl) rfl ?_
            refine L_nil (N_then ?_)
            have e_ : (hfold (l[(l.length - 1)]).hs ((l[(l.length - 1)]).recs.take k)) = (hfold (l[(l.length - 1)]).hs ((l[(l.length - 1)]).recs.take (k + 1))) := hfold_n hlk (by omega)
            rw [e_] at hbh
            exact ⟨(l[(l.length - 1)]).recs.length - (k + 1), by omega, _, (k + 1), Ac_frg ⟨rfl, rfl, rfl, rfl, rfl, rfl, (agr rfl (by first | rfl | (congr 1; omega) | (congr 1; simp; done) | (congr 1; simp only [IntKind.wrap_u64, IntKind.wrap_i64, IntKind.wrap_u8]; omega) | (congr 1 <;> omega))), trivial⟩, hB, hS, hD, hb1, hb4, hbh, (by omega), rfl⟩
        · refine L_no rfl rfl rfl (decide_eq_false h3) rfl ?_
          refine L_no rfl rfl rfl (decide_eq_false h3) rfl ?_
          refine L_no rfl rfl rfl (decide_eq_false h3) rfl ?_
          refine L_run (R_pickF rfl (decide_eq_false h3) rfl) rfl ?_
          refine L_nil (N_then (C_condF rfl rfl (C_skip (N_in (N_then (C_reg ?_))))))
          refine L_run (R_add64 rfl rfl (by first | omega | (have h_ := hr _ (List.getElem_mem hl1); omega))) rfl ?_
          refine L_run (R_move rfl) rfl ?_
          refine L_nil (N_then ?_)
          have e_ : (hfold (l[(l.length - 1)]).hs ((l[(l.length - 1)]).recs.take k)) = (hfold (l[(l.length - 1)]).hs ((l[(l.length - 1)]).recs.take (k + 1))) := hfold_n hlk (by omega)
          rw [e_] at hbh
          exact ⟨(l[(l.length - 1)]).recs.length - (k + 1), by omega, _, (k + 1), Ac_frg ⟨rfl, rfl, rfl, rfl, rfl, rfl, (agr rfl (by first | rfl | (congr 1; omega) | (congr 1; simp; done) | (congr 1; simp only [IntKind.wrap_u64, IntKind.wrap_i64, IntKind.wrap_u8]; omega) | (congr 1 <;> omega))), trivial⟩, hB, hS, hD, hb1, hb4, hbh, (by omega), rfl⟩
      · refine C_exit (X_then (X_then (X_hit (N_then (C_seq (C_reg ?_))))))
        refine L_run (R_loadA (vs := [.int .i64 ((hfold (l[(l.length - 1)]).hs ((l[(l.length - 1)]).recs.take k)) 0), .int .i64 ((hfold (l[(l.length - 1)]).hs ((l[(l.length - 1)]).recs.take k)) 1), .int .i64 ((hfold (l[(l.length - 1)]).hs ((l[(l.length - 1)]).recs.take k)) 2), .int .i64 ((hfold (l[(l.length - 1)]).hs ((l[(l.length - 1)]).recs.take k)) 3)]) rfl agg34 (At.pre (hbh.at_ 0) rfl) rfl) rfl ?_
        refine L_stA (vs := [.int .i64 ((hfold (l[(l.length - 1)]).hs ((l[(l.length - 1)]).recs.take k)) 0), .int .i64 ((hfold (l[(l.length - 1)]).hs ((l[(l.length - 1)]).recs.take k)) 1), .int .i64 ((hfold (l[(l.length - 1)]).hs ((l[(l.length - 1)]).recs.take k)) 2), .int .i64 ((hfold (l[(l.length - 1)]).hs ((l[(l.length - 1)]).recs.take k)) 3)]) rfl rfl rfl sz34 rfl hb1 rfl ?_
        intro w11 hb10 hs10 hz10
        replace hB := gb_trg hB hs10 ge1
        replace hS := hS.old hs10 ge1
        replace hD := hD.old hs10 ge1
        replace hb4 := hb4.grown hs10 (ne_gt lt1)
        replace hbh := hbh.grown hs10 (ne_gt lt2)
        refine L_nil (N_then (C_ret ?_))
        refine retC (vs := [.int .i64 ((hfold (l[(l.length - 1)]).hs ((l[(l.length - 1)]).recs.take k)) 0), .int .i64 ((hfold (l[(l.length - 1)]).hs ((l[(l.length - 1)]).recs.take k)) 1), .int .i64 ((hfold (l[(l.length - 1)]).hs ((l[(l.length - 1)]).recs.take k)) 2), .int .i64 ((hfold (l[(l.length - 1)]).hs ((l[(l.length - 1)]).recs.take k)) 3)]) Try.results24 rfl agg34 (At.pre (hb10.at_ 0) rfl) rfl  ?_
        have e_ : headsOf l = (hfold (l[(l.length - 1)]).hs ((l[(l.length - 1)]).recs.take k)) := (headsOf_1 hl1).trans (hfold_all (by omega)).symm
        rw [e_]; exact ⟨hB, rfl⟩

theorem ref25_Heads {w : World} {t1 lo hi hi2 : Nat} {A : Option Addr} {c : Nat} {l : List SegD} (hS : Sli t1 lo hi w A (fl encG l)) (hD : DeepG hi2 w l) (hb : l.length ≤ 1000000) (hr : ∀ g ∈ l, g.recs.length ≤ 1000000) :
    Runs Try.prog 25 #[.slice A l.length c] w (fun v w' => w.grownBy w' none ∧ v = .agg #[.int .i64 (headsOf l 0), .int .i64 (headsOf l 1), .int .i64 (headsOf l 2), .int .i64 (headsOf l 3)]) := by
  have hB := gb_refl w none
  replace hD : DeepG w.heap.size w l := fun y hy => (hD y hy).top
  replace hS := hS.top
  refine enter Try.func25 Try.ntmps25 rfl rfl ?_
  refine C_seq (C_reg ?_)
  refine L_alloc (cs := [.int .i64 0, .int .i64 0, .int .i64 0, .int .i64 0]) zer34 rfl rfl ?_
  intro g1 w1 eg1 hb1 hs1 hz1
  have ge1 : w.heap.size ≤ g1 := eg_ge hB eg1
  replace hB := gb_tr hB hs1
  replace hS := hS.gb hs1
  replace hD := hD.gb hs1
  refine L_nil (N_then (C_seq (C_reg ?_)))
  refine L_run (R_build (pv := []) (cs := [.int .i64 0, .int .i64 0, .int .i64 0, .int .i64 0]) rfl (by kernel_rfl)) rfl ?_
  refine L_alloc (cs := [.int .i64 0, .int .i64 0, .int .i64 0, .int .i64 0]) zer34 rfl rfl ?_
  intro g2 w2 eg2 hb2 hs2 hz2
  have ge2 : w.heap.size ≤ g2 := eg_ge hB eg2
  have lt1 : g1 < g2 := lt_of_eg hb1.lt eg2
  replace hB := gb_tr hB hs2
  replace hS := hS.gb hs2
  replace hD := hD.gb hs2
  replace hb1 := hb1.gb hs2
  refine L_stA (vs := [.int .i64 0, .int .i64 0, .int .i64 0, .int .i64 0]) rfl rfl rfl sz34 rfl hb2 rfl ?_
  intro w3 hb3 hs3 hz3
  replace hB := gb_trg hB hs3 ge2
  replace hS := hS.old hs3 ge2
  replace hD := hD.old hs3 ge2
  replace hb1 := hb1.grown hs3 (ne_lt lt1)
  refine L_nil (N_then (C_seq (C_seq (C_reg ?_))))
  refine L_run (R_move rfl) rfl ?_
  refine L_run (R_lenSl rfl slc25) rfl ?_
  refine L_run (R_gtr rfl rfl) rfl ?_
  refine L_nil (N_then ?_)
  refine C_if rfl (fun h1 => ?_) (fun h1 => ?_)
  · refine C_seq (C_reg ?_)
    refine L_run (R_move rfl) rfl ?_
    refine L_run (R_move rfl) rfl ?_
    refine L_run (R_lenSl rfl slc25) rfl ?_
    refine L_run (R_sub64 rfl rfl (by first | omega | (have h_ := hr _ (List.getElem_mem hl1); omega))) rfl ?_
    have hl1 : (l.length - 1) < l.length := by first | omega | (simp; omega)
    refine T_index (xs := l) (i := (l.length - 1)) EncG rfl rfl (by first | rfl | omega) slc25 hl1 hS rfl ?_
    intro g3 o1 ha1
    refine L_run (R_loadA (vs := [.int .u64 ((l[(l.length - 1)]).ep), .int .i64 ((l[(l.length - 1)]).seq), .int .i64 ((l[(l.length - 1)]).first), .int .i64 ((l[(l.length - 1)]).hs 0), .int .i64 ((l[(l.length - 1)]).hs 1), .int .i64 ((l[(l.length - 1)]).hs 2), .int .i64 ((l[(l.length - 1)]).hs 3), .slice ((l[(l.length - 1)]).ra) ((l[(l.length - 1)]).recs.length) ((l[(l.length - 1)]).rc), .slice ((l[(l.length - 1)]).pa) ((l[(l.length - 1)]).pn) ((l[(l.length - 1)]).pc), .int .i64 ((l[(l.length - 1)]).en), .int .i64 ((l[(l.length - 1)]).kind)]) rfl agg76 (At.pre ha1 rfl) rfl) rfl ?_
    refine L_alloc (cs := [.int .u64 0, .int .i64 0, .int .i64 0, .int .i64 0, .int .i64 0, .int .i64 0, .int .i64 0, .slice none 0 0, .slice none 0 0, .int .i64 0, .int .i64 0]) zer76 rfl rfl ?_
    intro g4 w4 eg3 hb4 hs4 hz4
    have ge3 : w.heap.size ≤ g4 := eg_ge hB eg3
    have lt2 : g1 < g4 := lt_of_eg hb1.lt eg3
    have lt3 : g2 < g4 := lt_of_eg hb3.lt eg3
    replace hB := gb_tr hB hs4
    replace hS := hS.gb hs4
    replace hD := hD.gb hs4
    replace hb1 := hb1.gb hs4
    replace hb3 := hb3.gb hs4
    replace ha1 := At.gb ha1 hs4 (by simp)
    refine L_stA (vs := [.int .u64 ((l[(l.length - 1)]).ep), .int .i64 ((l[(l.length - 1)]).seq), .int .i64 ((l[(l.length - 1)]).first), .int .i64 ((l[(l.length - 1)]).hs 0), .int .i64 ((l[(l.length - 1)]).hs 1), .int .i64 ((l[(l.length - 1)]).hs 2), .int .i64 ((l[(l.length - 1)]).hs 3), .slice ((l[(l.length - 1)]).ra) ((l[(l.length - 1)]).recs.length) ((l[(l.length - 1)]).rc), .slice ((l[(l.length - 1)]).pa) ((l[(l.length - 1)]).pn) ((l[(l.length - 1)]).pc), .int .i64 ((l[(l.length - 1)]).en), .int .i64 ((l[(l.length - 1)]).kind)]) rfl rfl rfl sz76 rfl hb4 rfl ?_
    intro w5 hb5 hs5 hz5
    replace hB := gb_trg hB hs5 ge3
    replace hS := hS.old hs5 ge3
    replace hD := hD.old hs5 ge3
    replace hb1 := hb1.grown hs5 (ne_lt lt2)
    replace hb3 := hb3.grown hs5 (ne_lt lt3)
    refine L_nil (N_then (C_seq (C_reg ?_)))
    refine L_run (R_field (r := 0) rfl fld76_0 rfl) rfl ?_
    refine L_run (R_field (r := 3) rfl fld72_3 rfl) rfl ?_
    refine L_run (R_loadA (vs := [.int .i64 ((l[(l.length - 1)]).hs 0), .int .i64 ((l[(l.length - 1)]).hs 1), .int .i64 ((l[(l.length - 1)]).hs 2), .int .i64 ((l[(l.length - 1)]).hs 3)]) rfl agg34 (At.pre (hb5.at_ 3) rfl) rfl) rfl ?_
    refine L_stA (vs := [.int .i64 ((l[(l.length - 1)]).hs 0), .int .i64 ((l[(l.length - 1)]).hs 1), .int .i64 ((l[(l.length - 1)]).hs 2), .int .i64 ((l[(l.length - 1)]).hs 3)]) rfl rfl rfl sz34 rfl hb3 rfl ?_
    intro w6 hb6 hs6 hz6
    replace hB := gb_trg hB hs6 ge2
    replace hS := hS.old hs6 ge2
    replace hD := hD.old hs6 ge2
    replace hb1 := hb1.grown hs6 (ne_lt lt1)
    replace hb5 := hb5.grown hs6 (ne_gt lt3)
    refine L_nil (N_then (C_seq (C_reg ?_)))
    refine L_run (R_assign rfl) rfl ?_
    refine L_nil (N_then (C_block ?_))
    have e_ : (l[(l.length - 1)]).hs = (gmix (l[(l.length - 1)]).hs (l[(l.length - 1)]).recs 0) := gmix_0
    rw [e_] at hb6
    refine C_loop (fun m_ a_ w_ => ∃ (σ_ : Nat → Value) (c' : Nat), a_ = Ac 48 σ_ [] [(0, .slice A l.length c), (2, .pointer (some ⟨g1, 0, none⟩)), (3, .pointer (some ⟨g2, 0, none⟩)), (4, .pointer (some ⟨g4, 0, none⟩)), (5, .int .i64 (c' : Int))] ∧ w.grownBy w_ none ∧ Sli t1 lo w.heap.size w_ A (fl encG l) ∧ DeepG w.heap.size w_ l ∧ Blk w_ g1 34 [.int .i64 0, .int .i64 0, .int .i64 0, .int .i64 0] ∧ Blk w_ g4 76 [.int .u64 ((l[(l.length - 1)]).ep), .int .i64 ((l[(l.length - 1)]).seq), .int .i64 ((l[(l.length - 1)]).first), .int .i64 ((l[(l.length - 1)]).hs 0), .int .i64 ((l[(l.length - 1)]).hs 1), .int .i64 ((l[(l.length - 1)]).hs 2), .int .i64 ((l[(l.length - 1)]).hs 3), .slice ((l[(l.length - 1)]).ra) ((l[(l.length - 1)]).recs.length) ((l[(l.length - 1)]).rc), .slice ((l[(l.length - 1)]).pa) ((l[(l.length - 1)]).pn) ((l[(l.length - 1)]).pc), .int .i64 ((l[(l.length - 1)]).en), .int .i64 ((l[(l.length - 1)]).kind)] ∧ Blk w_ g2 34 [.int .i64 ((gmix (l[(l.length - 1)]).hs (l[(l.length - 1)]).recs c') 0), .int .i64 ((gmix (l[(l.length - 1)]).hs (l[(l.length - 1)]).recs c') 1), .int .i64 ((gmix (l[(l.length - 1)]).hs (l[(l.length - 1)]).recs c') 2), .int .i64 ((gmix (l[(l.length - 1)]).hs (l[(l.length - 1)]).recs c') 3)] ∧ (c' ≤ 4) ∧ 4 - c' = m_) (4 - 0) ?_ ?_
    · exact ⟨_, 0, Ac_frg ⟨rfl, rfl, rfl, rfl, (agr rfl (by first | rfl | (congr 1; omega) | (congr 1; simp; done) | (congr 1; simp only [IntKind.wrap_u64, IntKind.wrap_i64, IntKind.wrap_u8]; omega) | (congr 1 <;> omega))), trivial⟩, hB, hS, hD, hb1, hb5, hb6, (by omega), rfl⟩
    · clear hB
      clear hS hD hb1 hb6 hb5
      rintro m_ a_ w7 ⟨σ_, c', rfl, hB, hS, hD, hb1, hb5, hbh, hc4, rfl⟩
      refine C_seq (C_seq (C_reg ?_))
      refine L_run (R_move rfl) rfl ?_
      refine L_run (R_lss rfl rfl) rfl ?_
      refine L_nil (N_then ?_)
      refine C_if rfl (fun h2 => ?_) (fun h2 => ?_)
      · refine C_skip (N_then (C_seq (C_block (C_seq (C_reg ?_)))))
        refine L_run (R_assign rfl) rfl ?_
        refine L_nil (N_then (C_block ?_))
        have e_ : (gmix (l[(l.length - 1)]).hs (l[(l.length - 1)]).recs c') = (upd (gmix (l[(l.length - 1)]).hs (l[(l.length - 1)]).recs c') c' (hfold (l[(l.length - 1)]).hs ((l[(l.length - 1)]).recs.take 0) c')) := gmix_in
        rw [e_] at hbh
        refine C_loop (fun m_ a_ w_ => ∃ (σ_ : Nat → Value) (k : Nat), a_ = Ac 48 σ_ [] [(0, .slice A l.length c), (2, .pointer (some ⟨g1, 0, none⟩)), (3, .pointer (some ⟨g2, 0, none⟩)), (4, .pointer (some ⟨g4, 0, none⟩)), (5, .int .i64 (c' : Int)), (6, .int .i64 (k : Int))] ∧ w.grownBy w_ none ∧ Sli t1 lo w.heap.size w_ A (fl encG l) ∧ DeepG w.heap.size w_ l ∧ Blk w_ g1 34 [.int .i64 0, .int .i64 0, .int .i64 0, .int .i64 0] ∧ Blk w_ g4 76 [.int .u64 ((l[(l.length - 1)]).ep), .int .i64 ((l[(l.length - 1)]).seq), .int .i64 ((l[(l.length - 1)]).first), .int .i64 ((l[(l.length - 1)]).hs 0), .int .i64 ((l[(l.length - 1)]).hs 1), .int .i64 ((l[(l.length - 1)]).hs 2), .int .i64 ((l[(l.length - 1)]).hs 3), .slice ((l[(l.length - 1)]).ra) ((l[(l.length - 1)]).recs.length) ((l[(l.length - 1)]).rc), .slice ((l[(l.length - 1)]).pa) ((l[(l.length - 1)]).pn) ((l[(l.length - 1)]).pc), .int .i64 ((l[(l.length - 1)]).en), .int .i64 ((l[(l.length - 1)]).kind)] ∧ Blk w_ g2 34 [.int .i64 ((upd (gmix (l[(l.length - 1)]).hs (l[(l.length - 1)]).recs c') c' (hfold (l[(l.length - 1)]).hs ((l[(l.length - 1)]).recs.take k) c')) 0), .int .i64 ((upd (gmix (l[(l.length - 1)]).hs (l[(l.length - 1)]).recs c') c' (hfold (l[(l.length - 1)]).hs ((l[(l.length - 1)]).recs.take k) c')) 1), .int .i64 ((upd (gmix (l[(l.length - 1)]).hs (l[(l.length - 1)]).recs c') c' (hfold (l[(l.length - 1)]).hs ((l[(l.length - 1)]).recs.take k) c')) 2), .int .i64 ((upd (gmix (l[(l.length - 1)]).hs (l[(l.length - 1)]).recs c') c' (hfold (l[(l.length - 1)]).hs ((l[(l.length - 1)]).recs.take k) c')) 3)] ∧ (k ≤ (l[(l.length - 1)]).recs.length) ∧ (l[(l.length - 1)]).recs.length - k = m_) ((l[(l.length - 1)]).recs.length - 0) ?_ ?_
        · exact ⟨_, 0, Ac_frg ⟨rfl, rfl, rfl, rfl, rfl, (agr rfl (by first | rfl | (congr 1; omega) | (congr 1; simp; done) | (congr 1; simp only [IntKind.wrap_u64, IntKind.wrap_i64, IntKind.wrap_u8]; omega) | (congr 1 <;> omega))), trivial⟩, hB, hS, hD, hb1, hb5, hbh, (by omega), rfl⟩
        · clear hB
          clear hS hD hb1 hb5 hbh
          rintro m_ a_ w8 ⟨σ_, k, rfl, hB, hS, hD, hb1, hb5, hbi, hk, rfl⟩
          refine C_seq (C_seq (C_reg ?_))
          refine L_run (R_move rfl) rfl ?_
          refine L_run (R_field (r := 7) rfl fld76_1 rfl) rfl ?_
          refine L_run (R_load1 rfl scl73 (hb5.cell (i := 7) rfl)) rfl ?_
          refine L_run (R_lenSl rfl slc73) rfl ?_
          refine L_run (R_lss rfl rfl) rfl ?_
          refine L_nil (N_then ?_)
          refine C_if rfl (fun h3 => ?_) (fun h3 => ?_)
          · refine C_skip (N_then (C_seq (C_block (C_seq (C_reg ?_)))))
            refine L_run (R_field (r := 7) rfl fld76_1 rfl) rfl ?_
            refine L_run (R_load1 rfl scl73 (hb5.cell (i := 7) rfl)) rfl ?_
            refine L_run (R_move rfl) rfl ?_
            have hlk : k < ((l[(l.length - 1)]).recs).length := by first | omega | (simp; omega)
            refine T_index (xs := (l[(l.length - 1)]).recs) (i := k) EncR rfl rfl (by first | rfl | omega) slc73 hlk (hD.get (i := (l.length - 1)) (by first | assumption | omega | (simp; omega))) rfl ?_
            intro g5 o2 ha2
            refine L_run (R_field rfl fld78_1 rfl) rfl ?_
            refine L_run (R_load1 rfl scl3 (ha2 1 _ rfl)) rfl ?_
            refine L_run (R_move rfl) rfl ?_
            refine L_run (R_eql rfl rfl) rfl ?_
            refine L_nil (N_then ?_)
            refine C_if rfl (fun h4 => ?_) (fun h4 => ?_)
            · refine C_reg ?_
              refine L_run (R_move rfl) rfl ?_
              refine L_run (R_field (r := 7) rfl fld76_1 rfl) rfl ?_
              refine L_run (R_load1 rfl scl73 (hb5.cell (i := 7) rfl)) rfl ?_
              refine L_run (R_move rfl) rfl ?_
              have hl3 : k < ((l[(l.length - 1)]).recs).length := by first | omega | (simp; omega)
              refine T_index (xs := (l[(l.length - 1)]).recs) (i := k) EncR rfl rfl (by first | rfl | omega) slc73 hl3 (hD.get (i := (l.length - 1)) (by first | assumption | omega | (simp; omega))) rfl ?_
              intro g6 o3 ha3
              refine L_run (R_field rfl fld78_2 rfl) rfl ?_
              refine L_run (R_load1 rfl scl3 (ha3 2 _ rfl)) rfl ?_
              have hl4 : c' < 4 := by omega
              refine L_run (R_indexArr (sz := 1) (o := 0) (a := (c' : Int)) (i := c') (r := (0 + c')) rfl rfl (by first | rfl | omega) arr34 hl4 (by first | omega | rfl | simp)) rfl ?_
              refine L_st1v rfl rfl rfl sz3 hbi (by show 0 + c' < 4; omega) ?_
              intro w9 hb7 hs7 hz7
              replace hb7 : Blk w9 g2 34 [.int .i64 ((upd (upd (gmix (l[(l.length - 1)]).hs (l[(l.length - 1)]).recs c') c' (hfold (l[(l.length - 1)]).hs ((l[(l.length - 1)]).recs.take k) c')) c' ((((l[(l.length - 1)]).recs)[k]).lsn)) 0), .int .i64 ((upd (upd (gmix (l[(l.length - 1)]).hs (l[(l.length - 1)]).recs c') c' (hfold (l[(l.length - 1)]).hs ((l[(l.length - 1)]).recs.take k) c')) c' ((((l[(l.length - 1)]).recs)[k]).lsn)) 1), .int .i64 ((upd (upd (gmix (l[(l.length - 1)]).hs (l[(l.length - 1)]).recs c') c' (hfold (l[(l.length - 1)]).hs ((l[(l.length - 1)]).recs.take k) c')) c' ((((l[(l.length - 1)]).recs)[k]).lsn)) 2), .int .i64 ((upd (upd (gmix (l[(l.length - 1)]).hs (l[(l.length - 1)]).recs c') c' (hfold (l[(l.length - 1)]).hs ((l[(l.length - 1)]).recs.take k) c')) c' ((((l[(l.length - 1)]).recs)[k]).lsn)) 3)] := Blk.cast (four_set (pre := []) (post := []) (f := (upd (gmix (l[(l.length - 1)]).hs (l[(l.length - 1)]).recs c') c' (hfold (l[(l.length - 1)]).hs ((l[(l.length - 1)]).recs.take k) c'))) (k := .i64) hl4) hb7
              replace hB := gb_trg hB hs7 ge2
              replace hS := hS.old hs7 ge2
              replace hD := hD.old hs7 ge2
              replace hb1 := hb1.grown hs7 (ne_lt lt1)
              replace hb5 := hb5.grown hs7 (by intro e; injection e; omega)
              refine L_nil (N_in (N_then (C_reg ?_)))
              refine L_run (R_move rfl) rfl ?_
              refine L_run (R_add64 rfl rfl (by first | omega | (have h_ := hr _ (List.getElem_mem hl1); omega))) rfl ?_
              refine L_run (R_assign rfl) rfl ?_
              refine L_nil (N_then ?_)
              have e_ : (upd (upd (gmix (l[(l.length - 1)]).hs (l[(l.length - 1)]).recs c') c' (hfold (l[(l.length - 1)]).hs ((l[(l.length - 1)]).recs.take k) c')) c' ((((l[(l.length - 1)]).recs)[k]).lsn)) = (upd (gmix (l[(l.length - 1)]).hs (l[(l.length - 1)]).recs c') c' (hfold (l[(l.length - 1)]).hs ((l[(l.length - 1)]).recs.take (k + 1)) c')) := gmix_y hlk (by omega) (by omega)
              rw [e_] at hb7
              exact ⟨(l[(l.length - 1)]).recs.length - (k + 1), by omega, _, (k + 1), Ac_frg ⟨rfl, rfl, rfl, rfl, rfl, (agr rfl (by first | rfl | (congr 1; omega) | (congr 1; simp; done) | (congr 1; simp only [IntKind.wrap_u64, IntKind.wrap_i64, IntKind.wrap_u8]; omega) | (congr 1 <;> omega))), trivial⟩, hB, hS, hD, hb1, hb5, hb7, (by omega), rfl⟩
            · refine C_skip (N_in (N_then (C_reg ?_)))
              refine L_run (R_move rfl) rfl ?_
              refine L_run (R_add64 rfl rfl (by first | omega | (have h_ := hr _ (List.getElem_mem hl1); omega))) rfl ?_
              refine L_run (R_assign rfl) rfl ?_
              refine L_nil (N_then ?_)
              have e_ : (upd (gmix (l[(l.length - 1)]).hs (l[(l.length - 1)]).recs c') c' (hfold (l[(l.length - 1)]).hs ((l[(l.length - 1)]).recs.take k) c')) = (upd (gmix (l[(l.length - 1)]).hs (l[(l.length - 1)]).recs c') c' (hfold (l[(l.length - 1)]).hs ((l[(l.length - 1)]).recs.take (k + 1)) c')) := gmix_n hlk (by omega) (by omega)
              rw [e_] at hbi
              exact ⟨(l[(l.length - 1)]).recs.length - (k + 1), by omega, _, (k + 1), Ac_frg ⟨rfl, rfl, rfl, rfl, rfl, (agr rfl (by first | rfl | (congr 1; omega) | (congr 1; simp; done) | (congr 1; simp only [IntKind.wrap_u64, IntKind.wrap_i64, IntKind.wrap_u8]; omega) | (congr 1 <;> omega))), trivial⟩, hB, hS, hD, hb1, hb5, hbi, (by omega), rfl⟩
          · refine C_exit (X_then (X_then (X_hit (N_in (N_then (C_reg ?_))))))
            refine L_run (R_move rfl) rfl ?_
            refine L_run (R_add64 rfl rfl (by first | omega | (have h_ := hr _ (List.getElem_mem hl1); omega))) rfl ?_
            refine L_run (R_assign rfl) rfl ?_
            refine L_nil (N_then ?_)
            have e_ : (upd (gmix (l[(l.length - 1)]).hs (l[(l.length - 1)]).recs c') c' (hfold (l[(l.length - 1)]).hs ((l[(l.length - 1)]).recs.take k) c')) = (gmix (l[(l.length - 1)]).hs (l[(l.length - 1)]).recs (c' + 1)) := gmix_out (by omega)
            rw [e_] at hbi
            exact ⟨4 - (c' + 1), by omega, _, (c' + 1), Ac_frg ⟨rfl, rfl, rfl, rfl, (agr rfl (by first | rfl | (congr 1; omega) | (congr 1; simp; done) | (congr 1; simp only [IntKind.wrap_u64, IntKind.wrap_i64, IntKind.wrap_u8]; omega) | (congr 1 <;> omega))), trivial⟩, hB, hS, hD, hb1, hb5, hbi, (by omega), rfl⟩
      · refine C_exit (X_then (X_then (X_hit (N_then (C_seq (C_reg ?_))))))
        refine L_run (R_loadA (vs := [.int .i64 ((gmix (l[(l.length - 1)]).hs (l[(l.length - 1)]).recs c') 0), .int .i64 ((gmix (l[(l.length - 1)]).hs (l[(l.length - 1)]).recs c') 1), .int .i64 ((gmix (l[(l.length - 1)]).hs (l[(l.length - 1)]).recs c') 2), .int .i64 ((gmix (l[(l.length - 1)]).hs (l[(l.length - 1)]).recs c') 3)]) rfl agg34 (At.pre (hbh.at_ 0) rfl) rfl) rfl ?_
        refine L_stA (vs := [.int .i64 ((gmix (l[(l.length - 1)]).hs (l[(l.length - 1)]).recs c') 0), .int .i64 ((gmix (l[(l.length - 1)]).hs (l[(l.length - 1)]).recs c') 1), .int .i64 ((gmix (l[(l.length - 1)]).hs (l[(l.length - 1)]).recs c') 2), .int .i64 ((gmix (l[(l.length - 1)]).hs (l[(l.length - 1)]).recs c') 3)]) rfl rfl rfl sz34 rfl hb1 rfl ?_
        intro w10 hb8 hs8 hz8
        replace hB := gb_trg hB hs8 ge1
        replace hS := hS.old hs8 ge1
        replace hD := hD.old hs8 ge1
        replace hb5 := hb5.grown hs8 (ne_gt lt2)
        replace hbh := hbh.grown hs8 (ne_gt lt1)
        refine L_nil (N_then (C_ret ?_))
        refine retC (vs := [.int .i64 ((gmix (l[(l.length - 1)]).hs (l[(l.length - 1)]).recs c') 0), .int .i64 ((gmix (l[(l.length - 1)]).hs (l[(l.length - 1)]).recs c') 1), .int .i64 ((gmix (l[(l.length - 1)]).hs (l[(l.length - 1)]).recs c') 2), .int .i64 ((gmix (l[(l.length - 1)]).hs (l[(l.length - 1)]).recs c') 3)]) Try.results25 rfl agg34 (At.pre (hb8.at_ 0) rfl) rfl  ?_
        obtain rfl : c' = 4 := by omega
        rw [headsOf_1 hl1]; exact ⟨hB, rfl⟩
  · refine C_skip (N_then (C_seq (C_reg ?_)))
    refine L_run (R_loadA (vs := [.int .i64 0, .int .i64 0, .int .i64 0, .int .i64 0]) rfl agg34 (At.pre (hb3.at_ 0) rfl) rfl) rfl ?_
    refine L_stA (vs := [.int .i64 0, .int .i64 0, .int .i64 0, .int .i64 0]) rfl rfl rfl sz34 rfl hb1 rfl ?_
    intro w11 hb9 hs9 hz9
    replace hB := gb_trg hB hs9 ge1
    replace hS := hS.old hs9 ge1
    replace hD := hD.old hs9 ge1
    replace hb3 := hb3.grown hs9 (ne_gt lt1)
    refine L_nil (N_then (C_ret ?_))
    refine retC (vs := [.int .i64 0, .int .i64 0, .int .i64 0, .int .i64 0]) Try.results25 rfl agg34 (At.pre (hb9.at_ 0) rfl) rfl  ?_
    rw [headsOf_nil (by omega)]; exact ⟨hB, rfl⟩

theorem ref18_Right {w : World} {ep seq first : Int} {hs : Nat → Int} (hep : 0 ≤ ep) :
    Runs Try.prog 67 #[.agg #[.int .u64 ep, .int .i64 seq, .int .i64 first, .int .i64 (hs 0), .int .i64 (hs 1), .int .i64 (hs 2), .int .i64 (hs 3)]] w (fun v w' => w.grownBy w' none ∧ v = .bool (decide (OkH ep seq first hs))) := by
  have hB := gb_refl w none
  refine enter Try.func67 Try.ntmps67 rfl rfl ?_
  refine C_seq (C_reg ?_)
  refine L_box (cs := [.int .u64 ep, .int .i64 seq, .int .i64 first, .int .i64 (hs 0), .int .i64 (hs 1), .int .i64 (hs 2), .int .i64 (hs 3)]) rfl rfl rfl ?_
  intro g1 w1 eg1 hb1 hs1 hz1
  have ge1 : w.heap.size ≤ g1 := eg_ge hB eg1
  replace hB := gb_tr hB hs1
  refine L_run (R_assign rfl) rfl ?_
  refine L_nil (N_then (C_seq (C_reg ?_)))
  refine L_run (R_field (r := 0) rfl fld72_0 rfl) rfl ?_
  refine L_run (R_load1 rfl scl70 (hb1.cell (i := 0) rfl)) rfl ?_
  refine L_run (R_gtr rfl rfl) rfl ?_
  refine L_run (R_move rfl) rfl ?_
  refine L_splitD (p := 0 < ep) (fun h1 => ?_) (fun h1 => ?_)
  · refine L_yes rfl rfl rfl (decide_eq_true h1) ?_
    refine L_run (R_field (r := 1) rfl fld72_1 rfl) rfl ?_
    refine L_yes rfl rfl rfl (decide_eq_true h1) ?_
    refine L_run (R_load1 rfl scl3 (hb1.cell (i := 1) rfl)) rfl ?_
    refine L_yes rfl rfl rfl (decide_eq_true h1) ?_
    refine L_run (R_gtr rfl rfl) rfl ?_
    refine L_run (R_pickT rfl (decide_eq_true h1) rfl) rfl ?_
    refine L_run (R_move rfl) rfl ?_
    refine L_splitD (p := 0 < seq) (fun h2 => ?_) (fun h2 => ?_)
    · refine L_yes rfl rfl rfl (decide_eq_true h2) ?_
      refine L_run (R_field (r := 1) rfl fld72_1 rfl) rfl ?_
      refine L_yes rfl rfl rfl (decide_eq_true h2) ?_
      refine L_run (R_load1 rfl scl3 (hb1.cell (i := 1) rfl)) rfl ?_
      refine L_yes rfl rfl rfl (decide_eq_true h2) ?_
      refine L_run (R_leq rfl rfl) rfl ?_
      refine L_run (R_pickT rfl (decide_eq_true h2) rfl) rfl ?_
      refine L_run (R_move rfl) rfl ?_
      refine L_splitD (p := seq ≤ 2147483647) (fun h3 => ?_) (fun h3 => ?_)
      · refine L_yes rfl rfl rfl (decide_eq_true h3) ?_
        refine L_run (R_field (r := 2) rfl fld72_2 rfl) rfl ?_
        refine L_yes rfl rfl rfl (decide_eq_true h3) ?_
        refine L_run (R_load1 rfl scl3 (hb1.cell (i := 2) rfl)) rfl ?_
        refine L_yes rfl rfl rfl (decide_eq_true h3) ?_
        refine L_run (R_gtr rfl rfl) rfl ?_
        refine L_run (R_pickT rfl (decide_eq_true h3) rfl) rfl ?_
        refine L_run (R_move rfl) rfl ?_
        refine L_splitD (p := 0 < first) (fun h4 => ?_) (fun h4 => ?_)
        · refine L_yes rfl rfl rfl (decide_eq_true h4) ?_
          refine L_run (R_field (r := 2) rfl fld72_2 rfl) rfl ?_
          refine L_yes rfl rfl rfl (decide_eq_true h4) ?_
          refine L_run (R_load1 rfl scl3 (hb1.cell (i := 2) rfl)) rfl ?_
          refine L_yes rfl rfl rfl (decide_eq_true h4) ?_
          refine L_run (R_leq rfl rfl) rfl ?_
          refine L_run (R_pickT rfl (decide_eq_true h4) rfl) rfl ?_
          refine L_run (R_assign rfl) rfl ?_
          refine L_nil (N_then (C_seq (C_seq (C_reg ?_))))
          refine L_run (R_assign rfl) rfl ?_
          refine L_nil (N_then (C_block ?_))
          have e_ : Value.bool (decide (first ≤ 2147483647)) = .bool (decide (OkB ep seq first ∧ OkK 0 first hs)) := by
            first
              | exact bD (Iff.trans (by unfold OkB; omega) okB0.symm)
              | exact bT (okB0.2 (by unfold OkB; omega))
              | exact bF (fun h_ => by have q_ := okB0.1 h_; unfold OkB at q_; omega)
              | exact bF (fun h_ => hnb (okS.1 h_).1)
              | exact bF (fun h_ => by have q_ := (okS.1 h_).2; omega)
              | exact bD (Iff.trans ⟨fun q_ => ⟨hyb, by omega, q_⟩, fun q_ => q_.2.2⟩ okS.symm)
          refine C_loop (fun m_ a_ w_ => ∃ (σ_ : Nat → Value) (k : Nat), a_ = Ac 50 σ_ [] [(1, .pointer (some ⟨g1, 0, none⟩)), (2, .bool false), (3, .bool (decide (OkB ep seq first ∧ OkK k first hs))), (4, .int .i64 (k : Int))] ∧ w.grownBy w_ none ∧ Blk w_ g1 72 [.int .u64 ep, .int .i64 seq, .int .i64 first, .int .i64 (hs 0), .int .i64 (hs 1), .int .i64 (hs 2), .int .i64 (hs 3)] ∧ (k ≤ 4) ∧ 4 - k = m_) (4 - 0) ?_ ?_
          · exact ⟨_, 0, Ac_frg ⟨rfl, rfl, (agr rfl e_), (agr rfl (by first | rfl | (congr 1; omega) | (congr 1; simp; done) | (congr 1; simp only [IntKind.wrap_u64, IntKind.wrap_i64, IntKind.wrap_u8]; omega) | (congr 1 <;> omega))), trivial⟩, hB, hb1, (by omega), rfl⟩
          · clear hB
            clear hb1
            rintro m_ a_ w2 ⟨σ_, k, rfl, hB, hb1, hk, rfl⟩
            refine C_seq (C_seq (C_reg ?_))
            refine L_run (R_move rfl) rfl ?_
            refine L_run (R_lss rfl rfl) rfl ?_
            refine L_nil (N_then ?_)
            refine C_if rfl (fun h5 => ?_) (fun h5 => ?_)
            · refine C_skip (N_then (C_seq (C_block ?_)))
              refine C_draw2 mix ?_
              intro w3 hs2 hz2
              replace hB := gb_tr hB hs2
              replace hb1 := hb1.gb hs2
              refine ⟨fun W_ => Blk W_ g1 72 [.int .u64 ep, .int .i64 seq, .int .i64 first, .int .i64 (hs 0), .int .i64 (hs 1), .int .i64 (hs 2), .int .i64 (hs 3)] ∧ True, [0, 1, 2, 3, 4, 5, 6, 7, 8, 9, 10, 11, 12, 13, 14, 15, 16, 17], ?_⟩
              refine T_takeA (i := 0) rfl rfl (by kernel_rfl) (by kernel_rfl) (by kernel_rfl) (Y_of (fun _ ⟨hb1, _⟩ => R_move rfl)) ⟨hb1, trivial⟩ rfl ?_
              refine T_takeA (i := 1) rfl rfl (by kernel_rfl) (by kernel_rfl) (by kernel_rfl) (Y_of (fun _ ⟨hb1, _⟩ => R_move rfl)) ⟨hb1, trivial⟩ rfl ?_
              by_cases h6 : OkB ep seq first ∧ OkK k first hs
              · refine T_takeA (i := 2) rfl rfl (by kernel_rfl) (by kernel_rfl) (by kernel_rfl) (Y_yes rfl rfl rfl (decide_eq_true h6) (fun _ ⟨hb1, _⟩ => R_move rfl)) ⟨hb1, trivial⟩ rfl ?_
                refine T_takeA (i := 3) rfl rfl (by kernel_rfl) (by kernel_rfl) (by kernel_rfl) (Y_yes rfl rfl rfl (decide_eq_true h6) (fun _ ⟨hb1, _⟩ => R_field (r := 3) rfl fld72_3 rfl)) ⟨hb1, trivial⟩ rfl ?_
                have hl1 : k < 4 := by omega
                refine T_takeA (i := 4) rfl rfl (by kernel_rfl) (by kernel_rfl) (by kernel_rfl) (Y_yes rfl rfl rfl (decide_eq_true h6) (fun _ ⟨hb1, _⟩ => R_indexArr (sz := 1) (o := 3) (a := (k : Int)) (i := k) (r := (3 + k)) rfl rfl (by first | rfl | omega) arr34 hl1 (by first | omega | rfl | simp))) ⟨hb1, trivial⟩ rfl ?_
                refine T_takeA (i := 5) rfl rfl (by kernel_rfl) (by kernel_rfl) (by kernel_rfl) (Y_yes rfl rfl rfl (decide_eq_true h6) (fun _ ⟨hb1, _⟩ => R_load1 rfl scl3 (hb1.cell (four_at (pre := [.int .u64 ep, .int .i64 seq, .int .i64 first]) (post := []) (f := hs) (k := .i64) hl1)))) ⟨hb1, trivial⟩ rfl ?_
                refine T_takeA (i := 6) rfl rfl (by kernel_rfl) (by kernel_rfl) (by kernel_rfl) (Y_yes rfl rfl rfl (decide_eq_true h6) (fun _ ⟨hb1, _⟩ => R_geq rfl rfl)) ⟨hb1, trivial⟩ rfl ?_
                refine T_takeA (i := 7) rfl rfl (by kernel_rfl) (by kernel_rfl) (by kernel_rfl) (Y_of (fun _ ⟨hb1, _⟩ => R_pickT rfl (decide_eq_true h6) rfl)) ⟨hb1, trivial⟩ rfl ?_
                refine T_takeA (i := 8) rfl rfl (by kernel_rfl) (by kernel_rfl) (by kernel_rfl) (Y_of (fun _ ⟨hb1, _⟩ => R_move rfl)) ⟨hb1, trivial⟩ rfl ?_
                by_cases h7 : 0 ≤ (hs k)
                · refine T_takeA (i := 9) rfl rfl (by kernel_rfl) (by kernel_rfl) (by kernel_rfl) (Y_yes rfl rfl rfl (decide_eq_true h7) (fun _ ⟨hb1, _⟩ => R_move rfl)) ⟨hb1, trivial⟩ rfl ?_
                  refine T_takeA (i := 10) rfl rfl (by kernel_rfl) (by kernel_rfl) (by kernel_rfl) (Y_yes rfl rfl rfl (decide_eq_true h7) (fun _ ⟨hb1, _⟩ => R_field (r := 3) rfl fld72_3 rfl)) ⟨hb1, trivial⟩ rfl ?_
                  have hl2 : k < 4 := by omega
                  refine T_takeA (i := 11) rfl rfl (by kernel_rfl) (by kernel_rfl) (by kernel_rfl) (Y_yes rfl rfl rfl (decide_eq_true h7) (fun _ ⟨hb1, _⟩ => R_indexArr (sz := 1) (o := 3) (a := (k : Int)) (i := k) (r := (3 + k)) rfl rfl (by first | rfl | omega) arr34 hl2 (by first | omega | rfl | simp))) ⟨hb1, trivial⟩ rfl ?_
                  refine T_takeA (i := 12) rfl rfl (by kernel_rfl) (by kernel_rfl) (by kernel_rfl) (Y_yes rfl rfl rfl (decide_eq_true h7) (fun _ ⟨hb1, _⟩ => R_load1 rfl scl3 (hb1.cell (four_at (pre := [.int .u64 ep, .int .i64 seq, .int .i64 first]) (post := []) (f := hs) (k := .i64) hl2)))) ⟨hb1, trivial⟩ rfl ?_
                  refine T_takeA (i := 13) rfl rfl (by kernel_rfl) (by kernel_rfl) (by kernel_rfl) (Y_yes rfl rfl rfl (decide_eq_true h7) (fun _ ⟨hb1, _⟩ => R_field (r := 2) rfl fld72_2 rfl)) ⟨hb1, trivial⟩ rfl ?_
                  refine T_takeA (i := 14) rfl rfl (by kernel_rfl) (by kernel_rfl) (by kernel_rfl) (Y_yes rfl rfl rfl (decide_eq_true h7) (fun _ ⟨hb1, _⟩ => R_load1 rfl scl3 (hb1.cell (i := 2) rfl))) ⟨hb1, trivial⟩ rfl ?_
                  refine T_takeA (i := 15) rfl rfl (by kernel_rfl) (by kernel_rfl) (by kernel_rfl) (Y_yes rfl rfl rfl (decide_eq_true h7) (fun _ ⟨hb1, _⟩ => R_lss rfl rfl)) ⟨hb1, trivial⟩ rfl ?_
                  refine T_takeA (i := 16) rfl rfl (by kernel_rfl) (by kernel_rfl) (by kernel_rfl) (Y_of (fun _ ⟨hb1, _⟩ => R_pickT rfl (decide_eq_true h7) rfl)) ⟨hb1, trivial⟩ rfl ?_
                  refine T_takeA (i := 17) rfl rfl (by kernel_rfl) (by kernel_rfl) (by kernel_rfl) (Y_of (fun _ ⟨hb1, _⟩ => R_assign rfl)) ⟨hb1, trivial⟩ rfl ?_
                  refine T_done (by kernel_rfl) (NoPanic.normal ?_)
                  refine N_in (N_then (C_reg ?_))
                  refine L_run (R_move rfl) rfl ?_
                  refine L_run (R_add64 rfl rfl (by omega)) rfl ?_
                  refine L_run (R_assign rfl) rfl ?_
                  refine L_nil (N_then ?_)
                  have hyb := h6
                  have e_ : Value.bool (decide ((hs k) < first)) = .bool (decide (OkB ep seq first ∧ OkK (k + 1) first hs)) := by
                    first
                      | exact bD (Iff.trans (by unfold OkB; omega) okB0.symm)
                      | exact bT (okB0.2 (by unfold OkB; omega))
                      | exact bF (fun h_ => by have q_ := okB0.1 h_; unfold OkB at q_; omega)
                      | exact bF (fun h_ => hnb (okS.1 h_).1)
                      | exact bF (fun h_ => by have q_ := (okS.1 h_).2; omega)
                      | exact bD (Iff.trans ⟨fun q_ => ⟨hyb, by omega, q_⟩, fun q_ => q_.2.2⟩ okS.symm)
                  exact ⟨4 - (k + 1), by omega, _, (k + 1), Ac_frg ⟨rfl, rfl, (agr rfl e_), (agr rfl (by first | rfl | (congr 1; omega) | (congr 1; simp; done) | (congr 1; simp only [IntKind.wrap_u64, IntKind.wrap_i64, IntKind.wrap_u8]; omega) | (congr 1 <;> omega))), trivial⟩, hB, hb1, (by omega), rfl⟩
                · refine T_takeA (i := 9) rfl rfl (by kernel_rfl) (by kernel_rfl) (by kernel_rfl) (Y_no rfl rfl rfl (decide_eq_false h7)) ⟨hb1, trivial⟩ rfl ?_
                  refine T_takeA (i := 10) rfl rfl (by kernel_rfl) (by kernel_rfl) (by kernel_rfl) (Y_no rfl rfl rfl (decide_eq_false h7)) ⟨hb1, trivial⟩ rfl ?_
                  refine T_takeA (i := 11) rfl rfl (by kernel_rfl) (by kernel_rfl) (by kernel_rfl) (Y_no rfl rfl rfl (decide_eq_false h7)) ⟨hb1, trivial⟩ rfl ?_
                  refine T_takeA (i := 12) rfl rfl (by kernel_rfl) (by kernel_rfl) (by kernel_rfl) (Y_no rfl rfl rfl (decide_eq_false h7)) ⟨hb1, trivial⟩ rfl ?_
                  refine T_takeA (i := 13) rfl rfl (by kernel_rfl) (by kernel_rfl) (by kernel_rfl) (Y_no rfl rfl rfl (decide_eq_false h7)) ⟨hb1, trivial⟩ rfl ?_
                  refine T_takeA (i := 14) rfl rfl (by kernel_rfl) (by kernel_rfl) (by kernel_rfl) (Y_no rfl rfl rfl (decide_eq_false h7)) ⟨hb1, trivial⟩ rfl ?_
                  refine T_takeA (i := 15) rfl rfl (by kernel_rfl) (by kernel_rfl) (by kernel_rfl) (Y_no rfl rfl rfl (decide_eq_false h7)) ⟨hb1, trivial⟩ rfl ?_
                  refine T_takeA (i := 16) rfl rfl (by kernel_rfl) (by kernel_rfl) (by kernel_rfl) (Y_of (fun _ ⟨hb1, _⟩ => R_pickF rfl (decide_eq_false h7) rfl)) ⟨hb1, trivial⟩ rfl ?_
                  refine T_takeA (i := 17) rfl rfl (by kernel_rfl) (by kernel_rfl) (by kernel_rfl) (Y_of (fun _ ⟨hb1, _⟩ => R_assign rfl)) ⟨hb1, trivial⟩ rfl ?_
                  refine T_done (by kernel_rfl) (NoPanic.normal ?_)
                  refine N_in (N_then (C_reg ?_))
                  refine L_run (R_move rfl) rfl ?_
                  refine L_run (R_add64 rfl rfl (by omega)) rfl ?_
                  refine L_run (R_assign rfl) rfl ?_
                  refine L_nil (N_then ?_)
                  have hyb := h6
                  have e_ : Value.bool false = .bool (decide (OkB ep seq first ∧ OkK (k + 1) first hs)) := by
                    first
                      | exact bD (Iff.trans (by unfold OkB; omega) okB0.symm)
                      | exact bT (okB0.2 (by unfold OkB; omega))
                      | exact bF (fun h_ => by have q_ := okB0.1 h_; unfold OkB at q_; omega)
                      | exact bF (fun h_ => hnb (okS.1 h_).1)
                      | exact bF (fun h_ => by have q_ := (okS.1 h_).2; omega)
                      | exact bD (Iff.trans ⟨fun q_ => ⟨hyb, by omega, q_⟩, fun q_ => q_.2.2⟩ okS.symm)
                  exact ⟨4 - (k + 1), by omega, _, (k + 1), Ac_frg ⟨rfl, rfl, (agr rfl e_), (agr rfl (by first | rfl | (congr 1; omega) | (congr 1; simp; done) | (congr 1; simp only [IntKind.wrap_u64, IntKind.wrap_i64, IntKind.wrap_u8]; omega) | (congr 1 <;> omega))), trivial⟩, hB, hb1, (by omega), rfl⟩
              · refine T_takeA (i := 2) rfl rfl (by kernel_rfl) (by kernel_rfl) (by kernel_rfl) (Y_no rfl rfl rfl (decide_eq_false h6)) ⟨hb1, trivial⟩ rfl ?_
                refine T_takeA (i := 3) rfl rfl (by kernel_rfl) (by kernel_rfl) (by kernel_rfl) (Y_no rfl rfl rfl (decide_eq_false h6)) ⟨hb1, trivial⟩ rfl ?_
                refine T_takeA (i := 4) rfl rfl (by kernel_rfl) (by kernel_rfl) (by kernel_rfl) (Y_no rfl rfl rfl (decide_eq_false h6)) ⟨hb1, trivial⟩ rfl ?_
                refine T_takeA (i := 5) rfl rfl (by kernel_rfl) (by kernel_rfl) (by kernel_rfl) (Y_no rfl rfl rfl (decide_eq_false h6)) ⟨hb1, trivial⟩ rfl ?_
                refine T_takeA (i := 6) rfl rfl (by kernel_rfl) (by kernel_rfl) (by kernel_rfl) (Y_no rfl rfl rfl (decide_eq_false h6)) ⟨hb1, trivial⟩ rfl ?_
                refine T_takeA (i := 7) rfl rfl (by kernel_rfl) (by kernel_rfl) (by kernel_rfl) (Y_of (fun _ ⟨hb1, _⟩ => R_pickF rfl (decide_eq_false h6) rfl)) ⟨hb1, trivial⟩ rfl ?_
                refine T_takeA (i := 8) rfl rfl (by kernel_rfl) (by kernel_rfl) (by kernel_rfl) (Y_of (fun _ ⟨hb1, _⟩ => R_move rfl)) ⟨hb1, trivial⟩ rfl ?_
                refine T_takeA (i := 9) rfl rfl (by kernel_rfl) (by kernel_rfl) (by kernel_rfl) (Y_no rfl rfl rfl rfl) ⟨hb1, trivial⟩ rfl ?_
                refine T_takeA (i := 10) rfl rfl (by kernel_rfl) (by kernel_rfl) (by kernel_rfl) (Y_no rfl rfl rfl rfl) ⟨hb1, trivial⟩ rfl ?_
                refine T_takeA (i := 11) rfl rfl (by kernel_rfl) (by kernel_rfl) (by kernel_rfl) (Y_no rfl rfl rfl rfl) ⟨hb1, trivial⟩ rfl ?_
                refine T_takeA (i := 12) rfl rfl (by kernel_rfl) (by kernel_rfl) (by kernel_rfl) (Y_no rfl rfl rfl rfl) ⟨hb1, trivial⟩ rfl ?_
                refine T_takeA (i := 13) rfl rfl (by kernel_rfl) (by kernel_rfl) (by kernel_rfl) (Y_no rfl rfl rfl rfl) ⟨hb1, trivial⟩ rfl ?_
                refine T_takeA (i := 14) rfl rfl (by kernel_rfl) (by kernel_rfl) (by kernel_rfl) (Y_no rfl rfl rfl rfl) ⟨hb1, trivial⟩ rfl ?_
                refine T_takeA (i := 15) rfl rfl (by kernel_rfl) (by kernel_rfl) (by kernel_rfl) (Y_no rfl rfl rfl rfl) ⟨hb1, trivial⟩ rfl ?_
                refine T_takeA (i := 16) rfl rfl (by kernel_rfl) (by kernel_rfl) (by kernel_rfl) (Y_of (fun _ ⟨hb1, _⟩ => R_pickF rfl rfl rfl)) ⟨hb1, trivial⟩ rfl ?_
                refine T_takeA (i := 17) rfl rfl (by kernel_rfl) (by kernel_rfl) (by kernel_rfl) (Y_of (fun _ ⟨hb1, _⟩ => R_assign rfl)) ⟨hb1, trivial⟩ rfl ?_
                refine T_done (by kernel_rfl) (NoPanic.normal ?_)
                refine N_in (N_then (C_reg ?_))
                refine L_run (R_move rfl) rfl ?_
                refine L_run (R_add64 rfl rfl (by omega)) rfl ?_
                refine L_run (R_assign rfl) rfl ?_
                refine L_nil (N_then ?_)
                have hnb := h6
                have e_ : Value.bool false = .bool (decide (OkB ep seq first ∧ OkK (k + 1) first hs)) := by
                  first
                    | exact bD (Iff.trans (by unfold OkB; omega) okB0.symm)
                    | exact bT (okB0.2 (by unfold OkB; omega))
                    | exact bF (fun h_ => by have q_ := okB0.1 h_; unfold OkB at q_; omega)
                    | exact bF (fun h_ => hnb (okS.1 h_).1)
                    | exact bF (fun h_ => by have q_ := (okS.1 h_).2; omega)
                    | exact bD (Iff.trans ⟨fun q_ => ⟨hyb, by omega, q_⟩, fun q_ => q_.2.2⟩ okS.symm)
                exact ⟨4 - (k + 1), by omega, _, (k + 1), Ac_frg ⟨rfl, rfl, (agr rfl e_), (agr rfl (by first | rfl | (congr 1; omega) | (congr 1; simp; done) | (congr 1; simp only [IntKind.wrap_u64, IntKind.wrap_i64, IntKind.wrap_u8]; omega) | (congr 1 <;> omega))), trivial⟩, hB, hb1, (by omega), rfl⟩
            · refine C_exit (X_then (X_then (X_hit (N_then (C_seq (C_reg ?_))))))
              refine L_run (R_move rfl) rfl ?_
              refine L_run (R_assign rfl) rfl ?_
              refine L_nil (N_then (C_ret ?_))
              refine ret1 Try.results67 rfl ?_
              obtain rfl : k = 4 := by omega
              exact ⟨hB, rfl⟩
        · refine L_no rfl rfl rfl (decide_eq_false h4) rfl ?_
          refine L_no rfl rfl rfl (decide_eq_false h4) rfl ?_
          refine L_no rfl rfl rfl (decide_eq_false h4) rfl ?_
          refine L_run (R_pickF rfl (decide_eq_false h4) rfl) rfl ?_
          refine L_run (R_assign rfl) rfl ?_
          refine L_nil (N_then (C_seq (C_seq (C_reg ?_))))
          refine L_run (R_assign rfl) rfl ?_
          refine L_nil (N_then (C_block ?_))
          have e_ : Value.bool false = .bool (decide (OkB ep seq first ∧ OkK 0 first hs)) := by
            first
              | exact bD (Iff.trans (by unfold OkB; omega) okB0.symm)
              | exact bT (okB0.2 (by unfold OkB; omega))
              | exact bF (fun h_ => by have q_ := okB0.1 h_; unfold OkB at q_; omega)
              | exact bF (fun h_ => hnb (okS.1 h_).1)
              | exact bF (fun h_ => by have q_ := (okS.1 h_).2; omega)
              | exact bD (Iff.trans ⟨fun q_ => ⟨hyb, by omega, q_⟩, fun q_ => q_.2.2⟩ okS.symm)
          refine C_loop (fun m_ a_ w_ => ∃ (σ_ : Nat → Value) (k : Nat), a_ = Ac 50 σ_ [] [(1, .pointer (some ⟨g1, 0, none⟩)), (2, .bool false), (3, .bool (decide (OkB ep seq first ∧ OkK k first hs))), (4, .int .i64 (k : Int))] ∧ w.grownBy w_ none ∧ Blk w_ g1 72 [.int .u64 ep, .int .i64 seq, .int .i64 first, .int .i64 (hs 0), .int .i64 (hs 1), .int .i64 (hs 2), .int .i64 (hs 3)] ∧ (k ≤ 4) ∧ 4 - k = m_) (4 - 0) ?_ ?_
          · exact ⟨_, 0, Ac_frg ⟨rfl, rfl, (agr rfl e_), (agr rfl (by first | rfl | (congr 1; omega) | (congr 1; simp; done) | (congr 1; simp only [IntKind.wrap_u64, IntKind.wrap_i64, IntKind.wrap_u8]; omega) | (congr 1 <;> omega))), trivial⟩, hB, hb1, (by omega), rfl⟩
          · clear hB
            clear hb1
            rintro m_ a_ w4 ⟨σ_, k, rfl, hB, hb1, hk, rfl⟩
            refine C_seq (C_seq (C_reg ?_))
            refine L_run (R_move rfl) rfl ?_
            refine L_run (R_lss rfl rfl) rfl ?_
            refine L_nil (N_then ?_)
            refine C_if rfl (fun h8 => ?_) (fun h8 => ?_)
            · refine C_skip (N_then (C_seq (C_block ?_)))
              refine C_draw2 mix ?_
              intro w5 hs3 hz3
              replace hB := gb_tr hB hs3
              replace hb1 := hb1.gb hs3
              refine ⟨fun W_ => Blk W_ g1 72 [.int .u64 ep, .int .i64 seq, .int .i64 first, .int .i64 (hs 0), .int .i64 (hs 1), .int .i64 (hs 2), .int .i64 (hs 3)] ∧ True, [0, 1, 2, 3, 4, 5, 6, 7, 8, 9, 10, 11, 12, 13, 14, 15, 16, 17], ?_⟩
              refine T_takeA (i := 0) rfl rfl (by kernel_rfl) (by kernel_rfl) (by kernel_rfl) (Y_of (fun _ ⟨hb1, _⟩ => R_move rfl)) ⟨hb1, trivial⟩ rfl ?_
              refine T_takeA (i := 1) rfl rfl (by kernel_rfl) (by kernel_rfl) (by kernel_rfl) (Y_of (fun _ ⟨hb1, _⟩ => R_move rfl)) ⟨hb1, trivial⟩ rfl ?_
              by_cases h9 : OkB ep seq first ∧ OkK k first hs
              · refine T_takeA (i := 2) rfl rfl (by kernel_rfl) (by kernel_rfl) (by kernel_rfl) (Y_yes rfl rfl rfl (decide_eq_true h9) (fun _ ⟨hb1, _⟩ => R_move rfl)) ⟨hb1, trivial⟩ rfl ?_
                refine T_takeA (i := 3) rfl rfl (by kernel_rfl) (by kernel_rfl) (by kernel_rfl) (Y_yes rfl rfl rfl (decide_eq_true h9) (fun _ ⟨hb1, _⟩ => R_field (r := 3) rfl fld72_3 rfl)) ⟨hb1, trivial⟩ rfl ?_
                have hl3 : k < 4 := by omega
                refine T_takeA (i := 4) rfl rfl (by kernel_rfl) (by kernel_rfl) (by kernel_rfl) (Y_yes rfl rfl rfl (decide_eq_true h9) (fun _ ⟨hb1, _⟩ => R_indexArr (sz := 1) (o := 3) (a := (k : Int)) (i := k) (r := (3 + k)) rfl rfl (by first | rfl | omega) arr34 hl3 (by first | omega | rfl | simp))) ⟨hb1, trivial⟩ rfl ?_
                refine T_takeA (i := 5) rfl rfl (by kernel_rfl) (by kernel_rfl) (by kernel_rfl) (Y_yes rfl rfl rfl (decide_eq_true h9) (fun _ ⟨hb1, _⟩ => R_load1 rfl scl3 (hb1.cell (four_at (pre := [.int .u64 ep, .int .i64 seq, .int .i64 first]) (post := []) (f := hs) (k := .i64) hl3)))) ⟨hb1, trivial⟩ rfl ?_
                refine T_takeA (i := 6) rfl rfl (by kernel_rfl) (by kernel_rfl) (by kernel_rfl) (Y_yes rfl rfl rfl (decide_eq_true h9) (fun _ ⟨hb1, _⟩ => R_geq rfl rfl)) ⟨hb1, trivial⟩ rfl ?_
                refine T_takeA (i := 7) rfl rfl (by kernel_rfl) (by kernel_rfl) (by kernel_rfl) (Y_of (fun _ ⟨hb1, _⟩ => R_pickT rfl (decide_eq_true h9) rfl)) ⟨hb1, trivial⟩ rfl ?_
                refine T_takeA (i := 8) rfl rfl (by kernel_rfl) (by kernel_rfl) (by kernel_rfl) (Y_of (fun _ ⟨hb1, _⟩ => R_move rfl)) ⟨hb1, trivial⟩ rfl ?_
                by_cases h10 : 0 ≤ (hs k)
                · refine T_takeA (i := 9) rfl rfl (by kernel_rfl) (by kernel_rfl) (by kernel_rfl) (Y_yes rfl rfl rfl (decide_eq_true h10) (fun _ ⟨hb1, _⟩ => R_move rfl)) ⟨hb1, trivial⟩ rfl ?_
                  refine T_takeA (i := 10) rfl rfl (by kernel_rfl) (by kernel_rfl) (by kernel_rfl) (Y_yes rfl rfl rfl (decide_eq_true h10) (fun _ ⟨hb1, _⟩ => R_field (r := 3) rfl fld72_3 rfl)) ⟨hb1, trivial⟩ rfl ?_
                  have hl4 : k < 4 := by omega
                  refine T_takeA (i := 11) rfl rfl (by kernel_rfl) (by kernel_rfl) (by kernel_rfl) (Y_yes rfl rfl rfl (decide_eq_true h10) (fun _ ⟨hb1, _⟩ => R_indexArr (sz := 1) (o := 3) (a := (k : Int)) (i := k) (r := (3 + k)) rfl rfl (by first | rfl | omega) arr34 hl4 (by first | omega | rfl | simp))) ⟨hb1, trivial⟩ rfl ?_
                  refine T_takeA (i := 12) rfl rfl (by kernel_rfl) (by kernel_rfl) (by kernel_rfl) (Y_yes rfl rfl rfl (decide_eq_true h10) (fun _ ⟨hb1, _⟩ => R_load1 rfl scl3 (hb1.cell (four_at (pre := [.int .u64 ep, .int .i64 seq, .int .i64 first]) (post := []) (f := hs) (k := .i64) hl4)))) ⟨hb1, trivial⟩ rfl ?_
                  refine T_takeA (i := 13) rfl rfl (by kernel_rfl) (by kernel_rfl) (by kernel_rfl) (Y_yes rfl rfl rfl (decide_eq_true h10) (fun _ ⟨hb1, _⟩ => R_field (r := 2) rfl fld72_2 rfl)) ⟨hb1, trivial⟩ rfl ?_
                  refine T_takeA (i := 14) rfl rfl (by kernel_rfl) (by kernel_rfl) (by kernel_rfl) (Y_yes rfl rfl rfl (decide_eq_true h10) (fun _ ⟨hb1, _⟩ => R_load1 rfl scl3 (hb1.cell (i := 2) rfl))) ⟨hb1, trivial⟩ rfl ?_
                  refine T_takeA (i := 15) rfl rfl (by kernel_rfl) (by kernel_rfl) (by kernel_rfl) (Y_yes rfl rfl rfl (decide_eq_true h10) (fun _ ⟨hb1, _⟩ => R_lss rfl rfl)) ⟨hb1, trivial⟩ rfl ?_
                  refine T_takeA (i := 16) rfl rfl (by kernel_rfl) (by kernel_rfl) (by kernel_rfl) (Y_of (fun _ ⟨hb1, _⟩ => R_pickT rfl (decide_eq_true h10) rfl)) ⟨hb1, trivial⟩ rfl ?_
                  refine T_takeA (i := 17) rfl rfl (by kernel_rfl) (by kernel_rfl) (by kernel_rfl) (Y_of (fun _ ⟨hb1, _⟩ => R_assign rfl)) ⟨hb1, trivial⟩ rfl ?_
                  refine T_done (by kernel_rfl) (NoPanic.normal ?_)
                  refine N_in (N_then (C_reg ?_))
                  refine L_run (R_move rfl) rfl ?_
                  refine L_run (R_add64 rfl rfl (by omega)) rfl ?_
                  refine L_run (R_assign rfl) rfl ?_
                  refine L_nil (N_then ?_)
                  have hyb := h9
                  have e_ : Value.bool (decide ((hs k) < first)) = .bool (decide (OkB ep seq first ∧ OkK (k + 1) first hs)) := by
                    first
                      | exact bD (Iff.trans (by unfold OkB; omega) okB0.symm)
                      | exact bT (okB0.2 (by unfold OkB; omega))
                      | exact bF (fun h_ => by have q_ := okB0.1 h_; unfold OkB at q_; omega)
                      | exact bF (fun h_ => hnb (okS.1 h_).1)
                      | exact bF (fun h_ => by have q_ := (okS.1 h_).2; omega)
                      | exact bD (Iff.trans ⟨fun q_ => ⟨hyb, by omega, q_⟩, fun q_ => q_.2.2⟩ okS.symm)
                  exact ⟨4 - (k + 1), by omega, _, (k + 1), Ac_frg ⟨rfl, rfl, (agr rfl e_), (agr rfl (by first | rfl | (congr 1; omega) | (congr 1; simp; done) | (congr 1; simp only [IntKind.wrap_u64, IntKind.wrap_i64, IntKind.wrap_u8]; omega) | (congr 1 <;> omega))), trivial⟩, hB, hb1, (by omega), rfl⟩
                · refine T_takeA (i := 9) rfl rfl (by kernel_rfl) (by kernel_rfl) (by kernel_rfl) (Y_no rfl rfl rfl (decide_eq_false h10)) ⟨hb1, trivial⟩ rfl ?_
                  refine T_takeA (i := 10) rfl rfl (by kernel_rfl) (by kernel_rfl) (by kernel_rfl) (Y_no rfl rfl rfl (decide_eq_false h10)) ⟨hb1, trivial⟩ rfl ?_
                  refine T_takeA (i := 11) rfl rfl (by kernel_rfl) (by kernel_rfl) (by kernel_rfl) (Y_no rfl rfl rfl (decide_eq_false h10)) ⟨hb1, trivial⟩ rfl ?_
                  refine T_takeA (i := 12) rfl rfl (by kernel_rfl) (by kernel_rfl) (by kernel_rfl) (Y_no rfl rfl rfl (decide_eq_false h10)) ⟨hb1, trivial⟩ rfl ?_
                  refine T_takeA (i := 13) rfl rfl (by kernel_rfl) (by kernel_rfl) (by kernel_rfl) (Y_no rfl rfl rfl (decide_eq_false h10)) ⟨hb1, trivial⟩ rfl ?_
                  refine T_takeA (i := 14) rfl rfl (by kernel_rfl) (by kernel_rfl) (by kernel_rfl) (Y_no rfl rfl rfl (decide_eq_false h10)) ⟨hb1, trivial⟩ rfl ?_
                  refine T_takeA (i := 15) rfl rfl (by kernel_rfl) (by kernel_rfl) (by kernel_rfl) (Y_no rfl rfl rfl (decide_eq_false h10)) ⟨hb1, trivial⟩ rfl ?_
                  refine T_takeA (i := 16) rfl rfl (by kernel_rfl) (by kernel_rfl) (by kernel_rfl) (Y_of (fun _ ⟨hb1, _⟩ => R_pickF rfl (decide_eq_false h10) rfl)) ⟨hb1, trivial⟩ rfl ?_
                  refine T_takeA (i := 17) rfl rfl (by kernel_rfl) (by kernel_rfl) (by kernel_rfl) (Y_of (fun _ ⟨hb1, _⟩ => R_assign rfl)) ⟨hb1, trivial⟩ rfl ?_
                  refine T_done (by kernel_rfl) (NoPanic.normal ?_)
                  refine N_in (N_then (C_reg ?_))
                  refine L_run (R_move rfl) rfl ?_
                  refine L_run (R_add64 rfl rfl (by omega)) rfl ?_
                  refine L_run (R_assign rfl) rfl ?_
                  refine L_nil (N_then ?_)
                  have hyb := h9
                  have e_ : Value.bool false = .bool (decide (OkB ep seq first ∧ OkK (k + 1) first hs)) := by
                    first
                      | exact bD (Iff.trans (by unfold OkB; omega) okB0.symm)
                      | exact bT (okB0.2 (by unfold OkB; omega))
                      | exact bF (fun h_ => by have q_ := okB0.1 h_; unfold OkB at q_; omega)
                      | exact bF (fun h_ => hnb (okS.1 h_).1)
                      | exact bF (fun h_ => by have q_ := (okS.1 h_).2; omega)
                      | exact bD (Iff.trans ⟨fun q_ => ⟨hyb, by omega, q_⟩, fun q_ => q_.2.2⟩ okS.symm)
                  exact ⟨4 - (k + 1), by omega, _, (k + 1), Ac_frg ⟨rfl, rfl, (agr rfl e_), (agr rfl (by first | rfl | (congr 1; omega) | (congr 1; simp; done) | (congr 1; simp only [IntKind.wrap_u64, IntKind.wrap_i64, IntKind.wrap_u8]; omega) | (congr 1 <;> omega))), trivial⟩, hB, hb1, (by omega), rfl⟩
              · refine T_takeA (i := 2) rfl rfl (by kernel_rfl) (by kernel_rfl) (by kernel_rfl) (Y_no rfl rfl rfl (decide_eq_false h9)) ⟨hb1, trivial⟩ rfl ?_
                refine T_takeA (i := 3) rfl rfl (by kernel_rfl) (by kernel_rfl) (by kernel_rfl) (Y_no rfl rfl rfl (decide_eq_false h9)) ⟨hb1, trivial⟩ rfl ?_
                refine T_takeA (i := 4) rfl rfl (by kernel_rfl) (by kernel_rfl) (by kernel_rfl) (Y_no rfl rfl rfl (decide_eq_false h9)) ⟨hb1, trivial⟩ rfl ?_
                refine T_takeA (i := 5) rfl rfl (by kernel_rfl) (by kernel_rfl) (by kernel_rfl) (Y_no rfl rfl rfl (decide_eq_false h9)) ⟨hb1, trivial⟩ rfl ?_
                refine T_takeA (i := 6) rfl rfl (by kernel_rfl) (by kernel_rfl) (by kernel_rfl) (Y_no rfl rfl rfl (decide_eq_false h9)) ⟨hb1, trivial⟩ rfl ?_
                refine T_takeA (i := 7) rfl rfl (by kernel_rfl) (by kernel_rfl) (by kernel_rfl) (Y_of (fun _ ⟨hb1, _⟩ => R_pickF rfl (decide_eq_false h9) rfl)) ⟨hb1, trivial⟩ rfl ?_
                refine T_takeA (i := 8) rfl rfl (by kernel_rfl) (by kernel_rfl) (by kernel_rfl) (Y_of (fun _ ⟨hb1, _⟩ => R_move rfl)) ⟨hb1, trivial⟩ rfl ?_
                refine T_takeA (i := 9) rfl rfl (by kernel_rfl) (by kernel_rfl) (by kernel_rfl) (Y_no rfl rfl rfl rfl) ⟨hb1, trivial⟩ rfl ?_
                refine T_takeA (i := 10) rfl rfl (by kernel_rfl) (by kernel_rfl) (by kernel_rfl) (Y_no rfl rfl rfl rfl) ⟨hb1, trivial⟩ rfl ?_
                refine T_takeA (i := 11) rfl rfl (by kernel_rfl) (by kernel_rfl) (by kernel_rfl) (Y_no rfl rfl rfl rfl) ⟨hb1, trivial⟩ rfl ?_
                refine T_takeA (i := 12) rfl rfl (by kernel_rfl) (by kernel_rfl) (by kernel_rfl) (Y_no rfl rfl rfl rfl) ⟨hb1, trivial⟩ rfl ?_
                refine T_takeA (i := 13) rfl rfl (by kernel_rfl) (by kernel_rfl) (by kernel_rfl) (Y_no rfl rfl rfl rfl) ⟨hb1, trivial⟩ rfl ?_
                refine T_takeA (i := 14) rfl rfl (by kernel_rfl) (by kernel_rfl) (by kernel_rfl) (Y_no rfl rfl rfl rfl) ⟨hb1, trivial⟩ rfl ?_
                refine T_takeA (i := 15) rfl rfl (by kernel_rfl) (by kernel_rfl) (by kernel_rfl) (Y_no rfl rfl rfl rfl) ⟨hb1, trivial⟩ rfl ?_
                refine T_takeA (i := 16) rfl rfl (by kernel_rfl) (by kernel_rfl) (by kernel_rfl) (Y_of (fun _ ⟨hb1, _⟩ => R_pickF rfl rfl rfl)) ⟨hb1, trivial⟩ rfl ?_
                refine T_takeA (i := 17) rfl rfl (by kernel_rfl) (by kernel_rfl) (by kernel_rfl) (Y_of (fun _ ⟨hb1, _⟩ => R_assign rfl)) ⟨hb1, trivial⟩ rfl ?_
                refine T_done (by kernel_rfl) (NoPanic.normal ?_)
                refine N_in (N_then (C_reg ?_))
                refine L_run (R_move rfl) rfl ?_
                refine L_run (R_add64 rfl rfl (by omega)) rfl ?_
                refine L_run (R_assign rfl) rfl ?_
                refine L_nil (N_then ?_)
                have hnb := h9
                have e_ : Value.bool false = .bool (decide (OkB ep seq first ∧ OkK (k + 1) first hs)) := by
                  first
                    | exact bD (Iff.trans (by unfold OkB; omega) okB0.symm)
                    | exact bT (okB0.2 (by unfold OkB; omega))
                    | exact bF (fun h_ => by have q_ := okB0.1 h_; unfold OkB at q_; omega)
                    | exact bF (fun h_ => hnb (okS.1 h_).1)
                    | exact bF (fun h_ => by have q_ := (okS.1 h_).2; omega)
                    | exact bD (Iff.trans ⟨fun q_ => ⟨hyb, by omega, q_⟩, fun q_ => q_.2.2⟩ okS.symm)
                exact ⟨4 - (k + 1), by omega, _, (k + 1), Ac_frg ⟨rfl, rfl, (agr rfl e_), (agr rfl (by first | rfl | (congr 1; omega) | (congr 1; simp; done) | (congr 1; simp only [IntKind.wrap_u64, IntKind.wrap_i64, IntKind.wrap_u8]; omega) | (congr 1 <;> omega))), trivial⟩, hB, hb1, (by omega), rfl⟩
            · refine C_exit (X_then (X_then (X_hit (N_then (C_seq (C_reg ?_))))))
              refine L_run (R_move rfl) rfl ?_
              refine L_run (R_assign rfl) rfl ?_
              refine L_nil (N_then (C_ret ?_))
              refine ret1 Try.results67 rfl ?_
              obtain rfl : k = 4 := by omega
              exact ⟨hB, rfl⟩
      · refine L_no rfl rfl rfl (decide_eq_false h3) rfl ?_
        refine L_no rfl rfl rfl (decide_eq_false h3) rfl ?_
        refine L_no rfl rfl rfl (decide_eq_false h3) rfl ?_
        refine L_run (R_pickF rfl (decide_eq_false h3) rfl) rfl ?_
        refine L_run (R_move rfl) rfl ?_
        refine L_no rfl rfl rfl rfl rfl ?_
        refine L_no rfl rfl rfl rfl rfl ?_
        refine L_no rfl rfl rfl rfl rfl ?_
        refine L_run (R_pickF rfl rfl rfl) rfl ?_
        refine L_run (R_assign rfl) rfl ?_
        refine L_nil (N_then (C_seq (C_seq (C_reg ?_))))
        refine L_run (R_assign rfl) rfl ?_
        refine L_nil (N_then (C_block ?_))
        have e_ : Value.bool false = .bool (decide (OkB ep seq first ∧ OkK 0 first hs)) := by
          first
            | exact bD (Iff.trans (by unfold OkB; omega) okB0.symm)
            | exact bT (okB0.2 (by unfold OkB; omega))
            | exact bF (fun h_ => by have q_ := okB0.1 h_; unfold OkB at q_; omega)
            | exact bF (fun h_ => hnb (okS.1 h_).1)
            | exact bF (fun h_ => by have q_ := (okS.1 h_).2; omega)
            | exact bD (Iff.trans ⟨fun q_ => ⟨hyb, by omega, q_⟩, fun q_ => q_.2.2⟩ okS.symm)
        refine C_loop (fun m_ a_ w_ => ∃ (σ_ : Nat → Value) (k : Nat), a_ = Ac 50 σ_ [] [(1, .pointer (some ⟨g1, 0, none⟩)), (2, .bool false), (3, .bool (decide (OkB ep seq first ∧ OkK k first hs))), (4, .int .i64 (k : Int))] ∧ w.grownBy w_ none ∧ Blk w_ g1 72 [.int .u64 ep, .int .i64 seq, .int .i64 first, .int .i64 (hs 0), .int .i64 (hs 1), .int .i64 (hs 2), .int .i64 (hs 3)] ∧ (k ≤ 4) ∧ 4 - k = m_) (4 - 0) ?_ ?_
        · exact ⟨_, 0, Ac_frg ⟨rfl, rfl, (agr rfl e_), (agr rfl (by first | rfl | (congr 1; omega) | (congr 1; simp; done) | (congr 1; simp only [IntKind.wrap_u64, IntKind.wrap_i64, IntKind.wrap_u8]; omega) | (congr 1 <;> omega))), trivial⟩, hB, hb1, (by omega), rfl⟩
        · clear hB
          clear hb1
          rintro m_ a_ w6 ⟨σ_, k, rfl, hB, hb1, hk, rfl⟩
          refine C_seq (C_seq (C_reg ?_))
          refine L_run (R_move rfl) rfl ?_
          refine L_run (R_lss rfl rfl) rfl ?_
          refine L_nil (N_then ?_)
          refine C_if rfl (fun h11 => ?_) (fun h11 => ?_)
          · refine C_skip (N_then (C_seq (C_block ?_)))
            refine C_draw2 mix ?_
            intro w7 hs4 hz4
            replace hB := gb_tr hB hs4
            replace hb1 := hb1.gb hs4
            refine ⟨fun W_ => Blk W_ g1 72 [.int .u64 ep, .int .i64 seq, .int .i64 first, .int .i64 (hs 0), .int .i64 (hs 1), .int .i64 (hs 2), .int .i64 (hs 3)] ∧ True, [0, 1, 2, 3, 4, 5, 6, 7, 8, 9, 10, 11, 12, 13, 14, 15, 16, 17], ?_⟩
            refine T_takeA (i := 0) rfl rfl (by kernel_rfl) (by kernel_rfl) (by kernel_rfl) (Y_of (fun _ ⟨hb1, _⟩ => R_move rfl)) ⟨hb1, trivial⟩ rfl ?_
            refine T_takeA (i := 1) rfl rfl (by kernel_rfl) (by kernel_rfl) (by kernel_rfl) (Y_of (fun _ ⟨hb1, _⟩ => R_move rfl)) ⟨hb1, trivial⟩ rfl ?_
            by_cases h12 : OkB ep seq first ∧ OkK k first hs
            · refine T_takeA (i := 2) rfl rfl (by kernel_rfl) (by kernel_rfl) (by kernel_rfl) (Y_yes rfl rfl rfl (decide_eq_true h12) (fun _ ⟨hb1, _⟩ => R_move rfl)) ⟨hb1, trivial⟩ rfl ?_
              refine T_takeA (i := 3) rfl rfl (by kernel_rfl) (by kernel_rfl) (by kernel_rfl) (Y_yes rfl rfl rfl (decide_eq_true h12) (fun _ ⟨hb1, _⟩ => R_field (r := 3) rfl fld72_3 rfl)) ⟨hb1, trivial⟩ rfl ?_
              have hl5 : k < 4 := by omega
              refine T_takeA (i := 4) rfl rfl (by kernel_rfl) (by kernel_rfl) (by kernel_rfl) (Y_yes rfl rfl rfl (decide_eq_true h12) (fun _ ⟨hb1, _⟩ => R_indexArr (sz := 1) (o := 3) (a := (k : Int)) (i := k) (r := (3 + k)) rfl rfl (by first | rfl | omega) arr34 hl5 (by first | omega | rfl | simp))) ⟨hb1, trivial⟩ rfl ?_
              refine T_takeA (i := 5) rfl rfl (by kernel_rfl) (by kernel_rfl) (by kernel_rfl) (Y_yes rfl rfl rfl (decide_eq_true h12) (fun _ ⟨hb1, _⟩ => R_load1 rfl scl3 (hb1.cell (four_at (pre := [.int .u64 ep, .int .i64 seq, .int .i64 first]) (post := []) (f := hs) (k := .i64) hl5)))) ⟨hb1, trivial⟩ rfl ?_
              refine T_takeA (i := 6) rfl rfl (by kernel_rfl) (by kernel_rfl) (by kernel_rfl) (Y_yes rfl rfl rfl (decide_eq_true h12) (fun _ ⟨hb1, _⟩ => R_geq rfl rfl)) ⟨hb1, trivial⟩ rfl ?_
              refine T_takeA (i := 7) rfl rfl (by kernel_rfl) (by kernel_rfl) (by kernel_rfl) (Y_of (fun _ ⟨hb1, _⟩ => R_pickT rfl (decide_eq_true h12) rfl)) ⟨hb1, trivial⟩ rfl ?_
              refine T_takeA (i := 8) rfl rfl (by kernel_rfl) (by kernel_rfl) (by kernel_rfl) (Y_of (fun _ ⟨hb1, _⟩ => R_move rfl)) ⟨hb1, trivial⟩ rfl ?_
              by_cases h13 : 0 ≤ (hs k)
              · refine T_takeA (i := 9) rfl rfl (by kernel_rfl) (by kernel_rfl) (by kernel_rfl) (Y_yes rfl rfl rfl (decide_eq_true h13) (fun _ ⟨hb1, _⟩ => R_move rfl)) ⟨hb1, trivial⟩ rfl ?_
                refine T_takeA (i := 10) rfl rfl (by kernel_rfl) (by kernel_rfl) (by kernel_rfl) (Y_yes rfl rfl rfl (decide_eq_true h13) (fun _ ⟨hb1, _⟩ => R_field (r := 3) rfl fld72_3 rfl)) ⟨hb1, trivial⟩ rfl ?_
                have hl6 : k < 4 := by omega
                refine T_takeA (i := 11) rfl rfl (by kernel_rfl) (by kernel_rfl) (by kernel_rfl) (Y_yes rfl rfl rfl (decide_eq_true h13) (fun _ ⟨hb1, _⟩ => R_indexArr (sz := 1) (o := 3) (a := (k : Int)) (i := k) (r := (3 + k)) rfl rfl (by first | rfl | omega) arr34 hl6 (by first | omega | rfl | simp))) ⟨hb1, trivial⟩ rfl ?_
                refine T_takeA (i := 12) rfl rfl (by kernel_rfl) (by kernel_rfl) (by kernel_rfl) (Y_yes rfl rfl rfl (decide_eq_true h13) (fun _ ⟨hb1, _⟩ => R_load1 rfl scl3 (hb1.cell (four_at (pre := [.int .u64 ep, .int .i64 seq, .int .i64 first]) (post := []) (f := hs) (k := .i64) hl6)))) ⟨hb1, trivial⟩ rfl ?_
                refine T_takeA (i := 13) rfl rfl (by kernel_rfl) (by kernel_rfl) (by kernel_rfl) (Y_yes rfl rfl rfl (decide_eq_true h13) (fun _ ⟨hb1, _⟩ => R_field (r := 2) rfl fld72_2 rfl)) ⟨hb1, trivial⟩ rfl ?_
                refine T_takeA (i := 14) rfl rfl (by kernel_rfl) (by kernel_rfl) (by kernel_rfl) (Y_yes rfl rfl rfl (decide_eq_true h13) (fun _ ⟨hb1, _⟩ => R_load1 rfl scl3 (hb1.cell (i := 2) rfl))) ⟨hb1, trivial⟩ rfl ?_
                refine T_takeA (i := 15) rfl rfl (by kernel_rfl) (by kernel_rfl) (by kernel_rfl) (Y_yes rfl rfl rfl (decide_eq_true h13) (fun _ ⟨hb1, _⟩ => R_lss rfl rfl)) ⟨hb1, trivial⟩ rfl ?_
                refine T_takeA (i := 16) rfl rfl (by kernel_rfl) (by kernel_rfl) (by kernel_rfl) (Y_of (fun _ ⟨hb1, _⟩ => R_pickT rfl (decide_eq_true h13) rfl)) ⟨hb1, trivial⟩ rfl ?_
                refine T_takeA (i := 17) rfl rfl (by kernel_rfl) (by kernel_rfl) (by kernel_rfl) (Y_of (fun _ ⟨hb1, _⟩ => R_assign rfl)) ⟨hb1, trivial⟩ rfl ?_
                refine T_done (by kernel_rfl) (NoPanic.normal ?_)
                refine N_in (N_then (C_reg ?_))
                refine L_run (R_move rfl) rfl ?_
                refine L_run (R_add64 rfl rfl (by omega)) rfl ?_
                refine L_run (R_assign rfl) rfl ?_
                refine L_nil (N_then ?_)
                have hyb := h12
                have e_ : Value.bool (decide ((hs k) < first)) = .bool (decide (OkB ep seq first ∧ OkK (k + 1) first hs)) := by
                  first
                    | exact bD (Iff.trans (by unfold OkB; omega) okB0.symm)
                    | exact bT (okB0.2 (by unfold OkB; omega))
                    | exact bF (fun h_ => by have q_ := okB0.1 h_; unfold OkB at q_; omega)
                    | exact bF (fun h_ => hnb (okS.1 h_).1)
                    | exact bF (fun h_ => by have q_ := (okS.1 h_).2; omega)
                    | exact bD (Iff.trans ⟨fun q_ => ⟨hyb, by omega, q_⟩, fun q_ => q_.2.2⟩ okS.symm)
                exact ⟨4 - (k + 1), by omega, _, (k + 1), Ac_frg ⟨rfl, rfl, (agr rfl e_), (agr rfl (by first | rfl | (congr 1; omega) | (congr 1; simp; done) | (congr 1; simp only [IntKind.wrap_u64, IntKind.wrap_i64, IntKind.wrap_u8]; omega) | (congr 1 <;> omega))), trivial⟩, hB, hb1, (by omega), rfl⟩
              · refine T_takeA (i := 9) rfl rfl (by kernel_rfl) (by kernel_rfl) (by kernel_rfl) (Y_no rfl rfl rfl (decide_eq_false h13)) ⟨hb1, trivial⟩ rfl ?_
                refine T_takeA (i := 10) rfl rfl (by kernel_rfl) (by kernel_rfl) (by kernel_rfl) (Y_no rfl rfl rfl (decide_eq_false h13)) ⟨hb1, trivial⟩ rfl ?_
                refine T_takeA (i := 11) rfl rfl (by kernel_rfl) (by kernel_rfl) (by kernel_rfl) (Y_no rfl rfl rfl (decide_eq_false h13)) ⟨hb1, trivial⟩ rfl ?_
                refine T_takeA (i := 12) rfl rfl (by kernel_rfl) (by kernel_rfl) (by kernel_rfl) (Y_no rfl rfl rfl (decide_eq_false h13)) ⟨hb1, trivial⟩ rfl ?_
                refine T_takeA (i := 13) rfl rfl (by kernel_rfl) (by kernel_rfl) (by kernel_rfl) (Y_no rfl rfl rfl (decide_eq_false h13)) ⟨hb1, trivial⟩ rfl ?_
                refine T_takeA (i := 14) rfl rfl (by kernel_rfl) (by kernel_rfl) (by kernel_rfl) (Y_no rfl rfl rfl (decide_eq_false h13)) ⟨hb1, trivial⟩ rfl ?_
                refine T_takeA (i := 15) rfl rfl (by kernel_rfl) (by kernel_rfl) (by kernel_rfl) (Y_no rfl rfl rfl (decide_eq_false h13)) ⟨hb1, trivial⟩ rfl ?_
                refine T_takeA (i := 16) rfl rfl (by kernel_rfl) (by kernel_rfl) (by kernel_rfl) (Y_of (fun _ ⟨hb1, _⟩ => R_pickF rfl (decide_eq_false h13) rfl)) ⟨hb1, trivial⟩ rfl ?_
                refine T_takeA (i := 17) rfl rfl (by kernel_rfl) (by kernel_rfl) (by kernel_rfl) (Y_of (fun _ ⟨hb1, _⟩ => R_assign rfl)) ⟨hb1, trivial⟩ rfl ?_
                refine T_done (by kernel_rfl) (NoPanic.normal ?_)
                refine N_in (N_then (C_reg ?_))
                refine L_run (R_move rfl) rfl ?_
                refine L_run (R_add64 rfl rfl (by omega)) rfl ?_
                refine L_run (R_assign rfl) rfl ?_
                refine L_nil (N_then ?_)
                have hyb := h12
                have e_ : Value.bool false = .bool (decide (OkB ep seq first ∧ OkK (k + 1) first hs)) := by
                  first
                    | exact bD (Iff.trans (by unfold OkB; omega) okB0.symm)
                    | exact bT (okB0.2 (by unfold OkB; omega))
                    | exact bF (fun h_ => by have q_ := okB0.1 h_; unfold OkB at q_; omega)
                    | exact bF (fun h_ => hnb (okS.1 h_).1)
                    | exact bF (fun h_ => by have q_ := (okS.1 h_).2; omega)
                    | exact bD (Iff.trans ⟨fun q_ => ⟨hyb, by omega, q_⟩, fun q_ => q_.2.2⟩ okS.symm)
                exact ⟨4 - (k + 1), by omega, _, (k + 1), Ac_frg ⟨rfl, rfl, (agr rfl e_), (agr rfl (by first | rfl | (congr 1; omega) | (congr 1; simp; done) | (congr 1; simp only [IntKind.wrap_u64, IntKind.wrap_i64, IntKind.wrap_u8]; omega) | (congr 1 <;> omega))), trivial⟩, hB, hb1, (by omega), rfl⟩
            · refine T_takeA (i := 2) rfl rfl (by kernel_rfl) (by kernel_rfl) (by kernel_rfl) (Y_no rfl rfl rfl (decide_eq_false h12)) ⟨hb1, trivial⟩ rfl ?_
              refine T_takeA (i := 3) rfl rfl (by kernel_rfl) (by kernel_rfl) (by kernel_rfl) (Y_no rfl rfl rfl (decide_eq_false h12)) ⟨hb1, trivial⟩ rfl ?_
              refine T_takeA (i := 4) rfl rfl (by kernel_rfl) (by kernel_rfl) (by kernel_rfl) (Y_no rfl rfl rfl (decide_eq_false h12)) ⟨hb1, trivial⟩ rfl ?_
              refine T_takeA (i := 5) rfl rfl (by kernel_rfl) (by kernel_rfl) (by kernel_rfl) (Y_no rfl rfl rfl (decide_eq_false h12)) ⟨hb1, trivial⟩ rfl ?_
              refine T_takeA (i := 6) rfl rfl (by kernel_rfl) (by kernel_rfl) (by kernel_rfl) (Y_no rfl rfl rfl (decide_eq_false h12)) ⟨hb1, trivial⟩ rfl ?_
              refine T_takeA (i := 7) rfl rfl (by kernel_rfl) (by kernel_rfl) (by kernel_rfl) (Y_of (fun _ ⟨hb1, _⟩ => R_pickF rfl (decide_eq_false h12) rfl)) ⟨hb1, trivial⟩ rfl ?_
              refine T_takeA (i := 8) rfl rfl (by kernel_rfl) (by kernel_rfl) (by kernel_rfl) (Y_of (fun _ ⟨hb1, _⟩ => R_move rfl)) ⟨hb1, trivial⟩ rfl ?_
              refine T_takeA (i := 9) rfl rfl (by kernel_rfl) (by kernel_rfl) (by kernel_rfl) (Y_no rfl rfl rfl rfl) ⟨hb1, trivial⟩ rfl ?_
              refine T_takeA (i := 10) rfl rfl (by kernel_rfl) (by kernel_rfl) (by kernel_rfl) (Y_no rfl rfl rfl rfl) ⟨hb1, trivial⟩ rfl ?_
              refine T_takeA (i := 11) rfl rfl (by kernel_rfl) (by kernel_rfl) (by kernel_rfl) (Y_no rfl rfl rfl rfl) ⟨hb1, trivial⟩ rfl ?_
              refine T_takeA (i := 12) rfl rfl (by kernel_rfl) (by kernel_rfl) (by kernel_rfl) (Y_no rfl rfl rfl rfl) ⟨hb1, trivial⟩ rfl ?_
              refine T_takeA (i := 13) rfl rfl (by kernel_rfl) (by kernel_rfl) (by kernel_rfl) (Y_no rfl rfl rfl rfl) ⟨hb1, trivial⟩ rfl ?_
              refine T_takeA (i := 14) rfl rfl (by kernel_rfl) (by kernel_rfl) (by kernel_rfl) (Y_no rfl rfl rfl rfl) ⟨hb1, trivial⟩ rfl ?_
              refine T_takeA (i := 15) rfl rfl (by kernel_rfl) (by kernel_rfl) (by kernel_rfl) (Y_no rfl rfl rfl rfl) ⟨hb1, trivial⟩ rfl ?_
              refine T_takeA (i := 16) rfl rfl (by kernel_rfl) (by kernel_rfl) (by kernel_rfl) (Y_of (fun _ ⟨hb1, _⟩ => R_pickF rfl rfl rfl)) ⟨hb1, trivial⟩ rfl ?_
              refine T_takeA (i := 17) rfl rfl (by kernel_rfl) (by kernel_rfl) (by kernel_rfl) (Y_of (fun _ ⟨hb1, _⟩ => R_assign rfl)) ⟨hb1, trivial⟩ rfl ?_
              refine T_done (by kernel_rfl) (NoPanic.normal ?_)
              refine N_in (N_then (C_reg ?_))
              refine L_run (R_move rfl) rfl ?_
              refine L_run (R_add64 rfl rfl (by omega)) rfl ?_
              refine L_run (R_assign rfl) rfl ?_
              refine L_nil (N_then ?_)
              have hnb := h12
              have e_ : Value.bool false = .bool (decide (OkB ep seq first ∧ OkK (k + 1) first hs)) := by
                first
                  | exact bD (Iff.trans (by unfold OkB; omega) okB0.symm)
                  | exact bT (okB0.2 (by unfold OkB; omega))
                  | exact bF (fun h_ => by have q_ := okB0.1 h_; unfold OkB at q_; omega)
                  | exact bF (fun h_ => hnb (okS.1 h_).1)
                  | exact bF (fun h_ => by have q_ := (okS.1 h_).2; omega)
                  | exact bD (Iff.trans ⟨fun q_ => ⟨hyb, by omega, q_⟩, fun q_ => q_.2.2⟩ okS.symm)
              exact ⟨4 - (k + 1), by omega, _, (k + 1), Ac_frg ⟨rfl, rfl, (agr rfl e_), (agr rfl (by first | rfl | (congr 1; omega) | (congr 1; simp; done) | (congr 1; simp only [IntKind.wrap_u64, IntKind.wrap_i64, IntKind.wrap_u8]; omega) | (congr 1 <;> omega))), trivial⟩, hB, hb1, (by omega), rfl⟩
          · refine C_exit (X_then (X_then (X_hit (N_then (C_seq (C_reg ?_))))))
            refine L_run (R_move rfl) rfl ?_
            refine L_run (R_assign rfl) rfl ?_
            refine L_nil (N_then (C_ret ?_))
            refine ret1 Try.results67 rfl ?_
            obtain rfl : k = 4 := by omega
            exact ⟨hB, rfl⟩
    · refine L_no rfl rfl rfl (decide_eq_false h2) rfl ?_
      refine L_no rfl rfl rfl (decide_eq_false h2) rfl ?_
      refine L_no rfl rfl rfl (decide_eq_false h2) rfl ?_
      refine L_run (R_pickF rfl (decide_eq_false h2) rfl) rfl ?_
      refine L_run (R_move rfl) rfl ?_
      refine L_no rfl rfl rfl rfl rfl ?_
      refine L_no rfl rfl rfl rfl rfl ?_
      refine L_no rfl rfl rfl rfl rfl ?_
      refine L_run (R_pickF rfl rfl rfl) rfl ?_
      refine L_run (R_move rfl) rfl ?_
      refine L_no rfl rfl rfl rfl rfl ?_
      refine L_no rfl rfl rfl rfl rfl ?_
      refine L_no rfl rfl rfl rfl rfl ?_
      refine L_run (R_pickF rfl rfl rfl) rfl ?_
      refine L_run (R_assign rfl) rfl ?_
      refine L_nil (N_then (C_seq (C_seq (C_reg ?_))))
      refine L_run (R_assign rfl) rfl ?_
      refine L_nil (N_then (C_block ?_))
      have e_ : Value.bool false = .bool (decide (OkB ep seq first ∧ OkK 0 first hs)) := by
        first
          | exact bD (Iff.trans (by unfold OkB; omega) okB0.symm)
          | exact bT (okB0.2 (by unfold OkB; omega))
          | exact bF (fun h_ => by have q_ := okB0.1 h_; unfold OkB at q_; omega)
          | exact bF (fun h_ => hnb (okS.1 h_).1)
          | exact bF (fun h_ => by have q_ := (okS.1 h_).2; omega)
          | exact bD (Iff.trans ⟨fun q_ => ⟨hyb, by omega, q_⟩, fun q_ => q_.2.2⟩ okS.symm)
      refine C_loop (fun m_ a_ w_ => ∃ (σ_ : Nat → Value) (k : Nat), a_ = Ac 50 σ_ [] [(1, .pointer (some ⟨g1, 0, none⟩)), (2, .bool false), (3, .bool (decide (OkB ep seq first ∧ OkK k first hs))), (4, .int .i64 (k : Int))] ∧ w.grownBy w_ none ∧ Blk w_ g1 72 [.int .u64 ep, .int .i64 seq, .int .i64 first, .int .i64 (hs 0), .int .i64 (hs 1), .int .i64 (hs 2), .int .i64 (hs 3)] ∧ (k ≤ 4) ∧ 4 - k = m_) (4 - 0) ?_ ?_
      · exact ⟨_, 0, Ac_frg ⟨rfl, rfl, (agr rfl e_), (agr rfl (by first | rfl | (congr 1; omega) | (congr 1; simp; done) | (congr 1; simp only [IntKind.wrap_u64, IntKind.wrap_i64, IntKind.wrap_u8]; omega) | (congr 1 <;> omega))), trivial⟩, hB, hb1, (by omega), rfl⟩
      · clear hB
        clear hb1
        rintro m_ a_ w8 ⟨σ_, k, rfl, hB, hb1, hk, rfl⟩
        refine C_seq (C_seq (C_reg ?_))
        refine L_run (R_move rfl) rfl ?_
        refine L_run (R_lss rfl rfl) rfl ?_
        refine L_nil (N_then ?_)
        refine C_if rfl (fun h14 => ?_) (fun h14 => ?_)
        · refine C_skip (N_then (C_seq (C_block ?_)))
          refine C_draw2 mix ?_
          intro w9 hs5 hz5
          replace hB := gb_tr hB hs5
          replace hb1 := hb1.gb hs5
          refine ⟨fun W_ => Blk W_ g1 72 [.int .u64 ep, .int .i64 seq, .int .i64 first, .int .i64 (hs 0), .int .i64 (hs 1), .int .i64 (hs 2), .int .i64 (hs 3)] ∧ True, [0, 1, 2, 3, 4, 5, 6, 7, 8, 9, 10, 11, 12, 13, 14, 15, 16, 17], ?_⟩
          refine T_takeA (i := 0) rfl rfl (by kernel_rfl) (by kernel_rfl) (by kernel_rfl) (Y_of (fun _ ⟨hb1, _⟩ => R_move rfl)) ⟨hb1, trivial⟩ rfl ?_
          refine T_takeA (i := 1) rfl rfl (by kernel_rfl) (by kernel_rfl) (by kernel_rfl) (Y_of (fun _ ⟨hb1, _⟩ => R_move rfl)) ⟨hb1, trivial⟩ rfl ?_
          by_cases h15 : OkB ep seq first ∧ OkK k first hs
          · refine T_takeA (i := 2) rfl rfl (by kernel_rfl) (by kernel_rfl) (by kernel_rfl) (Y_yes rfl rfl rfl (decide_eq_true h15) (fun _ ⟨hb1, _⟩ => R_move rfl)) ⟨hb1, trivial⟩ rfl ?_
            refine T_takeA (i := 3) rfl rfl (by kernel_rfl) (by kernel_rfl) (by kernel_rfl) (Y_yes rfl rfl rfl (decide_eq_true h15) (fun _ ⟨hb1, _⟩ => R_field (r := 3) rfl fld72_3 rfl)) ⟨hb1, trivial⟩ rfl ?_
            have hl7 : k < 4 := by omega
            refine T_takeA (i := 4) rfl rfl (by kernel_rfl) (by kernel_rfl) (by kernel_rfl) (Y_yes rfl rfl rfl (decide_eq_true h15) (fun _ ⟨hb1, _⟩ => R_indexArr (sz := 1) (o := 3) (a := (k : Int)) (i := k) (r := (3 + k)) rfl rfl (by first | rfl | omega) arr34 hl7 (by first | omega | rfl | simp))) ⟨hb1, trivial⟩ rfl ?_
            refine T_takeA (i := 5) rfl rfl (by kernel_rfl) (by kernel_rfl) (by kernel_rfl) (Y_yes rfl rfl rfl (decide_eq_true h15) (fun _ ⟨hb1, _⟩ => R_load1 rfl scl3 (hb1.cell (four_at (pre := [.int .u64 ep, .int .i64 seq, .int .i64 first]) (post := []) (f := hs) (k := .i64) hl7)))) ⟨hb1, trivial⟩ rfl ?_
            refine T_takeA (i := 6) rfl rfl (by kernel_rfl) (by kernel_rfl) (by kernel_rfl) (Y_yes rfl rfl rfl (decide_eq_true h15) (fun _ ⟨hb1, _⟩ => R_geq rfl rfl)) ⟨hb1, trivial⟩ rfl ?_
            refine T_takeA (i := 7) rfl rfl (by kernel_rfl) (by kernel_rfl) (by kernel_rfl) (Y_of (fun _ ⟨hb1, _⟩ => R_pickT rfl (decide_eq_true h15) rfl)) ⟨hb1, trivial⟩ rfl ?_
            refine T_takeA (i := 8) rfl rfl (by kernel_rfl) (by kernel_rfl) (by kernel_rfl) (Y_of (fun _ ⟨hb1, _⟩ => R_move rfl)) ⟨hb1, trivial⟩ rfl ?_
            by_cases h16 : 0 ≤ (hs k)
            · refine T_takeA (i := 9) rfl rfl (by kernel_rfl) (by kernel_rfl) (by kernel_rfl) (Y_yes rfl rfl rfl (decide_eq_true h16) (fun _ ⟨hb1, _⟩ => R_move rfl)) ⟨hb1, trivial⟩ rfl ?_
              refine T_takeA (i := 10) rfl rfl (by kernel_rfl) (by kernel_rfl) (by kernel_rfl) (Y_yes rfl rfl rfl (decide_eq_true h16) (fun _ ⟨hb1, _⟩ => R_field (r := 3) rfl fld72_3 rfl)) ⟨hb1, trivial⟩ rfl ?_
              have hl8 : k < 4 := by omega
              refine T_takeA (i := 11) rfl rfl (by kernel_rfl) (by kernel_rfl) (by kernel_rfl) (Y_yes rfl rfl rfl (decide_eq_true h16) (fun _ ⟨hb1, _⟩ => R_indexArr (sz := 1) (o := 3) (a := (k : Int)) (i := k) (r := (3 + k)) rfl rfl (by first | rfl | omega) arr34 hl8 (by first | omega | rfl | simp))) ⟨hb1, trivial⟩ rfl ?_
              refine T_takeA (i := 12) rfl rfl (by kernel_rfl) (by kernel_rfl) (by kernel_rfl) (Y_yes rfl rfl rfl (decide_eq_true h16) (fun _ ⟨hb1, _⟩ => R_load1 rfl scl3 (hb1.cell (four_at (pre := [.int .u64 ep, .int .i64 seq, .int .i64 first]) (post := []) (f := hs) (k := .i64) hl8)))) ⟨hb1, trivial⟩ rfl ?_
              refine T_takeA (i := 13) rfl rfl (by kernel_rfl) (by kernel_rfl) (by kernel_rfl) (Y_yes rfl rfl rfl (decide_eq_true h16) (fun _ ⟨hb1, _⟩ => R_field (r := 2) rfl fld72_2 rfl)) ⟨hb1, trivial⟩ rfl ?_
              refine T_takeA (i := 14) rfl rfl (by kernel_rfl) (by kernel_rfl) (by kernel_rfl) (Y_yes rfl rfl rfl (decide_eq_true h16) (fun _ ⟨hb1, _⟩ => R_load1 rfl scl3 (hb1.cell (i := 2) rfl))) ⟨hb1, trivial⟩ rfl ?_
              refine T_takeA (i := 15) rfl rfl (by kernel_rfl) (by kernel_rfl) (by kernel_rfl) (Y_yes rfl rfl rfl (decide_eq_true h16) (fun _ ⟨hb1, _⟩ => R_lss rfl rfl)) ⟨hb1, trivial⟩ rfl ?_
              refine T_takeA (i := 16) rfl rfl (by kernel_rfl) (by kernel_rfl) (by kernel_rfl) (Y_of (fun _ ⟨hb1, _⟩ => R_pickT rfl (decide_eq_true h16) rfl)) ⟨hb1, trivial⟩ rfl ?_
              refine T_takeA (i := 17) rfl rfl (by kernel_rfl) (by kernel_rfl) (by kernel_rfl) (Y_of (fun _ ⟨hb1, _⟩ => R_assign rfl)) ⟨hb1, trivial⟩ rfl ?_
              refine T_done (by kernel_rfl) (NoPanic.normal ?_)
              refine N_in (N_then (C_reg ?_))
              refine L_run (R_move rfl) rfl ?_
              refine L_run (R_add64 rfl rfl (by omega)) rfl ?_
              refine L_run (R_assign rfl) rfl ?_
              refine L_nil (N_then ?_)
              have hyb := h15
              have e_ : Value.bool (decide ((hs k) < first)) = .bool (decide (OkB ep seq first ∧ OkK (k + 1) first hs)) := by
                first
                  | exact bD (Iff.trans (by unfold OkB; omega) okB0.symm)
                  | exact bT (okB0.2 (by unfold OkB; omega))
                  | exact bF (fun h_ => by have q_ := okB0.1 h_; unfold OkB at q_; omega)
                  | exact bF (fun h_ => hnb (okS.1 h_).1)
                  | exact bF (fun h_ => by have q_ := (okS.1 h_).2; omega)
                  | exact bD (Iff.trans ⟨fun q_ => ⟨hyb, by omega, q_⟩, fun q_ => q_.2.2⟩ okS.symm)
              exact ⟨4 - (k + 1), by omega, _, (k + 1), Ac_frg ⟨rfl, rfl, (agr rfl e_), (agr rfl (by first | rfl | (congr 1; omega) | (congr 1; simp; done) | (congr 1; simp only [IntKind.wrap_u64, IntKind.wrap_i64, IntKind.wrap_u8]; omega) | (congr 1 <;> omega))), trivial⟩, hB, hb1, (by omega), rfl⟩
            · refine T_takeA (i := 9) rfl rfl (by kernel_rfl) (by kernel_rfl) (by kernel_rfl) (Y_no rfl rfl rfl (decide_eq_false h16)) ⟨hb1, trivial⟩ rfl ?_
              refine T_takeA (i := 10) rfl rfl (by kernel_rfl) (by kernel_rfl) (by kernel_rfl) (Y_no rfl rfl rfl (decide_eq_false h16)) ⟨hb1, trivial⟩ rfl ?_
              refine T_takeA (i := 11) rfl rfl (by kernel_rfl) (by kernel_rfl) (by kernel_rfl) (Y_no rfl rfl rfl (decide_eq_false h16)) ⟨hb1, trivial⟩ rfl ?_
              refine T_takeA (i := 12) rfl rfl (by kernel_rfl) (by kernel_rfl) (by kernel_rfl) (Y_no rfl rfl rfl (decide_eq_false h16)) ⟨hb1, trivial⟩ rfl ?_
              refine T_takeA (i := 13) rfl rfl (by kernel_rfl) (by kernel_rfl) (by kernel_rfl) (Y_no rfl rfl rfl (decide_eq_false h16)) ⟨hb1, trivial⟩ rfl ?_
              refine T_takeA (i := 14) rfl rfl (by kernel_rfl) (by kernel_rfl) (by kernel_rfl) (Y_no rfl rfl rfl (decide_eq_false h16)) ⟨hb1, trivial⟩ rfl ?_
              refine T_takeA (i := 15) rfl rfl (by kernel_rfl) (by kernel_rfl) (by kernel_rfl) (Y_no rfl rfl rfl (decide_eq_false h16)) ⟨hb1, trivial⟩ rfl ?_
              refine T_takeA (i := 16) rfl rfl (by kernel_rfl) (by kernel_rfl) (by kernel_rfl) (Y_of (fun _ ⟨hb1, _⟩ => R_pickF rfl (decide_eq_false h16) rfl)) ⟨hb1, trivial⟩ rfl ?_
              refine T_takeA (i := 17) rfl rfl (by kernel_rfl) (by kernel_rfl) (by kernel_rfl) (Y_of (fun _ ⟨hb1, _⟩ => R_assign rfl)) ⟨hb1, trivial⟩ rfl ?_
              refine T_done (by kernel_rfl) (NoPanic.normal ?_)
              refine N_in (N_then (C_reg ?_))
              refine L_run (R_move rfl) rfl ?_
              refine L_run (R_add64 rfl rfl (by omega)) rfl ?_
              refine L_run (R_assign rfl) rfl ?_
              refine L_nil (N_then ?_)
              have hyb := h15
              have e_ : Value.bool false = .bool (decide (OkB ep seq first ∧ OkK (k + 1) first hs)) := by
                first
                  | exact bD (Iff.trans (by unfold OkB; omega) okB0.symm)
                  | exact bT (okB0.2 (by unfold OkB; omega))
                  | exact bF (fun h_ => by have q_ := okB0.1 h_; unfold OkB at q_; omega)
                  | exact bF (fun h_ => hnb (okS.1 h_).1)
                  | exact bF (fun h_ => by have q_ := (okS.1 h_).2; omega)
                  | exact bD (Iff.trans ⟨fun q_ => ⟨hyb, by omega, q_⟩, fun q_ => q_.2.2⟩ okS.symm)
              exact ⟨4 - (k + 1), by omega, _, (k + 1), Ac_frg ⟨rfl, rfl, (agr rfl e_), (agr rfl (by first | rfl | (congr 1; omega) | (congr 1; simp; done) | (congr 1; simp only [IntKind.wrap_u64, IntKind.wrap_i64, IntKind.wrap_u8]; omega) | (congr 1 <;> omega))), trivial⟩, hB, hb1, (by omega), rfl⟩
          · refine T_takeA (i := 2) rfl rfl (by kernel_rfl) (by kernel_rfl) (by kernel_rfl) (Y_no rfl rfl rfl (decide_eq_false h15)) ⟨hb1, trivial⟩ rfl ?_
            refine T_takeA (i := 3) rfl rfl (by kernel_rfl) (by kernel_rfl) (by kernel_rfl) (Y_no rfl rfl rfl (decide_eq_false h15)) ⟨hb1, trivial⟩ rfl ?_
            refine T_takeA (i := 4) rfl rfl (by kernel_rfl) (by kernel_rfl) (by kernel_rfl) (Y_no rfl rfl rfl (decide_eq_false h15)) ⟨hb1, trivial⟩ rfl ?_
            refine T_takeA (i := 5) rfl rfl (by kernel_rfl) (by kernel_rfl) (by kernel_rfl) (Y_no rfl rfl rfl (decide_eq_false h15)) ⟨hb1, trivial⟩ rfl ?_
            refine T_takeA (i := 6) rfl rfl (by kernel_rfl) (by kernel_rfl) (by kernel_rfl) (Y_no rfl rfl rfl (decide_eq_false h15)) ⟨hb1, trivial⟩ rfl ?_
            refine T_takeA (i := 7) rfl rfl (by kernel_rfl) (by kernel_rfl) (by kernel_rfl) (Y_of (fun _ ⟨hb1, _⟩ => R_pickF rfl (decide_eq_false h15) rfl)) ⟨hb1, trivial⟩ rfl ?_
            refine T_takeA (i := 8) rfl rfl (by kernel_rfl) (by kernel_rfl) (by kernel_rfl) (Y_of (fun _ ⟨hb1, _⟩ => R_move rfl)) ⟨hb1, trivial⟩ rfl ?_
            refine T_takeA (i := 9) rfl rfl (by kernel_rfl) (by kernel_rfl) (by kernel_rfl) (Y_no rfl rfl rfl rfl) ⟨hb1, trivial⟩ rfl ?_
            refine T_takeA (i := 10) rfl rfl (by kernel_rfl) (by kernel_rfl) (by kernel_rfl) (Y_no rfl rfl rfl rfl) ⟨hb1, trivial⟩ rfl ?_
            refine T_takeA (i := 11) rfl rfl (by kernel_rfl) (by kernel_rfl) (by kernel_rfl) (Y_no rfl rfl rfl rfl) ⟨hb1, trivial⟩ rfl ?_
            refine T_takeA (i := 12) rfl rfl (by kernel_rfl) (by kernel_rfl) (by kernel_rfl) (Y_no rfl rfl rfl rfl) ⟨hb1, trivial⟩ rfl ?_
            refine T_takeA (i := 13) rfl rfl (by kernel_rfl) (by kernel_rfl) (by kernel_rfl) (Y_no rfl rfl rfl rfl) ⟨hb1, trivial⟩ rfl ?_
            refine T_takeA (i := 14) rfl rfl (by kernel_rfl) (by kernel_rfl) (by kernel_rfl) (Y_no rfl rfl rfl rfl) ⟨hb1, trivial⟩ rfl ?_
            refine T_takeA (i := 15) rfl rfl (by kernel_rfl) (by kernel_rfl) (by kernel_rfl) (Y_no rfl rfl rfl rfl) ⟨hb1, trivial⟩ rfl ?_
            refine T_takeA (i := 16) rfl rfl (by kernel_rfl) (by kernel_rfl) (by kernel_rfl) (Y_of (fun _ ⟨hb1, _⟩ => R_pickF rfl rfl rfl)) ⟨hb1, trivial⟩ rfl ?_
            refine T_takeA (i := 17) rfl rfl (by kernel_rfl) (by kernel_rfl) (by kernel_rfl) (Y_of (fun _ ⟨hb1, _⟩ => R_assign rfl)) ⟨hb1, trivial⟩ rfl ?_
            refine T_done (by kernel_rfl) (NoPanic.normal ?_)
            refine N_in (N_then (C_reg ?_))
            refine L_run (R_move rfl) rfl ?_
            refine L_run (R_add64 rfl rfl (by omega)) rfl ?_
            refine L_run (R_assign rfl) rfl ?_
            refine L_nil (N_then ?_)
            have hnb := h15
            have e_ : Value.bool false = .bool (decide (OkB ep seq first ∧ OkK (k + 1) first hs)) := by
              first
                | exact bD (Iff.trans (by unfold OkB; omega) okB0.symm)
                | exact bT (okB0.2 (by unfold OkB; omega))
                | exact bF (fun h_ => by have q_ := okB0.1 h_; unfold OkB at q_; omega)
                | exact bF (fun h_ => hnb (okS.1 h_).1)
                | exact bF (fun h_ => by have q_ := (okS.1 h_).2; omega)
                | exact bD (Iff.trans ⟨fun q_ => ⟨hyb, by omega, q_⟩, fun q_ => q_.2.2⟩ okS.symm)
            exact ⟨4 - (k + 1), by omega, _, (k + 1), Ac_frg ⟨rfl, rfl, (agr rfl e_), (agr rfl (by first | rfl | (congr 1; omega) | (congr 1; simp; done) | (congr 1; simp only [IntKind.wrap_u64, IntKind.wrap_i64, IntKind.wrap_u8]; omega) | (congr 1 <;> omega))), trivial⟩, hB, hb1, (by omega), rfl⟩
        · refine C_exit (X_then (X_then (X_hit (N_then (C_seq (C_reg ?_))))))
          refine L_run (R_move rfl) rfl ?_
          refine L_run (R_assign rfl) rfl ?_
          refine L_nil (N_then (C_ret ?_))
          refine ret1 Try.results67 rfl ?_
          obtain rfl : k = 4 := by omega
          exact ⟨hB, rfl⟩
  · refine L_no rfl rfl rfl (decide_eq_false h1) rfl ?_
    refine L_no rfl rfl rfl (decide_eq_false h1) rfl ?_
    refine L_no rfl rfl rfl (decide_eq_false h1) rfl ?_
    refine L_run (R_pickF rfl (decide_eq_false h1) rfl) rfl ?_
    refine L_run (R_move rfl) rfl ?_
    refine L_no rfl rfl rfl rfl rfl ?_
    refine L_no rfl rfl rfl rfl rfl ?_
    refine L_no rfl rfl rfl rfl rfl ?_
    refine L_run (R_pickF rfl rfl rfl) rfl ?_
    refine L_run (R_move rfl) rfl ?_
    refine L_no rfl rfl rfl rfl rfl ?_
    refine L_no rfl rfl rfl rfl rfl ?_
    refine L_no rfl rfl rfl rfl rfl ?_
    refine L_run (R_pickF rfl rfl rfl) rfl ?_
    refine L_run (R_move rfl) rfl ?_
    refine L_no rfl rfl rfl rfl rfl ?_
    refine L_no rfl rfl rfl rfl rfl ?_
    refine L_no rfl rfl rfl rfl rfl ?_
    refine L_run (R_pickF rfl rfl rfl) rfl ?_
    refine L_run (R_assign rfl) rfl ?_
    refine L_nil (N_then (C_seq (C_seq (C_reg ?_))))
    refine L_run (R_assign rfl) rfl ?_
    refine L_nil (N_then (C_block ?_))
    have e_ : Value.bool false = .bool (decide (OkB ep seq first ∧ OkK 0 first hs)) := by
      first
        | exact bD (Iff.trans (by unfold OkB; omega) okB0.symm)
        | exact bT (okB0.2 (by unfold OkB; omega))
        | exact bF (fun h_ => by have q_ := okB0.1 h_; unfold OkB at q_; omega)
        | exact bF (fun h_ => hnb (okS.1 h_).1)
        | exact bF (fun h_ => by have q_ := (okS.1 h_).2; omega)
        | exact bD (Iff.trans ⟨fun q_ => ⟨hyb, by omega, q_⟩, fun q_ => q_.2.2⟩ okS.symm)
    refine C_loop (fun m_ a_ w_ => ∃ (σ_ : Nat → Value) (k : Nat), a_ = Ac 50 σ_ [] [(1, .pointer (some ⟨g1, 0, none⟩)), (2, .bool false), (3, .bool (decide (OkB ep seq first ∧ OkK k first hs))), (4, .int .i64 (k : Int))] ∧ w.grownBy w_ none ∧ Blk w_ g1 72 [.int .u64 ep, .int .i64 seq, .int .i64 first, .int .i64 (hs 0), .int .i64 (hs 1), .int .i64 (hs 2), .int .i64 (hs 3)] ∧ (k ≤ 4) ∧ 4 - k = m_) (4 - 0) ?_ ?_
    · exact ⟨_, 0, Ac_frg ⟨rfl, rfl, (agr rfl e_), (agr rfl (by first | rfl | (congr 1; omega) | (congr 1; simp; done) | (congr 1; simp only [IntKind.wrap_u64, IntKind.wrap_i64, IntKind.wrap_u8]; omega) | (congr 1 <;> omega))), trivial⟩, hB, hb1, (by omega), rfl⟩
    · clear hB
      clear hb1
      rintro m_ a_ w10 ⟨σ_, k, rfl, hB, hb1, hk, rfl⟩
      refine C_seq (C_seq (C_reg ?_))
      refine L_run (R_move rfl) rfl ?_
      refine L_run (R_lss rfl rfl) rfl ?_
      refine L_nil (N_then ?_)
      refine C_if rfl (fun h17 => ?_) (fun h17 => ?_)
      · refine C_skip (N_then (C_seq (C_block ?_)))
        refine C_draw2 mix ?_
        intro w11 hs6 hz6
        replace hB := gb_tr hB hs6
        replace hb1 := hb1.gb hs6
        refine ⟨fun W_ => Blk W_ g1 72 [.int .u64 ep, .int .i64 seq, .int .i64 first, .int .i64 (hs 0), .int .i64 (hs 1), .int .i64 (hs 2), .int .i64 (hs 3)] ∧ True, [0, 1, 2, 3, 4, 5, 6, 7, 8, 9, 10, 11, 12, 13, 14, 15, 16, 17], ?_⟩
        refine T_takeA (i := 0) rfl rfl (by kernel_rfl) (by kernel_rfl) (by kernel_rfl) (Y_of (fun _ ⟨hb1, _⟩ => R_move rfl)) ⟨hb1, trivial⟩ rfl ?_
        refine T_takeA (i := 1) rfl rfl (by kernel_rfl) (by kernel_rfl) (by kernel_rfl) (Y_of (fun _ ⟨hb1, _⟩ => R_move rfl)) ⟨hb1, trivial⟩ rfl ?_
        by_cases h18 : OkB ep seq first ∧ OkK k first hs
        · refine T_takeA (i := 2) rfl rfl (by kernel_rfl) (by kernel_rfl) (by kernel_rfl) (Y_yes rfl rfl rfl (decide_eq_true h18) (fun _ ⟨hb1, _⟩ => R_move rfl)) ⟨hb1, trivial⟩ rfl ?_
          refine T_takeA (i := 3) rfl rfl (by kernel_rfl) (by kernel_rfl) (by kernel_rfl) (Y_yes rfl rfl rfl (decide_eq_true h18) (fun _ ⟨hb1, _⟩ => R_field (r := 3) rfl fld72_3 rfl)) ⟨hb1, trivial⟩ rfl ?_
          have hl9 : k < 4 := by omega
          refine T_takeA (i := 4) rfl rfl (by kernel_rfl) (by kernel_rfl) (by kernel_rfl) (Y_yes rfl rfl rfl (decide_eq_true h18) (fun _ ⟨hb1, _⟩ => R_indexArr (sz := 1) (o := 3) (a := (k : Int)) (i := k) (r := (3 + k)) rfl rfl (by first | rfl | omega) arr34 hl9 (by first | omega | rfl | simp))) ⟨hb1, trivial⟩ rfl ?_
          refine T_takeA (i := 5) rfl rfl (by kernel_rfl) (by kernel_rfl) (by kernel_rfl) (Y_yes rfl rfl rfl (decide_eq_true h18) (fun _ ⟨hb1, _⟩ => R_load1 rfl scl3 (hb1.cell (four_at (pre := [.int .u64 ep, .int .i64 seq, .int .i64 first]) (post := []) (f := hs) (k := .i64) hl9)))) ⟨hb1, trivial⟩ rfl ?_
          refine T_takeA (i := 6) rfl rfl (by kernel_rfl) (by kernel_rfl) (by kernel_rfl) (Y_yes rfl rfl rfl (decide_eq_true h18) (fun _ ⟨hb1, _⟩ => R_geq rfl rfl)) ⟨hb1, trivial⟩ rfl ?_
          refine T_takeA (i := 7) rfl rfl (by kernel_rfl) (by kernel_rfl) (by kernel_rfl) (Y_of (fun _ ⟨hb1, _⟩ => R_pickT rfl (decide_eq_true h18) rfl)) ⟨hb1, trivial⟩ rfl ?_
          refine T_takeA (i := 8) rfl rfl (by kernel_rfl) (by kernel_rfl) (by kernel_rfl) (Y_of (fun _ ⟨hb1, _⟩ => R_move rfl)) ⟨hb1, trivial⟩ rfl ?_
          by_cases h19 : 0 ≤ (hs k)
          · refine T_takeA (i := 9) rfl rfl (by kernel_rfl) (by kernel_rfl) (by kernel_rfl) (Y_yes rfl rfl rfl (decide_eq_true h19) (fun _ ⟨hb1, _⟩ => R_move rfl)) ⟨hb1, trivial⟩ rfl ?_
            refine T_takeA (i := 10) rfl rfl (by kernel_rfl) (by kernel_rfl) (by kernel_rfl) (Y_yes rfl rfl rfl (decide_eq_true h19) (fun _ ⟨hb1, _⟩ => R_field (r := 3) rfl fld72_3 rfl)) ⟨hb1, trivial⟩ rfl ?_
            have hl10 : k < 4 := by omega
            refine T_takeA (i := 11) rfl rfl (by kernel_rfl) (by kernel_rfl) (by kernel_rfl) (Y_yes rfl rfl rfl (decide_eq_true h19) (fun _ ⟨hb1, _⟩ => R_indexArr (sz := 1) (o := 3) (a := (k : Int)) (i := k) (r := (3 + k)) rfl rfl (by first | rfl | omega) arr34 hl10 (by first | omega | rfl | simp))) ⟨hb1, trivial⟩ rfl ?_
            refine T_takeA (i := 12) rfl rfl (by kernel_rfl) (by kernel_rfl) (by kernel_rfl) (Y_yes rfl rfl rfl (decide_eq_true h19) (fun _ ⟨hb1, _⟩ => R_load1 rfl scl3 (hb1.cell (four_at (pre := [.int .u64 ep, .int .i64 seq, .int .i64 first]) (post := []) (f := hs) (k := .i64) hl10)))) ⟨hb1, trivial⟩ rfl ?_
            refine T_takeA (i := 13) rfl rfl (by kernel_rfl) (by kernel_rfl) (by kernel_rfl) (Y_yes rfl rfl rfl (decide_eq_true h19) (fun _ ⟨hb1, _⟩ => R_field (r := 2) rfl fld72_2 rfl)) ⟨hb1, trivial⟩ rfl ?_
            refine T_takeA (i := 14) rfl rfl (by kernel_rfl) (by kernel_rfl) (by kernel_rfl) (Y_yes rfl rfl rfl (decide_eq_true h19) (fun _ ⟨hb1, _⟩ => R_load1 rfl scl3 (hb1.cell (i := 2) rfl))) ⟨hb1, trivial⟩ rfl ?_
            refine T_takeA (i := 15) rfl rfl (by kernel_rfl) (by kernel_rfl) (by kernel_rfl) (Y_yes rfl rfl rfl (decide_eq_true h19) (fun _ ⟨hb1, _⟩ => R_lss rfl rfl)) ⟨hb1, trivial⟩ rfl ?_
            refine T_takeA (i := 16) rfl rfl (by kernel_rfl) (by kernel_rfl) (by kernel_rfl) (Y_of (fun _ ⟨hb1, _⟩ => R_pickT rfl (decide_eq_true h19) rfl)) ⟨hb1, trivial⟩ rfl ?_
            refine T_takeA (i := 17) rfl rfl (by kernel_rfl) (by kernel_rfl) (by kernel_rfl) (Y_of (fun _ ⟨hb1, _⟩ => R_assign rfl)) ⟨hb1, trivial⟩ rfl ?_
            refine T_done (by kernel_rfl) (NoPanic.normal ?_)
            refine N_in (N_then (C_reg ?_))
            refine L_run (R_move rfl) rfl ?_
            refine L_run (R_add64 rfl rfl (by omega)) rfl ?_
            refine L_run (R_assign rfl) rfl ?_
            refine L_nil (N_then ?_)
            have hyb := h18
            have e_ : Value.bool (decide ((hs k) < first)) = .bool (decide (OkB ep seq first ∧ OkK (k + 1) first hs)) := by
              first
                | exact bD (Iff.trans (by unfold OkB; omega) okB0.symm)
                | exact bT (okB0.2 (by unfold OkB; omega))
                | exact bF (fun h_ => by have q_ := okB0.1 h_; unfold OkB at q_; omega)
                | exact bF (fun h_ => hnb (okS.1 h_).1)
                | exact bF (fun h_ => by have q_ := (okS.1 h_).2; omega)
                | exact bD (Iff.trans ⟨fun q_ => ⟨hyb, by omega, q_⟩, fun q_ => q_.2.2⟩ okS.symm)
            exact ⟨4 - (k + 1), by omega, _, (k + 1), Ac_frg ⟨rfl, rfl, (agr rfl e_), (agr rfl (by first | rfl | (congr 1; omega) | (congr 1; simp; done) | (congr 1; simp only [IntKind.wrap_u64, IntKind.wrap_i64, IntKind.wrap_u8]; omega) | (congr 1 <;> omega))), trivial⟩, hB, hb1, (by omega), rfl⟩
          · refine T_takeA (i := 9) rfl rfl (by kernel_rfl) (by kernel_rfl) (by kernel_rfl) (Y_no rfl rfl rfl (decide_eq_false h19)) ⟨hb1, trivial⟩ rfl ?_
            refine T_takeA (i := 10) rfl rfl (by kernel_rfl) (by kernel_rfl) (by kernel_rfl) (Y_no rfl rfl rfl (decide_eq_false h19)) ⟨hb1, trivial⟩ rfl ?_
            refine T_takeA (i := 11) rfl rfl (by kernel_rfl) (by kernel_rfl) (by kernel_rfl) (Y_no rfl rfl rfl (decide_eq_false h19)) ⟨hb1, trivial⟩ rfl ?_
            refine T_takeA (i := 12) rfl rfl (by kernel_rfl) (by kernel_rfl) (by kernel_rfl) (Y_no rfl rfl rfl (decide_eq_false h19)) ⟨hb1, trivial⟩ rfl ?_
            refine T_takeA (i := 13) rfl rfl (by kernel_rfl) (by kernel_rfl) (by kernel_rfl) (Y_no rfl rfl rfl (decide_eq_false h19)) ⟨hb1, trivial⟩ rfl ?_
            refine T_takeA (i := 14) rfl rfl (by kernel_rfl) (by kernel_rfl) (by kernel_rfl) (Y_no rfl rfl rfl (decide_eq_false h19)) ⟨hb1, trivial⟩ rfl ?_
            refine T_takeA (i := 15) rfl rfl (by kernel_rfl) (by kernel_rfl) (by kernel_rfl) (Y_no rfl rfl rfl (decide_eq_false h19)) ⟨hb1, trivial⟩ rfl ?_
            refine T_takeA (i := 16) rfl rfl (by kernel_rfl) (by kernel_rfl) (by kernel_rfl) (Y_of (fun _ ⟨hb1, _⟩ => R_pickF rfl (decide_eq_false h19) rfl)) ⟨hb1, trivial⟩ rfl ?_
            refine T_takeA (i := 17) rfl rfl (by kernel_rfl) (by kernel_rfl) (by kernel_rfl) (Y_of (fun _ ⟨hb1, _⟩ => R_assign rfl)) ⟨hb1, trivial⟩ rfl ?_
            refine T_done (by kernel_rfl) (NoPanic.normal ?_)
            refine N_in (N_then (C_reg ?_))
            refine L_run (R_move rfl) rfl ?_
            refine L_run (R_add64 rfl rfl (by omega)) rfl ?_
            refine L_run (R_assign rfl) rfl ?_
            refine L_nil (N_then ?_)
            have hyb := h18
            have e_ : Value.bool false = .bool (decide (OkB ep seq first ∧ OkK (k + 1) first hs)) := by
              first
                | exact bD (Iff.trans (by unfold OkB; omega) okB0.symm)
                | exact bT (okB0.2 (by unfold OkB; omega))
                | exact bF (fun h_ => by have q_ := okB0.1 h_; unfold OkB at q_; omega)
                | exact bF (fun h_ => hnb (okS.1 h_).1)
                | exact bF (fun h_ => by have q_ := (okS.1 h_).2; omega)
                | exact bD (Iff.trans ⟨fun q_ => ⟨hyb, by omega, q_⟩, fun q_ => q_.2.2⟩ okS.symm)
            exact ⟨4 - (k + 1), by omega, _, (k + 1), Ac_frg ⟨rfl, rfl, (agr rfl e_), (agr rfl (by first | rfl | (congr 1; omega) | (congr 1; simp; done) | (congr 1; simp only [IntKind.wrap_u64, IntKind.wrap_i64, IntKind.wrap_u8]; omega) | (congr 1 <;> omega))), trivial⟩, hB, hb1, (by omega), rfl⟩
        · refine T_takeA (i := 2) rfl rfl (by kernel_rfl) (by kernel_rfl) (by kernel_rfl) (Y_no rfl rfl rfl (decide_eq_false h18)) ⟨hb1, trivial⟩ rfl ?_
          refine T_takeA (i := 3) rfl rfl (by kernel_rfl) (by kernel_rfl) (by kernel_rfl) (Y_no rfl rfl rfl (decide_eq_false h18)) ⟨hb1, trivial⟩ rfl ?_
          refine T_takeA (i := 4) rfl rfl (by kernel_rfl) (by kernel_rfl) (by kernel_rfl) (Y_no rfl rfl rfl (decide_eq_false h18)) ⟨hb1, trivial⟩ rfl ?_
          refine T_takeA (i := 5) rfl rfl (by kernel_rfl) (by kernel_rfl) (by kernel_rfl) (Y_no rfl rfl rfl (decide_eq_false h18)) ⟨hb1, trivial⟩ rfl ?_
          refine T_takeA (i := 6) rfl rfl (by kernel_rfl) (by kernel_rfl) (by kernel_rfl) (Y_no rfl rfl rfl (decide_eq_false h18)) ⟨hb1, trivial⟩ rfl ?_
          refine T_takeA (i := 7) rfl rfl (by kernel_rfl) (by kernel_rfl) (by kernel_rfl) (Y_of (fun _ ⟨hb1, _⟩ => R_pickF rfl (decide_eq_false h18) rfl)) ⟨hb1, trivial⟩ rfl ?_
          refine T_takeA (i := 8) rfl rfl (by kernel_rfl) (by kernel_rfl) (by kernel_rfl) (Y_of (fun _ ⟨hb1, _⟩ => R_move rfl)) ⟨hb1, trivial⟩ rfl ?_
          refine T_takeA (i := 9) rfl rfl (by kernel_rfl) (by kernel_rfl) (by kernel_rfl) (Y_no rfl rfl rfl rfl) ⟨hb1, trivial⟩ rfl ?_
          refine T_takeA (i := 10) rfl rfl (by kernel_rfl) (by kernel_rfl) (by kernel_rfl) (Y_no rfl rfl rfl rfl) ⟨hb1, trivial⟩ rfl ?_
          refine T_takeA (i := 11) rfl rfl (by kernel_rfl) (by kernel_rfl) (by kernel_rfl) (Y_no rfl rfl rfl rfl) ⟨hb1, trivial⟩ rfl ?_
          refine T_takeA (i := 12) rfl rfl (by kernel_rfl) (by kernel_rfl) (by kernel_rfl) (Y_no rfl rfl rfl rfl) ⟨hb1, trivial⟩ rfl ?_
          refine T_takeA (i := 13) rfl rfl (by kernel_rfl) (by kernel_rfl) (by kernel_rfl) (Y_no rfl rfl rfl rfl) ⟨hb1, trivial⟩ rfl ?_
          refine T_takeA (i := 14) rfl rfl (by kernel_rfl) (by kernel_rfl) (by kernel_rfl) (Y_no rfl rfl rfl rfl) ⟨hb1, trivial⟩ rfl ?_
          refine T_takeA (i := 15) rfl rfl (by kernel_rfl) (by kernel_rfl) (by kernel_rfl) (Y_no rfl rfl rfl rfl) ⟨hb1, trivial⟩ rfl ?_
          refine T_takeA (i := 16) rfl rfl (by kernel_rfl) (by kernel_rfl) (by kernel_rfl) (Y_of (fun _ ⟨hb1, _⟩ => R_pickF rfl rfl rfl)) ⟨hb1, trivial⟩ rfl ?_
          refine T_takeA (i := 17) rfl rfl (by kernel_rfl) (by kernel_rfl) (by kernel_rfl) (Y_of (fun _ ⟨hb1, _⟩ => R_assign rfl)) ⟨hb1, trivial⟩ rfl ?_
          refine T_done (by kernel_rfl) (NoPanic.normal ?_)
          refine N_in (N_then (C_reg ?_))
          refine L_run (R_move rfl) rfl ?_
          refine L_run (R_add64 rfl rfl (by omega)) rfl ?_
          refine L_run (R_assign rfl) rfl ?_
          refine L_nil (N_then ?_)
          have hnb := h18
          have e_ : Value.bool false = .bool (decide (OkB ep seq first ∧ OkK (k + 1) first hs)) := by
            first
              | exact bD (Iff.trans (by unfold OkB; omega) okB0.symm)
              | exact bT (okB0.2 (by unfold OkB; omega))
              | exact bF (fun h_ => by have q_ := okB0.1 h_; unfold OkB at q_; omega)
              | exact bF (fun h_ => hnb (okS.1 h_).1)
              | exact bF (fun h_ => by have q_ := (okS.1 h_).2; omega)
              | exact bD (Iff.trans ⟨fun q_ => ⟨hyb, by omega, q_⟩, fun q_ => q_.2.2⟩ okS.symm)
          exact ⟨4 - (k + 1), by omega, _, (k + 1), Ac_frg ⟨rfl, rfl, (agr rfl e_), (agr rfl (by first | rfl | (congr 1; omega) | (congr 1; simp; done) | (congr 1; simp only [IntKind.wrap_u64, IntKind.wrap_i64, IntKind.wrap_u8]; omega) | (congr 1 <;> omega))), trivial⟩, hB, hb1, (by omega), rfl⟩
      · refine C_exit (X_then (X_then (X_hit (N_then (C_seq (C_reg ?_))))))
        refine L_run (R_move rfl) rfl ?_
        refine L_run (R_assign rfl) rfl ?_
        refine L_nil (N_then (C_ret ?_))
        refine ret1 Try.results67 rfl ?_
        obtain rfl : k = 4 := by omega
        exact ⟨hB, rfl⟩

theorem live_behind {w : World} {t1 lo hi : Nat} {ep seq first en kind : Int} {hs : Nat → Int} {ra pa : Option Addr} {rc pn pc : Nat} {recs : List RecD} (hS : Sli t1 lo hi w ra (fl encR recs)) (hb : recs.length ≤ 1000000) :
    Runs Try.prog 61 #[.agg #[.int .u64 ep, .int .i64 seq, .int .i64 first, .int .i64 (hs 0), .int .i64 (hs 1), .int .i64 (hs 2), .int .i64 (hs 3), .slice ra recs.length rc, .slice pa pn pc, .int .i64 en, .int .i64 kind]] w (fun v w' => w.grownBy w' none ∧ v = .tuple #[.int .i64 (bh first hs recs).1, .agg #[.int .i64 ((bh first hs recs).2.1 0), .int .i64 ((bh first hs recs).2.1 1), .int .i64 ((bh first hs recs).2.1 2), .int .i64 ((bh first hs recs).2.1 3)], .bool (bh first hs recs).2.2]) := by
  have hB := gb_refl w none
  replace hS := hS.top
  refine enter Try.func61 Try.ntmps61 rfl rfl ?_
  refine C_seq (C_reg ?_)
  refine L_box (cs := [.int .u64 ep, .int .i64 seq, .int .i64 first, .int .i64 (hs 0), .int .i64 (hs 1), .int .i64 (hs 2), .int .i64 (hs 3), .slice ra recs.length rc, .slice pa pn pc, .int .i64 en, .int .i64 kind]) rfl rfl rfl ?_
  intro g1 w1 eg1 hb1 hs1 hz1
  have ge1 : w.heap.size ≤ g1 := eg_ge hB eg1
  replace hB := gb_tr hB hs1
  replace hS := hS.gb hs1
  refine L_run (R_assign rfl) rfl ?_
  refine L_alloc (cs := [.int .i64 0, .int .i64 0, .int .i64 0, .int .i64 0]) zer34 rfl rfl ?_
  intro g2 w2 eg2 hb2 hs2 hz2
  have ge2 : w.heap.size ≤ g2 := eg_ge hB eg2
  have lt1 : g1 < g2 := lt_of_eg hb1.lt eg2
  replace hB := gb_tr hB hs2
  replace hS := hS.gb hs2
  replace hb1 := hb1.gb hs2
  refine L_run (R_assign rfl) rfl ?_
  refine L_nil (N_then (C_seq ?_))
  refine C_draw2 mix ?_
  intro w3 hs3 hz3
  replace hB := gb_tr hB hs3
  replace hS := hS.gb hs3
  replace hb1 := hb1.gb hs3
  replace hb2 := hb2.gb hs3
  refine ⟨fun W_ => Blk W_ g1 79 [.int .u64 ep, .int .i64 seq, .int .i64 first, .int .i64 (hs 0), .int .i64 (hs 1), .int .i64 (hs 2), .int .i64 (hs 3), .slice ra recs.length rc, .slice pa pn pc, .int .i64 en, .int .i64 kind] ∧ True, [0, 1, 2, 3, 4, 5, 7], ?_⟩
  refine T_takeA (i := 0) rfl rfl (by kernel_rfl) (by kernel_rfl) (by kernel_rfl) (Y_of (fun _ ⟨hb1, _⟩ => R_field (r := 0) rfl fld79_0 rfl)) ⟨hb1, trivial⟩ rfl ?_
  refine T_takeA (i := 1) rfl rfl (by kernel_rfl) (by kernel_rfl) (by kernel_rfl) (Y_of (fun _ ⟨hb1, _⟩ => R_field (r := 2) rfl fld72_2 rfl)) ⟨hb1, trivial⟩ rfl ?_
  refine T_takeA (i := 2) rfl rfl (by kernel_rfl) (by kernel_rfl) (by kernel_rfl) (Y_of (fun _ ⟨hb1, _⟩ => R_load1 rfl scl3 (hb1.cell (i := 2) rfl))) ⟨hb1, trivial⟩ rfl ?_
  refine T_takeA (i := 3) rfl rfl (by kernel_rfl) (by kernel_rfl) (by kernel_rfl) (Y_of (fun _ ⟨hb1, _⟩ => R_field (r := 0) rfl fld79_0 rfl)) ⟨hb1, trivial⟩ rfl ?_
  refine T_takeA (i := 4) rfl rfl (by kernel_rfl) (by kernel_rfl) (by kernel_rfl) (Y_of (fun _ ⟨hb1, _⟩ => R_field (r := 3) rfl fld72_3 rfl)) ⟨hb1, trivial⟩ rfl ?_
  refine T_takeA (i := 5) rfl rfl (by kernel_rfl) (by kernel_rfl) (by kernel_rfl) (Y_of (fun _ ⟨hb1, _⟩ => R_loadA (vs := [.int .i64 (hs 0), .int .i64 (hs 1), .int .i64 (hs 2), .int .i64 (hs 3)]) rfl agg34 (At.pre (hb1.at_ 3) rfl) rfl)) ⟨hb1, trivial⟩ rfl ?_
  refine T_all (rs := [6]) (by kernel_rfl) rfl (all1 (O_one rfl ?_))
  refine L_alloc (cs := [.int .i64 0, .int .i64 0, .int .i64 0, .int .i64 0]) zer34 rfl rfl ?_
  intro g3 w4 eg3 hb3 hs4 hz4
  have ge3 : w.heap.size ≤ g3 := eg_ge hB eg3
  have lt2 : g1 < g3 := lt_of_eg hb1.lt eg3
  have lt3 : g2 < g3 := lt_of_eg hb2.lt eg3
  replace hB := gb_tr hB hs4
  replace hS := hS.gb hs4
  replace hb1 := hb1.gb hs4
  replace hb2 := hb2.gb hs4
  refine L_nil (N_then ⟨fun hN_ => ⟨hb1, trivial⟩, ?_⟩)
  refine T_takeA (i := 7) rfl rfl (by kernel_rfl) (by kernel_rfl) (by kernel_rfl) (Y_of (fun _ ⟨hb1, _⟩ => R_assign rfl)) ⟨hb1, trivial⟩ rfl ?_
  refine T_all (rs := [8]) (by kernel_rfl) rfl (all1 (O_one rfl ?_))
  refine L_stA (vs := [.int .i64 (hs 0), .int .i64 (hs 1), .int .i64 (hs 2), .int .i64 (hs 3)]) rfl rfl rfl sz34 rfl hb3 rfl ?_
  intro w5 hb4 hs5 hz5
  replace hB := gb_trg hB hs5 ge3
  replace hS := hS.old hs5 ge3
  replace hb1 := hb1.grown hs5 (ne_lt lt2)
  replace hb2 := hb2.grown hs5 (ne_lt lt3)
  refine L_nil (N_then ⟨fun hN_ => ⟨hb1, trivial⟩, ?_⟩)
  refine T_done (by kernel_rfl) (NoPanic.normal ?_)
  refine N_then (C_seq (C_seq (C_reg ?_)))
  refine L_run (R_field (r := 7) rfl fld79_1 rfl) rfl ?_
  refine L_run (R_load1 rfl scl73 (hb1.cell (i := 7) rfl)) rfl ?_
  refine L_run (R_lenSl rfl slc73) rfl ?_
  refine L_run (R_move rfl) rfl ?_
  refine L_nil (N_then (C_block ?_))
  refine C_loop (fun m_ a_ w_ => ∃ (σ_ : Nat → Value) (k : Nat) (n : Int) (F : Nat → Int), a_ = Ac 56 σ_ [] [(1, .pointer (some ⟨g1, 0, none⟩)), (3, .pointer (some ⟨g2, 0, none⟩)), (5, .int .i64 n), (6, .pointer (some ⟨g3, 0, none⟩)), (16, .slice ra recs.length rc), (17, .int .i64 (recs.length : Int)), (18, .int .i64 (k : Int))] ∧ w.grownBy w_ none ∧ Sli t1 lo w.heap.size w_ ra (fl encR recs) ∧ Blk w_ g1 79 [.int .u64 ep, .int .i64 seq, .int .i64 first, .int .i64 (hs 0), .int .i64 (hs 1), .int .i64 (hs 2), .int .i64 (hs 3), .slice ra recs.length rc, .slice pa pn pc, .int .i64 en, .int .i64 kind] ∧ Blk w_ g2 34 [.int .i64 0, .int .i64 0, .int .i64 0, .int .i64 0] ∧ Blk w_ g3 34 [.int .i64 (F 0), .int .i64 (F 1), .int .i64 (F 2), .int .i64 (F 3)] ∧ (k ≤ recs.length) ∧ (bh n F (recs.drop k) = bh first hs recs) ∧ recs.length - k = m_) (recs.length - 0) ?_ ?_
  · exact ⟨_, 0, first, hs, Ac_frg ⟨rfl, rfl, rfl, rfl, rfl, rfl, (agr rfl (by first | rfl | (congr 1; omega) | (congr 1; simp; done) | (congr 1; simp only [IntKind.wrap_u64, IntKind.wrap_i64, IntKind.wrap_u8]; omega) | (congr 1 <;> omega))), trivial⟩, hB, hS, hb1, hb2, hb4, (by omega), rfl, rfl⟩
  · clear hB
    clear hS hb1 hb2 hb4
    rintro m_ a_ w6 ⟨σ_, k, n, F, rfl, hB, hS, hb1, hb2, hbh, hk, hv, rfl⟩
    refine C_seq (C_reg ?_)
    refine L_run (R_lss rfl rfl) rfl ?_
    refine L_nil (N_then (C_seq ?_))
    refine C_if rfl (fun h1 => ?_) (fun h1 => ?_)
    · refine C_skip (N_then (C_seq (C_block (C_seq (C_reg ?_)))))
      have hlk : k < recs.length := by first | omega | (simp; omega)
      refine T_index (xs := recs) (i := k) EncR rfl rfl (by first | rfl | omega) slc73 hlk hS rfl ?_
      intro g4 o1 ha1
      refine L_run (R_loadA (vs := [.int .i64 ((recs[k]).kind), .int .i64 ((recs[k]).chain), .int .i64 ((recs[k]).lsn), .int .i64 ((recs[k]).prev), .slice ((recs[k]).da) ((recs[k]).dn) ((recs[k]).dc)]) rfl agg78 (At.pre ha1 rfl) rfl) rfl ?_
      refine L_alloc (cs := [.int .i64 0, .int .i64 0, .int .i64 0, .int .i64 0, .slice none 0 0]) zer78 rfl rfl ?_
      intro g5 w7 eg4 hb5 hs6 hz6
      have ge4 : w.heap.size ≤ g5 := eg_ge hB eg4
      have lt4 : g1 < g5 := lt_of_eg hb1.lt eg4
      have lt5 : g2 < g5 := lt_of_eg hb2.lt eg4
      have lt6 : g3 < g5 := lt_of_eg hbh.lt eg4
      replace hB := gb_tr hB hs6
      replace hS := hS.gb hs6
      replace hb1 := hb1.gb hs6
      replace hb2 := hb2.gb hs6
      replace hbh := hbh.gb hs6
      replace ha1 := At.gb ha1 hs6 (by simp)
      refine L_stA (vs := [.int .i64 ((recs[k]).kind), .int .i64 ((recs[k]).chain), .int .i64 ((recs[k]).lsn), .int .i64 ((recs[k]).prev), .slice ((recs[k]).da) ((recs[k]).dn) ((recs[k]).dc)]) rfl rfl rfl sz78 rfl hb5 rfl ?_
      intro w8 hb6 hs7 hz7
      replace hB := gb_trg hB hs7 ge4
      replace hS := hS.old hs7 ge4
      replace hb1 := hb1.grown hs7 (ne_lt lt4)
      replace hb2 := hb2.grown hs7 (ne_lt lt5)
      replace hbh := hbh.grown hs7 (ne_lt lt6)
      refine L_nil (N_then (C_seq (C_seq ?_)))
      refine C_draw2 mix ?_
      intro w9 hs8 hz8
      replace hB := gb_tr hB hs8
      replace hS := hS.gb hs8
      replace hb1 := hb1.gb hs8
      replace hb2 := hb2.gb hs8
      replace hbh := hbh.gb hs8
      replace hb6 := hb6.gb hs8
      refine ⟨fun W_ => Blk W_ g3 34 [.int .i64 (F 0), .int .i64 (F 1), .int .i64 (F 2), .int .i64 (F 3)] ∧ Blk W_ g5 78 [.int .i64 ((recs[k]).kind), .int .i64 ((recs[k]).chain), .int .i64 ((recs[k]).lsn), .int .i64 ((recs[k]).prev), .slice ((recs[k]).da) ((recs[k]).dn) ((recs[k]).dc)] ∧ True, [0, 1, 2, 3, 4, 5, 6, 7, 8, 9, 10, 11, 12, 13, 14, 15, 16, 17, 18, 19, 20, 21, 22], ?_⟩
      refine T_takeA (i := 0) rfl rfl (by kernel_rfl) (by kernel_rfl) (by kernel_rfl) (Y_of (fun _ ⟨hbh, hb6, _⟩ => R_field (r := 2) rfl fld78_2 rfl)) ⟨hbh, hb6, trivial⟩ rfl ?_
      refine T_takeA (i := 1) rfl rfl (by kernel_rfl) (by kernel_rfl) (by kernel_rfl) (Y_of (fun _ ⟨hbh, hb6, _⟩ => R_load1 rfl scl3 (hb6.cell (i := 2) rfl))) ⟨hbh, hb6, trivial⟩ rfl ?_
      refine T_takeA (i := 2) rfl rfl (by kernel_rfl) (by kernel_rfl) (by kernel_rfl) (Y_of (fun _ ⟨hbh, hb6, _⟩ => R_move rfl)) ⟨hbh, hb6, trivial⟩ rfl ?_
      refine T_takeA (i := 3) rfl rfl (by kernel_rfl) (by kernel_rfl) (by kernel_rfl) (Y_of (fun _ ⟨hbh, hb6, _⟩ => R_neq rfl rfl)) ⟨hbh, hb6, trivial⟩ rfl ?_
      refine T_takeA (i := 4) rfl rfl (by kernel_rfl) (by kernel_rfl) (by kernel_rfl) (Y_of (fun _ ⟨hbh, hb6, _⟩ => R_move rfl)) ⟨hbh, hb6, trivial⟩ rfl ?_
      by_cases h2 : (recs[k]).lsn ≠ n
      · refine T_takeA (i := 5) rfl rfl (by kernel_rfl) (by kernel_rfl) (by kernel_rfl) (Y_no rfl rfl rfl (decide_eq_true h2)) ⟨hbh, hb6, trivial⟩ rfl ?_
        refine T_takeA (i := 6) rfl rfl (by kernel_rfl) (by kernel_rfl) (by kernel_rfl) (Y_no rfl rfl rfl (decide_eq_true h2)) ⟨hbh, hb6, trivial⟩ rfl ?_
        refine T_takeA (i := 7) rfl rfl (by kernel_rfl) (by kernel_rfl) (by kernel_rfl) (Y_no rfl rfl rfl (decide_eq_true h2)) ⟨hbh, hb6, trivial⟩ rfl ?_
        refine T_takeA (i := 8) rfl rfl (by kernel_rfl) (by kernel_rfl) (by kernel_rfl) (Y_of (fun _ ⟨hbh, hb6, _⟩ => R_pickT rfl (decide_eq_true h2) rfl)) ⟨hbh, hb6, trivial⟩ rfl ?_
        refine T_takeA (i := 9) rfl rfl (by kernel_rfl) (by kernel_rfl) (by kernel_rfl) (Y_of (fun _ ⟨hbh, hb6, _⟩ => R_move rfl)) ⟨hbh, hb6, trivial⟩ rfl ?_
        refine T_takeA (i := 10) rfl rfl (by kernel_rfl) (by kernel_rfl) (by kernel_rfl) (Y_no rfl rfl rfl rfl) ⟨hbh, hb6, trivial⟩ rfl ?_
        refine T_takeA (i := 11) rfl rfl (by kernel_rfl) (by kernel_rfl) (by kernel_rfl) (Y_no rfl rfl rfl rfl) ⟨hbh, hb6, trivial⟩ rfl ?_
        refine T_takeA (i := 12) rfl rfl (by kernel_rfl) (by kernel_rfl) (by kernel_rfl) (Y_no rfl rfl rfl rfl) ⟨hbh, hb6, trivial⟩ rfl ?_
        refine T_takeA (i := 13) rfl rfl (by kernel_rfl) (by kernel_rfl) (by kernel_rfl) (Y_of (fun _ ⟨hbh, hb6, _⟩ => R_pickT rfl rfl rfl)) ⟨hbh, hb6, trivial⟩ rfl ?_
        refine T_takeA (i := 14) rfl rfl (by kernel_rfl) (by kernel_rfl) (by kernel_rfl) (Y_of (fun _ ⟨hbh, hb6, _⟩ => R_move rfl)) ⟨hbh, hb6, trivial⟩ rfl ?_
        refine T_takeA (i := 15) rfl rfl (by kernel_rfl) (by kernel_rfl) (by kernel_rfl) (Y_no rfl rfl rfl rfl) ⟨hbh, hb6, trivial⟩ rfl ?_
        refine T_takeA (i := 16) rfl rfl (by kernel_rfl) (by kernel_rfl) (by kernel_rfl) (Y_no rfl rfl rfl rfl) ⟨hbh, hb6, trivial⟩ rfl ?_
        refine T_takeA (i := 17) rfl rfl (by kernel_rfl) (by kernel_rfl) (by kernel_rfl) (Y_no rfl rfl rfl rfl) ⟨hbh, hb6, trivial⟩ rfl ?_
        refine T_takeA (i := 18) rfl rfl (by kernel_rfl) (by kernel_rfl) (by kernel_rfl) (Y_no rfl rfl rfl rfl) ⟨hbh, hb6, trivial⟩ rfl ?_
        refine T_takeA (i := 19) rfl rfl (by kernel_rfl) (by kernel_rfl) (by kernel_rfl) (Y_no rfl rfl rfl rfl) ⟨hbh, hb6, trivial⟩ rfl ?_
        refine T_takeA (i := 20) rfl rfl (by kernel_rfl) (by kernel_rfl) (by kernel_rfl) (Y_no rfl rfl rfl rfl) ⟨hbh, hb6, trivial⟩ rfl ?_
        refine T_takeA (i := 21) rfl rfl (by kernel_rfl) (by kernel_rfl) (by kernel_rfl) (Y_no rfl rfl rfl rfl) ⟨hbh, hb6, trivial⟩ rfl ?_
        refine T_takeA (i := 22) rfl rfl (by kernel_rfl) (by kernel_rfl) (by kernel_rfl) (Y_of (fun _ ⟨hbh, hb6, _⟩ => R_pickT rfl rfl rfl)) ⟨hbh, hb6, trivial⟩ rfl ?_
        refine T_done (by kernel_rfl) (NoPanic.normal ?_)
        refine N_then (C_condT rfl rfl (C_seq ?_))
        refine C_draw2 mix ?_
        intro w10 hs9 hz9
        replace hB := gb_tr hB hs9
        replace hS := hS.gb hs9
        replace hb1 := hb1.gb hs9
        replace hb2 := hb2.gb hs9
        replace hbh := hbh.gb hs9
        replace hb6 := hb6.gb hs9
        refine ⟨fun W_ => Blk W_ g3 34 [.int .i64 (F 0), .int .i64 (F 1), .int .i64 (F 2), .int .i64 (F 3)] ∧ True, [0, 1, 3], ?_⟩
        refine T_takeA (i := 0) rfl rfl (by kernel_rfl) (by kernel_rfl) (by kernel_rfl) (Y_of (fun _ ⟨hbh, _⟩ => R_loadA (vs := [.int .i64 (F 0), .int .i64 (F 1), .int .i64 (F 2), .int .i64 (F 3)]) rfl agg34 (At.pre (hbh.at_ 0) rfl) rfl)) ⟨hbh, trivial⟩ rfl ?_
        refine T_takeA (i := 1) rfl rfl (by kernel_rfl) (by kernel_rfl) (by kernel_rfl) (Y_of (fun _ ⟨hbh, _⟩ => R_assign rfl)) ⟨hbh, trivial⟩ rfl ?_
        refine T_all (rs := [2]) (by kernel_rfl) rfl (all1 (O_one rfl ?_))
        refine L_stA (vs := [.int .i64 (F 0), .int .i64 (F 1), .int .i64 (F 2), .int .i64 (F 3)]) rfl rfl rfl sz34 rfl hb2 rfl ?_
        intro w11 hb7 hs10 hz10
        replace hB := gb_trg hB hs10 ge2
        replace hS := hS.old hs10 ge2
        replace hb1 := hb1.grown hs10 (ne_lt lt1)
        replace hbh := hbh.grown hs10 (ne_gt lt3)
        replace hb6 := hb6.grown hs10 (ne_gt lt5)
        refine L_nil (N_then ⟨fun hN_ => ⟨hbh, trivial⟩, ?_⟩)
        refine T_takeA (i := 3) rfl rfl (by kernel_rfl) (by kernel_rfl) (by kernel_rfl) (Y_of (fun _ ⟨hbh, _⟩ => R_assign rfl)) ⟨hbh, trivial⟩ rfl ?_
        refine T_done (by kernel_rfl) (NoPanic.normal ?_)
        refine N_then (C_ret (R_then (R_in (R_then (R_then (R_in (R_then ?_)))))))
        refine retTCT (vs := [.int .i64 (F 0), .int .i64 (F 1), .int .i64 (F 2), .int .i64 (F 3)]) Try.results61 rfl agg34 (At.pre (hb7.at_ 0) rfl) rfl rfl rfl ?_
        first
          | (exfalso; omega)
          | (have e_ : bh first hs recs = (0, F, false) := by rw [← hv]; exact bh_bad hlk (by unfold RecOk; rintro ⟨q1, q2, q3, q4⟩; omega)
             rw [e_]; exact ⟨hB, rfl⟩)
      · refine T_takeA (i := 5) rfl rfl (by kernel_rfl) (by kernel_rfl) (by kernel_rfl) (Y_yes rfl rfl rfl (decide_eq_false h2) (fun _ ⟨hbh, hb6, _⟩ => R_field (r := 1) rfl fld78_1 rfl)) ⟨hbh, hb6, trivial⟩ rfl ?_
        refine T_takeA (i := 6) rfl rfl (by kernel_rfl) (by kernel_rfl) (by kernel_rfl) (Y_yes rfl rfl rfl (decide_eq_false h2) (fun _ ⟨hbh, hb6, _⟩ => R_load1 rfl scl3 (hb6.cell (i := 1) rfl))) ⟨hbh, hb6, trivial⟩ rfl ?_
        refine T_takeA (i := 7) rfl rfl (by kernel_rfl) (by kernel_rfl) (by kernel_rfl) (Y_yes rfl rfl rfl (decide_eq_false h2) (fun _ ⟨hbh, hb6, _⟩ => R_lss rfl rfl)) ⟨hbh, hb6, trivial⟩ rfl ?_
        refine T_takeA (i := 8) rfl rfl (by kernel_rfl) (by kernel_rfl) (by kernel_rfl) (Y_of (fun _ ⟨hbh, hb6, _⟩ => R_pickF rfl (decide_eq_false h2) rfl)) ⟨hbh, hb6, trivial⟩ rfl ?_
        refine T_takeA (i := 9) rfl rfl (by kernel_rfl) (by kernel_rfl) (by kernel_rfl) (Y_of (fun _ ⟨hbh, hb6, _⟩ => R_move rfl)) ⟨hbh, hb6, trivial⟩ rfl ?_
        by_cases h3 : (recs[k]).chain < 0
        · refine T_takeA (i := 10) rfl rfl (by kernel_rfl) (by kernel_rfl) (by kernel_rfl) (Y_no rfl rfl rfl (decide_eq_true h3)) ⟨hbh, hb6, trivial⟩ rfl ?_
          refine T_takeA (i := 11) rfl rfl (by kernel_rfl) (by kernel_rfl) (by kernel_rfl) (Y_no rfl rfl rfl (decide_eq_true h3)) ⟨hbh, hb6, trivial⟩ rfl ?_
          refine T_takeA (i := 12) rfl rfl (by kernel_rfl) (by kernel_rfl) (by kernel_rfl) (Y_no rfl rfl rfl (decide_eq_true h3)) ⟨hbh, hb6, trivial⟩ rfl ?_
          refine T_takeA (i := 13) rfl rfl (by kernel_rfl) (by kernel_rfl) (by kernel_rfl) (Y_of (fun _ ⟨hbh, hb6, _⟩ => R_pickT rfl (decide_eq_true h3) rfl)) ⟨hbh, hb6, trivial⟩ rfl ?_
          refine T_takeA (i := 14) rfl rfl (by kernel_rfl) (by kernel_rfl) (by kernel_rfl) (Y_of (fun _ ⟨hbh, hb6, _⟩ => R_move rfl)) ⟨hbh, hb6, trivial⟩ rfl ?_
          refine T_takeA (i := 15) rfl rfl (by kernel_rfl) (by kernel_rfl) (by kernel_rfl) (Y_no rfl rfl rfl rfl) ⟨hbh, hb6, trivial⟩ rfl ?_
          refine T_takeA (i := 16) rfl rfl (by kernel_rfl) (by kernel_rfl) (by kernel_rfl) (Y_no rfl rfl rfl rfl) ⟨hbh, hb6, trivial⟩ rfl ?_
          refine T_takeA (i := 17) rfl rfl (by kernel_rfl) (by kernel_rfl) (by kernel_rfl) (Y_no rfl rfl rfl rfl) ⟨hbh, hb6, trivial⟩ rfl ?_
          refine T_takeA (i := 18) rfl rfl (by kernel_rfl) (by kernel_rfl) (by kernel_rfl) (Y_no rfl rfl rfl rfl) ⟨hbh, hb6, trivial⟩ rfl ?_
          refine T_takeA (i := 19) rfl rfl (by kernel_rfl) (by kernel_rfl) (by kernel_rfl) (Y_no rfl rfl rfl rfl) ⟨hbh, hb6, trivial⟩ rfl ?_
          refine T_takeA (i := 20) rfl rfl (by kernel_rfl) (by kernel_rfl) (by kernel_rfl) (Y_no rfl rfl rfl rfl) ⟨hbh, hb6, trivial⟩ rfl ?_
          refine T_takeA (i := 21) rfl rfl (by kernel_rfl) (by kernel_rfl) (by kernel_rfl) (Y_no rfl rfl rfl rfl) ⟨hbh, hb6, trivial⟩ rfl ?_
          refine T_takeA (i := 22) rfl rfl (by kernel_rfl) (by kernel_rfl) (by kernel_rfl) (Y_of (fun _ ⟨hbh, hb6, _⟩ => R_pickT rfl rfl rfl)) ⟨hbh, hb6, trivial⟩ rfl ?_
          refine T_done (by kernel_rfl) (NoPanic.normal ?_)
          refine N_then (C_condT rfl rfl (C_seq ?_))
          refine C_draw2 mix ?_
          intro w12 hs11 hz11
          replace hB := gb_tr hB hs11
          replace hS := hS.gb hs11
          replace hb1 := hb1.gb hs11
          replace hb2 := hb2.gb hs11
          replace hbh := hbh.gb hs11
          replace hb6 := hb6.gb hs11
          refine ⟨fun W_ => Blk W_ g3 34 [.int .i64 (F 0), .int .i64 (F 1), .int .i64 (F 2), .int .i64 (F 3)] ∧ True, [0, 1, 3], ?_⟩
          refine T_takeA (i := 0) rfl rfl (by kernel_rfl) (by kernel_rfl) (by kernel_rfl) (Y_of (fun _ ⟨hbh, _⟩ => R_loadA (vs := [.int .i64 (F 0), .int .i64 (F 1), .int .i64 (F 2), .int .i64 (F 3)]) rfl agg34 (At.pre (hbh.at_ 0) rfl) rfl)) ⟨hbh, trivial⟩ rfl ?_
          refine T_takeA (i := 1) rfl rfl (by kernel_rfl) (by kernel_rfl) (by kernel_rfl) (Y_of (fun _ ⟨hbh, _⟩ => R_assign rfl)) ⟨hbh, trivial⟩ rfl ?_
          refine T_all (rs := [2]) (by kernel_rfl) rfl (all1 (O_one rfl ?_))
          refine L_stA (vs := [.int .i64 (F 0), .int .i64 (F 1), .int .i64 (F 2), .int .i64 (F 3)]) rfl rfl rfl sz34 rfl hb2 rfl ?_
          intro w13 hb8 hs12 hz12
          replace hB := gb_trg hB hs12 ge2
          replace hS := hS.old hs12 ge2
          replace hb1 := hb1.grown hs12 (ne_lt lt1)
          replace hbh := hbh.grown hs12 (ne_gt lt3)
          replace hb6 := hb6.grown hs12 (ne_gt lt5)
          refine L_nil (N_then ⟨fun hN_ => ⟨hbh, trivial⟩, ?_⟩)
          refine T_takeA (i := 3) rfl rfl (by kernel_rfl) (by kernel_rfl) (by kernel_rfl) (Y_of (fun _ ⟨hbh, _⟩ => R_assign rfl)) ⟨hbh, trivial⟩ rfl ?_
          refine T_done (by kernel_rfl) (NoPanic.normal ?_)
          refine N_then (C_ret (R_then (R_in (R_then (R_then (R_in (R_then ?_)))))))
          refine retTCT (vs := [.int .i64 (F 0), .int .i64 (F 1), .int .i64 (F 2), .int .i64 (F 3)]) Try.results61 rfl agg34 (At.pre (hb8.at_ 0) rfl) rfl rfl rfl ?_
          first
            | (exfalso; omega)
            | (have e_ : bh first hs recs = (0, F, false) := by rw [← hv]; exact bh_bad hlk (by unfold RecOk; rintro ⟨q1, q2, q3, q4⟩; omega)
               rw [e_]; exact ⟨hB, rfl⟩)
        · refine T_takeA (i := 10) rfl rfl (by kernel_rfl) (by kernel_rfl) (by kernel_rfl) (Y_yes rfl rfl rfl (decide_eq_false h3) (fun _ ⟨hbh, hb6, _⟩ => R_field (r := 1) rfl fld78_1 rfl)) ⟨hbh, hb6, trivial⟩ rfl ?_
          refine T_takeA (i := 11) rfl rfl (by kernel_rfl) (by kernel_rfl) (by kernel_rfl) (Y_yes rfl rfl rfl (decide_eq_false h3) (fun _ ⟨hbh, hb6, _⟩ => R_load1 rfl scl3 (hb6.cell (i := 1) rfl))) ⟨hbh, hb6, trivial⟩ rfl ?_
          refine T_takeA (i := 12) rfl rfl (by kernel_rfl) (by kernel_rfl) (by kernel_rfl) (Y_yes rfl rfl rfl (decide_eq_false h3) (fun _ ⟨hbh, hb6, _⟩ => R_geq rfl rfl)) ⟨hbh, hb6, trivial⟩ rfl ?_
          refine T_takeA (i := 13) rfl rfl (by kernel_rfl) (by kernel_rfl) (by kernel_rfl) (Y_of (fun _ ⟨hbh, hb6, _⟩ => R_pickF rfl (decide_eq_false h3) rfl)) ⟨hbh, hb6, trivial⟩ rfl ?_
          refine T_takeA (i := 14) rfl rfl (by kernel_rfl) (by kernel_rfl) (by kernel_rfl) (Y_of (fun _ ⟨hbh, hb6, _⟩ => R_move rfl)) ⟨hbh, hb6, trivial⟩ rfl ?_
          by_cases h4 : 4 ≤ (recs[k]).chain
          · refine T_takeA (i := 15) rfl rfl (by kernel_rfl) (by kernel_rfl) (by kernel_rfl) (Y_no rfl rfl rfl (decide_eq_true h4)) ⟨hbh, hb6, trivial⟩ rfl ?_
            refine T_takeA (i := 16) rfl rfl (by kernel_rfl) (by kernel_rfl) (by kernel_rfl) (Y_no rfl rfl rfl (decide_eq_true h4)) ⟨hbh, hb6, trivial⟩ rfl ?_
            refine T_takeA (i := 17) rfl rfl (by kernel_rfl) (by kernel_rfl) (by kernel_rfl) (Y_no rfl rfl rfl (decide_eq_true h4)) ⟨hbh, hb6, trivial⟩ rfl ?_
            refine T_takeA (i := 18) rfl rfl (by kernel_rfl) (by kernel_rfl) (by kernel_rfl) (Y_no rfl rfl rfl (decide_eq_true h4)) ⟨hbh, hb6, trivial⟩ rfl ?_
            refine T_takeA (i := 19) rfl rfl (by kernel_rfl) (by kernel_rfl) (by kernel_rfl) (Y_no rfl rfl rfl (decide_eq_true h4)) ⟨hbh, hb6, trivial⟩ rfl ?_
            refine T_takeA (i := 20) rfl rfl (by kernel_rfl) (by kernel_rfl) (by kernel_rfl) (Y_no rfl rfl rfl (decide_eq_true h4)) ⟨hbh, hb6, trivial⟩ rfl ?_
            refine T_takeA (i := 21) rfl rfl (by kernel_rfl) (by kernel_rfl) (by kernel_rfl) (Y_no rfl rfl rfl (decide_eq_true h4)) ⟨hbh, hb6, trivial⟩ rfl ?_
            refine T_takeA (i := 22) rfl rfl (by kernel_rfl) (by kernel_rfl) (by kernel_rfl) (Y_of (fun _ ⟨hbh, hb6, _⟩ => R_pickT rfl (decide_eq_true h4) rfl)) ⟨hbh, hb6, trivial⟩ rfl ?_
            refine T_done (by kernel_rfl) (NoPanic.normal ?_)
            refine N_then (C_condT rfl rfl (C_seq ?_))
            refine C_draw2 mix ?_
            intro w14 hs13 hz13
            replace hB := gb_tr hB hs13
            replace hS := hS.gb hs13
            replace hb1 := hb1.gb hs13
            replace hb2 := hb2.gb hs13
            replace hbh := hbh.gb hs13
            replace hb6 := hb6.gb hs13
            refine ⟨fun W_ => Blk W_ g3 34 [.int .i64 (F 0), .int .i64 (F 1), .int .i64 (F 2), .int .i64 (F 3)] ∧ True, [0, 1, 3], ?_⟩
            refine T_takeA (i := 0) rfl rfl (by kernel_rfl) (by kernel_rfl) (by kernel_rfl) (Y_of (fun _ ⟨hbh, _⟩ => R_loadA (vs := [.int .i64 (F 0), .int .i64 (F 1), .int .i64 (F 2), .int .i64 (F 3)]) rfl agg34 (At.pre (hbh.at_ 0) rfl) rfl)) ⟨hbh, trivial⟩ rfl ?_
            refine T_takeA (i := 1) rfl rfl (by kernel_rfl) (by kernel_rfl) (by kernel_rfl) (Y_of (fun _ ⟨hbh, _⟩ => R_assign rfl)) ⟨hbh, trivial⟩ rfl ?_
            refine T_all (rs := [2]) (by kernel_rfl) rfl (all1 (O_one rfl ?_))
            refine L_stA (vs := [.int .i64 (F 0), .int .i64 (F 1), .int .i64 (F 2), .int .i64 (F 3)]) rfl rfl rfl sz34 rfl hb2 rfl ?_
            intro w15 hb9 hs14 hz14
            replace hB := gb_trg hB hs14 ge2
            replace hS := hS.old hs14 ge2
            replace hb1 := hb1.grown hs14 (ne_lt lt1)
            replace hbh := hbh.grown hs14 (ne_gt lt3)
            replace hb6 := hb6.grown hs14 (ne_gt lt5)
            refine L_nil (N_then ⟨fun hN_ => ⟨hbh, trivial⟩, ?_⟩)
            refine T_takeA (i := 3) rfl rfl (by kernel_rfl) (by kernel_rfl) (by kernel_rfl) (Y_of (fun _ ⟨hbh, _⟩ => R_assign rfl)) ⟨hbh, trivial⟩ rfl ?_
            refine T_done (by kernel_rfl) (NoPanic.normal ?_)
            refine N_then (C_ret (R_then (R_in (R_then (R_then (R_in (R_then ?_)))))))
            refine retTCT (vs := [.int .i64 (F 0), .int .i64 (F 1), .int .i64 (F 2), .int .i64 (F 3)]) Try.results61 rfl agg34 (At.pre (hb9.at_ 0) rfl) rfl rfl rfl ?_
            first
              | (exfalso; omega)
              | (have e_ : bh first hs recs = (0, F, false) := by rw [← hv]; exact bh_bad hlk (by unfold RecOk; rintro ⟨q1, q2, q3, q4⟩; omega)
                 rw [e_]; exact ⟨hB, rfl⟩)
          · refine T_takeA (i := 15) rfl rfl (by kernel_rfl) (by kernel_rfl) (by kernel_rfl) (Y_yes rfl rfl rfl (decide_eq_false h4) (fun _ ⟨hbh, hb6, _⟩ => R_field (r := 3) rfl fld78_3 rfl)) ⟨hbh, hb6, trivial⟩ rfl ?_
            refine T_takeA (i := 16) rfl rfl (by kernel_rfl) (by kernel_rfl) (by kernel_rfl) (Y_yes rfl rfl rfl (decide_eq_false h4) (fun _ ⟨hbh, hb6, _⟩ => R_load1 rfl scl3 (hb6.cell (i := 3) rfl))) ⟨hbh, hb6, trivial⟩ rfl ?_
            refine T_takeA (i := 17) rfl rfl (by kernel_rfl) (by kernel_rfl) (by kernel_rfl) (Y_yes rfl rfl rfl (decide_eq_false h4) (fun _ ⟨hbh, hb6, _⟩ => R_field (r := 1) rfl fld78_1 rfl)) ⟨hbh, hb6, trivial⟩ rfl ?_
            refine T_takeA (i := 18) rfl rfl (by kernel_rfl) (by kernel_rfl) (by kernel_rfl) (Y_yes rfl rfl rfl (decide_eq_false h4) (fun _ ⟨hbh, hb6, _⟩ => R_load1 rfl scl3 (hb6.cell (i := 1) rfl))) ⟨hbh, hb6, trivial⟩ rfl ?_
            have hl2 : ((recs[k]).chain).toNat < 4 := by omega
            refine T_takeA (i := 19) rfl rfl (by kernel_rfl) (by kernel_rfl) (by kernel_rfl) (Y_yes rfl rfl rfl (decide_eq_false h4) (fun _ ⟨hbh, hb6, _⟩ => R_indexArr (sz := 1) (o := 0) (a := (recs[k]).chain) (i := ((recs[k]).chain).toNat) (r := (0 + ((recs[k]).chain).toNat)) rfl rfl (by first | rfl | omega) arr34 hl2 (by first | omega | rfl | simp))) ⟨hbh, hb6, trivial⟩ rfl ?_
            refine T_takeA (i := 20) rfl rfl (by kernel_rfl) (by kernel_rfl) (by kernel_rfl) (Y_yes rfl rfl rfl (decide_eq_false h4) (fun _ ⟨hbh, hb6, _⟩ => R_load1 rfl scl3 (hbh.cell (four_at (pre := []) (post := []) (f := F) (k := .i64) hl2)))) ⟨hbh, hb6, trivial⟩ rfl ?_
            refine T_takeA (i := 21) rfl rfl (by kernel_rfl) (by kernel_rfl) (by kernel_rfl) (Y_yes rfl rfl rfl (decide_eq_false h4) (fun _ ⟨hbh, hb6, _⟩ => R_neq rfl rfl)) ⟨hbh, hb6, trivial⟩ rfl ?_
            refine T_takeA (i := 22) rfl rfl (by kernel_rfl) (by kernel_rfl) (by kernel_rfl) (Y_of (fun _ ⟨hbh, hb6, _⟩ => R_pickF rfl (decide_eq_false h4) rfl)) ⟨hbh, hb6, trivial⟩ rfl ?_
            refine T_done (by kernel_rfl) (NoPanic.normal ?_)
            refine N_then ?_
            refine C_if rfl (fun h5 => ?_) (fun h5 => ?_)
            · refine C_seq ?_
              refine C_draw2 mix ?_
              intro w16 hs15 hz15
              replace hB := gb_tr hB hs15
              replace hS := hS.gb hs15
              replace hb1 := hb1.gb hs15
              replace hb2 := hb2.gb hs15
              replace hbh := hbh.gb hs15
              replace hb6 := hb6.gb hs15
              refine ⟨fun W_ => Blk W_ g3 34 [.int .i64 (F 0), .int .i64 (F 1), .int .i64 (F 2), .int .i64 (F 3)] ∧ True, [0, 1, 3], ?_⟩
              refine T_takeA (i := 0) rfl rfl (by kernel_rfl) (by kernel_rfl) (by kernel_rfl) (Y_of (fun _ ⟨hbh, _⟩ => R_loadA (vs := [.int .i64 (F 0), .int .i64 (F 1), .int .i64 (F 2), .int .i64 (F 3)]) rfl agg34 (At.pre (hbh.at_ 0) rfl) rfl)) ⟨hbh, trivial⟩ rfl ?_
              refine T_takeA (i := 1) rfl rfl (by kernel_rfl) (by kernel_rfl) (by kernel_rfl) (Y_of (fun _ ⟨hbh, _⟩ => R_assign rfl)) ⟨hbh, trivial⟩ rfl ?_
              refine T_all (rs := [2]) (by kernel_rfl) rfl (all1 (O_one rfl ?_))
              refine L_stA (vs := [.int .i64 (F 0), .int .i64 (F 1), .int .i64 (F 2), .int .i64 (F 3)]) rfl rfl rfl sz34 rfl hb2 rfl ?_
              intro w17 hb10 hs16 hz16
              replace hB := gb_trg hB hs16 ge2
              replace hS := hS.old hs16 ge2
              replace hb1 := hb1.grown hs16 (ne_lt lt1)
              replace hbh := hbh.grown hs16 (ne_gt lt3)
              replace hb6 := hb6.grown hs16 (ne_gt lt5)
              refine L_nil (N_then ⟨fun hN_ => ⟨hbh, trivial⟩, ?_⟩)
              refine T_takeA (i := 3) rfl rfl (by kernel_rfl) (by kernel_rfl) (by kernel_rfl) (Y_of (fun _ ⟨hbh, _⟩ => R_assign rfl)) ⟨hbh, trivial⟩ rfl ?_
              refine T_done (by kernel_rfl) (NoPanic.normal ?_)
              refine N_then (C_ret (R_then (R_in (R_then (R_then (R_in (R_then ?_)))))))
              refine retTCT (vs := [.int .i64 (F 0), .int .i64 (F 1), .int .i64 (F 2), .int .i64 (F 3)]) Try.results61 rfl agg34 (At.pre (hb10.at_ 0) rfl) rfl rfl rfl ?_
              first
                | (exfalso; omega)
                | (have e_ : bh first hs recs = (0, F, false) := by rw [← hv]; exact bh_bad hlk (by unfold RecOk; rintro ⟨q1, q2, q3, q4⟩; omega)
                   rw [e_]; exact ⟨hB, rfl⟩)
            · refine C_skip (N_then (C_seq (C_reg ?_)))
              refine L_run (R_field (r := 1) rfl fld78_1 rfl) rfl ?_
              refine L_run (R_load1 rfl scl3 (hb6.cell (i := 1) rfl)) rfl ?_
              refine L_run (R_field (r := 2) rfl fld78_2 rfl) rfl ?_
              refine L_run (R_load1 rfl scl3 (hb6.cell (i := 2) rfl)) rfl ?_
              have hl3 : ((recs[k]).chain).toNat < 4 := by omega
              refine L_run (R_indexArr (sz := 1) (o := 0) (a := (recs[k]).chain) (i := ((recs[k]).chain).toNat) (r := (0 + ((recs[k]).chain).toNat)) rfl rfl (by first | rfl | omega) arr34 hl3 (by first | omega | rfl | simp)) rfl ?_
              refine L_st1v rfl rfl rfl sz3 hbh (by show 0 + ((recs[k]).chain).toNat < 4; omega) ?_
              intro w18 hb11 hs17 hz17
              replace hb11 : Blk w18 g3 34 [.int .i64 ((upd F (((recs[k]).chain).toNat) ((recs[k]).lsn)) 0), .int .i64 ((upd F (((recs[k]).chain).toNat) ((recs[k]).lsn)) 1), .int .i64 ((upd F (((recs[k]).chain).toNat) ((recs[k]).lsn)) 2), .int .i64 ((upd F (((recs[k]).chain).toNat) ((recs[k]).lsn)) 3)] := Blk.cast (four_set (pre := []) (post := []) (f := F) (k := .i64) hl3) hb11
              replace hB := gb_trg hB hs17 ge3
              replace hS := hS.old hs17 ge3
              replace hb1 := hb1.grown hs17 (ne_lt lt2)
              replace hb2 := hb2.grown hs17 (ne_lt lt3)
              replace hb6 := hb6.grown hs17 (ne_gt lt6)
              refine L_nil (N_then (C_reg ?_))
              refine L_run (R_move rfl) rfl ?_
              refine L_run (R_add rfl rfl) rfl ?_
              refine L_run (R_assign rfl) rfl ?_
              refine L_nil (N_in (N_then (C_reg ?_)))
              refine L_run (R_add64 rfl rfl (by omega)) rfl ?_
              refine L_run (R_move rfl) rfl ?_
              refine L_nil (N_then ?_)
              have hst := (bh_step hlk (n := n) (h := F) (by unfold RecOk; exact ⟨by omega, by omega, by omega, by omega⟩)).symm.trans hv
              exact ⟨recs.length - (k + 1), by omega, _, (k + 1), (IntKind.i64.wrap (n + 1)), (upd F (((recs[k]).chain).toNat) ((recs[k]).lsn)), Ac_frg ⟨rfl, rfl, rfl, rfl, rfl, rfl, (agr rfl (by first | rfl | (congr 1; omega) | (congr 1; simp; done) | (congr 1; simp only [IntKind.wrap_u64, IntKind.wrap_i64, IntKind.wrap_u8]; omega) | (congr 1 <;> omega))), trivial⟩, hB, hS, hb1, hb2, hb11, (by omega), hst, rfl⟩
    · refine C_exit (X_then (X_then (X_hit (N_then (C_seq ?_)))))
      refine C_draw2 mix ?_
      intro w19 hs18 hz18
      replace hB := gb_tr hB hs18
      replace hS := hS.gb hs18
      replace hb1 := hb1.gb hs18
      replace hb2 := hb2.gb hs18
      replace hbh := hbh.gb hs18
      refine ⟨fun W_ => Blk W_ g3 34 [.int .i64 (F 0), .int .i64 (F 1), .int .i64 (F 2), .int .i64 (F 3)] ∧ True, [0, 1, 2, 4], ?_⟩
      refine T_takeA (i := 0) rfl rfl (by kernel_rfl) (by kernel_rfl) (by kernel_rfl) (Y_of (fun _ ⟨hbh, _⟩ => R_move rfl)) ⟨hbh, trivial⟩ rfl ?_
      refine T_takeA (i := 1) rfl rfl (by kernel_rfl) (by kernel_rfl) (by kernel_rfl) (Y_of (fun _ ⟨hbh, _⟩ => R_loadA (vs := [.int .i64 (F 0), .int .i64 (F 1), .int .i64 (F 2), .int .i64 (F 3)]) rfl agg34 (At.pre (hbh.at_ 0) rfl) rfl)) ⟨hbh, trivial⟩ rfl ?_
      refine T_takeA (i := 2) rfl rfl (by kernel_rfl) (by kernel_rfl) (by kernel_rfl) (Y_of (fun _ ⟨hbh, _⟩ => R_assign rfl)) ⟨hbh, trivial⟩ rfl ?_
      refine T_all (rs := [3]) (by kernel_rfl) rfl (all1 (O_one rfl ?_))
      refine L_stA (vs := [.int .i64 (F 0), .int .i64 (F 1), .int .i64 (F 2), .int .i64 (F 3)]) rfl rfl rfl sz34 rfl hb2 rfl ?_
      intro w20 hb12 hs19 hz19
      replace hB := gb_trg hB hs19 ge2
      replace hS := hS.old hs19 ge2
      replace hb1 := hb1.grown hs19 (ne_lt lt1)
      replace hbh := hbh.grown hs19 (ne_gt lt3)
      refine L_nil (N_then ⟨fun hN_ => ⟨hbh, trivial⟩, ?_⟩)
      refine T_takeA (i := 4) rfl rfl (by kernel_rfl) (by kernel_rfl) (by kernel_rfl) (Y_of (fun _ ⟨hbh, _⟩ => R_assign rfl)) ⟨hbh, trivial⟩ rfl ?_
      refine T_done (by kernel_rfl) (NoPanic.normal ?_)
      refine N_then (C_ret ?_)
      refine retTCT (vs := [.int .i64 (F 0), .int .i64 (F 1), .int .i64 (F 2), .int .i64 (F 3)]) Try.results61 rfl agg34 (At.pre (hb12.at_ 0) rfl) rfl rfl rfl ?_
      have e_ : bh first hs recs = (n, F, true) := by rw [← hv]; exact bh_end (by omega)
      rw [e_]; exact ⟨hB, rfl⟩

theorem law25_Few {w : World} {t1 lo hi hi2 : Nat} {A : Option Addr} {c : Nat} {l : List SegD} (hS : Sli t1 lo hi w A (fl encG l)) (hD : DeepG hi2 w l) (hb : l.length ≤ 2000000000000) :
    Runs Try.prog 17 #[.slice A l.length c] w (fun v w' => w.grownBy w' none ∧ v = .bool (decide (FewL l))) := by
  have hB := gb_refl w none
  replace hD : DeepG w.heap.size w l := fun y hy => (hD y hy).top
  replace hS := hS.top
  refine enter Try.func17 Try.ntmps17 rfl rfl ?_
  refine C_seq (C_reg ?_)
  refine L_run (R_assign rfl) rfl ?_
  refine L_nil (N_then (C_seq (C_reg ?_)))
  refine L_run (R_assign rfl) rfl ?_
  refine L_nil (N_then (C_seq (C_seq (C_reg ?_))))
  refine L_run (R_assign rfl) rfl ?_
  refine L_nil (N_then (C_block ?_))
  refine C_loop (fun m_ a_ w_ => ∃ (σ_ : Nat → Value) (i : Nat), a_ = Ac 49 σ_ [] [(0, .slice A l.length c), (2, .bool false), (3, .int .i64 (cnt (l.take i) : Int)), (4, .int .i64 (i : Int))] ∧ w.grownBy w_ none ∧ Sli t1 lo w.heap.size w_ A (fl encG l) ∧ DeepG w.heap.size w_ l ∧ (i ≤ l.length) ∧ (∀ g ∈ l.take i, FewG g) ∧ (cnt (l.take i) ≤ 60 * i) ∧ l.length - i = m_) (l.length - 0) ?_ ?_
  · exact ⟨_, 0, Ac_frg ⟨rfl, rfl, (agr rfl (by first | rfl | (congr 1; omega) | (congr 1; simp; done) | (congr 1; simp only [IntKind.wrap_u64, IntKind.wrap_i64, IntKind.wrap_u8]; omega) | (congr 1 <;> omega))), (agr rfl (by first | rfl | (congr 1; omega) | (congr 1; simp; done) | (congr 1; simp only [IntKind.wrap_u64, IntKind.wrap_i64, IntKind.wrap_u8]; omega) | (congr 1 <;> omega))), trivial⟩, hB, hS, hD, (by omega), (by intro g hg; simp at hg), (by simp [cnt]), rfl⟩
  · clear hB
    clear hS hD
    rintro m_ a_ w1 ⟨σ_, i, rfl, hB, hS, hD, hk, hg_, hcn, rfl⟩
    refine C_seq (C_seq (C_reg ?_))
    refine L_run (R_move rfl) rfl ?_
    refine L_run (R_move rfl) rfl ?_
    refine L_run (R_lenSl rfl slc25) rfl ?_
    refine L_run (R_lss rfl rfl) rfl ?_
    refine L_nil (N_then ?_)
    refine C_if rfl (fun h1 => ?_) (fun h1 => ?_)
    · refine C_skip (N_then (C_seq (C_block (C_seq (C_seq (C_reg ?_))))))
      refine L_run (R_move rfl) rfl ?_
      refine L_run (R_move rfl) rfl ?_
      have hli : i < l.length := by first | omega | (simp; omega)
      refine T_index (xs := l) (i := i) EncG rfl rfl (by first | rfl | omega) slc25 hli hS rfl ?_
      intro g1 o1 ha1
      refine L_run (R_field rfl fld76_1 rfl) rfl ?_
      refine L_run (R_load1 rfl scl73 (ha1 7 _ rfl)) rfl ?_
      refine L_run (R_lenSl rfl slc73) rfl ?_
      refine L_run (R_gtr rfl rfl) rfl ?_
      refine L_nil (N_then ?_)
      refine C_if rfl (fun h2 => ?_) (fun h2 => ?_)
      · refine C_seq (C_reg ?_)
        refine L_run (R_assign rfl) rfl ?_
        refine L_nil (N_then (C_ret (R_then (R_in (R_then (R_then (R_in (R_then ?_))))))))
        refine ret1 Try.results17 rfl ?_
        exact ⟨hB, bF (fun h => by have q_ := (h.1 _ (List.getElem_mem hli)).1; omega)⟩
      · refine C_skip (N_then (C_seq (C_reg ?_)))
        refine L_run (R_assign rfl) rfl ?_
        refine L_nil (N_then (C_block ?_))
        refine C_loop (fun m_ a_ w_ => ∃ (σ_ : Nat → Value) (k : Nat), a_ = Ac 49 σ_ [] [(0, .slice A l.length c), (2, .bool false), (3, .int .i64 ((cnt (l.take i) + k : Nat) : Int)), (4, .int .i64 (i : Int)), (5, .int .i64 (k : Int))] ∧ w.grownBy w_ none ∧ Sli t1 lo w.heap.size w_ A (fl encG l) ∧ DeepG w.heap.size w_ l ∧ At w_ g1 o1 [.int .u64 ((l[i]).ep), .int .i64 ((l[i]).seq), .int .i64 ((l[i]).first), .int .i64 ((l[i]).hs 0), .int .i64 ((l[i]).hs 1), .int .i64 ((l[i]).hs 2), .int .i64 ((l[i]).hs 3), .slice ((l[i]).ra) ((l[i]).recs.length) ((l[i]).rc), .slice ((l[i]).pa) ((l[i]).pn) ((l[i]).pc), .int .i64 ((l[i]).en), .int .i64 ((l[i]).kind)] ∧ (k ≤ (l[i]).recs.length) ∧ (∀ r ∈ (l[i]).recs.take k, r.dn ≤ 600) ∧ (l[i]).recs.length - k = m_) ((l[i]).recs.length - 0) ?_ ?_
        · exact ⟨_, 0, Ac_frg ⟨rfl, rfl, (agr rfl (by first | rfl | (congr 1; omega) | (congr 1; simp; done) | (congr 1; simp only [IntKind.wrap_u64, IntKind.wrap_i64, IntKind.wrap_u8]; omega) | (congr 1 <;> omega))), rfl, (agr rfl (by first | rfl | (congr 1; omega) | (congr 1; simp; done) | (congr 1; simp only [IntKind.wrap_u64, IntKind.wrap_i64, IntKind.wrap_u8]; omega) | (congr 1 <;> omega))), trivial⟩, hB, hS, hD, ha1, (by omega), (by intro r hr; simp at hr), rfl⟩
        · clear hB
          clear hS hD ha1
          rintro m_ a_ w2 ⟨σ_, k, rfl, hB, hS, hD, ha1, hk2, hr_, rfl⟩
          refine C_seq (C_seq (C_reg ?_))
          refine L_run (R_move rfl) rfl ?_
          refine L_run (R_move rfl) rfl ?_
          refine L_run (R_move rfl) rfl ?_
          have hl2 : i < l.length := by first | omega | (simp; omega)
          refine T_index (xs := l) (i := i) EncG rfl rfl (by first | rfl | omega) slc25 hl2 hS rfl ?_
          intro g2 o2 ha2
          refine L_run (R_field rfl fld76_1 rfl) rfl ?_
          refine L_run (R_load1 rfl scl73 (ha2 7 _ rfl)) rfl ?_
          refine L_run (R_lenSl rfl slc73) rfl ?_
          refine L_run (R_lss rfl rfl) rfl ?_
          refine L_nil (N_then ?_)
          refine C_if rfl (fun h3 => ?_) (fun h3 => ?_)
          · refine C_skip (N_then (C_seq (C_block (C_seq (C_seq (C_reg ?_))))))
            refine L_run (R_move rfl) rfl ?_
            refine L_run (R_move rfl) rfl ?_
            have hl3 : i < l.length := by first | omega | (simp; omega)
            refine T_index (xs := l) (i := i) EncG rfl rfl (by first | rfl | omega) slc25 hl3 hS rfl ?_
            intro g3 o3 ha3
            refine L_run (R_field rfl fld76_1 rfl) rfl ?_
            refine L_run (R_load1 rfl scl73 (ha3 7 _ rfl)) rfl ?_
            refine L_run (R_move rfl) rfl ?_
            have hlr : k < ((l[i]).recs).length := by first | omega | (simp; omega)
            refine T_index (xs := (l[i]).recs) (i := k) EncR rfl rfl (by first | rfl | omega) slc73 hlr (hD.get (i := i) (by first | assumption | omega | (simp; omega))) rfl ?_
            intro g4 o4 ha4
            refine L_run (R_field rfl fld78_4 rfl) rfl ?_
            refine L_run (R_load1 rfl scl42 (ha4 4 _ rfl)) rfl ?_
            refine L_run (R_lenSl rfl slc42) rfl ?_
            refine L_run (R_gtr rfl rfl) rfl ?_
            refine L_nil (N_then ?_)
            refine C_if rfl (fun h4 => ?_) (fun h4 => ?_)
            · refine C_seq (C_reg ?_)
              refine L_run (R_assign rfl) rfl ?_
              refine L_nil (N_then (C_ret (R_then (R_in (R_then (R_then (R_in (R_in (R_then (R_then (R_in (R_then ?_))))))))))))
              refine ret1 Try.results17 rfl ?_
              exact ⟨hB, bF (fun h => by have q_ := (h.1 _ (List.getElem_mem hli)).2 _ (List.getElem_mem hlr); omega)⟩
            · refine C_skip (N_then (C_reg ?_))
              refine L_run (R_move rfl) rfl ?_
              refine L_run (R_add64 rfl rfl (by omega)) rfl ?_
              refine L_run (R_assign rfl) rfl ?_
              refine L_nil (N_in (N_then (C_reg ?_)))
              refine L_run (R_move rfl) rfl ?_
              refine L_run (R_add64 rfl rfl (by omega)) rfl ?_
              refine L_run (R_assign rfl) rfl ?_
              refine L_nil (N_then ?_)
              exact ⟨(l[i]).recs.length - (k + 1), by omega, _, (k + 1), Ac_frg ⟨rfl, rfl, (agr rfl (by first | rfl | (congr 1; omega) | (congr 1; simp; done) | (congr 1; simp only [IntKind.wrap_u64, IntKind.wrap_i64, IntKind.wrap_u8]; omega) | (congr 1 <;> omega))), rfl, (agr rfl (by first | rfl | (congr 1; omega) | (congr 1; simp; done) | (congr 1; simp only [IntKind.wrap_u64, IntKind.wrap_i64, IntKind.wrap_u8]; omega) | (congr 1 <;> omega))), trivial⟩, hB, hS, hD, ha1, (by omega), (fewr_succ hr_ hlr (by omega)), rfl⟩
          · refine C_exit (X_then (X_then (X_hit (N_in (N_then (C_reg ?_))))))
            refine L_run (R_move rfl) rfl ?_
            refine L_run (R_add64 rfl rfl (by omega)) rfl ?_
            refine L_run (R_assign rfl) rfl ?_
            refine L_nil (N_then ?_)
            have hcs := cnt_succ hli
            exact ⟨l.length - (i + 1), by omega, _, (i + 1), Ac_frg ⟨rfl, rfl, (agr rfl (by first | rfl | (congr 1; omega) | (congr 1; simp; done) | (congr 1; simp only [IntKind.wrap_u64, IntKind.wrap_i64, IntKind.wrap_u8]; omega) | (congr 1 <;> omega))), (agr rfl (by first | rfl | (congr 1; omega) | (congr 1; simp; done) | (congr 1; simp only [IntKind.wrap_u64, IntKind.wrap_i64, IntKind.wrap_u8]; omega) | (congr 1 <;> omega))), trivial⟩, hB, hS, hD, (by omega), (fewg_succ hg_ hli ⟨by omega, by have q_ := hr_; rw [List.take_of_length_le (by omega)] at q_; exact q_⟩), (by omega), rfl⟩
    · refine C_exit (X_then (X_then (X_hit (N_then (C_seq (C_reg ?_))))))
      refine L_run (R_move rfl) rfl ?_
      refine L_run (R_lenSl rfl slc25) rfl ?_
      refine L_run (R_leq rfl rfl) rfl ?_
      refine L_run (R_move rfl) rfl ?_
      refine L_splitD (p := (l.length : Int) ≤ 10) (fun h5 => ?_) (fun h5 => ?_)
      · refine L_yes rfl rfl rfl (decide_eq_true h5) ?_
        refine L_run (R_move rfl) rfl ?_
        refine L_yes rfl rfl rfl (decide_eq_true h5) ?_
        refine L_run (R_leq rfl rfl) rfl ?_
        refine L_run (R_pickT rfl (decide_eq_true h5) rfl) rfl ?_
        refine L_run (R_assign rfl) rfl ?_
        refine L_nil (N_then (C_ret ?_))
        refine ret1 Try.results17 rfl ?_
        rw [List.take_of_length_le (by omega)] at *
        exact ⟨hB, bD ⟨fun h => ⟨hg_, by omega, by omega⟩, fun h => by have := h.2; omega⟩⟩
      · refine L_no rfl rfl rfl (decide_eq_false h5) rfl ?_
        refine L_no rfl rfl rfl (decide_eq_false h5) rfl ?_
        refine L_run (R_pickF rfl (decide_eq_false h5) rfl) rfl ?_
        refine L_run (R_assign rfl) rfl ?_
        refine L_nil (N_then (C_ret ?_))
        refine ret1 Try.results17 rfl ?_
        rw [List.take_of_length_le (by omega)] at *
        exact ⟨hB, bF (fun h => by have := h.2; omega)⟩

theorem law25_Own {w : World} {t1 lo hi : Nat} {A : Option Addr} {c : Nat} {l : List SegD} (hS : Sli t1 lo hi w A (fl encG l)) (hb : l.length ≤ 1000000) :
    Runs Try.prog 19 #[.slice A l.length c] w (fun v w' => w.grownBy w' none ∧ ∃ A' c', v = .slice A' l.length c' ∧ World.ownsRow w' w.heap.size 79 11 (.slice A' l.length c') l.length (fl encG l)) := by
  have hB := gb_refl w none
  replace hS := hS.top
  refine enter Try.func19 Try.ntmps19 rfl rfl ?_
  refine C_seq (C_reg ?_)
  refine L_run (R_assign rfl) rfl ?_
  refine L_nil (N_then (C_seq (C_reg ?_)))
  refine L_run (R_assign rfl) rfl ?_
  refine L_nil (N_then (C_seq (C_seq (C_reg ?_))))
  refine L_run (R_assign rfl) rfl ?_
  refine L_nil (N_then (C_block ?_))
  refine C_loop (fun m_ a_ w_ => ∃ (σ_ : Nat → Value) (A' : Option Addr) (c' : Nat) (k : Nat), a_ = Ac 19 σ_ [] [(0, .slice A l.length c), (2, .slice none 0 0), (3, .slice A' ((l.take k).length) c'), (4, .int .i64 (k : Int))] ∧ w.grownBy w_ none ∧ Sli t1 lo w.heap.size w_ A (fl encG l) ∧ World.ownsRow w_ w.heap.size 79 11 (.slice A' (l.take k).length c') (l.take k).length (fl encG (l.take k)) ∧ (k ≤ l.length) ∧ l.length - k = m_) (l.length - 0) ?_ ?_
  · exact ⟨_, none, 0, 0, Ac_frg ⟨rfl, rfl, (agr rfl (by first | rfl | (congr 1; omega) | (congr 1; simp; done) | (congr 1; simp only [IntKind.wrap_u64, IntKind.wrap_i64, IntKind.wrap_u8]; omega) | (congr 1 <;> omega))), (agr rfl (by first | rfl | (congr 1; omega) | (congr 1; simp; done) | (congr 1; simp only [IntKind.wrap_u64, IntKind.wrap_i64, IntKind.wrap_u8]; omega) | (congr 1 <;> omega))), trivial⟩, hB, hS, (own_nil w.heap.size 79 11 _), (Nat.zero_le _), rfl⟩
  · clear hB
    clear hS
    rintro m_ a_ w1 ⟨σ_, A', c', k, rfl, hB, hS, ho, hk, rfl⟩
    refine C_seq (C_seq (C_reg ?_))
    refine L_run (R_move rfl) rfl ?_
    refine L_run (R_move rfl) rfl ?_
    refine L_run (R_lenSl rfl slc25) rfl ?_
    refine L_run (R_lss rfl rfl) rfl ?_
    refine L_nil (N_then ?_)
    refine C_if rfl (fun h1 => ?_) (fun h1 => ?_)
    · refine C_skip (N_then (C_seq (C_block (C_reg ?_))))
      refine L_run (R_move rfl) rfl ?_
      refine L_run (R_move rfl) rfl ?_
      refine L_run (R_move rfl) rfl ?_
      have hli : k < l.length := by first | omega | (simp; omega)
      refine T_index (xs := l) (i := k) EncG rfl rfl (by first | rfl | omega) slc25 hli hS rfl ?_
      intro g1 o1 ha1
      refine L_run (R_loadA (vs := [.int .u64 ((l[k]).ep), .int .i64 ((l[k]).seq), .int .i64 ((l[k]).first), .int .i64 ((l[k]).hs 0), .int .i64 ((l[k]).hs 1), .int .i64 ((l[k]).hs 2), .int .i64 ((l[k]).hs 3), .slice ((l[k]).ra) ((l[k]).recs.length) ((l[k]).rc), .slice ((l[k]).pa) ((l[k]).pn) ((l[k]).pc), .int .i64 ((l[k]).en), .int .i64 ((l[k]).kind)]) rfl agg76 (At.pre ha1 rfl) rfl) rfl ?_
      refine L_buildSlice (pv := [(0, .agg #[.int .u64 ((l[k]).ep), .int .i64 ((l[k]).seq), .int .i64 ((l[k]).first), .int .i64 ((l[k]).hs 0), .int .i64 ((l[k]).hs 1), .int .i64 ((l[k]).hs 2), .int .i64 ((l[k]).hs 3), .slice ((l[k]).ra) ((l[k]).recs.length) ((l[k]).rc), .slice ((l[k]).pa) ((l[k]).pn) ((l[k]).pc), .int .i64 ((l[k]).en), .int .i64 ((l[k]).kind)])]) (cs := [.int .u64 ((l[k]).ep), .int .i64 ((l[k]).seq), .int .i64 ((l[k]).first), .int .i64 ((l[k]).hs 0), .int .i64 ((l[k]).hs 1), .int .i64 ((l[k]).hs 2), .int .i64 ((l[k]).hs 3), .slice ((l[k]).ra) ((l[k]).recs.length) ((l[k]).rc), .slice ((l[k]).pa) ((l[k]).pn) ((l[k]).pc), .int .i64 ((l[k]).en), .int .i64 ((l[k]).kind)]) slc27 zer79 rfl rfl (by kernel_rfl) rfl ?_
      intro g2 w2 eg1 hb1 hs1 hz1
      have ge1 : w.heap.size ≤ g2 := eg_ge hB eg1
      have hap1 : ∀ k_, (Value.slice A' (l.take k).length c').ownBlock = some k_ → k_ ≠ g2 := fun k_ hk => by have h_ := (World.ownsRow.lt ho k_ hk).2; omega
      replace hB := gb_tr hB hs1
      replace hS := hS.gb hs1
      replace ho := own_gb ho hs1
      replace ha1 := At.gb ha1 hs1 (by simp)
      refine T_append (xs := l.take k) (ys := [(l[k])]) EncG slc27 rfl rfl ho (Blk.sli (m := 0) hb1) (by rw [List.length_take]; simp; omega) (by have := hB.size; omega) rfl ?_
      intro A_1 c_1 w3 ho1 hs2 hat1
      replace hB := gb_tro hB ho hs2 (Nat.le_refl _)
      replace hS := hS.grown hs2 (fun k hk => .inr (Nat.le_trans (Nat.le_refl _) (World.ownsRow.lt ho k hk).1))
      refine L_run (R_assign rfl) rfl ?_
      refine L_nil (N_in (N_then (C_reg ?_)))
      refine L_run (R_move rfl) rfl ?_
      refine L_run (R_add64 rfl rfl (by omega)) rfl ?_
      refine L_run (R_assign rfl) rfl ?_
      refine L_nil (N_then ?_)
      have e_ : (l.take k) ++ ([(l[k])]) = l.take (k + 1) := (List.take_succ_eq_append_getElem hli).symm
      rw [e_] at ho1 ⊢
      exact ⟨l.length - (k + 1), by omega, _, A_1, c_1, (k + 1), Ac_frg ⟨rfl, rfl, rfl, (agr rfl (by first | rfl | (congr 1; omega) | (congr 1; simp; done) | (congr 1; simp only [IntKind.wrap_u64, IntKind.wrap_i64, IntKind.wrap_u8]; omega) | (congr 1 <;> omega))), trivial⟩, hB, hS, ho1, (by omega), rfl⟩
    · refine C_exit (X_then (X_then (X_hit (N_then (C_seq (C_reg ?_))))))
      refine L_run (R_move rfl) rfl ?_
      refine L_run (R_assign rfl) rfl ?_
      refine L_nil (N_then (C_ret ?_))
      refine ret1 Try.results19 rfl ?_
      have e_ : l.take k = l := List.take_of_length_le (by omega)
      rw [e_] at ho ⊢; exact ⟨hB, _, _, rfl, (own_lo ho (Nat.le_refl _))⟩

theorem live_Check1 {w : World} {g6 : Nat} {rn : Nat} {rc : Nat} {pn : Nat} {pc : Nat} {ep : Int} {seq : Int} {first : Int} {en : Int} {kind : Int} {hs : Nat → Int} {ra : Option Addr} {pa : Option Addr} (hb6 : Blk w g6 79 [.int .u64 ep, .int .i64 seq, .int .i64 first, .int .i64 (hs 0), .int .i64 (hs 1), .int .i64 (hs 2), .int .i64 (hs 3), .slice ra rn rc, .slice pa pn pc, .int .i64 en, .int .i64 kind]) :
    Runs Try.prog 62 #[.pointer (some ⟨g6, 0, none⟩)] w (fun v w' => w.grownBy w' none ∧ v = .bool (decide (kind ≠ 1))) := by
  have hB := gb_refl w none
  refine enter Try.func62 Try.ntmps62 rfl rfl ?_
  refine C_seq (C_reg ?_)
  refine L_run (R_assign rfl) rfl ?_
  refine L_nil (N_then (C_seq (C_reg ?_)))
  refine L_run (R_field (r := 10) rfl fld79_4 rfl) rfl ?_
  refine L_run (R_load1 rfl scl3 (hb6.cell (i := 10) rfl)) rfl ?_
  refine L_run (R_neq rfl rfl) rfl ?_
  refine L_run (R_assign rfl) rfl ?_
  refine L_nil (N_then (C_ret ?_))
  refine ret1 Try.results62 rfl ?_
  first
    | (exfalso; omega)
    | (exact ⟨hB, bD (by first | exact Iff.rfl | (constructor <;> intro q_ <;> first | exact .inr q_ | (rcases q_ with q_ | q_ <;> first | exact q_ | contradiction) | omega))⟩)
theorem live_Check4_1 {w : World} {g6 : Nat} {rn : Nat} {rc : Nat} {pn : Nat} {pc : Nat} {ep : Int} {seq : Int} {first : Int} {en : Int} {kind : Int} {hs : Nat → Int} {ra : Option Addr} {pa : Option Addr} (hb6 : Blk w g6 79 [.int .u64 ep, .int .i64 seq, .int .i64 first, .int .i64 (hs 0), .int .i64 (hs 1), .int .i64 (hs 2), .int .i64 (hs 3), .slice ra rn rc, .slice pa pn pc, .int .i64 en, .int .i64 kind]) :
    Runs Try.prog 66 #[.func (.func 62) #[] #[.pointer (some ⟨g6, 0, none⟩)]] w (fun v w' => w.grownBy w' none ∧ v = .bool (decide (kind ≠ 1))) := by
  have hB := gb_refl w none
  refine enter Try.func66 Try.ntmps66 rfl rfl ?_
  refine C_seq (C_reg ?_)
  refine L_run (R_assign rfl) rfl ?_
  refine L_nil (N_then (C_seq (C_reg ?_)))
  refine L_run (R_move rfl) rfl ?_
  refine L_callV (first := []) (cap := [.pointer (some ⟨g6, 0, none⟩)]) rfl rfl cb62 (live_Check1 hb6) rfl ?_
  rintro _ w1 ⟨hs1, rfl⟩
  replace hB := gb_tr hB hs1
  replace hb6 := hb6.gb hs1
  refine L_run (R_assign rfl) rfl ?_
  refine L_nil (N_then (C_ret ?_))
  refine ret1 Try.results66 rfl ?_
  exact ⟨hB, rfl⟩
theorem live_Check2 {w : World} {g6 : Nat} {g10 : Nat} {rn : Nat} {rc : Nat} {pn : Nat} {pc : Nat} {ep : Int} {seq : Int} {first : Int} {en : Int} {kind : Int} {ep2 : Int} {seq2 : Int} {first2 : Int} {hs : Nat → Int} {hs2 : Nat → Int} {ra : Option Addr} {pa : Option Addr} (hb10 : Blk w g10 72 [.int .u64 ep2, .int .i64 seq2, .int .i64 first2, .int .i64 (hs2 0), .int .i64 (hs2 1), .int .i64 (hs2 2), .int .i64 (hs2 3)]) (hb6 : Blk w g6 79 [.int .u64 ep, .int .i64 seq, .int .i64 first, .int .i64 (hs 0), .int .i64 (hs 1), .int .i64 (hs 2), .int .i64 (hs 3), .slice ra rn rc, .slice pa pn pc, .int .i64 en, .int .i64 kind]) :
    Runs Try.prog 63 #[.pointer (some ⟨g10, 0, none⟩), .pointer (some ⟨g6, 0, none⟩)] w (fun v w' => w.grownBy w' none ∧ v = .bool (decide (seq2 ≠ IntKind.i64.wrap (seq + 1) ∨ ep2 ≤ ep))) := by
  have hB := gb_refl w none
  refine enter Try.func63 Try.ntmps63 rfl rfl ?_
  refine C_seq (C_reg ?_)
  refine L_run (R_assign rfl) rfl ?_
  refine L_nil (N_then (C_seq (C_reg ?_)))
  refine L_run (R_field (r := 1) rfl fld72_1 rfl) rfl ?_
  refine L_run (R_load1 rfl scl3 (hb10.cell (i := 1) rfl)) rfl ?_
  refine L_run (R_field (r := 0) rfl fld79_0 rfl) rfl ?_
  refine L_run (R_field (r := 1) rfl fld72_1 rfl) rfl ?_
  refine L_run (R_load1 rfl scl3 (hb6.cell (i := 1) rfl)) rfl ?_
  refine L_run (R_add rfl rfl) rfl ?_
  refine L_run (R_neq rfl rfl) rfl ?_
  refine L_run (R_move rfl) rfl ?_
  refine L_splitD (p := seq2 ≠ IntKind.i64.wrap (seq + 1)) (fun h1 => ?_) (fun h1 => ?_)
  · refine L_no rfl rfl rfl (decide_eq_true h1) rfl ?_
    refine L_no rfl rfl rfl (decide_eq_true h1) rfl ?_
    refine L_no rfl rfl rfl (decide_eq_true h1) rfl ?_
    refine L_no rfl rfl rfl (decide_eq_true h1) rfl ?_
    refine L_no rfl rfl rfl (decide_eq_true h1) rfl ?_
    refine L_no rfl rfl rfl (decide_eq_true h1) rfl ?_
    refine L_run (R_pickT rfl (decide_eq_true h1) rfl) rfl ?_
    refine L_run (R_assign rfl) rfl ?_
    refine L_nil (N_then (C_ret ?_))
    refine ret1 Try.results63 rfl ?_
    exact ⟨hB, bT (by first | exact .inl (by assumption) | assumption)⟩
  · refine L_yes rfl rfl rfl (decide_eq_false h1) ?_
    refine L_run (R_field (r := 0) rfl fld72_0 rfl) rfl ?_
    refine L_yes rfl rfl rfl (decide_eq_false h1) ?_
    refine L_run (R_load1 rfl scl70 (hb10.cell (i := 0) rfl)) rfl ?_
    refine L_yes rfl rfl rfl (decide_eq_false h1) ?_
    refine L_run (R_field (r := 0) rfl fld79_0 rfl) rfl ?_
    refine L_yes rfl rfl rfl (decide_eq_false h1) ?_
    refine L_run (R_field (r := 0) rfl fld72_0 rfl) rfl ?_
    refine L_yes rfl rfl rfl (decide_eq_false h1) ?_
    refine L_run (R_load1 rfl scl70 (hb6.cell (i := 0) rfl)) rfl ?_
    refine L_yes rfl rfl rfl (decide_eq_false h1) ?_
    refine L_run (R_leq rfl rfl) rfl ?_
    refine L_run (R_pickF rfl (decide_eq_false h1) rfl) rfl ?_
    refine L_run (R_assign rfl) rfl ?_
    refine L_nil (N_then (C_ret ?_))
    refine ret1 Try.results63 rfl ?_
    first
      | (exfalso; omega)
      | (exact ⟨hB, bD (by first | exact Iff.rfl | (constructor <;> intro q_ <;> first | exact .inr q_ | (rcases q_ with q_ | q_ <;> first | exact q_ | contradiction) | omega))⟩)
theorem live_Check4_2 {w : World} {g6 : Nat} {g10 : Nat} {rn : Nat} {rc : Nat} {pn : Nat} {pc : Nat} {ep : Int} {seq : Int} {first : Int} {en : Int} {kind : Int} {ep2 : Int} {seq2 : Int} {first2 : Int} {hs : Nat → Int} {hs2 : Nat → Int} {ra : Option Addr} {pa : Option Addr} (hb10 : Blk w g10 72 [.int .u64 ep2, .int .i64 seq2, .int .i64 first2, .int .i64 (hs2 0), .int .i64 (hs2 1), .int .i64 (hs2 2), .int .i64 (hs2 3)]) (hb6 : Blk w g6 79 [.int .u64 ep, .int .i64 seq, .int .i64 first, .int .i64 (hs 0), .int .i64 (hs 1), .int .i64 (hs 2), .int .i64 (hs 3), .slice ra rn rc, .slice pa pn pc, .int .i64 en, .int .i64 kind]) :
    Runs Try.prog 66 #[.func (.func 63) #[] #[.pointer (some ⟨g10, 0, none⟩), .pointer (some ⟨g6, 0, none⟩)]] w (fun v w' => w.grownBy w' none ∧ v = .bool (decide (seq2 ≠ IntKind.i64.wrap (seq + 1) ∨ ep2 ≤ ep))) := by
  have hB := gb_refl w none
  refine enter Try.func66 Try.ntmps66 rfl rfl ?_
  refine C_seq (C_reg ?_)
  refine L_run (R_assign rfl) rfl ?_
  refine L_nil (N_then (C_seq (C_reg ?_)))
  refine L_run (R_move rfl) rfl ?_
  refine L_callV (first := []) (cap := [.pointer (some ⟨g10, 0, none⟩), .pointer (some ⟨g6, 0, none⟩)]) rfl rfl cb63 (live_Check2 hb10 hb6) rfl ?_
  rintro _ w1 ⟨hs1, rfl⟩
  replace hB := gb_tr hB hs1
  replace hb10 := hb10.gb hs1
  replace hb6 := hb6.gb hs1
  refine L_run (R_assign rfl) rfl ?_
  refine L_nil (N_then (C_ret ?_))
  refine ret1 Try.results66 rfl ?_
  exact ⟨hB, rfl⟩
theorem live_Check3 {w : World} {g10 : Nat} {g7 : Nat} {g8 : Nat} {ep2 : Int} {seq2 : Int} {first2 : Int} {nx : Int} {hs2 : Nat → Int} {hd : Nat → Int} (hb10 : Blk w g10 72 [.int .u64 ep2, .int .i64 seq2, .int .i64 first2, .int .i64 (hs2 0), .int .i64 (hs2 1), .int .i64 (hs2 2), .int .i64 (hs2 3)]) (hb7 : Blk w g7 3 [.int .i64 nx]) (hb8 : Blk w g8 34 [.int .i64 (hd 0), .int .i64 (hd 1), .int .i64 (hd 2), .int .i64 (hd 3)]) :
    Runs Try.prog 64 #[.pointer (some ⟨g10, 0, none⟩), .pointer (some ⟨g7, 0, none⟩), .pointer (some ⟨g8, 0, none⟩)] w (fun v w' => w.grownBy w' none ∧ v = .bool (decide (first2 ≠ nx ∨ ¬ (hs2 0 = hd 0 ∧ hs2 1 = hd 1 ∧ hs2 2 = hd 2 ∧ hs2 3 = hd 3 ∧ True)))) := by
  have hB := gb_refl w none
  refine enter Try.func64 Try.ntmps64 rfl rfl ?_
  refine C_seq (C_reg ?_)
  refine L_run (R_assign rfl) rfl ?_
  refine L_nil (N_then (C_seq (C_reg ?_)))
  refine L_run (R_field (r := 2) rfl fld72_2 rfl) rfl ?_
  refine L_run (R_load1 rfl scl3 (hb10.cell (i := 2) rfl)) rfl ?_
  refine L_run (R_load1 rfl scl3 (hb7.cell (i := 0) rfl)) rfl ?_
  refine L_run (R_neq rfl rfl) rfl ?_
  refine L_run (R_move rfl) rfl ?_
  refine L_splitD (p := first2 ≠ nx) (fun h1 => ?_) (fun h1 => ?_)
  · refine L_no rfl rfl rfl (decide_eq_true h1) rfl ?_
    refine L_no rfl rfl rfl (decide_eq_true h1) rfl ?_
    refine L_no rfl rfl rfl (decide_eq_true h1) rfl ?_
    refine L_no rfl rfl rfl (decide_eq_true h1) rfl ?_
    refine L_run (R_pickT rfl (decide_eq_true h1) rfl) rfl ?_
    refine L_run (R_assign rfl) rfl ?_
    refine L_nil (N_then (C_ret ?_))
    refine ret1 Try.results64 rfl ?_
    exact ⟨hB, bT (by first | exact .inl (by assumption) | assumption)⟩
  · refine L_yes rfl rfl rfl (decide_eq_false h1) ?_
    refine L_run (R_field (r := 3) rfl fld72_3 rfl) rfl ?_
    refine L_yes rfl rfl rfl (decide_eq_false h1) ?_
    refine L_run (R_loadA (vs := [.int .i64 (hs2 0), .int .i64 (hs2 1), .int .i64 (hs2 2), .int .i64 (hs2 3)]) rfl agg34 (At.pre (hb10.at_ 3) rfl) rfl) rfl ?_
    refine L_yes rfl rfl rfl (decide_eq_false h1) ?_
    refine L_run (R_loadA (vs := [.int .i64 (hd 0), .int .i64 (hd 1), .int .i64 (hd 2), .int .i64 (hd 3)]) rfl agg34 (At.pre (hb8.at_ 0) rfl) rfl) rfl ?_
    refine L_yes rfl rfl rfl (decide_eq_false h1) ?_
    refine L_run (R_neqA rfl rfl eqg34 (eqs_arr4 arr34 int3 scl3)) rfl ?_
    refine L_run (R_pickF rfl (decide_eq_false h1) rfl) rfl ?_
    refine L_run (R_assign rfl) rfl ?_
    refine L_nil (N_then (C_ret ?_))
    refine ret1 Try.results64 rfl ?_
    first
      | (exfalso; omega)
      | (exact ⟨hB, bD (by first | exact Iff.rfl | (constructor <;> intro q_ <;> first | exact .inr q_ | (rcases q_ with q_ | q_ <;> first | exact q_ | contradiction) | omega))⟩)
theorem live_Check4_3 {w : World} {g10 : Nat} {g7 : Nat} {g8 : Nat} {ep2 : Int} {seq2 : Int} {first2 : Int} {nx : Int} {hs2 : Nat → Int} {hd : Nat → Int} (hb10 : Blk w g10 72 [.int .u64 ep2, .int .i64 seq2, .int .i64 first2, .int .i64 (hs2 0), .int .i64 (hs2 1), .int .i64 (hs2 2), .int .i64 (hs2 3)]) (hb7 : Blk w g7 3 [.int .i64 nx]) (hb8 : Blk w g8 34 [.int .i64 (hd 0), .int .i64 (hd 1), .int .i64 (hd 2), .int .i64 (hd 3)]) :
    Runs Try.prog 66 #[.func (.func 64) #[] #[.pointer (some ⟨g10, 0, none⟩), .pointer (some ⟨g7, 0, none⟩), .pointer (some ⟨g8, 0, none⟩)]] w (fun v w' => w.grownBy w' none ∧ v = .bool (decide (first2 ≠ nx ∨ ¬ (hs2 0 = hd 0 ∧ hs2 1 = hd 1 ∧ hs2 2 = hd 2 ∧ hs2 3 = hd 3 ∧ True)))) := by
  have hB := gb_refl w none
  refine enter Try.func66 Try.ntmps66 rfl rfl ?_
  refine C_seq (C_reg ?_)
  refine L_run (R_assign rfl) rfl ?_
  refine L_nil (N_then (C_seq (C_reg ?_)))
  refine L_run (R_move rfl) rfl ?_
  refine L_callV (first := []) (cap := [.pointer (some ⟨g10, 0, none⟩), .pointer (some ⟨g7, 0, none⟩), .pointer (some ⟨g8, 0, none⟩)]) rfl rfl cb64 (live_Check3 hb10 hb7 hb8) rfl ?_
  rintro _ w1 ⟨hs1, rfl⟩
  replace hB := gb_tr hB hs1
  replace hb10 := hb10.gb hs1
  replace hb7 := hb7.gb hs1
  replace hb8 := hb8.gb hs1
  refine L_run (R_assign rfl) rfl ?_
  refine L_nil (N_then (C_ret ?_))
  refine ret1 Try.results66 rfl ?_
  exact ⟨hB, rfl⟩
theorem indexFunc3 {w : World} {gs : Nat} {g6 : Nat} {g10 : Nat} {g7 : Nat} {g8 : Nat} {rn : Nat} {rc : Nat} {pn : Nat} {pc : Nat} {ep : Int} {seq : Int} {first : Int} {en : Int} {kind : Int} {ep2 : Int} {seq2 : Int} {first2 : Int} {nx : Int} {hs : Nat → Int} {hs2 : Nat → Int} {hd : Nat → Int} {ra : Option Addr} {pa : Option Addr} (hsb : Blk w gs 24 [.func (.func 62) #[] #[.pointer (some ⟨g6, 0, none⟩)], .func (.func 63) #[] #[.pointer (some ⟨g10, 0, none⟩), .pointer (some ⟨g6, 0, none⟩)], .func (.func 64) #[] #[.pointer (some ⟨g10, 0, none⟩), .pointer (some ⟨g7, 0, none⟩), .pointer (some ⟨g8, 0, none⟩)]]) (hb6 : Blk w g6 79 [.int .u64 ep, .int .i64 seq, .int .i64 first, .int .i64 (hs 0), .int .i64 (hs 1), .int .i64 (hs 2), .int .i64 (hs 3), .slice ra rn rc, .slice pa pn pc, .int .i64 en, .int .i64 kind]) (hb10 : Blk w g10 72 [.int .u64 ep2, .int .i64 seq2, .int .i64 first2, .int .i64 (hs2 0), .int .i64 (hs2 1), .int .i64 (hs2 2), .int .i64 (hs2 3)]) (hb7 : Blk w g7 3 [.int .i64 nx]) (hb8 : Blk w g8 34 [.int .i64 (hd 0), .int .i64 (hd 1), .int .i64 (hd 2), .int .i64 (hd 3)]) :
    Runs Try.prog 80 #[.slice (some ⟨gs, 0, none⟩) 3 3, .func (.func 66) #[] #[]] w (fun v w' => w.grownBy w' none ∧ v = .int .i64 (if kind ≠ 1 then 0 else if seq2 ≠ IntKind.i64.wrap (seq + 1) ∨ ep2 ≤ ep then 1 else if first2 ≠ nx ∨ ¬ (hs2 0 = hd 0 ∧ hs2 1 = hd 1 ∧ hs2 2 = hd 2 ∧ hs2 3 = hd 3 ∧ True) then 2 else -1)) := by
  have hB := gb_refl w none
  refine enter Try.func80 Try.ntmps80 rfl rfl ?_
  refine C_seq (C_reg ?_)
  refine L_run (R_assign rfl) rfl ?_
  refine L_nil (N_then (C_seq (C_seq (C_reg ?_))))
  refine L_run (R_move rfl) rfl ?_
  refine L_run (R_eqv (R_lenSl rfl slc83) (v' := .int .i64 3) rfl) rfl ?_
  refine L_run (R_move rfl) rfl ?_
  refine L_nil (N_then (C_block ?_))
  refine C_loop (fun m_ a_ w_ => ∃ (σ_ : Nat → Value) (k : Nat), a_ = Ac 19 σ_ [] [(0, .slice (some ⟨gs, 0, none⟩) 3 3), (1, .func (.func 66) #[] #[]), (4, .int .i64 0), (7, .int .i64 3), (8, .int .i64 (k : Int))] ∧ w.grownBy w_ none ∧ Blk w_ gs 24 [.func (.func 62) #[] #[.pointer (some ⟨g6, 0, none⟩)], .func (.func 63) #[] #[.pointer (some ⟨g10, 0, none⟩), .pointer (some ⟨g6, 0, none⟩)], .func (.func 64) #[] #[.pointer (some ⟨g10, 0, none⟩), .pointer (some ⟨g7, 0, none⟩), .pointer (some ⟨g8, 0, none⟩)]] ∧ Blk w_ g6 79 [.int .u64 ep, .int .i64 seq, .int .i64 first, .int .i64 (hs 0), .int .i64 (hs 1), .int .i64 (hs 2), .int .i64 (hs 3), .slice ra rn rc, .slice pa pn pc, .int .i64 en, .int .i64 kind] ∧ Blk w_ g10 72 [.int .u64 ep2, .int .i64 seq2, .int .i64 first2, .int .i64 (hs2 0), .int .i64 (hs2 1), .int .i64 (hs2 2), .int .i64 (hs2 3)] ∧ Blk w_ g7 3 [.int .i64 nx] ∧ Blk w_ g8 34 [.int .i64 (hd 0), .int .i64 (hd 1), .int .i64 (hd 2), .int .i64 (hd 3)] ∧ (k ≤ 3) ∧ (0 < k → ¬ (kind ≠ 1)) ∧ (1 < k → ¬ (seq2 ≠ IntKind.i64.wrap (seq + 1) ∨ ep2 ≤ ep)) ∧ (2 < k → ¬ (first2 ≠ nx ∨ ¬ (hs2 0 = hd 0 ∧ hs2 1 = hd 1 ∧ hs2 2 = hd 2 ∧ hs2 3 = hd 3 ∧ True))) ∧ 4 - k = m_) (4 - 0) ?_ ?_
  · exact ⟨_, 0, Ac_frg ⟨rfl, rfl, rfl, rfl, rfl, trivial⟩, hB, hsb, hb6, hb10, hb7, hb8, (by omega), (fun hq => absurd hq (by omega)), (fun hq => absurd hq (by omega)), (fun hq => absurd hq (by omega)), rfl⟩
  · clear hB
    clear hsb hb6 hb10 hb7 hb8
    rintro m_ a_ w1 ⟨σ_, k, rfl, hB, hsb, hb6, hb10, hb7, hb8, hk, hn0, hn1, hn2, rfl⟩
    rcases (four (Nat.lt_succ_of_le hk)) with rfl | rfl | rfl | rfl
    · refine C_seq (C_reg ?_)
      refine L_run (R_eqv (R_lss rfl rfl) (v' := .bool true) rfl) rfl ?_
      refine L_nil (N_then (C_seq (C_condT rfl rfl (C_skip (N_then (C_seq (C_block (C_seq (C_reg ?_)))))))))
      refine L_run (R_move rfl) rfl ?_
      refine L_run (R_assign rfl) rfl ?_
      refine L_nil (N_then (C_seq (C_reg ?_)))
      refine L_run (R_move rfl) rfl ?_
      refine L_run (R_move rfl) rfl ?_
      refine L_run (R_move rfl) rfl ?_
      refine L_run (R_indexE (i := 0) (m := 3) (r := 0) rfl rfl rfl slc83 (by decide) rfl rfl) rfl ?_
      refine L_run (R_load1 rfl scl24 (hsb.cell (i := 0) rfl)) rfl ?_
      refine L_callV (first := []) (cap := []) rfl rfl cb66 (live_Check4_1 hb6) rfl ?_
      rintro _ w2 ⟨hs1, rfl⟩
      replace hB := gb_tr hB hs1
      replace hsb := hsb.gb hs1
      replace hb6 := hb6.gb hs1
      replace hb10 := hb10.gb hs1
      replace hb7 := hb7.gb hs1
      replace hb8 := hb8.gb hs1
      refine L_nil (N_then ?_)
      refine C_if rfl (fun h1 => ?_) (fun h1 => ?_)
      · refine C_seq (C_reg ?_)
        refine L_run (R_move rfl) rfl ?_
        refine L_run (R_assign rfl) rfl ?_
        refine L_nil (N_then (C_ret (R_in (R_then (R_then (R_in (R_then ?_)))))))
        refine ret1 Try.results80 rfl ?_
        rw [if_pos (by assumption)]; exact ⟨hB, rfl⟩
      · refine C_skip (N_in (N_then (C_reg ?_)))
        refine L_run (R_add64 rfl rfl (by omega)) rfl ?_
        refine L_run (R_move rfl) rfl ?_
        refine L_nil (N_then ?_)
        exact ⟨4 - 1, by omega, _, 1, Ac_frg ⟨rfl, rfl, rfl, rfl, (agr rfl (by first | rfl | (congr 1; omega) | (congr 1; simp; done) | (congr 1; simp only [IntKind.wrap_u64, IntKind.wrap_i64, IntKind.wrap_u8]; omega) | (congr 1 <;> omega))), trivial⟩, hB, hsb, hb6, hb10, hb7, hb8, (by omega), (fun _ => h1), (fun hq => absurd hq (by omega)), (fun hq => absurd hq (by omega)), rfl⟩
    · refine C_seq (C_reg ?_)
      refine L_run (R_eqv (R_lss rfl rfl) (v' := .bool true) rfl) rfl ?_
      refine L_nil (N_then (C_seq (C_condT rfl rfl (C_skip (N_then (C_seq (C_block (C_seq (C_reg ?_)))))))))
      refine L_run (R_move rfl) rfl ?_
      refine L_run (R_assign rfl) rfl ?_
      refine L_nil (N_then (C_seq (C_reg ?_)))
      refine L_run (R_move rfl) rfl ?_
      refine L_run (R_move rfl) rfl ?_
      refine L_run (R_move rfl) rfl ?_
      refine L_run (R_indexE (i := 1) (m := 3) (r := 1) rfl rfl rfl slc83 (by decide) rfl rfl) rfl ?_
      refine L_run (R_load1 rfl scl24 (hsb.cell (i := 1) rfl)) rfl ?_
      refine L_callV (first := []) (cap := []) rfl rfl cb66 (live_Check4_2 hb10 hb6) rfl ?_
      rintro _ w3 ⟨hs2, rfl⟩
      replace hB := gb_tr hB hs2
      replace hsb := hsb.gb hs2
      replace hb6 := hb6.gb hs2
      replace hb10 := hb10.gb hs2
      replace hb7 := hb7.gb hs2
      replace hb8 := hb8.gb hs2
      refine L_nil (N_then ?_)
      refine C_if rfl (fun h2 => ?_) (fun h2 => ?_)
      · refine C_seq (C_reg ?_)
        refine L_run (R_move rfl) rfl ?_
        refine L_run (R_assign rfl) rfl ?_
        refine L_nil (N_then (C_ret (R_in (R_then (R_then (R_in (R_then ?_)))))))
        refine ret1 Try.results80 rfl ?_
        rw [if_neg (hn0 (by omega)), if_pos (by assumption)]; exact ⟨hB, rfl⟩
      · refine C_skip (N_in (N_then (C_reg ?_)))
        refine L_run (R_add64 rfl rfl (by omega)) rfl ?_
        refine L_run (R_move rfl) rfl ?_
        refine L_nil (N_then ?_)
        exact ⟨4 - 2, by omega, _, 2, Ac_frg ⟨rfl, rfl, rfl, rfl, (agr rfl (by first | rfl | (congr 1; omega) | (congr 1; simp; done) | (congr 1; simp only [IntKind.wrap_u64, IntKind.wrap_i64, IntKind.wrap_u8]; omega) | (congr 1 <;> omega))), trivial⟩, hB, hsb, hb6, hb10, hb7, hb8, (by omega), (fun _ => hn0 (by omega)), (fun _ => h2), (fun hq => absurd hq (by omega)), rfl⟩
    · refine C_seq (C_reg ?_)
      refine L_run (R_eqv (R_lss rfl rfl) (v' := .bool true) rfl) rfl ?_
      refine L_nil (N_then (C_seq (C_condT rfl rfl (C_skip (N_then (C_seq (C_block (C_seq (C_reg ?_)))))))))
      refine L_run (R_move rfl) rfl ?_
      refine L_run (R_assign rfl) rfl ?_
      refine L_nil (N_then (C_seq (C_reg ?_)))
      refine L_run (R_move rfl) rfl ?_
      refine L_run (R_move rfl) rfl ?_
      refine L_run (R_move rfl) rfl ?_
      refine L_run (R_indexE (i := 2) (m := 3) (r := 2) rfl rfl rfl slc83 (by decide) rfl rfl) rfl ?_
      refine L_run (R_load1 rfl scl24 (hsb.cell (i := 2) rfl)) rfl ?_
      refine L_callV (first := []) (cap := []) rfl rfl cb66 (live_Check4_3 hb10 hb7 hb8) rfl ?_
      rintro _ w4 ⟨hs3, rfl⟩
      replace hB := gb_tr hB hs3
      replace hsb := hsb.gb hs3
      replace hb6 := hb6.gb hs3
      replace hb10 := hb10.gb hs3
      replace hb7 := hb7.gb hs3
      replace hb8 := hb8.gb hs3
      refine L_nil (N_then ?_)
      refine C_if rfl (fun h3 => ?_) (fun h3 => ?_)
      · refine C_seq (C_reg ?_)
        refine L_run (R_move rfl) rfl ?_
        refine L_run (R_assign rfl) rfl ?_
        refine L_nil (N_then (C_ret (R_in (R_then (R_then (R_in (R_then ?_)))))))
        refine ret1 Try.results80 rfl ?_
        rw [if_neg (hn0 (by omega)), if_neg (hn1 (by omega)), if_pos (by assumption)]; exact ⟨hB, rfl⟩
      · refine C_skip (N_in (N_then (C_reg ?_)))
        refine L_run (R_add64 rfl rfl (by omega)) rfl ?_
        refine L_run (R_move rfl) rfl ?_
        refine L_nil (N_then ?_)
        exact ⟨4 - 3, by omega, _, 3, Ac_frg ⟨rfl, rfl, rfl, rfl, (agr rfl (by first | rfl | (congr 1; omega) | (congr 1; simp; done) | (congr 1; simp only [IntKind.wrap_u64, IntKind.wrap_i64, IntKind.wrap_u8]; omega) | (congr 1 <;> omega))), trivial⟩, hB, hsb, hb6, hb10, hb7, hb8, (by omega), (fun _ => hn0 (by omega)), (fun _ => hn1 (by omega)), (fun _ => h3), rfl⟩
    · refine C_seq (C_reg ?_)
      refine L_run (R_eqv (R_lss rfl rfl) (v' := .bool false) rfl) rfl ?_
      refine L_nil (N_then (C_seq (C_condF rfl rfl (C_exit (X_then (X_then (X_hit (N_then (C_seq (C_reg ?_))))))))))
      refine L_run (R_assign rfl) rfl ?_
      refine L_nil (N_then (C_ret ?_))
      refine ret1 Try.results80 rfl ?_
      rw [if_neg (hn0 (by omega)), if_neg (hn1 (by omega)), if_neg (hn2 (by omega))]; exact ⟨hB, rfl⟩
theorem containsFunc3 {w : World} {gs : Nat} {g6 : Nat} {g10 : Nat} {g7 : Nat} {g8 : Nat} {rn : Nat} {rc : Nat} {pn : Nat} {pc : Nat} {ep : Int} {seq : Int} {first : Int} {en : Int} {kind : Int} {ep2 : Int} {seq2 : Int} {first2 : Int} {nx : Int} {hs : Nat → Int} {hs2 : Nat → Int} {hd : Nat → Int} {ra : Option Addr} {pa : Option Addr} (hsb : Blk w gs 24 [.func (.func 62) #[] #[.pointer (some ⟨g6, 0, none⟩)], .func (.func 63) #[] #[.pointer (some ⟨g10, 0, none⟩), .pointer (some ⟨g6, 0, none⟩)], .func (.func 64) #[] #[.pointer (some ⟨g10, 0, none⟩), .pointer (some ⟨g7, 0, none⟩), .pointer (some ⟨g8, 0, none⟩)]]) (hb6 : Blk w g6 79 [.int .u64 ep, .int .i64 seq, .int .i64 first, .int .i64 (hs 0), .int .i64 (hs 1), .int .i64 (hs 2), .int .i64 (hs 3), .slice ra rn rc, .slice pa pn pc, .int .i64 en, .int .i64 kind]) (hb10 : Blk w g10 72 [.int .u64 ep2, .int .i64 seq2, .int .i64 first2, .int .i64 (hs2 0), .int .i64 (hs2 1), .int .i64 (hs2 2), .int .i64 (hs2 3)]) (hb7 : Blk w g7 3 [.int .i64 nx]) (hb8 : Blk w g8 34 [.int .i64 (hd 0), .int .i64 (hd 1), .int .i64 (hd 2), .int .i64 (hd 3)]) :
    Runs Try.prog 65 #[.slice (some ⟨gs, 0, none⟩) 3 3, .func (.func 66) #[] #[]] w (fun v w' => w.grownBy w' none ∧ v = .bool (decide ((kind ≠ 1) ∨ (seq2 ≠ IntKind.i64.wrap (seq + 1) ∨ ep2 ≤ ep) ∨ (first2 ≠ nx ∨ ¬ (hs2 0 = hd 0 ∧ hs2 1 = hd 1 ∧ hs2 2 = hd 2 ∧ hs2 3 = hd 3 ∧ True))))) := by
  have hB := gb_refl w none
  refine enter Try.func65 Try.ntmps65 rfl rfl ?_
  refine C_seq (C_reg ?_)
  refine L_run (R_assign rfl) rfl ?_
  refine L_nil (N_then (C_seq (C_reg ?_)))
  refine L_run (R_move rfl) rfl ?_
  refine L_run (R_move rfl) rfl ?_
  refine L_call rfl cb80 (indexFunc3 hsb hb6 hb10 hb7 hb8) rfl ?_
  rintro _ w1 ⟨hs1, rfl⟩
  replace hB := gb_tr hB hs1
  replace hsb := hsb.gb hs1
  replace hb6 := hb6.gb hs1
  replace hb10 := hb10.gb hs1
  replace hb7 := hb7.gb hs1
  replace hb8 := hb8.gb hs1
  refine L_run (R_geq rfl rfl) rfl ?_
  refine L_run (R_assign rfl) rfl ?_
  refine L_nil (N_then (C_ret ?_))
  refine ret1 Try.results65 rfl ?_
  exact ⟨hB, bD three_if⟩

theorem live_Check {w : World} {t1 lo hi hi2 : Nat} {A : Option Addr} {c : Nat} {l : List SegD} (hS : Sli t1 lo hi w A (fl encG l)) (hD : DeepG hi2 w l) (hb : l.length ≤ 1000000) (hr : ∀ g ∈ l, g.recs.length ≤ 1000000) :
    Runs Try.prog 20 #[.slice A l.length c] w (fun v w' => w.grownBy w' none ∧ v = .int .i64 (chk l)) := by
  have hB := gb_refl w none
  replace hD : DeepG w.heap.size w l := fun y hy => (hD y hy).top
  replace hS := hS.top
  refine enter Try.func20 Try.ntmps20 rfl rfl ?_
  refine C_seq (C_reg ?_)
  refine L_run (R_assign rfl) rfl ?_
  refine L_nil (N_then (C_seq (C_seq (C_reg ?_))))
  refine L_run (R_move rfl) rfl ?_
  refine L_run (R_lenSl rfl slc27) rfl ?_
  refine L_run (R_move rfl) rfl ?_
  refine L_nil (N_then (C_block ?_))
  refine C_loop (fun m_ a_ w_ => ∃ (σ_ : Nat → Value) (k : Nat), a_ = Ac 65 σ_ [] [(0, .slice A l.length c), (2, .int .i64 0), (12, .slice A l.length c), (13, .int .i64 (l.length : Int)), (14, .int .i64 (k : Int))] ∧ w.grownBy w_ none ∧ Sli t1 lo w.heap.size w_ A (fl encG l) ∧ DeepG w.heap.size w_ l ∧ (k ≤ l.length) ∧ (∀ g ∈ l.take k, HdrOk g) ∧ l.length - k = m_) (l.length - 0) ?_ ?_
  · exact ⟨_, 0, Ac_frg ⟨rfl, rfl, rfl, rfl, (agr rfl (by first | rfl | (congr 1; omega) | (congr 1; simp; done) | (congr 1; simp only [IntKind.wrap_u64, IntKind.wrap_i64, IntKind.wrap_u8]; omega) | (congr 1 <;> omega))), trivial⟩, hB, hS, hD, (by omega), (by intro g hg; simp at hg), rfl⟩
  · clear hB
    clear hS hD
    rintro m_ a_ w1 ⟨σ_, k, rfl, hB, hS, hD, hk, hall, rfl⟩
    refine C_seq (C_reg ?_)
    refine L_run (R_lss rfl rfl) rfl ?_
    refine L_nil (N_then (C_seq ?_))
    refine C_if rfl (fun h1 => ?_) (fun h1 => ?_)
    · refine C_skip (N_then (C_seq (C_block (C_seq (C_reg ?_)))))
      have hlk : k < l.length := by first | omega | (simp; omega)
      refine T_index (xs := l) (i := k) EncG rfl rfl (by first | rfl | omega) slc27 hlk hS rfl ?_
      intro g1 o1 ha1
      refine L_run (R_loadA (vs := [.int .u64 ((l[k]).ep), .int .i64 ((l[k]).seq), .int .i64 ((l[k]).first), .int .i64 ((l[k]).hs 0), .int .i64 ((l[k]).hs 1), .int .i64 ((l[k]).hs 2), .int .i64 ((l[k]).hs 3), .slice ((l[k]).ra) ((l[k]).recs.length) ((l[k]).rc), .slice ((l[k]).pa) ((l[k]).pn) ((l[k]).pc), .int .i64 ((l[k]).en), .int .i64 ((l[k]).kind)]) rfl agg79 (At.pre ha1 rfl) rfl) rfl ?_
      refine L_alloc (cs := [.int .u64 0, .int .i64 0, .int .i64 0, .int .i64 0, .int .i64 0, .int .i64 0, .int .i64 0, .slice none 0 0, .slice none 0 0, .int .i64 0, .int .i64 0]) zer79 rfl rfl ?_
      intro g2 w2 eg1 hb1 hs1 hz1
      have ge1 : w.heap.size ≤ g2 := eg_ge hB eg1
      replace hB := gb_tr hB hs1
      replace hS := hS.gb hs1
      replace hD := hD.gb hs1
      replace ha1 := At.gb ha1 hs1 (by simp)
      refine L_stA (vs := [.int .u64 ((l[k]).ep), .int .i64 ((l[k]).seq), .int .i64 ((l[k]).first), .int .i64 ((l[k]).hs 0), .int .i64 ((l[k]).hs 1), .int .i64 ((l[k]).hs 2), .int .i64 ((l[k]).hs 3), .slice ((l[k]).ra) ((l[k]).recs.length) ((l[k]).rc), .slice ((l[k]).pa) ((l[k]).pn) ((l[k]).pc), .int .i64 ((l[k]).en), .int .i64 ((l[k]).kind)]) rfl rfl rfl sz79 rfl hb1 rfl ?_
      intro w3 hb2 hs2 hz2
      replace hB := gb_trg hB hs2 ge1
      replace hS := hS.old hs2 ge1
      replace hD := hD.old hs2 ge1
      refine L_nil (N_then (C_seq (C_reg ?_)))
      refine L_run (R_field (r := 0) rfl fld79_0 rfl) rfl ?_
      refine L_run (R_loadA (vs := [.int .u64 ((l[k]).ep), .int .i64 ((l[k]).seq), .int .i64 ((l[k]).first), .int .i64 ((l[k]).hs 0), .int .i64 ((l[k]).hs 1), .int .i64 ((l[k]).hs 2), .int .i64 ((l[k]).hs 3)]) rfl agg72 (At.pre (hb2.at_ 0) rfl) rfl) rfl ?_
      refine L_call rfl cb60 (header_Right (ep := (l[k]).ep) (seq := (l[k]).seq) (first := (l[k]).first) (hs := (l[k]).hs)) rfl ?_
      rintro _ w4 ⟨hs3, rfl⟩
      replace hB := gb_tr hB hs3
      replace hS := hS.gb hs3
      replace hD := hD.gb hs3
      replace hb2 := hb2.gb hs3
      refine L_run (R_notD rfl) rfl ?_
      refine L_run (R_move rfl) rfl ?_
      refine L_splitN (p := OkH ((l[k]).ep) ((l[k]).seq) ((l[k]).first) ((l[k]).hs)) (fun h2 => ?_) (fun h2 => ?_)
      · refine L_no rfl rfl rfl (decide_eq_true h2) rfl ?_
        refine L_no rfl rfl rfl (decide_eq_true h2) rfl ?_
        refine L_no rfl rfl rfl (decide_eq_true h2) rfl ?_
        refine L_no rfl rfl rfl (decide_eq_true h2) rfl ?_
        refine L_no rfl rfl rfl (decide_eq_true h2) rfl ?_
        refine L_no rfl rfl rfl (decide_eq_true h2) rfl ?_
        refine L_no rfl rfl rfl (decide_eq_true h2) rfl ?_
        refine L_run (R_pickT rfl (decide_eq_true h2) rfl) rfl ?_
        refine L_nil (N_then (C_condT rfl rfl (C_seq (C_reg ?_))))
        refine L_run (R_assign rfl) rfl ?_
        refine L_nil (N_then (C_ret (R_in (R_then (R_then (R_in (R_then ?_)))))))
        refine ret1 Try.results20 rfl ?_
        first
          | (exfalso; omega)
          | (have e_ : chk l = 13 := chk_13 hlk (by unfold HdrOk; rintro ⟨q1, q2⟩; first | contradiction | omega)
             rw [e_]; exact ⟨hB, rfl⟩)
      · refine L_yes rfl rfl rfl (decide_eq_false (fun hn => hn h2)) ?_
        refine L_run (R_field (r := 8) rfl fld79_2 rfl) rfl ?_
        refine L_yes rfl rfl rfl (decide_eq_false (fun hn => hn h2)) ?_
        refine L_run (R_load1 rfl scl74 (hb2.cell (i := 8) rfl)) rfl ?_
        refine L_yes rfl rfl rfl (decide_eq_false (fun hn => hn h2)) ?_
        refine L_run (R_lenSl rfl slc74) rfl ?_
        refine L_yes rfl rfl rfl (decide_eq_false (fun hn => hn h2)) ?_
        refine L_run (R_field (r := 7) rfl fld79_1 rfl) rfl ?_
        refine L_yes rfl rfl rfl (decide_eq_false (fun hn => hn h2)) ?_
        refine L_run (R_load1 rfl scl73 (hb2.cell (i := 7) rfl)) rfl ?_
        refine L_yes rfl rfl rfl (decide_eq_false (fun hn => hn h2)) ?_
        refine L_run (R_lenSl rfl slc73) rfl ?_
        refine L_yes rfl rfl rfl (decide_eq_false (fun hn => hn h2)) ?_
        refine L_run (R_neq rfl rfl) rfl ?_
        refine L_run (R_pickF rfl (decide_eq_false (fun hn => hn h2)) rfl) rfl ?_
        refine L_nil (N_then ?_)
        refine C_if rfl (fun h3 => ?_) (fun h3 => ?_)
        · refine C_seq (C_reg ?_)
          refine L_run (R_assign rfl) rfl ?_
          refine L_nil (N_then (C_ret (R_in (R_then (R_then (R_in (R_then ?_)))))))
          refine ret1 Try.results20 rfl ?_
          first
            | (exfalso; omega)
            | (have e_ : chk l = 13 := chk_13 hlk (by unfold HdrOk; rintro ⟨q1, q2⟩; first | contradiction | omega)
               rw [e_]; exact ⟨hB, rfl⟩)
        · refine C_skip (N_in (N_then (C_reg ?_)))
          refine L_run (R_add64 rfl rfl (by omega)) rfl ?_
          refine L_run (R_move rfl) rfl ?_
          refine L_nil (N_then ?_)
          exact ⟨l.length - (k + 1), by omega, _, (k + 1), Ac_frg ⟨rfl, rfl, rfl, rfl, (agr rfl (by first | rfl | (congr 1; omega) | (congr 1; simp; done) | (congr 1; simp only [IntKind.wrap_u64, IntKind.wrap_i64, IntKind.wrap_u8]; omega) | (congr 1 <;> omega))), trivial⟩, hB, hS, hD, (by omega), (hdr_succ hall hlk ⟨by assumption, by omega⟩), rfl⟩
    · refine C_exit (X_then (X_then (X_hit (N_then (C_seq (C_seq (C_reg ?_)))))))
      refine L_run (R_move rfl) rfl ?_
      refine L_run (R_lenSl rfl slc27) rfl ?_
      refine L_run (R_move rfl) rfl ?_
      refine L_nil (N_then (C_block ?_))
      rw [List.take_of_length_le (by omega)] at hall
      refine C_loop (fun m_ a_ w_ => ∃ (σ_ : Nat → Value) (i : Nat), a_ = Ac 65 σ_ [] [(0, .slice A l.length c), (2, .int .i64 0), (32, .slice A l.length c), (33, .int .i64 (l.length : Int)), (34, .int .i64 (i : Int))] ∧ w.grownBy w_ none ∧ Sli t1 lo w.heap.size w_ A (fl encG l) ∧ DeepG w.heap.size w_ l ∧ (i ≤ l.length) ∧ (cres (l.drop i) = cres l) ∧ l.length - i = m_) (l.length - 0) ?_ ?_
      · exact ⟨_, 0, Ac_frg ⟨rfl, rfl, rfl, rfl, (agr rfl (by first | rfl | (congr 1; omega) | (congr 1; simp; done) | (congr 1; simp only [IntKind.wrap_u64, IntKind.wrap_i64, IntKind.wrap_u8]; omega) | (congr 1 <;> omega))), trivial⟩, hB, hS, hD, (by omega), rfl, rfl⟩
      · clear hB
        clear hS hD
        rintro m_ a_ w5 ⟨σ_, i, rfl, hB, hS, hD, hi_, hv, rfl⟩
        refine C_seq (C_reg ?_)
        refine L_run (R_lss rfl rfl) rfl ?_
        refine L_nil (N_then (C_seq ?_))
        refine C_if rfl (fun h4 => ?_) (fun h4 => ?_)
        · refine C_skip (N_then (C_seq (C_block (C_seq (C_reg ?_)))))
          refine L_run (R_move rfl) rfl ?_
          have hli : i < l.length := by first | omega | (simp; omega)
          refine T_index (xs := l) (i := i) EncG rfl rfl (by first | rfl | omega) slc27 hli hS rfl ?_
          intro g3 o2 ha2
          refine L_run (R_loadA (vs := [.int .u64 ((l[i]).ep), .int .i64 ((l[i]).seq), .int .i64 ((l[i]).first), .int .i64 ((l[i]).hs 0), .int .i64 ((l[i]).hs 1), .int .i64 ((l[i]).hs 2), .int .i64 ((l[i]).hs 3), .slice ((l[i]).ra) ((l[i]).recs.length) ((l[i]).rc), .slice ((l[i]).pa) ((l[i]).pn) ((l[i]).pc), .int .i64 ((l[i]).en), .int .i64 ((l[i]).kind)]) rfl agg79 (At.pre ha2 rfl) rfl) rfl ?_
          refine L_alloc (cs := [.int .u64 0, .int .i64 0, .int .i64 0, .int .i64 0, .int .i64 0, .int .i64 0, .int .i64 0, .slice none 0 0, .slice none 0 0, .int .i64 0, .int .i64 0]) zer79 rfl rfl ?_
          intro g4 w6 eg2 hb3 hs4 hz3
          have ge2 : w.heap.size ≤ g4 := eg_ge hB eg2
          replace hB := gb_tr hB hs4
          replace hS := hS.gb hs4
          replace hD := hD.gb hs4
          replace ha2 := At.gb ha2 hs4 (by simp)
          refine L_run (R_assign rfl) rfl ?_
          refine L_stA (vs := [.int .u64 ((l[i]).ep), .int .i64 ((l[i]).seq), .int .i64 ((l[i]).first), .int .i64 ((l[i]).hs 0), .int .i64 ((l[i]).hs 1), .int .i64 ((l[i]).hs 2), .int .i64 ((l[i]).hs 3), .slice ((l[i]).ra) ((l[i]).recs.length) ((l[i]).rc), .slice ((l[i]).pa) ((l[i]).pn) ((l[i]).pc), .int .i64 ((l[i]).en), .int .i64 ((l[i]).kind)]) rfl rfl rfl sz79 rfl hb3 rfl ?_
          intro w7 hb4 hs5 hz4
          replace hB := gb_trg hB hs5 ge2
          replace hS := hS.old hs5 ge2
          replace hD := hD.old hs5 ge2
          refine L_nil (N_then (C_seq (C_reg ?_)))
          refine L_run (R_loadA (vs := [.int .u64 ((l[i]).ep), .int .i64 ((l[i]).seq), .int .i64 ((l[i]).first), .int .i64 ((l[i]).hs 0), .int .i64 ((l[i]).hs 1), .int .i64 ((l[i]).hs 2), .int .i64 ((l[i]).hs 3), .slice ((l[i]).ra) ((l[i]).recs.length) ((l[i]).rc), .slice ((l[i]).pa) ((l[i]).pn) ((l[i]).pc), .int .i64 ((l[i]).en), .int .i64 ((l[i]).kind)]) rfl agg79 (At.pre (hb4.at_ 0) rfl) rfl) rfl ?_
          refine L_call rfl cb61 (live_behind (ep := (l[i]).ep) (seq := (l[i]).seq) (first := (l[i]).first) (hs := (l[i]).hs) (recs := (l[i]).recs) (hD.get (i := i) (by first | assumption | omega | (simp; omega))) (by have h_ := hr _ (List.getElem_mem hli); omega)) rfl ?_
          rintro _ w8 ⟨hs6, rfl⟩
          replace hB := gb_tr hB hs6
          replace hS := hS.gb hs6
          replace hD := hD.gb hs6
          replace hb4 := hb4.gb hs6
          refine L_run (R_move rfl) rfl ?_
          refine L_run (R_extract rfl rfl) rfl ?_
          refine L_run (R_extract rfl rfl) rfl ?_
          refine L_run (R_extract rfl rfl) rfl ?_
          refine L_alloc (cs := [.int .i64 0]) zer3 rfl rfl ?_
          intro g5 w9 eg3 hb5 hs7 hz5
          have ge3 : w.heap.size ≤ g5 := eg_ge hB eg3
          have lt1 : g4 < g5 := lt_of_eg hb4.lt eg3
          replace hB := gb_tr hB hs7
          replace hS := hS.gb hs7
          replace hD := hD.gb hs7
          replace hb4 := hb4.gb hs7
          refine L_alloc (cs := [.int .i64 0, .int .i64 0, .int .i64 0, .int .i64 0]) zer34 rfl rfl ?_
          intro g6 w10 eg4 hb6 hs8 hz6
          have ge4 : w.heap.size ≤ g6 := eg_ge hB eg4
          have lt2 : g4 < g6 := lt_of_eg hb4.lt eg4
          have lt3 : g5 < g6 := lt_of_eg hb5.lt eg4
          replace hB := gb_tr hB hs8
          replace hS := hS.gb hs8
          replace hD := hD.gb hs8
          replace hb4 := hb4.gb hs8
          replace hb5 := hb5.gb hs8
          refine L_st1 rfl rfl rfl sz3 hb5 rfl ?_
          intro w11 hb7 hs9 hz7
          replace hB := gb_trg hB hs9 ge3
          replace hS := hS.old hs9 ge3
          replace hD := hD.old hs9 ge3
          replace hb4 := hb4.grown hs9 (ne_lt lt1)
          replace hb6 := hb6.grown hs9 (ne_gt lt3)
          refine L_stA (vs := [.int .i64 ((bh ((l[i]).first) ((l[i]).hs) ((l[i]).recs)).2.1 0), .int .i64 ((bh ((l[i]).first) ((l[i]).hs) ((l[i]).recs)).2.1 1), .int .i64 ((bh ((l[i]).first) ((l[i]).hs) ((l[i]).recs)).2.1 2), .int .i64 ((bh ((l[i]).first) ((l[i]).hs) ((l[i]).recs)).2.1 3)]) rfl rfl rfl sz34 rfl hb6 rfl ?_
          intro w12 hb8 hs10 hz8
          replace hB := gb_trg hB hs10 ge4
          replace hS := hS.old hs10 ge4
          replace hD := hD.old hs10 ge4
          replace hb4 := hb4.grown hs10 (ne_lt lt2)
          replace hb7 := hb7.grown hs10 (ne_lt lt3)
          refine L_run (R_assign rfl) rfl ?_
          refine L_nil (N_then (C_seq (C_seq (C_reg ?_))))
          refine L_run (R_move rfl) rfl ?_
          refine L_run (R_not rfl) rfl ?_
          refine L_nil (N_then ?_)
          refine C_cond rfl (fun h5 => ?_) (fun h5 => ?_)
          · refine C_seq (C_reg ?_)
            refine L_run (R_assign rfl) rfl ?_
            refine L_nil (N_then (C_ret (R_then (R_in (R_then (R_then (R_in (R_then ?_))))))))
            refine ret1 Try.results20 rfl ?_
            first
              | (exfalso; omega)
              | (have e_ : chk l = 12 := by
                   rw [chk_go hall]
                   first
                     | (rw [← hv]; exact cres_no hli (by assumption))
                     | (rw [← hv]; exact cres_last hli (by omega) (by assumption))
                     | (rw [← hv]; exact cres_break hli hlj (by assumption) (by unfold Breaks; assumption))
                     | (rw [← hv, List.drop_of_length_le (by omega)]; rfl)
                 rw [e_]; exact ⟨hB, rfl⟩)
          · refine C_skip (N_then (C_seq (C_seq (C_reg ?_))))
            refine L_run (R_move rfl) rfl ?_
            refine L_run (R_move rfl) rfl ?_
            refine L_run (R_lenSl rfl slc27) rfl ?_
            refine L_run (R_sub64 rfl rfl (by omega)) rfl ?_
            refine L_run (R_eql rfl rfl) rfl ?_
            refine L_nil (N_then ?_)
            refine C_if rfl (fun h6 => ?_) (fun h6 => ?_)
            · refine C_exit (X_then (X_miss rfl (X_then (X_then (X_hit (N_then (C_seq (C_reg ?_))))))))
              refine L_run (R_assign rfl) rfl ?_
              refine L_nil (N_then (C_ret ?_))
              refine ret1 Try.results20 rfl ?_
              first
                | (exfalso; omega)
                | (have e_ : chk l = 0 := by
                     rw [chk_go hall]
                     first
                       | (rw [← hv]; exact cres_no hli (by assumption))
                       | (rw [← hv]; exact cres_last hli (by omega) (by assumption))
                       | (rw [← hv]; exact cres_break hli hlj (by assumption) (by unfold Breaks; assumption))
                       | (rw [← hv, List.drop_of_length_le (by omega)]; rfl)
                   rw [e_]; exact ⟨hB, rfl⟩)
            · refine C_skip (N_then (C_seq (C_reg ?_)))
              refine L_run (R_move rfl) rfl ?_
              refine L_run (R_move rfl) rfl ?_
              refine L_run (R_add64 rfl rfl (by omega)) rfl ?_
              have hlj : (i + 1) < l.length := by first | omega | (simp; omega)
              refine T_index (xs := l) (i := (i + 1)) EncG rfl rfl (by first | rfl | omega) slc27 hlj hS rfl ?_
              intro g7 o3 ha3
              refine L_run (R_field rfl fld79_0 rfl) rfl ?_
              refine L_run (R_loadA (vs := [.int .u64 ((l[(i + 1)]).ep), .int .i64 ((l[(i + 1)]).seq), .int .i64 ((l[(i + 1)]).first), .int .i64 ((l[(i + 1)]).hs 0), .int .i64 ((l[(i + 1)]).hs 1), .int .i64 ((l[(i + 1)]).hs 2), .int .i64 ((l[(i + 1)]).hs 3)]) rfl agg72 (At.pre ha3 rfl) rfl) rfl ?_
              refine L_alloc (cs := [.int .u64 0, .int .i64 0, .int .i64 0, .int .i64 0, .int .i64 0, .int .i64 0, .int .i64 0]) zer72 rfl rfl ?_
              intro g8 w13 eg5 hb9 hs11 hz9
              have ge5 : w.heap.size ≤ g8 := eg_ge hB eg5
              have lt4 : g4 < g8 := lt_of_eg hb4.lt eg5
              have lt5 : g5 < g8 := lt_of_eg hb7.lt eg5
              have lt6 : g6 < g8 := lt_of_eg hb8.lt eg5
              replace hB := gb_tr hB hs11
              replace hS := hS.gb hs11
              replace hD := hD.gb hs11
              replace hb4 := hb4.gb hs11
              replace hb7 := hb7.gb hs11
              replace hb8 := hb8.gb hs11
              replace ha3 := At.gb ha3 hs11 (by simp)
              refine L_stA (vs := [.int .u64 ((l[(i + 1)]).ep), .int .i64 ((l[(i + 1)]).seq), .int .i64 ((l[(i + 1)]).first), .int .i64 ((l[(i + 1)]).hs 0), .int .i64 ((l[(i + 1)]).hs 1), .int .i64 ((l[(i + 1)]).hs 2), .int .i64 ((l[(i + 1)]).hs 3)]) rfl rfl rfl sz72 rfl hb9 rfl ?_
              intro w14 hb10 hs12 hz10
              replace hB := gb_trg hB hs12 ge5
              replace hS := hS.old hs12 ge5
              replace hD := hD.old hs12 ge5
              replace hb4 := hb4.grown hs12 (ne_lt lt4)
              replace hb7 := hb7.grown hs12 (ne_lt lt5)
              replace hb8 := hb8.grown hs12 (ne_lt lt6)
              refine L_nil (N_then (C_seq (C_reg ?_)))
              refine L_run (R_makeFunc rfl rfl) rfl ?_
              refine L_run (R_makeFunc rfl rfl) rfl ?_
              refine L_run (R_makeFunc rfl rfl) rfl ?_
              refine L_buildSlice (pv := [(0, .func (.func 62) #[] #[.pointer (some ⟨g4, 0, none⟩)]), (1, .func (.func 63) #[] #[.pointer (some ⟨g8, 0, none⟩), .pointer (some ⟨g4, 0, none⟩)]), (2, .func (.func 64) #[] #[.pointer (some ⟨g8, 0, none⟩), .pointer (some ⟨g5, 0, none⟩), .pointer (some ⟨g6, 0, none⟩)])]) (cs := [.func (.func 62) #[] #[.pointer (some ⟨g4, 0, none⟩)], .func (.func 63) #[] #[.pointer (some ⟨g8, 0, none⟩), .pointer (some ⟨g4, 0, none⟩)], .func (.func 64) #[] #[.pointer (some ⟨g8, 0, none⟩), .pointer (some ⟨g5, 0, none⟩), .pointer (some ⟨g6, 0, none⟩)]]) slc83 zer24 rfl rfl (by kernel_rfl) rfl ?_
              intro g9 w15 eg6 hb11 hs13 hz11
              have ge6 : w.heap.size ≤ g9 := eg_ge hB eg6
              have lt7 : g4 < g9 := lt_of_eg hb4.lt eg6
              have lt8 : g5 < g9 := lt_of_eg hb7.lt eg6
              have lt9 : g6 < g9 := lt_of_eg hb8.lt eg6
              have lt10 : g8 < g9 := lt_of_eg hb10.lt eg6
              replace hB := gb_tr hB hs13
              replace hS := hS.gb hs13
              replace hD := hD.gb hs13
              replace hb4 := hb4.gb hs13
              replace hb7 := hb7.gb hs13
              replace hb8 := hb8.gb hs13
              replace hb10 := hb10.gb hs13
              refine L_run (R_assign rfl) rfl ?_
              refine L_nil (N_then (C_seq (C_reg ?_)))
              refine L_run (R_move rfl) rfl ?_
              refine L_call rfl cb65 (containsFunc3 hb11 hb4 hb10 hb7 hb8) rfl ?_
              rintro _ w16 ⟨hs14, rfl⟩
              replace hB := gb_tr hB hs14
              replace hS := hS.gb hs14
              replace hD := hD.gb hs14
              replace hb4 := hb4.gb hs14
              replace hb7 := hb7.gb hs14
              replace hb8 := hb8.gb hs14
              replace hb10 := hb10.gb hs14
              replace hb11 := hb11.gb hs14
              refine L_nil (N_then ?_)
              refine C_if rfl (fun h7 => ?_) (fun h7 => ?_)
              · refine C_seq (C_reg ?_)
                refine L_run (R_assign rfl) rfl ?_
                refine L_nil (N_then (C_ret (R_in (R_then (R_then (R_in (R_then ?_)))))))
                refine ret1 Try.results20 rfl ?_
                first
                  | (exfalso; omega)
                  | (have e_ : chk l = 12 := by
                       rw [chk_go hall]
                       first
                         | (rw [← hv]; exact cres_no hli (by assumption))
                         | (rw [← hv]; exact cres_last hli (by omega) (by assumption))
                         | (rw [← hv]; exact cres_break hli hlj (by assumption) (by unfold Breaks; assumption))
                         | (rw [← hv, List.drop_of_length_le (by omega)]; rfl)
                     rw [e_]; exact ⟨hB, rfl⟩)
              · refine C_skip (N_in (N_then (C_reg ?_)))
                refine L_run (R_add64 rfl rfl (by omega)) rfl ?_
                refine L_run (R_move rfl) rfl ?_
                refine L_nil (N_then ?_)
                exact ⟨l.length - (i + 1), by omega, _, (i + 1), Ac_frg ⟨rfl, rfl, rfl, rfl, (agr rfl (by first | rfl | (congr 1; omega) | (congr 1; simp; done) | (congr 1; simp only [IntKind.wrap_u64, IntKind.wrap_i64, IntKind.wrap_u8]; omega) | (congr 1 <;> omega))), trivial⟩, hB, hS, hD, (by omega), ((cres_step hli hlj (by assumption) (by unfold Breaks; assumption)).symm.trans hv), rfl⟩
        · refine C_exit (X_then (X_then (X_hit (N_then (C_seq (C_reg ?_))))))
          refine L_run (R_assign rfl) rfl ?_
          refine L_nil (N_then (C_ret ?_))
          refine ret1 Try.results20 rfl ?_
          first
            | (exfalso; omega)
            | (have e_ : chk l = 0 := by
                 rw [chk_go hall]
                 first
                   | (rw [← hv]; exact cres_no hli (by assumption))
                   | (rw [← hv]; exact cres_last hli (by omega) (by assumption))
                   | (rw [← hv]; exact cres_break hli hlj (by assumption) (by unfold Breaks; assumption))
                   | (rw [← hv, List.drop_of_length_le (by omega)]; rfl)
               rw [e_]; exact ⟨hB, rfl⟩)

end Go.Proofs.Ytnggbodilhpohaa
