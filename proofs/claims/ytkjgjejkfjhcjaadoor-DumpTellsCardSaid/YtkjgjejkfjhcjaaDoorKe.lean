import Derived.Test.YtkjgjejkfjhcjaaDoorKd
/-
  What the law's proof stands on, part 5.
-/
namespace Go.Proofs.YtkjgjejkfjhcjaaDoor
open Go.RowKit Gw Pl
set_option linter.unusedVariables false
set_option linter.unusedSimpArgs false
theorem header_Right {w : World} {ep seq first : Int} {hs : Nat → Int} :
    Runs Tryd.prog 69 #[.agg #[.int .u64 ep, .int .i64 seq, .int .i64 first, .int .i64 (hs 0), .int .i64 (hs 1), .int .i64 (hs 2), .int .i64 (hs 3)]] w (fun v w' => w.grownBy w' none ∧ v = .bool (decide (OkH ep seq first hs))) := by
 have hB := gb_refl w none
 refine enter Tryd.func69 Tryd.ntmps69 rfl rfl ?_
 refine C_seq (C_reg rfl ?_)
 refine L_box (cs := [.int .u64 ep, .int .i64 seq, .int .i64 first, .int .i64 (hs 0), .int .i64 (hs 1), .int .i64 (hs 2), .int .i64 (hs 3)]) rfl rfl rfl ?_
 intro g1 w1 eg1 hb1 hs1 hz1
 replace hB := gb_tr hB hs1
 refine Las rfl rfl (L_nil (N_then (C_seq (C_seq (C_reg rfl (L_run (R_field (r := 3) rfl fld33_3 rfl) rfl (L_run (R_loadA (vs := [.int .i64 (hs 0), .int .i64 (hs 1), .int .i64 (hs 2), .int .i64 (hs 3)]) rfl agg31 (At.pre (hb1.at_ 3) rfl) rfl) rfl (Lmv rfl rfl (L_nil (N_then (C_block ?_)))))))))))
 refine C_loop (fun m_ a_ w_ => ∃ (σ_ : Nat → Value) (k : Nat), a_ = Ac 42 σ_ [] [(1, .pointer (some ⟨g1, 0, none⟩)), (2, .bool false), (6, .agg #[.int .i64 (hs 0), .int .i64 (hs 1), .int .i64 (hs 2), .int .i64 (hs 3)]), (7, .int .i64 (k : Int))] ∧ w.grownBy w_ none ∧ Blk w_ g1 33 [.int .u64 ep, .int .i64 seq, .int .i64 first, .int .i64 (hs 0), .int .i64 (hs 1), .int .i64 (hs 2), .int .i64 (hs 3)] ∧ (k ≤ 4) ∧ (OkK k first hs) ∧ 4 - k = m_) (4 - 0) ?_ ?_
 ·exact ⟨_, 0, Ac_frg ⟨rfl, rfl, rfl, (agx rfl), trivial⟩, hB, hb1, (by omega), OkK_0, rfl⟩
 ·clear hB
  clear hb1
  rintro m_ a_ w2 ⟨σ_, k, rfl, hB, hb1, hk, hall, rfl⟩
  refine C_seq (C_reg rfl ?_)
  refine L_run (R_lss rfl rfl) rfl ?_
  refine L_nil (N_then (C_seq (C_if rfl (fun h1 => ?_) (fun h1 => ?_))))
  ·refine C_skip (N_then (C_seq (C_block (C_seq (C_reg rfl ?_)))))
   refine L_run (R_indexA4 (f := hs) (a := (k : Int)) (i := k) rfl rfl (by first | rfl | omega) arr31 scl3 (by omega)) rfl ?_
   refine Las rfl rfl (L_nil (N_then (C_seq (C_reg rfl (Lmv rfl rfl (L_run (R_lss rfl rfl) rfl (Lmv rfl rfl ?_)))))))
   refine L_splitD (p := (hs k) < 0) (fun h2 => ?_) (fun h2 => ?_)
   ·refine L_no rfl rfl rfl (decide_eq_true h2) rfl (L_no rfl rfl rfl (decide_eq_true h2) rfl (L_no rfl rfl rfl (decide_eq_true h2) rfl (L_no rfl rfl rfl (decide_eq_true h2) rfl (L_run (R_pickT rfl (decide_eq_true h2) rfl) rfl (L_nil (N_then (C_condT rfl rfl (C_seq (C_reg rfl (Las rfl rfl (L_nil (N_then (C_ret (R_in (R_then (R_then (R_in (R_then ?_))))))))))))))))))
    refine ret1 Tryd.results69 rfl ?_
    first
      | (exfalso; omega)
      | (exact ⟨hB, bF (fun h => by have := h.2 k (by omega); omega)⟩)
   ·refine L_yes rfl rfl rfl (decide_eq_false h2) (Lmv rfl rfl (L_yes rfl rfl rfl (decide_eq_false h2) (L_run (R_field (r := 2) rfl fld33_2 rfl) rfl (L_yes rfl rfl rfl (decide_eq_false h2) (L_run (R_load1 rfl scl3 (hb1.cell (i := 2) rfl)) rfl (L_yes rfl rfl rfl (decide_eq_false h2) (L_run (R_geq rfl rfl) rfl (L_run (R_pickF rfl (decide_eq_false h2) rfl) rfl (L_nil (N_then (C_if rfl (fun h3 => ?_) (fun h3 => ?_))))))))))))
    ·refine C_seq (C_reg rfl ?_)
     refine Las rfl rfl (L_nil (N_then (C_ret (R_in (R_then (R_then (R_in (R_then ?_))))))))
     refine ret1 Tryd.results69 rfl ?_
     first
       | (exfalso; omega)
       | (exact ⟨hB, bF (fun h => by have := h.2 k (by omega); omega)⟩)
    ·refine C_skip (N_in (N_then (C_reg rfl ?_)))
     refine L_run (R_add64 rfl rfl (by omega)) rfl ?_
     refine Lmv rfl rfl (L_nil (N_then ?_))
     exact ⟨4 - (k + 1), by omega, _, (k + 1), Ac_frg ⟨rfl, rfl, rfl, (agx rfl), trivial⟩, hB, hb1, (by omega), (OkK_succ.2 ⟨hall, by omega, by omega⟩), rfl⟩
  ·refine C_exit (X_then (X_then (X_hit (N_then (C_seq (C_reg rfl ?_))))))
   refine L_run (R_field (r := 0) rfl fld33_0 rfl) rfl (L_run (R_load1 rfl scl30 (hb1.cell (i := 0) rfl)) rfl (L_run (R_neq rfl rfl) rfl (Lmv rfl rfl ?_)))
   refine L_splitD (p := ep ≠ 0) (fun h4 => ?_) (fun h4 => ?_)
   ·refine L_yes rfl rfl rfl (decide_eq_true h4) (L_run (R_field (r := 1) rfl fld33_1 rfl) rfl (L_yes rfl rfl rfl (decide_eq_true h4) (L_run (R_load1 rfl scl3 (hb1.cell (i := 1) rfl)) rfl (L_yes rfl rfl rfl (decide_eq_true h4) (L_run (R_geq rfl rfl) rfl (L_run (R_pickT rfl (decide_eq_true h4) rfl) rfl (Lmv rfl rfl ?_)))))))
    refine L_splitD (p := 1 ≤ seq) (fun h5 => ?_) (fun h5 => ?_)
    ·refine L_yes rfl rfl rfl (decide_eq_true h5) (L_run (R_field (r := 1) rfl fld33_1 rfl) rfl (L_yes rfl rfl rfl (decide_eq_true h5) (L_run (R_load1 rfl scl3 (hb1.cell (i := 1) rfl)) rfl (L_yes rfl rfl rfl (decide_eq_true h5) (L_run (R_leq rfl rfl) rfl (L_run (R_pickT rfl (decide_eq_true h5) rfl) rfl (Lmv rfl rfl ?_)))))))
     refine L_splitD (p := seq ≤ 2147483647) (fun h6 => ?_) (fun h6 => ?_)
     ·refine L_yes rfl rfl rfl (decide_eq_true h6) (L_run (R_field (r := 2) rfl fld33_2 rfl) rfl (L_yes rfl rfl rfl (decide_eq_true h6) (L_run (R_load1 rfl scl3 (hb1.cell (i := 2) rfl)) rfl (L_yes rfl rfl rfl (decide_eq_true h6) (L_run (R_geq rfl rfl) rfl (L_run (R_pickT rfl (decide_eq_true h6) rfl) rfl (Lmv rfl rfl ?_)))))))
      refine L_splitD (p := 1 ≤ first) (fun h7 => ?_) (fun h7 => ?_)
      ·refine L_yes rfl rfl rfl (decide_eq_true h7) (L_run (R_field (r := 2) rfl fld33_2 rfl) rfl (L_yes rfl rfl rfl (decide_eq_true h7) (L_run (R_load1 rfl scl3 (hb1.cell (i := 2) rfl)) rfl (L_yes rfl rfl rfl (decide_eq_true h7) (L_run (R_leq rfl rfl) rfl (L_run (R_pickT rfl (decide_eq_true h7) rfl) rfl (Las rfl rfl (L_nil (N_then (C_ret ?_))))))))))
       refine ret1 Tryd.results69 rfl ?_
       obtain rfl : k = 4 := by omega
       exact ⟨hB, bD ⟨fun h => ⟨⟨by omega, by omega, by omega, by omega, by omega⟩, hall⟩, fun h => by have := h.1; unfold OkB at this; omega⟩⟩
      ·refine L_no rfl rfl rfl (decide_eq_false h7) rfl (L_no rfl rfl rfl (decide_eq_false h7) rfl (L_no rfl rfl rfl (decide_eq_false h7) rfl (L_run (R_pickF rfl (decide_eq_false h7) rfl) rfl (Las rfl rfl (L_nil (N_then (C_ret ?_)))))))
       refine ret1 Tryd.results69 rfl ?_
       obtain rfl : k = 4 := by omega
       exact ⟨hB, bF (fun h => by have := h.1; unfold OkB at this; omega)⟩
     ·refine L_no rfl rfl rfl (decide_eq_false h6) rfl (L_no rfl rfl rfl (decide_eq_false h6) rfl (L_no rfl rfl rfl (decide_eq_false h6) rfl (L_run (R_pickF rfl (decide_eq_false h6) rfl) rfl (Lmv rfl rfl (L_no rfl rfl rfl rfl rfl (L_no rfl rfl rfl rfl rfl (L_no rfl rfl rfl rfl rfl (L_run (R_pickF rfl rfl rfl) rfl (Las rfl rfl (L_nil (N_then (C_ret ?_))))))))))))
      refine ret1 Tryd.results69 rfl ?_
      obtain rfl : k = 4 := by omega
      exact ⟨hB, bF (fun h => by have := h.1; unfold OkB at this; omega)⟩
    ·refine L_no rfl rfl rfl (decide_eq_false h5) rfl (L_no rfl rfl rfl (decide_eq_false h5) rfl (L_no rfl rfl rfl (decide_eq_false h5) rfl (L_run (R_pickF rfl (decide_eq_false h5) rfl) rfl (Lmv rfl rfl (L_no rfl rfl rfl rfl rfl (L_no rfl rfl rfl rfl rfl (L_no rfl rfl rfl rfl rfl (L_run (R_pickF rfl rfl rfl) rfl (Lmv rfl rfl (L_no rfl rfl rfl rfl rfl (L_no rfl rfl rfl rfl rfl (L_no rfl rfl rfl rfl rfl ?_))))))))))))
     refine L_run (R_pickF rfl rfl rfl) rfl ?_
     refine Las rfl rfl (L_nil (N_then (C_ret ?_)))
     refine ret1 Tryd.results69 rfl ?_
     obtain rfl : k = 4 := by omega
     exact ⟨hB, bF (fun h => by have := h.1; unfold OkB at this; omega)⟩
   ·refine L_no rfl rfl rfl (decide_eq_false h4) rfl (L_no rfl rfl rfl (decide_eq_false h4) rfl (L_no rfl rfl rfl (decide_eq_false h4) rfl (L_run (R_pickF rfl (decide_eq_false h4) rfl) rfl (Lmv rfl rfl (L_no rfl rfl rfl rfl rfl (L_no rfl rfl rfl rfl rfl (L_no rfl rfl rfl rfl rfl (L_run (R_pickF rfl rfl rfl) rfl (Lmv rfl rfl (L_no rfl rfl rfl rfl rfl (L_no rfl rfl rfl rfl rfl (L_no rfl rfl rfl rfl rfl ?_))))))))))))
    refine L_run (R_pickF rfl rfl rfl) rfl ?_
    refine Lmv rfl rfl (L_no rfl rfl rfl rfl rfl (L_no rfl rfl rfl rfl rfl (L_no rfl rfl rfl rfl rfl (L_run (R_pickF rfl rfl rfl) rfl (Las rfl rfl (L_nil (N_then (C_ret ?_))))))))
    refine ret1 Tryd.results69 rfl ?_
    obtain rfl : k = 4 := by omega
    exact ⟨hB, bF (fun h => by have := h.1; unfold OkB at this; omega)⟩
theorem ref18_Right {w : World} {ep seq first : Int} {hs : Nat → Int} (hep : 0 ≤ ep) :
    Runs Tryd.prog 38 #[.agg #[.int .u64 ep, .int .i64 seq, .int .i64 first, .int .i64 (hs 0), .int .i64 (hs 1), .int .i64 (hs 2), .int .i64 (hs 3)]] w (fun v w' => w.grownBy w' none ∧ v = .bool (decide (OkH ep seq first hs))) := by
 have hB := gb_refl w none
 refine enter Tryd.func38 Tryd.ntmps38 rfl rfl ?_
 refine C_seq (C_reg rfl ?_)
 refine L_box (cs := [.int .u64 ep, .int .i64 seq, .int .i64 first, .int .i64 (hs 0), .int .i64 (hs 1), .int .i64 (hs 2), .int .i64 (hs 3)]) rfl rfl rfl ?_
 intro g1 w1 eg1 hb1 hs1 hz1
 replace hB := gb_tr hB hs1
 refine Las rfl rfl (L_nil (N_then (C_seq (C_reg rfl (L_run (R_field (r := 0) rfl fld33_0 rfl) rfl (L_run (R_load1 rfl scl30 (hb1.cell (i := 0) rfl)) rfl (L_run (R_gtr rfl rfl) rfl (Lmv rfl rfl ?_))))))))
 refine L_splitD (p := 0 < ep) (fun h1 => ?_) (fun h1 => ?_)
 ·refine L_yes rfl rfl rfl (decide_eq_true h1) (L_run (R_field (r := 1) rfl fld33_1 rfl) rfl (L_yes rfl rfl rfl (decide_eq_true h1) (L_run (R_load1 rfl scl3 (hb1.cell (i := 1) rfl)) rfl (L_yes rfl rfl rfl (decide_eq_true h1) (L_run (R_gtr rfl rfl) rfl (L_run (R_pickT rfl (decide_eq_true h1) rfl) rfl (Lmv rfl rfl ?_)))))))
  refine L_splitD (p := 0 < seq) (fun h2 => ?_) (fun h2 => ?_)
  ·refine L_yes rfl rfl rfl (decide_eq_true h2) (L_run (R_field (r := 1) rfl fld33_1 rfl) rfl (L_yes rfl rfl rfl (decide_eq_true h2) (L_run (R_load1 rfl scl3 (hb1.cell (i := 1) rfl)) rfl (L_yes rfl rfl rfl (decide_eq_true h2) (L_run (R_leq rfl rfl) rfl (L_run (R_pickT rfl (decide_eq_true h2) rfl) rfl (Lmv rfl rfl ?_)))))))
   refine L_splitD (p := seq ≤ 2147483647) (fun h3 => ?_) (fun h3 => ?_)
   ·refine L_yes rfl rfl rfl (decide_eq_true h3) (L_run (R_field (r := 2) rfl fld33_2 rfl) rfl (L_yes rfl rfl rfl (decide_eq_true h3) (L_run (R_load1 rfl scl3 (hb1.cell (i := 2) rfl)) rfl (L_yes rfl rfl rfl (decide_eq_true h3) (L_run (R_gtr rfl rfl) rfl (L_run (R_pickT rfl (decide_eq_true h3) rfl) rfl (Lmv rfl rfl ?_)))))))
    refine L_splitD (p := 0 < first) (fun h4 => ?_) (fun h4 => ?_)
    ·refine L_yes rfl rfl rfl (decide_eq_true h4) (L_run (R_field (r := 2) rfl fld33_2 rfl) rfl (L_yes rfl rfl rfl (decide_eq_true h4) (L_run (R_load1 rfl scl3 (hb1.cell (i := 2) rfl)) rfl (L_yes rfl rfl rfl (decide_eq_true h4) (L_run (R_leq rfl rfl) rfl (L_run (R_pickT rfl (decide_eq_true h4) rfl) rfl (Las rfl rfl (L_nil (N_then (C_seq (C_seq (C_reg rfl (Las rfl rfl (L_nil (N_then (C_block ?_))))))))))))))))
     have e_ : Value.bool (decide (first ≤ 2147483647)) = .bool (decide (OkB ep seq first ∧ OkK 0 first hs)) := by
       first
         | exact bD (Iff.trans (by unfold OkB; omega) okB0.symm)
         | exact bT (okB0.2 (by unfold OkB; omega))
         | exact bF (fun h_ => by have q_ := okB0.1 h_; unfold OkB at q_; omega)
         | exact bF (fun h_ => hnb (okS.1 h_).1)
         | exact bF (fun h_ => by have q_ := (okS.1 h_).2; omega)
         | exact bD (Iff.trans ⟨fun q_ => ⟨hyb, by omega, q_⟩, fun q_ => q_.2.2⟩ okS.symm)
     refine C_loop (fun m_ a_ w_ => ∃ (σ_ : Nat → Value) (k : Nat), a_ = Ac 50 σ_ [] [(1, .pointer (some ⟨g1, 0, none⟩)), (2, .bool false), (3, .bool (decide (OkB ep seq first ∧ OkK k first hs))), (4, .int .i64 (k : Int))] ∧ w.grownBy w_ none ∧ Blk w_ g1 33 [.int .u64 ep, .int .i64 seq, .int .i64 first, .int .i64 (hs 0), .int .i64 (hs 1), .int .i64 (hs 2), .int .i64 (hs 3)] ∧ (k ≤ 4) ∧ 4 - k = m_) (4 - 0) ?_ ?_
     ·exact ⟨_, 0, Ac_frg ⟨rfl, rfl, (agr rfl e_), (agx rfl), trivial⟩, hB, hb1, (by omega), rfl⟩
     ·clear hB
      clear hb1
      rintro m_ a_ w2 ⟨σ_, k, rfl, hB, hb1, hk, rfl⟩
      refine C_seq (C_seq (C_reg rfl ?_))
      refine Lmv rfl rfl (L_run (R_lss rfl rfl) rfl (L_nil (N_then (C_if rfl (fun h5 => ?_) (fun h5 => ?_)))))
      ·refine C_skip (N_then (C_seq (C_block ?_)))
       refine C_draw2 rfl mix ?_
       intro w3 hs2 hz2
       replace hB := gb_tr hB hs2; replace hb1 := hb1.gb hs2
       refine ⟨fun W_ => Blk W_ g1 33 [.int .u64 ep, .int .i64 seq, .int .i64 first, .int .i64 (hs 0), .int .i64 (hs 1), .int .i64 (hs 2), .int .i64 (hs 3)] ∧ True, [0, 1, 2, 3, 4, 5, 6, 7, 8, 9, 10, 11, 12, 13, 14, 15, 16, 17], ?_⟩
       refine T_tk (i := 0) rfl (Y_of (fun _ _ => R_move rfl)) ⟨hb1, trivial⟩ rfl ?_
       refine T_tk (i := 1) rfl (Y_of (fun _ _ => R_move rfl)) ⟨hb1, trivial⟩ rfl ?_
       by_cases h6 : OkB ep seq first ∧ OkK k first hs
       ·refine T_tk (i := 2) rfl (Y_yes rfl rfl rfl (decide_eq_true h6) (fun _ _ => R_move rfl)) ⟨hb1, trivial⟩ rfl ?_
        refine T_tk (i := 3) rfl (Y_yes rfl rfl rfl (decide_eq_true h6) (fun _ _ => R_field (r := 3) rfl fld33_3 rfl)) ⟨hb1, trivial⟩ rfl ?_
        have hl1 : k < 4 := by omega
        refine T_tk (i := 4) rfl (Y_yes rfl rfl rfl (decide_eq_true h6) (fun _ _ => R_indexArr (sz := 1) (o := 3) (a := (k : Int)) (i := k) (r := (3 + k)) rfl rfl (by first | rfl | omega) arr31 hl1 (by first | omega | rfl | simp))) ⟨hb1, trivial⟩ rfl ?_
        refine T_tk (i := 5) rfl (Y_yes rfl rfl rfl (decide_eq_true h6) (fun _ ⟨hb1, _⟩ => R_load1 rfl scl3 (hb1.cell (four_at (pre := [.int .u64 ep, .int .i64 seq, .int .i64 first]) (post := []) (f := hs) (k := .i64) hl1)))) ⟨hb1, trivial⟩ rfl ?_
        refine T_tk (i := 6) rfl (Y_yes rfl rfl rfl (decide_eq_true h6) (fun _ _ => R_geq rfl rfl)) ⟨hb1, trivial⟩ rfl ?_
        refine T_tk (i := 7) rfl (Y_of (fun _ _ => R_pickT rfl (decide_eq_true h6) rfl)) ⟨hb1, trivial⟩ rfl ?_
        refine T_tk (i := 8) rfl (Y_of (fun _ _ => R_move rfl)) ⟨hb1, trivial⟩ rfl ?_
        by_cases h7 : 0 ≤ (hs k)
        ·refine T_tk (i := 9) rfl (Y_yes rfl rfl rfl (decide_eq_true h7) (fun _ _ => R_move rfl)) ⟨hb1, trivial⟩ rfl ?_
         refine T_tk (i := 10) rfl (Y_yes rfl rfl rfl (decide_eq_true h7) (fun _ _ => R_field (r := 3) rfl fld33_3 rfl)) ⟨hb1, trivial⟩ rfl ?_
         have hl2 : k < 4 := by omega
         refine T_tk (i := 11) rfl (Y_yes rfl rfl rfl (decide_eq_true h7) (fun _ _ => R_indexArr (sz := 1) (o := 3) (a := (k : Int)) (i := k) (r := (3 + k)) rfl rfl (by first | rfl | omega) arr31 hl2 (by first | omega | rfl | simp))) ⟨hb1, trivial⟩ rfl ?_
         refine T_tk (i := 12) rfl (Y_yes rfl rfl rfl (decide_eq_true h7) (fun _ ⟨hb1, _⟩ => R_load1 rfl scl3 (hb1.cell (four_at (pre := [.int .u64 ep, .int .i64 seq, .int .i64 first]) (post := []) (f := hs) (k := .i64) hl2)))) ⟨hb1, trivial⟩ rfl ?_
         refine T_tk (i := 13) rfl (Y_yes rfl rfl rfl (decide_eq_true h7) (fun _ _ => R_field (r := 2) rfl fld33_2 rfl)) ⟨hb1, trivial⟩ rfl ?_
         refine T_tk (i := 14) rfl (Y_yes rfl rfl rfl (decide_eq_true h7) (fun _ ⟨hb1, _⟩ => R_load1 rfl scl3 (hb1.cell (i := 2) rfl))) ⟨hb1, trivial⟩ rfl ?_
         refine T_tk (i := 15) rfl (Y_yes rfl rfl rfl (decide_eq_true h7) (fun _ _ => R_lss rfl rfl)) ⟨hb1, trivial⟩ rfl ?_
         refine T_tk (i := 16) rfl (Y_of (fun _ _ => R_pickT rfl (decide_eq_true h7) rfl)) ⟨hb1, trivial⟩ rfl ?_
         refine T_tk (i := 17) rfl (Y_of (fun _ _ => R_assign rfl)) ⟨hb1, trivial⟩ rfl ?_
         refine T_done (by kernel_rfl) (CalmE.normal ?_)
         refine N_in (N_then (C_reg rfl ?_))
         refine Lmv rfl rfl ?_
         refine L_run (R_add64 rfl rfl (by omega)) rfl ?_
         refine Las rfl rfl (L_nil (N_then ?_))
         have hyb := h6
         have e_ : Value.bool (decide ((hs k) < first)) = .bool (decide (OkB ep seq first ∧ OkK (k + 1) first hs)) := by
           first
             | exact bD (Iff.trans (by unfold OkB; omega) okB0.symm)
             | exact bT (okB0.2 (by unfold OkB; omega))
             | exact bF (fun h_ => by have q_ := okB0.1 h_; unfold OkB at q_; omega)
             | exact bF (fun h_ => hnb (okS.1 h_).1)
             | exact bF (fun h_ => by have q_ := (okS.1 h_).2; omega)
             | exact bD (Iff.trans ⟨fun q_ => ⟨hyb, by omega, q_⟩, fun q_ => q_.2.2⟩ okS.symm)
         exact ⟨4 - (k + 1), by omega, _, (k + 1), Ac_frg ⟨rfl, rfl, (agr rfl e_), (agx rfl), trivial⟩, hB, hb1, (by omega), rfl⟩
        ·refine T_tk (i := 9) rfl (Y_no rfl rfl rfl (decide_eq_false h7)) ⟨hb1, trivial⟩ rfl ?_
         refine T_tk (i := 10) rfl (Y_no rfl rfl rfl (decide_eq_false h7)) ⟨hb1, trivial⟩ rfl ?_
         refine T_tk (i := 11) rfl (Y_no rfl rfl rfl (decide_eq_false h7)) ⟨hb1, trivial⟩ rfl ?_
         refine T_tk (i := 12) rfl (Y_no rfl rfl rfl (decide_eq_false h7)) ⟨hb1, trivial⟩ rfl ?_
         refine T_tk (i := 13) rfl (Y_no rfl rfl rfl (decide_eq_false h7)) ⟨hb1, trivial⟩ rfl ?_
         refine T_tk (i := 14) rfl (Y_no rfl rfl rfl (decide_eq_false h7)) ⟨hb1, trivial⟩ rfl ?_
         refine T_tk (i := 15) rfl (Y_no rfl rfl rfl (decide_eq_false h7)) ⟨hb1, trivial⟩ rfl ?_
         refine T_tk (i := 16) rfl (Y_of (fun _ _ => R_pickF rfl (decide_eq_false h7) rfl)) ⟨hb1, trivial⟩ rfl ?_
         refine T_tk (i := 17) rfl (Y_of (fun _ _ => R_assign rfl)) ⟨hb1, trivial⟩ rfl ?_
         refine T_done (by kernel_rfl) (CalmE.normal ?_)
         refine N_in (N_then (C_reg rfl ?_))
         refine Lmv rfl rfl ?_
         refine L_run (R_add64 rfl rfl (by omega)) rfl ?_
         refine Las rfl rfl (L_nil (N_then ?_))
         have hyb := h6
         have e_ : Value.bool false = .bool (decide (OkB ep seq first ∧ OkK (k + 1) first hs)) := by
           first
             | exact bD (Iff.trans (by unfold OkB; omega) okB0.symm)
             | exact bT (okB0.2 (by unfold OkB; omega))
             | exact bF (fun h_ => by have q_ := okB0.1 h_; unfold OkB at q_; omega)
             | exact bF (fun h_ => hnb (okS.1 h_).1)
             | exact bF (fun h_ => by have q_ := (okS.1 h_).2; omega)
             | exact bD (Iff.trans ⟨fun q_ => ⟨hyb, by omega, q_⟩, fun q_ => q_.2.2⟩ okS.symm)
         exact ⟨4 - (k + 1), by omega, _, (k + 1), Ac_frg ⟨rfl, rfl, (agr rfl e_), (agx rfl), trivial⟩, hB, hb1, (by omega), rfl⟩
       ·refine T_tk (i := 2) rfl (Y_no rfl rfl rfl (decide_eq_false h6)) ⟨hb1, trivial⟩ rfl ?_
        refine T_tk (i := 3) rfl (Y_no rfl rfl rfl (decide_eq_false h6)) ⟨hb1, trivial⟩ rfl ?_
        refine T_tk (i := 4) rfl (Y_no rfl rfl rfl (decide_eq_false h6)) ⟨hb1, trivial⟩ rfl ?_
        refine T_tk (i := 5) rfl (Y_no rfl rfl rfl (decide_eq_false h6)) ⟨hb1, trivial⟩ rfl ?_
        refine T_tk (i := 6) rfl (Y_no rfl rfl rfl (decide_eq_false h6)) ⟨hb1, trivial⟩ rfl ?_
        refine T_tk (i := 7) rfl (Y_of (fun _ _ => R_pickF rfl (decide_eq_false h6) rfl)) ⟨hb1, trivial⟩ rfl ?_
        refine T_tk (i := 8) rfl (Y_of (fun _ _ => R_move rfl)) ⟨hb1, trivial⟩ rfl ?_
        refine T_tk (i := 9) rfl (Y_no rfl rfl rfl rfl) ⟨hb1, trivial⟩ rfl ?_
        refine T_tk (i := 10) rfl (Y_no rfl rfl rfl rfl) ⟨hb1, trivial⟩ rfl ?_
        refine T_tk (i := 11) rfl (Y_no rfl rfl rfl rfl) ⟨hb1, trivial⟩ rfl ?_
        refine T_tk (i := 12) rfl (Y_no rfl rfl rfl rfl) ⟨hb1, trivial⟩ rfl ?_
        refine T_tk (i := 13) rfl (Y_no rfl rfl rfl rfl) ⟨hb1, trivial⟩ rfl ?_
        refine T_tk (i := 14) rfl (Y_no rfl rfl rfl rfl) ⟨hb1, trivial⟩ rfl ?_
        refine T_tk (i := 15) rfl (Y_no rfl rfl rfl rfl) ⟨hb1, trivial⟩ rfl ?_
        refine T_tk (i := 16) rfl (Y_of (fun _ _ => R_pickF rfl rfl rfl)) ⟨hb1, trivial⟩ rfl ?_
        refine T_tk (i := 17) rfl (Y_of (fun _ _ => R_assign rfl)) ⟨hb1, trivial⟩ rfl ?_
        refine T_done (by kernel_rfl) (CalmE.normal ?_)
        refine N_in (N_then (C_reg rfl ?_))
        refine Lmv rfl rfl ?_
        refine L_run (R_add64 rfl rfl (by omega)) rfl ?_
        refine Las rfl rfl (L_nil (N_then ?_))
        have hnb := h6
        have e_ : Value.bool false = .bool (decide (OkB ep seq first ∧ OkK (k + 1) first hs)) := by
          first
            | exact bD (Iff.trans (by unfold OkB; omega) okB0.symm)
            | exact bT (okB0.2 (by unfold OkB; omega))
            | exact bF (fun h_ => by have q_ := okB0.1 h_; unfold OkB at q_; omega)
            | exact bF (fun h_ => hnb (okS.1 h_).1)
            | exact bF (fun h_ => by have q_ := (okS.1 h_).2; omega)
            | exact bD (Iff.trans ⟨fun q_ => ⟨hyb, by omega, q_⟩, fun q_ => q_.2.2⟩ okS.symm)
        exact ⟨4 - (k + 1), by omega, _, (k + 1), Ac_frg ⟨rfl, rfl, (agr rfl e_), (agx rfl), trivial⟩, hB, hb1, (by omega), rfl⟩
      ·refine C_exit (X_then (X_then (X_hit (N_then (C_seq (C_reg rfl ?_))))))
       refine Lmv rfl rfl (Las rfl rfl (L_nil (N_then (C_ret ?_))))
       refine ret1 Tryd.results38 rfl ?_
       obtain rfl : k = 4 := by omega
       exact ⟨hB, rfl⟩
    ·refine L_no rfl rfl rfl (decide_eq_false h4) rfl (L_no rfl rfl rfl (decide_eq_false h4) rfl (L_no rfl rfl rfl (decide_eq_false h4) rfl (L_run (R_pickF rfl (decide_eq_false h4) rfl) rfl (Las rfl rfl (L_nil (N_then (C_seq (C_seq (C_reg rfl (Las rfl rfl (L_nil (N_then (C_block ?_)))))))))))))
     have e_ : Value.bool false = .bool (decide (OkB ep seq first ∧ OkK 0 first hs)) := by
       first
         | exact bD (Iff.trans (by unfold OkB; omega) okB0.symm)
         | exact bT (okB0.2 (by unfold OkB; omega))
         | exact bF (fun h_ => by have q_ := okB0.1 h_; unfold OkB at q_; omega)
         | exact bF (fun h_ => hnb (okS.1 h_).1)
         | exact bF (fun h_ => by have q_ := (okS.1 h_).2; omega)
         | exact bD (Iff.trans ⟨fun q_ => ⟨hyb, by omega, q_⟩, fun q_ => q_.2.2⟩ okS.symm)
     refine C_loop (fun m_ a_ w_ => ∃ (σ_ : Nat → Value) (k : Nat), a_ = Ac 50 σ_ [] [(1, .pointer (some ⟨g1, 0, none⟩)), (2, .bool false), (3, .bool (decide (OkB ep seq first ∧ OkK k first hs))), (4, .int .i64 (k : Int))] ∧ w.grownBy w_ none ∧ Blk w_ g1 33 [.int .u64 ep, .int .i64 seq, .int .i64 first, .int .i64 (hs 0), .int .i64 (hs 1), .int .i64 (hs 2), .int .i64 (hs 3)] ∧ (k ≤ 4) ∧ 4 - k = m_) (4 - 0) ?_ ?_
     ·exact ⟨_, 0, Ac_frg ⟨rfl, rfl, (agr rfl e_), (agx rfl), trivial⟩, hB, hb1, (by omega), rfl⟩
     ·clear hB
      clear hb1
      rintro m_ a_ w4 ⟨σ_, k, rfl, hB, hb1, hk, rfl⟩
      refine C_seq (C_seq (C_reg rfl ?_))
      refine Lmv rfl rfl (L_run (R_lss rfl rfl) rfl (L_nil (N_then (C_if rfl (fun h8 => ?_) (fun h8 => ?_)))))
      ·refine C_skip (N_then (C_seq (C_block ?_)))
       refine C_draw2 rfl mix ?_
       intro w5 hs3 hz3
       replace hB := gb_tr hB hs3; replace hb1 := hb1.gb hs3
       refine ⟨fun W_ => Blk W_ g1 33 [.int .u64 ep, .int .i64 seq, .int .i64 first, .int .i64 (hs 0), .int .i64 (hs 1), .int .i64 (hs 2), .int .i64 (hs 3)] ∧ True, [0, 1, 2, 3, 4, 5, 6, 7, 8, 9, 10, 11, 12, 13, 14, 15, 16, 17], ?_⟩
       refine T_tk (i := 0) rfl (Y_of (fun _ _ => R_move rfl)) ⟨hb1, trivial⟩ rfl ?_
       refine T_tk (i := 1) rfl (Y_of (fun _ _ => R_move rfl)) ⟨hb1, trivial⟩ rfl ?_
       by_cases h9 : OkB ep seq first ∧ OkK k first hs
       ·refine T_tk (i := 2) rfl (Y_yes rfl rfl rfl (decide_eq_true h9) (fun _ _ => R_move rfl)) ⟨hb1, trivial⟩ rfl ?_
        refine T_tk (i := 3) rfl (Y_yes rfl rfl rfl (decide_eq_true h9) (fun _ _ => R_field (r := 3) rfl fld33_3 rfl)) ⟨hb1, trivial⟩ rfl ?_
        have hl3 : k < 4 := by omega
        refine T_tk (i := 4) rfl (Y_yes rfl rfl rfl (decide_eq_true h9) (fun _ _ => R_indexArr (sz := 1) (o := 3) (a := (k : Int)) (i := k) (r := (3 + k)) rfl rfl (by first | rfl | omega) arr31 hl3 (by first | omega | rfl | simp))) ⟨hb1, trivial⟩ rfl ?_
        refine T_tk (i := 5) rfl (Y_yes rfl rfl rfl (decide_eq_true h9) (fun _ ⟨hb1, _⟩ => R_load1 rfl scl3 (hb1.cell (four_at (pre := [.int .u64 ep, .int .i64 seq, .int .i64 first]) (post := []) (f := hs) (k := .i64) hl3)))) ⟨hb1, trivial⟩ rfl ?_
        refine T_tk (i := 6) rfl (Y_yes rfl rfl rfl (decide_eq_true h9) (fun _ _ => R_geq rfl rfl)) ⟨hb1, trivial⟩ rfl ?_
        refine T_tk (i := 7) rfl (Y_of (fun _ _ => R_pickT rfl (decide_eq_true h9) rfl)) ⟨hb1, trivial⟩ rfl ?_
        refine T_tk (i := 8) rfl (Y_of (fun _ _ => R_move rfl)) ⟨hb1, trivial⟩ rfl ?_
        by_cases h10 : 0 ≤ (hs k)
        ·refine T_tk (i := 9) rfl (Y_yes rfl rfl rfl (decide_eq_true h10) (fun _ _ => R_move rfl)) ⟨hb1, trivial⟩ rfl ?_
         refine T_tk (i := 10) rfl (Y_yes rfl rfl rfl (decide_eq_true h10) (fun _ _ => R_field (r := 3) rfl fld33_3 rfl)) ⟨hb1, trivial⟩ rfl ?_
         have hl4 : k < 4 := by omega
         refine T_tk (i := 11) rfl (Y_yes rfl rfl rfl (decide_eq_true h10) (fun _ _ => R_indexArr (sz := 1) (o := 3) (a := (k : Int)) (i := k) (r := (3 + k)) rfl rfl (by first | rfl | omega) arr31 hl4 (by first | omega | rfl | simp))) ⟨hb1, trivial⟩ rfl ?_
         refine T_tk (i := 12) rfl (Y_yes rfl rfl rfl (decide_eq_true h10) (fun _ ⟨hb1, _⟩ => R_load1 rfl scl3 (hb1.cell (four_at (pre := [.int .u64 ep, .int .i64 seq, .int .i64 first]) (post := []) (f := hs) (k := .i64) hl4)))) ⟨hb1, trivial⟩ rfl ?_
         refine T_tk (i := 13) rfl (Y_yes rfl rfl rfl (decide_eq_true h10) (fun _ _ => R_field (r := 2) rfl fld33_2 rfl)) ⟨hb1, trivial⟩ rfl ?_
         refine T_tk (i := 14) rfl (Y_yes rfl rfl rfl (decide_eq_true h10) (fun _ ⟨hb1, _⟩ => R_load1 rfl scl3 (hb1.cell (i := 2) rfl))) ⟨hb1, trivial⟩ rfl ?_
         refine T_tk (i := 15) rfl (Y_yes rfl rfl rfl (decide_eq_true h10) (fun _ _ => R_lss rfl rfl)) ⟨hb1, trivial⟩ rfl ?_
         refine T_tk (i := 16) rfl (Y_of (fun _ _ => R_pickT rfl (decide_eq_true h10) rfl)) ⟨hb1, trivial⟩ rfl ?_
         refine T_tk (i := 17) rfl (Y_of (fun _ _ => R_assign rfl)) ⟨hb1, trivial⟩ rfl ?_
         refine T_done (by kernel_rfl) (CalmE.normal ?_)
         refine N_in (N_then (C_reg rfl ?_))
         refine Lmv rfl rfl ?_
         refine L_run (R_add64 rfl rfl (by omega)) rfl ?_
         refine Las rfl rfl (L_nil (N_then ?_))
         have hyb := h9
         have e_ : Value.bool (decide ((hs k) < first)) = .bool (decide (OkB ep seq first ∧ OkK (k + 1) first hs)) := by
           first
             | exact bD (Iff.trans (by unfold OkB; omega) okB0.symm)
             | exact bT (okB0.2 (by unfold OkB; omega))
             | exact bF (fun h_ => by have q_ := okB0.1 h_; unfold OkB at q_; omega)
             | exact bF (fun h_ => hnb (okS.1 h_).1)
             | exact bF (fun h_ => by have q_ := (okS.1 h_).2; omega)
             | exact bD (Iff.trans ⟨fun q_ => ⟨hyb, by omega, q_⟩, fun q_ => q_.2.2⟩ okS.symm)
         exact ⟨4 - (k + 1), by omega, _, (k + 1), Ac_frg ⟨rfl, rfl, (agr rfl e_), (agx rfl), trivial⟩, hB, hb1, (by omega), rfl⟩
        ·refine T_tk (i := 9) rfl (Y_no rfl rfl rfl (decide_eq_false h10)) ⟨hb1, trivial⟩ rfl ?_
         refine T_tk (i := 10) rfl (Y_no rfl rfl rfl (decide_eq_false h10)) ⟨hb1, trivial⟩ rfl ?_
         refine T_tk (i := 11) rfl (Y_no rfl rfl rfl (decide_eq_false h10)) ⟨hb1, trivial⟩ rfl ?_
         refine T_tk (i := 12) rfl (Y_no rfl rfl rfl (decide_eq_false h10)) ⟨hb1, trivial⟩ rfl ?_
         refine T_tk (i := 13) rfl (Y_no rfl rfl rfl (decide_eq_false h10)) ⟨hb1, trivial⟩ rfl ?_
         refine T_tk (i := 14) rfl (Y_no rfl rfl rfl (decide_eq_false h10)) ⟨hb1, trivial⟩ rfl ?_
         refine T_tk (i := 15) rfl (Y_no rfl rfl rfl (decide_eq_false h10)) ⟨hb1, trivial⟩ rfl ?_
         refine T_tk (i := 16) rfl (Y_of (fun _ _ => R_pickF rfl (decide_eq_false h10) rfl)) ⟨hb1, trivial⟩ rfl ?_
         refine T_tk (i := 17) rfl (Y_of (fun _ _ => R_assign rfl)) ⟨hb1, trivial⟩ rfl ?_
         refine T_done (by kernel_rfl) (CalmE.normal ?_)
         refine N_in (N_then (C_reg rfl ?_))
         refine Lmv rfl rfl ?_
         refine L_run (R_add64 rfl rfl (by omega)) rfl ?_
         refine Las rfl rfl (L_nil (N_then ?_))
         have hyb := h9
         have e_ : Value.bool false = .bool (decide (OkB ep seq first ∧ OkK (k + 1) first hs)) := by
           first
             | exact bD (Iff.trans (by unfold OkB; omega) okB0.symm)
             | exact bT (okB0.2 (by unfold OkB; omega))
             | exact bF (fun h_ => by have q_ := okB0.1 h_; unfold OkB at q_; omega)
             | exact bF (fun h_ => hnb (okS.1 h_).1)
             | exact bF (fun h_ => by have q_ := (okS.1 h_).2; omega)
             | exact bD (Iff.trans ⟨fun q_ => ⟨hyb, by omega, q_⟩, fun q_ => q_.2.2⟩ okS.symm)
         exact ⟨4 - (k + 1), by omega, _, (k + 1), Ac_frg ⟨rfl, rfl, (agr rfl e_), (agx rfl), trivial⟩, hB, hb1, (by omega), rfl⟩
       ·refine T_tk (i := 2) rfl (Y_no rfl rfl rfl (decide_eq_false h9)) ⟨hb1, trivial⟩ rfl ?_
        refine T_tk (i := 3) rfl (Y_no rfl rfl rfl (decide_eq_false h9)) ⟨hb1, trivial⟩ rfl ?_
        refine T_tk (i := 4) rfl (Y_no rfl rfl rfl (decide_eq_false h9)) ⟨hb1, trivial⟩ rfl ?_
        refine T_tk (i := 5) rfl (Y_no rfl rfl rfl (decide_eq_false h9)) ⟨hb1, trivial⟩ rfl ?_
        refine T_tk (i := 6) rfl (Y_no rfl rfl rfl (decide_eq_false h9)) ⟨hb1, trivial⟩ rfl ?_
        refine T_tk (i := 7) rfl (Y_of (fun _ _ => R_pickF rfl (decide_eq_false h9) rfl)) ⟨hb1, trivial⟩ rfl ?_
        refine T_tk (i := 8) rfl (Y_of (fun _ _ => R_move rfl)) ⟨hb1, trivial⟩ rfl ?_
        refine T_tk (i := 9) rfl (Y_no rfl rfl rfl rfl) ⟨hb1, trivial⟩ rfl ?_
        refine T_tk (i := 10) rfl (Y_no rfl rfl rfl rfl) ⟨hb1, trivial⟩ rfl ?_
        refine T_tk (i := 11) rfl (Y_no rfl rfl rfl rfl) ⟨hb1, trivial⟩ rfl ?_
        refine T_tk (i := 12) rfl (Y_no rfl rfl rfl rfl) ⟨hb1, trivial⟩ rfl ?_
        refine T_tk (i := 13) rfl (Y_no rfl rfl rfl rfl) ⟨hb1, trivial⟩ rfl ?_
        refine T_tk (i := 14) rfl (Y_no rfl rfl rfl rfl) ⟨hb1, trivial⟩ rfl ?_
        refine T_tk (i := 15) rfl (Y_no rfl rfl rfl rfl) ⟨hb1, trivial⟩ rfl ?_
        refine T_tk (i := 16) rfl (Y_of (fun _ _ => R_pickF rfl rfl rfl)) ⟨hb1, trivial⟩ rfl ?_
        refine T_tk (i := 17) rfl (Y_of (fun _ _ => R_assign rfl)) ⟨hb1, trivial⟩ rfl ?_
        refine T_done (by kernel_rfl) (CalmE.normal ?_)
        refine N_in (N_then (C_reg rfl ?_))
        refine Lmv rfl rfl ?_
        refine L_run (R_add64 rfl rfl (by omega)) rfl ?_
        refine Las rfl rfl (L_nil (N_then ?_))
        have hnb := h9
        have e_ : Value.bool false = .bool (decide (OkB ep seq first ∧ OkK (k + 1) first hs)) := by
          first
            | exact bD (Iff.trans (by unfold OkB; omega) okB0.symm)
            | exact bT (okB0.2 (by unfold OkB; omega))
            | exact bF (fun h_ => by have q_ := okB0.1 h_; unfold OkB at q_; omega)
            | exact bF (fun h_ => hnb (okS.1 h_).1)
            | exact bF (fun h_ => by have q_ := (okS.1 h_).2; omega)
            | exact bD (Iff.trans ⟨fun q_ => ⟨hyb, by omega, q_⟩, fun q_ => q_.2.2⟩ okS.symm)
        exact ⟨4 - (k + 1), by omega, _, (k + 1), Ac_frg ⟨rfl, rfl, (agr rfl e_), (agx rfl), trivial⟩, hB, hb1, (by omega), rfl⟩
      ·refine C_exit (X_then (X_then (X_hit (N_then (C_seq (C_reg rfl ?_))))))
       refine Lmv rfl rfl (Las rfl rfl (L_nil (N_then (C_ret ?_))))
       refine ret1 Tryd.results38 rfl ?_
       obtain rfl : k = 4 := by omega
       exact ⟨hB, rfl⟩
   ·refine L_no rfl rfl rfl (decide_eq_false h3) rfl (L_no rfl rfl rfl (decide_eq_false h3) rfl (L_no rfl rfl rfl (decide_eq_false h3) rfl (L_run (R_pickF rfl (decide_eq_false h3) rfl) rfl (Lmv rfl rfl (L_no rfl rfl rfl rfl rfl (L_no rfl rfl rfl rfl rfl (L_no rfl rfl rfl rfl rfl (L_run (R_pickF rfl rfl rfl) rfl (Las rfl rfl (L_nil (N_then (C_seq (C_seq (C_reg rfl (Las rfl rfl (L_nil (N_then (C_block ?_))))))))))))))))))
    have e_ : Value.bool false = .bool (decide (OkB ep seq first ∧ OkK 0 first hs)) := by
      first
        | exact bD (Iff.trans (by unfold OkB; omega) okB0.symm)
        | exact bT (okB0.2 (by unfold OkB; omega))
        | exact bF (fun h_ => by have q_ := okB0.1 h_; unfold OkB at q_; omega)
        | exact bF (fun h_ => hnb (okS.1 h_).1)
        | exact bF (fun h_ => by have q_ := (okS.1 h_).2; omega)
        | exact bD (Iff.trans ⟨fun q_ => ⟨hyb, by omega, q_⟩, fun q_ => q_.2.2⟩ okS.symm)
    refine C_loop (fun m_ a_ w_ => ∃ (σ_ : Nat → Value) (k : Nat), a_ = Ac 50 σ_ [] [(1, .pointer (some ⟨g1, 0, none⟩)), (2, .bool false), (3, .bool (decide (OkB ep seq first ∧ OkK k first hs))), (4, .int .i64 (k : Int))] ∧ w.grownBy w_ none ∧ Blk w_ g1 33 [.int .u64 ep, .int .i64 seq, .int .i64 first, .int .i64 (hs 0), .int .i64 (hs 1), .int .i64 (hs 2), .int .i64 (hs 3)] ∧ (k ≤ 4) ∧ 4 - k = m_) (4 - 0) ?_ ?_
    ·exact ⟨_, 0, Ac_frg ⟨rfl, rfl, (agr rfl e_), (agx rfl), trivial⟩, hB, hb1, (by omega), rfl⟩
    ·clear hB
     clear hb1
     rintro m_ a_ w6 ⟨σ_, k, rfl, hB, hb1, hk, rfl⟩
     refine C_seq (C_seq (C_reg rfl ?_))
     refine Lmv rfl rfl (L_run (R_lss rfl rfl) rfl (L_nil (N_then (C_if rfl (fun h11 => ?_) (fun h11 => ?_)))))
     ·refine C_skip (N_then (C_seq (C_block ?_)))
      refine C_draw2 rfl mix ?_
      intro w7 hs4 hz4
      replace hB := gb_tr hB hs4; replace hb1 := hb1.gb hs4
      refine ⟨fun W_ => Blk W_ g1 33 [.int .u64 ep, .int .i64 seq, .int .i64 first, .int .i64 (hs 0), .int .i64 (hs 1), .int .i64 (hs 2), .int .i64 (hs 3)] ∧ True, [0, 1, 2, 3, 4, 5, 6, 7, 8, 9, 10, 11, 12, 13, 14, 15, 16, 17], ?_⟩
      refine T_tk (i := 0) rfl (Y_of (fun _ _ => R_move rfl)) ⟨hb1, trivial⟩ rfl ?_
      refine T_tk (i := 1) rfl (Y_of (fun _ _ => R_move rfl)) ⟨hb1, trivial⟩ rfl ?_
      by_cases h12 : OkB ep seq first ∧ OkK k first hs
      ·refine T_tk (i := 2) rfl (Y_yes rfl rfl rfl (decide_eq_true h12) (fun _ _ => R_move rfl)) ⟨hb1, trivial⟩ rfl ?_
       refine T_tk (i := 3) rfl (Y_yes rfl rfl rfl (decide_eq_true h12) (fun _ _ => R_field (r := 3) rfl fld33_3 rfl)) ⟨hb1, trivial⟩ rfl ?_
       have hl5 : k < 4 := by omega
       refine T_tk (i := 4) rfl (Y_yes rfl rfl rfl (decide_eq_true h12) (fun _ _ => R_indexArr (sz := 1) (o := 3) (a := (k : Int)) (i := k) (r := (3 + k)) rfl rfl (by first | rfl | omega) arr31 hl5 (by first | omega | rfl | simp))) ⟨hb1, trivial⟩ rfl ?_
       refine T_tk (i := 5) rfl (Y_yes rfl rfl rfl (decide_eq_true h12) (fun _ ⟨hb1, _⟩ => R_load1 rfl scl3 (hb1.cell (four_at (pre := [.int .u64 ep, .int .i64 seq, .int .i64 first]) (post := []) (f := hs) (k := .i64) hl5)))) ⟨hb1, trivial⟩ rfl ?_
       refine T_tk (i := 6) rfl (Y_yes rfl rfl rfl (decide_eq_true h12) (fun _ _ => R_geq rfl rfl)) ⟨hb1, trivial⟩ rfl ?_
       refine T_tk (i := 7) rfl (Y_of (fun _ _ => R_pickT rfl (decide_eq_true h12) rfl)) ⟨hb1, trivial⟩ rfl ?_
       refine T_tk (i := 8) rfl (Y_of (fun _ _ => R_move rfl)) ⟨hb1, trivial⟩ rfl ?_
       by_cases h13 : 0 ≤ (hs k)
       ·refine T_tk (i := 9) rfl (Y_yes rfl rfl rfl (decide_eq_true h13) (fun _ _ => R_move rfl)) ⟨hb1, trivial⟩ rfl ?_
        refine T_tk (i := 10) rfl (Y_yes rfl rfl rfl (decide_eq_true h13) (fun _ _ => R_field (r := 3) rfl fld33_3 rfl)) ⟨hb1, trivial⟩ rfl ?_
        have hl6 : k < 4 := by omega
        refine T_tk (i := 11) rfl (Y_yes rfl rfl rfl (decide_eq_true h13) (fun _ _ => R_indexArr (sz := 1) (o := 3) (a := (k : Int)) (i := k) (r := (3 + k)) rfl rfl (by first | rfl | omega) arr31 hl6 (by first | omega | rfl | simp))) ⟨hb1, trivial⟩ rfl ?_
        refine T_tk (i := 12) rfl (Y_yes rfl rfl rfl (decide_eq_true h13) (fun _ ⟨hb1, _⟩ => R_load1 rfl scl3 (hb1.cell (four_at (pre := [.int .u64 ep, .int .i64 seq, .int .i64 first]) (post := []) (f := hs) (k := .i64) hl6)))) ⟨hb1, trivial⟩ rfl ?_
        refine T_tk (i := 13) rfl (Y_yes rfl rfl rfl (decide_eq_true h13) (fun _ _ => R_field (r := 2) rfl fld33_2 rfl)) ⟨hb1, trivial⟩ rfl ?_
        refine T_tk (i := 14) rfl (Y_yes rfl rfl rfl (decide_eq_true h13) (fun _ ⟨hb1, _⟩ => R_load1 rfl scl3 (hb1.cell (i := 2) rfl))) ⟨hb1, trivial⟩ rfl ?_
        refine T_tk (i := 15) rfl (Y_yes rfl rfl rfl (decide_eq_true h13) (fun _ _ => R_lss rfl rfl)) ⟨hb1, trivial⟩ rfl ?_
        refine T_tk (i := 16) rfl (Y_of (fun _ _ => R_pickT rfl (decide_eq_true h13) rfl)) ⟨hb1, trivial⟩ rfl ?_
        refine T_tk (i := 17) rfl (Y_of (fun _ _ => R_assign rfl)) ⟨hb1, trivial⟩ rfl ?_
        refine T_done (by kernel_rfl) (CalmE.normal ?_)
        refine N_in (N_then (C_reg rfl ?_))
        refine Lmv rfl rfl ?_
        refine L_run (R_add64 rfl rfl (by omega)) rfl ?_
        refine Las rfl rfl (L_nil (N_then ?_))
        have hyb := h12
        have e_ : Value.bool (decide ((hs k) < first)) = .bool (decide (OkB ep seq first ∧ OkK (k + 1) first hs)) := by
          first
            | exact bD (Iff.trans (by unfold OkB; omega) okB0.symm)
            | exact bT (okB0.2 (by unfold OkB; omega))
            | exact bF (fun h_ => by have q_ := okB0.1 h_; unfold OkB at q_; omega)
            | exact bF (fun h_ => hnb (okS.1 h_).1)
            | exact bF (fun h_ => by have q_ := (okS.1 h_).2; omega)
            | exact bD (Iff.trans ⟨fun q_ => ⟨hyb, by omega, q_⟩, fun q_ => q_.2.2⟩ okS.symm)
        exact ⟨4 - (k + 1), by omega, _, (k + 1), Ac_frg ⟨rfl, rfl, (agr rfl e_), (agx rfl), trivial⟩, hB, hb1, (by omega), rfl⟩
       ·refine T_tk (i := 9) rfl (Y_no rfl rfl rfl (decide_eq_false h13)) ⟨hb1, trivial⟩ rfl ?_
        refine T_tk (i := 10) rfl (Y_no rfl rfl rfl (decide_eq_false h13)) ⟨hb1, trivial⟩ rfl ?_
        refine T_tk (i := 11) rfl (Y_no rfl rfl rfl (decide_eq_false h13)) ⟨hb1, trivial⟩ rfl ?_
        refine T_tk (i := 12) rfl (Y_no rfl rfl rfl (decide_eq_false h13)) ⟨hb1, trivial⟩ rfl ?_
        refine T_tk (i := 13) rfl (Y_no rfl rfl rfl (decide_eq_false h13)) ⟨hb1, trivial⟩ rfl ?_
        refine T_tk (i := 14) rfl (Y_no rfl rfl rfl (decide_eq_false h13)) ⟨hb1, trivial⟩ rfl ?_
        refine T_tk (i := 15) rfl (Y_no rfl rfl rfl (decide_eq_false h13)) ⟨hb1, trivial⟩ rfl ?_
        refine T_tk (i := 16) rfl (Y_of (fun _ _ => R_pickF rfl (decide_eq_false h13) rfl)) ⟨hb1, trivial⟩ rfl ?_
        refine T_tk (i := 17) rfl (Y_of (fun _ _ => R_assign rfl)) ⟨hb1, trivial⟩ rfl ?_
        refine T_done (by kernel_rfl) (CalmE.normal ?_)
        refine N_in (N_then (C_reg rfl ?_))
        refine Lmv rfl rfl ?_
        refine L_run (R_add64 rfl rfl (by omega)) rfl ?_
        refine Las rfl rfl (L_nil (N_then ?_))
        have hyb := h12
        have e_ : Value.bool false = .bool (decide (OkB ep seq first ∧ OkK (k + 1) first hs)) := by
          first
            | exact bD (Iff.trans (by unfold OkB; omega) okB0.symm)
            | exact bT (okB0.2 (by unfold OkB; omega))
            | exact bF (fun h_ => by have q_ := okB0.1 h_; unfold OkB at q_; omega)
            | exact bF (fun h_ => hnb (okS.1 h_).1)
            | exact bF (fun h_ => by have q_ := (okS.1 h_).2; omega)
            | exact bD (Iff.trans ⟨fun q_ => ⟨hyb, by omega, q_⟩, fun q_ => q_.2.2⟩ okS.symm)
        exact ⟨4 - (k + 1), by omega, _, (k + 1), Ac_frg ⟨rfl, rfl, (agr rfl e_), (agx rfl), trivial⟩, hB, hb1, (by omega), rfl⟩
      ·refine T_tk (i := 2) rfl (Y_no rfl rfl rfl (decide_eq_false h12)) ⟨hb1, trivial⟩ rfl ?_
       refine T_tk (i := 3) rfl (Y_no rfl rfl rfl (decide_eq_false h12)) ⟨hb1, trivial⟩ rfl ?_
       refine T_tk (i := 4) rfl (Y_no rfl rfl rfl (decide_eq_false h12)) ⟨hb1, trivial⟩ rfl ?_
       refine T_tk (i := 5) rfl (Y_no rfl rfl rfl (decide_eq_false h12)) ⟨hb1, trivial⟩ rfl ?_
       refine T_tk (i := 6) rfl (Y_no rfl rfl rfl (decide_eq_false h12)) ⟨hb1, trivial⟩ rfl ?_
       refine T_tk (i := 7) rfl (Y_of (fun _ _ => R_pickF rfl (decide_eq_false h12) rfl)) ⟨hb1, trivial⟩ rfl ?_
       refine T_tk (i := 8) rfl (Y_of (fun _ _ => R_move rfl)) ⟨hb1, trivial⟩ rfl ?_
       refine T_tk (i := 9) rfl (Y_no rfl rfl rfl rfl) ⟨hb1, trivial⟩ rfl ?_
       refine T_tk (i := 10) rfl (Y_no rfl rfl rfl rfl) ⟨hb1, trivial⟩ rfl ?_
       refine T_tk (i := 11) rfl (Y_no rfl rfl rfl rfl) ⟨hb1, trivial⟩ rfl ?_
       refine T_tk (i := 12) rfl (Y_no rfl rfl rfl rfl) ⟨hb1, trivial⟩ rfl ?_
       refine T_tk (i := 13) rfl (Y_no rfl rfl rfl rfl) ⟨hb1, trivial⟩ rfl ?_
       refine T_tk (i := 14) rfl (Y_no rfl rfl rfl rfl) ⟨hb1, trivial⟩ rfl ?_
       refine T_tk (i := 15) rfl (Y_no rfl rfl rfl rfl) ⟨hb1, trivial⟩ rfl ?_
       refine T_tk (i := 16) rfl (Y_of (fun _ _ => R_pickF rfl rfl rfl)) ⟨hb1, trivial⟩ rfl ?_
       refine T_tk (i := 17) rfl (Y_of (fun _ _ => R_assign rfl)) ⟨hb1, trivial⟩ rfl ?_
       refine T_done (by kernel_rfl) (CalmE.normal ?_)
       refine N_in (N_then (C_reg rfl ?_))
       refine Lmv rfl rfl ?_
       refine L_run (R_add64 rfl rfl (by omega)) rfl ?_
       refine Las rfl rfl (L_nil (N_then ?_))
       have hnb := h12
       have e_ : Value.bool false = .bool (decide (OkB ep seq first ∧ OkK (k + 1) first hs)) := by
         first
           | exact bD (Iff.trans (by unfold OkB; omega) okB0.symm)
           | exact bT (okB0.2 (by unfold OkB; omega))
           | exact bF (fun h_ => by have q_ := okB0.1 h_; unfold OkB at q_; omega)
           | exact bF (fun h_ => hnb (okS.1 h_).1)
           | exact bF (fun h_ => by have q_ := (okS.1 h_).2; omega)
           | exact bD (Iff.trans ⟨fun q_ => ⟨hyb, by omega, q_⟩, fun q_ => q_.2.2⟩ okS.symm)
       exact ⟨4 - (k + 1), by omega, _, (k + 1), Ac_frg ⟨rfl, rfl, (agr rfl e_), (agx rfl), trivial⟩, hB, hb1, (by omega), rfl⟩
     ·refine C_exit (X_then (X_then (X_hit (N_then (C_seq (C_reg rfl ?_))))))
      refine Lmv rfl rfl (Las rfl rfl (L_nil (N_then (C_ret ?_))))
      refine ret1 Tryd.results38 rfl ?_
      obtain rfl : k = 4 := by omega
      exact ⟨hB, rfl⟩
  ·refine L_no rfl rfl rfl (decide_eq_false h2) rfl (L_no rfl rfl rfl (decide_eq_false h2) rfl (L_no rfl rfl rfl (decide_eq_false h2) rfl (L_run (R_pickF rfl (decide_eq_false h2) rfl) rfl (Lmv rfl rfl (L_no rfl rfl rfl rfl rfl (L_no rfl rfl rfl rfl rfl (L_no rfl rfl rfl rfl rfl (L_run (R_pickF rfl rfl rfl) rfl (Lmv rfl rfl (L_no rfl rfl rfl rfl rfl (L_no rfl rfl rfl rfl rfl (L_no rfl rfl rfl rfl rfl ?_))))))))))))
   refine L_run (R_pickF rfl rfl rfl) rfl ?_
   refine Las rfl rfl (L_nil (N_then (C_seq (C_seq (C_reg rfl (Las rfl rfl (L_nil (N_then (C_block ?_)))))))))
   have e_ : Value.bool false = .bool (decide (OkB ep seq first ∧ OkK 0 first hs)) := by
     first
       | exact bD (Iff.trans (by unfold OkB; omega) okB0.symm)
       | exact bT (okB0.2 (by unfold OkB; omega))
       | exact bF (fun h_ => by have q_ := okB0.1 h_; unfold OkB at q_; omega)
       | exact bF (fun h_ => hnb (okS.1 h_).1)
       | exact bF (fun h_ => by have q_ := (okS.1 h_).2; omega)
       | exact bD (Iff.trans ⟨fun q_ => ⟨hyb, by omega, q_⟩, fun q_ => q_.2.2⟩ okS.symm)
   refine C_loop (fun m_ a_ w_ => ∃ (σ_ : Nat → Value) (k : Nat), a_ = Ac 50 σ_ [] [(1, .pointer (some ⟨g1, 0, none⟩)), (2, .bool false), (3, .bool (decide (OkB ep seq first ∧ OkK k first hs))), (4, .int .i64 (k : Int))] ∧ w.grownBy w_ none ∧ Blk w_ g1 33 [.int .u64 ep, .int .i64 seq, .int .i64 first, .int .i64 (hs 0), .int .i64 (hs 1), .int .i64 (hs 2), .int .i64 (hs 3)] ∧ (k ≤ 4) ∧ 4 - k = m_) (4 - 0) ?_ ?_
   ·exact ⟨_, 0, Ac_frg ⟨rfl, rfl, (agr rfl e_), (agx rfl), trivial⟩, hB, hb1, (by omega), rfl⟩
   ·clear hB
    clear hb1
    rintro m_ a_ w8 ⟨σ_, k, rfl, hB, hb1, hk, rfl⟩
    refine C_seq (C_seq (C_reg rfl ?_))
    refine Lmv rfl rfl (L_run (R_lss rfl rfl) rfl (L_nil (N_then (C_if rfl (fun h14 => ?_) (fun h14 => ?_)))))
    ·refine C_skip (N_then (C_seq (C_block ?_)))
     refine C_draw2 rfl mix ?_
     intro w9 hs5 hz5
     replace hB := gb_tr hB hs5; replace hb1 := hb1.gb hs5
     refine ⟨fun W_ => Blk W_ g1 33 [.int .u64 ep, .int .i64 seq, .int .i64 first, .int .i64 (hs 0), .int .i64 (hs 1), .int .i64 (hs 2), .int .i64 (hs 3)] ∧ True, [0, 1, 2, 3, 4, 5, 6, 7, 8, 9, 10, 11, 12, 13, 14, 15, 16, 17], ?_⟩
     refine T_tk (i := 0) rfl (Y_of (fun _ _ => R_move rfl)) ⟨hb1, trivial⟩ rfl ?_
     refine T_tk (i := 1) rfl (Y_of (fun _ _ => R_move rfl)) ⟨hb1, trivial⟩ rfl ?_
     by_cases h15 : OkB ep seq first ∧ OkK k first hs
     ·refine T_tk (i := 2) rfl (Y_yes rfl rfl rfl (decide_eq_true h15) (fun _ _ => R_move rfl)) ⟨hb1, trivial⟩ rfl ?_
      refine T_tk (i := 3) rfl (Y_yes rfl rfl rfl (decide_eq_true h15) (fun _ _ => R_field (r := 3) rfl fld33_3 rfl)) ⟨hb1, trivial⟩ rfl ?_
      have hl7 : k < 4 := by omega
      refine T_tk (i := 4) rfl (Y_yes rfl rfl rfl (decide_eq_true h15) (fun _ _ => R_indexArr (sz := 1) (o := 3) (a := (k : Int)) (i := k) (r := (3 + k)) rfl rfl (by first | rfl | omega) arr31 hl7 (by first | omega | rfl | simp))) ⟨hb1, trivial⟩ rfl ?_
      refine T_tk (i := 5) rfl (Y_yes rfl rfl rfl (decide_eq_true h15) (fun _ ⟨hb1, _⟩ => R_load1 rfl scl3 (hb1.cell (four_at (pre := [.int .u64 ep, .int .i64 seq, .int .i64 first]) (post := []) (f := hs) (k := .i64) hl7)))) ⟨hb1, trivial⟩ rfl ?_
      refine T_tk (i := 6) rfl (Y_yes rfl rfl rfl (decide_eq_true h15) (fun _ _ => R_geq rfl rfl)) ⟨hb1, trivial⟩ rfl ?_
      refine T_tk (i := 7) rfl (Y_of (fun _ _ => R_pickT rfl (decide_eq_true h15) rfl)) ⟨hb1, trivial⟩ rfl ?_
      refine T_tk (i := 8) rfl (Y_of (fun _ _ => R_move rfl)) ⟨hb1, trivial⟩ rfl ?_
      by_cases h16 : 0 ≤ (hs k)
      ·refine T_tk (i := 9) rfl (Y_yes rfl rfl rfl (decide_eq_true h16) (fun _ _ => R_move rfl)) ⟨hb1, trivial⟩ rfl ?_
       refine T_tk (i := 10) rfl (Y_yes rfl rfl rfl (decide_eq_true h16) (fun _ _ => R_field (r := 3) rfl fld33_3 rfl)) ⟨hb1, trivial⟩ rfl ?_
       have hl8 : k < 4 := by omega
       refine T_tk (i := 11) rfl (Y_yes rfl rfl rfl (decide_eq_true h16) (fun _ _ => R_indexArr (sz := 1) (o := 3) (a := (k : Int)) (i := k) (r := (3 + k)) rfl rfl (by first | rfl | omega) arr31 hl8 (by first | omega | rfl | simp))) ⟨hb1, trivial⟩ rfl ?_
       refine T_tk (i := 12) rfl (Y_yes rfl rfl rfl (decide_eq_true h16) (fun _ ⟨hb1, _⟩ => R_load1 rfl scl3 (hb1.cell (four_at (pre := [.int .u64 ep, .int .i64 seq, .int .i64 first]) (post := []) (f := hs) (k := .i64) hl8)))) ⟨hb1, trivial⟩ rfl ?_
       refine T_tk (i := 13) rfl (Y_yes rfl rfl rfl (decide_eq_true h16) (fun _ _ => R_field (r := 2) rfl fld33_2 rfl)) ⟨hb1, trivial⟩ rfl ?_
       refine T_tk (i := 14) rfl (Y_yes rfl rfl rfl (decide_eq_true h16) (fun _ ⟨hb1, _⟩ => R_load1 rfl scl3 (hb1.cell (i := 2) rfl))) ⟨hb1, trivial⟩ rfl ?_
       refine T_tk (i := 15) rfl (Y_yes rfl rfl rfl (decide_eq_true h16) (fun _ _ => R_lss rfl rfl)) ⟨hb1, trivial⟩ rfl ?_
       refine T_tk (i := 16) rfl (Y_of (fun _ _ => R_pickT rfl (decide_eq_true h16) rfl)) ⟨hb1, trivial⟩ rfl ?_
       refine T_tk (i := 17) rfl (Y_of (fun _ _ => R_assign rfl)) ⟨hb1, trivial⟩ rfl ?_
       refine T_done (by kernel_rfl) (CalmE.normal ?_)
       refine N_in (N_then (C_reg rfl ?_))
       refine Lmv rfl rfl ?_
       refine L_run (R_add64 rfl rfl (by omega)) rfl ?_
       refine Las rfl rfl (L_nil (N_then ?_))
       have hyb := h15
       have e_ : Value.bool (decide ((hs k) < first)) = .bool (decide (OkB ep seq first ∧ OkK (k + 1) first hs)) := by
         first
           | exact bD (Iff.trans (by unfold OkB; omega) okB0.symm)
           | exact bT (okB0.2 (by unfold OkB; omega))
           | exact bF (fun h_ => by have q_ := okB0.1 h_; unfold OkB at q_; omega)
           | exact bF (fun h_ => hnb (okS.1 h_).1)
           | exact bF (fun h_ => by have q_ := (okS.1 h_).2; omega)
           | exact bD (Iff.trans ⟨fun q_ => ⟨hyb, by omega, q_⟩, fun q_ => q_.2.2⟩ okS.symm)
       exact ⟨4 - (k + 1), by omega, _, (k + 1), Ac_frg ⟨rfl, rfl, (agr rfl e_), (agx rfl), trivial⟩, hB, hb1, (by omega), rfl⟩
      ·refine T_tk (i := 9) rfl (Y_no rfl rfl rfl (decide_eq_false h16)) ⟨hb1, trivial⟩ rfl ?_
       refine T_tk (i := 10) rfl (Y_no rfl rfl rfl (decide_eq_false h16)) ⟨hb1, trivial⟩ rfl ?_
       refine T_tk (i := 11) rfl (Y_no rfl rfl rfl (decide_eq_false h16)) ⟨hb1, trivial⟩ rfl ?_
       refine T_tk (i := 12) rfl (Y_no rfl rfl rfl (decide_eq_false h16)) ⟨hb1, trivial⟩ rfl ?_
       refine T_tk (i := 13) rfl (Y_no rfl rfl rfl (decide_eq_false h16)) ⟨hb1, trivial⟩ rfl ?_
       refine T_tk (i := 14) rfl (Y_no rfl rfl rfl (decide_eq_false h16)) ⟨hb1, trivial⟩ rfl ?_
       refine T_tk (i := 15) rfl (Y_no rfl rfl rfl (decide_eq_false h16)) ⟨hb1, trivial⟩ rfl ?_
       refine T_tk (i := 16) rfl (Y_of (fun _ _ => R_pickF rfl (decide_eq_false h16) rfl)) ⟨hb1, trivial⟩ rfl ?_
       refine T_tk (i := 17) rfl (Y_of (fun _ _ => R_assign rfl)) ⟨hb1, trivial⟩ rfl ?_
       refine T_done (by kernel_rfl) (CalmE.normal ?_)
       refine N_in (N_then (C_reg rfl ?_))
       refine Lmv rfl rfl ?_
       refine L_run (R_add64 rfl rfl (by omega)) rfl ?_
       refine Las rfl rfl (L_nil (N_then ?_))
       have hyb := h15
       have e_ : Value.bool false = .bool (decide (OkB ep seq first ∧ OkK (k + 1) first hs)) := by
         first
           | exact bD (Iff.trans (by unfold OkB; omega) okB0.symm)
           | exact bT (okB0.2 (by unfold OkB; omega))
           | exact bF (fun h_ => by have q_ := okB0.1 h_; unfold OkB at q_; omega)
           | exact bF (fun h_ => hnb (okS.1 h_).1)
           | exact bF (fun h_ => by have q_ := (okS.1 h_).2; omega)
           | exact bD (Iff.trans ⟨fun q_ => ⟨hyb, by omega, q_⟩, fun q_ => q_.2.2⟩ okS.symm)
       exact ⟨4 - (k + 1), by omega, _, (k + 1), Ac_frg ⟨rfl, rfl, (agr rfl e_), (agx rfl), trivial⟩, hB, hb1, (by omega), rfl⟩
     ·refine T_tk (i := 2) rfl (Y_no rfl rfl rfl (decide_eq_false h15)) ⟨hb1, trivial⟩ rfl ?_
      refine T_tk (i := 3) rfl (Y_no rfl rfl rfl (decide_eq_false h15)) ⟨hb1, trivial⟩ rfl ?_
      refine T_tk (i := 4) rfl (Y_no rfl rfl rfl (decide_eq_false h15)) ⟨hb1, trivial⟩ rfl ?_
      refine T_tk (i := 5) rfl (Y_no rfl rfl rfl (decide_eq_false h15)) ⟨hb1, trivial⟩ rfl ?_
      refine T_tk (i := 6) rfl (Y_no rfl rfl rfl (decide_eq_false h15)) ⟨hb1, trivial⟩ rfl ?_
      refine T_tk (i := 7) rfl (Y_of (fun _ _ => R_pickF rfl (decide_eq_false h15) rfl)) ⟨hb1, trivial⟩ rfl ?_
      refine T_tk (i := 8) rfl (Y_of (fun _ _ => R_move rfl)) ⟨hb1, trivial⟩ rfl ?_
      refine T_tk (i := 9) rfl (Y_no rfl rfl rfl rfl) ⟨hb1, trivial⟩ rfl ?_
      refine T_tk (i := 10) rfl (Y_no rfl rfl rfl rfl) ⟨hb1, trivial⟩ rfl ?_
      refine T_tk (i := 11) rfl (Y_no rfl rfl rfl rfl) ⟨hb1, trivial⟩ rfl ?_
      refine T_tk (i := 12) rfl (Y_no rfl rfl rfl rfl) ⟨hb1, trivial⟩ rfl ?_
      refine T_tk (i := 13) rfl (Y_no rfl rfl rfl rfl) ⟨hb1, trivial⟩ rfl ?_
      refine T_tk (i := 14) rfl (Y_no rfl rfl rfl rfl) ⟨hb1, trivial⟩ rfl ?_
      refine T_tk (i := 15) rfl (Y_no rfl rfl rfl rfl) ⟨hb1, trivial⟩ rfl ?_
      refine T_tk (i := 16) rfl (Y_of (fun _ _ => R_pickF rfl rfl rfl)) ⟨hb1, trivial⟩ rfl ?_
      refine T_tk (i := 17) rfl (Y_of (fun _ _ => R_assign rfl)) ⟨hb1, trivial⟩ rfl ?_
      refine T_done (by kernel_rfl) (CalmE.normal ?_)
      refine N_in (N_then (C_reg rfl ?_))
      refine Lmv rfl rfl ?_
      refine L_run (R_add64 rfl rfl (by omega)) rfl ?_
      refine Las rfl rfl (L_nil (N_then ?_))
      have hnb := h15
      have e_ : Value.bool false = .bool (decide (OkB ep seq first ∧ OkK (k + 1) first hs)) := by
        first
          | exact bD (Iff.trans (by unfold OkB; omega) okB0.symm)
          | exact bT (okB0.2 (by unfold OkB; omega))
          | exact bF (fun h_ => by have q_ := okB0.1 h_; unfold OkB at q_; omega)
          | exact bF (fun h_ => hnb (okS.1 h_).1)
          | exact bF (fun h_ => by have q_ := (okS.1 h_).2; omega)
          | exact bD (Iff.trans ⟨fun q_ => ⟨hyb, by omega, q_⟩, fun q_ => q_.2.2⟩ okS.symm)
      exact ⟨4 - (k + 1), by omega, _, (k + 1), Ac_frg ⟨rfl, rfl, (agr rfl e_), (agx rfl), trivial⟩, hB, hb1, (by omega), rfl⟩
    ·refine C_exit (X_then (X_then (X_hit (N_then (C_seq (C_reg rfl ?_))))))
     refine Lmv rfl rfl (Las rfl rfl (L_nil (N_then (C_ret ?_))))
     refine ret1 Tryd.results38 rfl ?_
     obtain rfl : k = 4 := by omega
     exact ⟨hB, rfl⟩
 ·refine L_no rfl rfl rfl (decide_eq_false h1) rfl (L_no rfl rfl rfl (decide_eq_false h1) rfl (L_no rfl rfl rfl (decide_eq_false h1) rfl (L_run (R_pickF rfl (decide_eq_false h1) rfl) rfl (Lmv rfl rfl (L_no rfl rfl rfl rfl rfl (L_no rfl rfl rfl rfl rfl (L_no rfl rfl rfl rfl rfl (L_run (R_pickF rfl rfl rfl) rfl (Lmv rfl rfl (L_no rfl rfl rfl rfl rfl (L_no rfl rfl rfl rfl rfl (L_no rfl rfl rfl rfl rfl ?_))))))))))))
  refine L_run (R_pickF rfl rfl rfl) rfl ?_
  refine Lmv rfl rfl (L_no rfl rfl rfl rfl rfl (L_no rfl rfl rfl rfl rfl (L_no rfl rfl rfl rfl rfl (L_run (R_pickF rfl rfl rfl) rfl (Las rfl rfl (L_nil (N_then (C_seq (C_seq (C_reg rfl (Las rfl rfl (L_nil (N_then (C_block ?_))))))))))))))
  have e_ : Value.bool false = .bool (decide (OkB ep seq first ∧ OkK 0 first hs)) := by
    first
      | exact bD (Iff.trans (by unfold OkB; omega) okB0.symm)
      | exact bT (okB0.2 (by unfold OkB; omega))
      | exact bF (fun h_ => by have q_ := okB0.1 h_; unfold OkB at q_; omega)
      | exact bF (fun h_ => hnb (okS.1 h_).1)
      | exact bF (fun h_ => by have q_ := (okS.1 h_).2; omega)
      | exact bD (Iff.trans ⟨fun q_ => ⟨hyb, by omega, q_⟩, fun q_ => q_.2.2⟩ okS.symm)
  refine C_loop (fun m_ a_ w_ => ∃ (σ_ : Nat → Value) (k : Nat), a_ = Ac 50 σ_ [] [(1, .pointer (some ⟨g1, 0, none⟩)), (2, .bool false), (3, .bool (decide (OkB ep seq first ∧ OkK k first hs))), (4, .int .i64 (k : Int))] ∧ w.grownBy w_ none ∧ Blk w_ g1 33 [.int .u64 ep, .int .i64 seq, .int .i64 first, .int .i64 (hs 0), .int .i64 (hs 1), .int .i64 (hs 2), .int .i64 (hs 3)] ∧ (k ≤ 4) ∧ 4 - k = m_) (4 - 0) ?_ ?_
  ·exact ⟨_, 0, Ac_frg ⟨rfl, rfl, (agr rfl e_), (agx rfl), trivial⟩, hB, hb1, (by omega), rfl⟩
  ·clear hB
   clear hb1
   rintro m_ a_ w10 ⟨σ_, k, rfl, hB, hb1, hk, rfl⟩
   refine C_seq (C_seq (C_reg rfl ?_))
   refine Lmv rfl rfl (L_run (R_lss rfl rfl) rfl (L_nil (N_then (C_if rfl (fun h17 => ?_) (fun h17 => ?_)))))
   ·refine C_skip (N_then (C_seq (C_block ?_)))
    refine C_draw2 rfl mix ?_
    intro w11 hs6 hz6
    replace hB := gb_tr hB hs6; replace hb1 := hb1.gb hs6
    refine ⟨fun W_ => Blk W_ g1 33 [.int .u64 ep, .int .i64 seq, .int .i64 first, .int .i64 (hs 0), .int .i64 (hs 1), .int .i64 (hs 2), .int .i64 (hs 3)] ∧ True, [0, 1, 2, 3, 4, 5, 6, 7, 8, 9, 10, 11, 12, 13, 14, 15, 16, 17], ?_⟩
    refine T_tk (i := 0) rfl (Y_of (fun _ _ => R_move rfl)) ⟨hb1, trivial⟩ rfl ?_
    refine T_tk (i := 1) rfl (Y_of (fun _ _ => R_move rfl)) ⟨hb1, trivial⟩ rfl ?_
    by_cases h18 : OkB ep seq first ∧ OkK k first hs
    ·refine T_tk (i := 2) rfl (Y_yes rfl rfl rfl (decide_eq_true h18) (fun _ _ => R_move rfl)) ⟨hb1, trivial⟩ rfl ?_
     refine T_tk (i := 3) rfl (Y_yes rfl rfl rfl (decide_eq_true h18) (fun _ _ => R_field (r := 3) rfl fld33_3 rfl)) ⟨hb1, trivial⟩ rfl ?_
     have hl9 : k < 4 := by omega
     refine T_tk (i := 4) rfl (Y_yes rfl rfl rfl (decide_eq_true h18) (fun _ _ => R_indexArr (sz := 1) (o := 3) (a := (k : Int)) (i := k) (r := (3 + k)) rfl rfl (by first | rfl | omega) arr31 hl9 (by first | omega | rfl | simp))) ⟨hb1, trivial⟩ rfl ?_
     refine T_tk (i := 5) rfl (Y_yes rfl rfl rfl (decide_eq_true h18) (fun _ ⟨hb1, _⟩ => R_load1 rfl scl3 (hb1.cell (four_at (pre := [.int .u64 ep, .int .i64 seq, .int .i64 first]) (post := []) (f := hs) (k := .i64) hl9)))) ⟨hb1, trivial⟩ rfl ?_
     refine T_tk (i := 6) rfl (Y_yes rfl rfl rfl (decide_eq_true h18) (fun _ _ => R_geq rfl rfl)) ⟨hb1, trivial⟩ rfl ?_
     refine T_tk (i := 7) rfl (Y_of (fun _ _ => R_pickT rfl (decide_eq_true h18) rfl)) ⟨hb1, trivial⟩ rfl ?_
     refine T_tk (i := 8) rfl (Y_of (fun _ _ => R_move rfl)) ⟨hb1, trivial⟩ rfl ?_
     by_cases h19 : 0 ≤ (hs k)
     ·refine T_tk (i := 9) rfl (Y_yes rfl rfl rfl (decide_eq_true h19) (fun _ _ => R_move rfl)) ⟨hb1, trivial⟩ rfl ?_
      refine T_tk (i := 10) rfl (Y_yes rfl rfl rfl (decide_eq_true h19) (fun _ _ => R_field (r := 3) rfl fld33_3 rfl)) ⟨hb1, trivial⟩ rfl ?_
      have hl10 : k < 4 := by omega
      refine T_tk (i := 11) rfl (Y_yes rfl rfl rfl (decide_eq_true h19) (fun _ _ => R_indexArr (sz := 1) (o := 3) (a := (k : Int)) (i := k) (r := (3 + k)) rfl rfl (by first | rfl | omega) arr31 hl10 (by first | omega | rfl | simp))) ⟨hb1, trivial⟩ rfl ?_
      refine T_tk (i := 12) rfl (Y_yes rfl rfl rfl (decide_eq_true h19) (fun _ ⟨hb1, _⟩ => R_load1 rfl scl3 (hb1.cell (four_at (pre := [.int .u64 ep, .int .i64 seq, .int .i64 first]) (post := []) (f := hs) (k := .i64) hl10)))) ⟨hb1, trivial⟩ rfl ?_
      refine T_tk (i := 13) rfl (Y_yes rfl rfl rfl (decide_eq_true h19) (fun _ _ => R_field (r := 2) rfl fld33_2 rfl)) ⟨hb1, trivial⟩ rfl ?_
      refine T_tk (i := 14) rfl (Y_yes rfl rfl rfl (decide_eq_true h19) (fun _ ⟨hb1, _⟩ => R_load1 rfl scl3 (hb1.cell (i := 2) rfl))) ⟨hb1, trivial⟩ rfl ?_
      refine T_tk (i := 15) rfl (Y_yes rfl rfl rfl (decide_eq_true h19) (fun _ _ => R_lss rfl rfl)) ⟨hb1, trivial⟩ rfl ?_
      refine T_tk (i := 16) rfl (Y_of (fun _ _ => R_pickT rfl (decide_eq_true h19) rfl)) ⟨hb1, trivial⟩ rfl ?_
      refine T_tk (i := 17) rfl (Y_of (fun _ _ => R_assign rfl)) ⟨hb1, trivial⟩ rfl ?_
      refine T_done (by kernel_rfl) (CalmE.normal ?_)
      refine N_in (N_then (C_reg rfl ?_))
      refine Lmv rfl rfl ?_
      refine L_run (R_add64 rfl rfl (by omega)) rfl ?_
      refine Las rfl rfl (L_nil (N_then ?_))
      have hyb := h18
      have e_ : Value.bool (decide ((hs k) < first)) = .bool (decide (OkB ep seq first ∧ OkK (k + 1) first hs)) := by
        first
          | exact bD (Iff.trans (by unfold OkB; omega) okB0.symm)
          | exact bT (okB0.2 (by unfold OkB; omega))
          | exact bF (fun h_ => by have q_ := okB0.1 h_; unfold OkB at q_; omega)
          | exact bF (fun h_ => hnb (okS.1 h_).1)
          | exact bF (fun h_ => by have q_ := (okS.1 h_).2; omega)
          | exact bD (Iff.trans ⟨fun q_ => ⟨hyb, by omega, q_⟩, fun q_ => q_.2.2⟩ okS.symm)
      exact ⟨4 - (k + 1), by omega, _, (k + 1), Ac_frg ⟨rfl, rfl, (agr rfl e_), (agx rfl), trivial⟩, hB, hb1, (by omega), rfl⟩
     ·refine T_tk (i := 9) rfl (Y_no rfl rfl rfl (decide_eq_false h19)) ⟨hb1, trivial⟩ rfl ?_
      refine T_tk (i := 10) rfl (Y_no rfl rfl rfl (decide_eq_false h19)) ⟨hb1, trivial⟩ rfl ?_
      refine T_tk (i := 11) rfl (Y_no rfl rfl rfl (decide_eq_false h19)) ⟨hb1, trivial⟩ rfl ?_
      refine T_tk (i := 12) rfl (Y_no rfl rfl rfl (decide_eq_false h19)) ⟨hb1, trivial⟩ rfl ?_
      refine T_tk (i := 13) rfl (Y_no rfl rfl rfl (decide_eq_false h19)) ⟨hb1, trivial⟩ rfl ?_
      refine T_tk (i := 14) rfl (Y_no rfl rfl rfl (decide_eq_false h19)) ⟨hb1, trivial⟩ rfl ?_
      refine T_tk (i := 15) rfl (Y_no rfl rfl rfl (decide_eq_false h19)) ⟨hb1, trivial⟩ rfl ?_
      refine T_tk (i := 16) rfl (Y_of (fun _ _ => R_pickF rfl (decide_eq_false h19) rfl)) ⟨hb1, trivial⟩ rfl ?_
      refine T_tk (i := 17) rfl (Y_of (fun _ _ => R_assign rfl)) ⟨hb1, trivial⟩ rfl ?_
      refine T_done (by kernel_rfl) (CalmE.normal ?_)
      refine N_in (N_then (C_reg rfl ?_))
      refine Lmv rfl rfl ?_
      refine L_run (R_add64 rfl rfl (by omega)) rfl ?_
      refine Las rfl rfl (L_nil (N_then ?_))
      have hyb := h18
      have e_ : Value.bool false = .bool (decide (OkB ep seq first ∧ OkK (k + 1) first hs)) := by
        first
          | exact bD (Iff.trans (by unfold OkB; omega) okB0.symm)
          | exact bT (okB0.2 (by unfold OkB; omega))
          | exact bF (fun h_ => by have q_ := okB0.1 h_; unfold OkB at q_; omega)
          | exact bF (fun h_ => hnb (okS.1 h_).1)
          | exact bF (fun h_ => by have q_ := (okS.1 h_).2; omega)
          | exact bD (Iff.trans ⟨fun q_ => ⟨hyb, by omega, q_⟩, fun q_ => q_.2.2⟩ okS.symm)
      exact ⟨4 - (k + 1), by omega, _, (k + 1), Ac_frg ⟨rfl, rfl, (agr rfl e_), (agx rfl), trivial⟩, hB, hb1, (by omega), rfl⟩
    ·refine T_tk (i := 2) rfl (Y_no rfl rfl rfl (decide_eq_false h18)) ⟨hb1, trivial⟩ rfl ?_
     refine T_tk (i := 3) rfl (Y_no rfl rfl rfl (decide_eq_false h18)) ⟨hb1, trivial⟩ rfl ?_
     refine T_tk (i := 4) rfl (Y_no rfl rfl rfl (decide_eq_false h18)) ⟨hb1, trivial⟩ rfl ?_
     refine T_tk (i := 5) rfl (Y_no rfl rfl rfl (decide_eq_false h18)) ⟨hb1, trivial⟩ rfl ?_
     refine T_tk (i := 6) rfl (Y_no rfl rfl rfl (decide_eq_false h18)) ⟨hb1, trivial⟩ rfl ?_
     refine T_tk (i := 7) rfl (Y_of (fun _ _ => R_pickF rfl (decide_eq_false h18) rfl)) ⟨hb1, trivial⟩ rfl ?_
     refine T_tk (i := 8) rfl (Y_of (fun _ _ => R_move rfl)) ⟨hb1, trivial⟩ rfl ?_
     refine T_tk (i := 9) rfl (Y_no rfl rfl rfl rfl) ⟨hb1, trivial⟩ rfl ?_
     refine T_tk (i := 10) rfl (Y_no rfl rfl rfl rfl) ⟨hb1, trivial⟩ rfl ?_
     refine T_tk (i := 11) rfl (Y_no rfl rfl rfl rfl) ⟨hb1, trivial⟩ rfl ?_
     refine T_tk (i := 12) rfl (Y_no rfl rfl rfl rfl) ⟨hb1, trivial⟩ rfl ?_
     refine T_tk (i := 13) rfl (Y_no rfl rfl rfl rfl) ⟨hb1, trivial⟩ rfl ?_
     refine T_tk (i := 14) rfl (Y_no rfl rfl rfl rfl) ⟨hb1, trivial⟩ rfl ?_
     refine T_tk (i := 15) rfl (Y_no rfl rfl rfl rfl) ⟨hb1, trivial⟩ rfl ?_
     refine T_tk (i := 16) rfl (Y_of (fun _ _ => R_pickF rfl rfl rfl)) ⟨hb1, trivial⟩ rfl ?_
     refine T_tk (i := 17) rfl (Y_of (fun _ _ => R_assign rfl)) ⟨hb1, trivial⟩ rfl ?_
     refine T_done (by kernel_rfl) (CalmE.normal ?_)
     refine N_in (N_then (C_reg rfl ?_))
     refine Lmv rfl rfl ?_
     refine L_run (R_add64 rfl rfl (by omega)) rfl ?_
     refine Las rfl rfl (L_nil (N_then ?_))
     have hnb := h18
     have e_ : Value.bool false = .bool (decide (OkB ep seq first ∧ OkK (k + 1) first hs)) := by
       first
         | exact bD (Iff.trans (by unfold OkB; omega) okB0.symm)
         | exact bT (okB0.2 (by unfold OkB; omega))
         | exact bF (fun h_ => by have q_ := okB0.1 h_; unfold OkB at q_; omega)
         | exact bF (fun h_ => hnb (okS.1 h_).1)
         | exact bF (fun h_ => by have q_ := (okS.1 h_).2; omega)
         | exact bD (Iff.trans ⟨fun q_ => ⟨hyb, by omega, q_⟩, fun q_ => q_.2.2⟩ okS.symm)
     exact ⟨4 - (k + 1), by omega, _, (k + 1), Ac_frg ⟨rfl, rfl, (agr rfl e_), (agx rfl), trivial⟩, hB, hb1, (by omega), rfl⟩
   ·refine C_exit (X_then (X_then (X_hit (N_then (C_seq (C_reg rfl ?_))))))
    refine Lmv rfl rfl (Las rfl rfl (L_nil (N_then (C_ret ?_))))
    refine ret1 Tryd.results38 rfl ?_
    obtain rfl : k = 4 := by omega
    exact ⟨hB, rfl⟩
/-- What a header's sector tells. -/
def hEp (X : List UInt8) : Nat := getN ((X.drop 5).take 8)
def hSeq (X : List UInt8) : Int := ((getN ((X.drop 13).take 4) : Nat) : Int)
def hFst (X : List UInt8) : Int := ((getN ((X.drop 17).take 4) : Nat) : Int)
def hHs (X : List UInt8) (q : Nat) : Int := ((getN ((X.drop (21 + 4 * q)).take 4) : Nat) : Int)
def HForm (X : List UInt8) : Prop := X.take 4 = [115, 116, 114, 100] ∧ X.getD 4 0 = 1 ∧ X.drop 41 = List.replicate 23 0
instance {X : List UInt8} : Decidable (HForm X) := by unfold HForm; infer_instance
/-- The error; 0: none. -/
def hdecN (X : List UInt8) : Int :=
  if X = List.replicate 64 0 then 7
  else if ¬ HForm X then 2
  else if getN ((X.drop 37).take 4) ≠ maskN (moreN 0 (X.take 37)) then 3
  else if OkH (hEp X : Int) (hSeq X) (hFst X) (hHs X) then 0 else 2
theorem hg4 {X : List UInt8} {a : Nat} : getN ((X.drop a).take 4) < 4294967296 := by
  have h := getN_lt ((X.drop a).take 4)
  have h2 : ((X.drop a).take 4).length ≤ 4 := by rw [List.length_take]; omega
  have h3 : 256 ^ ((X.drop a).take 4).length ≤ 256 ^ 4 := Nat.pow_le_pow_right (by omega) h2
  omega
theorem hg8 {X : List UInt8} {a : Nat} : getN ((X.drop a).take 8) < 18446744073709551616 := by
  have h := getN_lt ((X.drop a).take 8)
  have h2 : ((X.drop a).take 8).length ≤ 8 := by rw [List.length_take]; omega
  have h3 : 256 ^ ((X.drop a).take 8).length ≤ 256 ^ 8 := Nat.pow_le_pow_right (by omega) h2
  omega
theorem hdx_none {X : List UInt8} (h : X = List.replicate 64 0) : hdecN X = 7 := if_pos h
theorem hdx_form {X : List UInt8} (h : ¬ X = List.replicate 64 0) (h2 : ¬ HForm X) : hdecN X = 2 := by unfold hdecN; rw [if_neg h, if_pos h2]
theorem hdx_sum {X : List UInt8} (h : ¬ X = List.replicate 64 0) (h2 : HForm X) (h3 : getN ((X.drop 37).take 4) ≠ maskN (moreN 0 (X.take 37))) : hdecN X = 3 := by unfold hdecN; rw [if_neg h, if_neg (fun h_ => h_ h2), if_pos h3]
theorem hdx_bad {X : List UInt8} (h : ¬ X = List.replicate 64 0) (h2 : HForm X) (h3 : getN ((X.drop 37).take 4) = maskN (moreN 0 (X.take 37))) (h4 : ¬ OkH (hEp X : Int) (hSeq X) (hFst X) (hHs X)) : hdecN X = 2 := by unfold hdecN; rw [if_neg h, if_neg (fun h_ => h_ h2), if_neg (fun h_ => h_ h3), if_neg h4]
theorem hdx_ok {X : List UInt8} (h : ¬ X = List.replicate 64 0) (h2 : HForm X) (h3 : getN ((X.drop 37).take 4) = maskN (moreN 0 (X.take 37))) (h4 : OkH (hEp X : Int) (hSeq X) (hFst X) (hHs X)) : hdecN X = 0 := by unfold hdecN; rw [if_neg h, if_neg (fun h_ => h_ h2), if_neg (fun h_ => h_ h3), if_pos h4]
theorem hk48 {X : List UInt8} {a k : Nat} (hk : k ≤ 8) : ((X.drop a).take (a + k - a)).take 8 = (X.drop a).take k := by
  rw [List.take_take, show min 8 (a + k - a) = k by omega]
theorem hnum_ok {w : World} {X : List UInt8} {a : Nat} (hX : X.length = 64) (ha : a ≤ 60) :
    Runs Tryd.prog 66 #[.agg (fl encB X).toArray, .int .i64 (a : Int)] w (fun v w' => w.grownBy w' none ∧ v = .int .i64 ((getN ((X.drop a).take 4) : Nat) : Int)) := by
 have hB := gb_refl w none
 refine enter Tryd.func66 Tryd.ntmps66 rfl rfl ?_
 refine C_seq (C_reg rfl ?_)
 refine L_box (cs := fl encB X) rfl rfl rfl ?_
 intro g1 w1 eg1 hb1 hs1 hz1
 replace hB := gb_tr hB hs1
 refine Las rfl rfl (L_nil (N_then (C_seq (C_reg rfl (Lmv rfl rfl (Lmv rfl rfl ?_))))))
 refine L_run (R_eqv (R_add64 rfl rfl (by omega)) (v' := .int .i64 ((a + 4 : Nat) : Int)) (congrArg _ (by omega))) rfl ?_
 refine T_slArrG (bs := X) (i := a) (j := (a + 4)) (k := .i64) (k' := .i64) (a := 0) (b := 0) EncB arr50 rfl hb1 hX (by omega) (by omega) rfl ⟨_, rfl⟩ ⟨_, rfl⟩ ?_
 intro A_1 hS_1
 refine L_call rfl cb68 (word_get (bs := (X.drop a).take ((a + 4) - a)) hS_1 (by rw [List.length_take, List.length_drop]; omega)) rfl ?_
 rintro _ w2 ⟨hs2, rfl⟩
 replace hB := gb_tr hB hs2
 refine L_run (R_eqv (R_conv rfl any30 int3) (v' := .int .i64 ((getN ((X.drop a).take 4) : Nat) : Int)) (congrArg _ (by rw [hk48 (by omega), IntKind.wrap_i64]; have h_ := hg4 (X := X) (a := a); omega))) rfl ?_
 refine Las rfl rfl (L_nil (N_then (C_ret ?_)))
 refine ret1 Tryd.results66 rfl ?_
 exact ⟨hB, rfl⟩
theorem hsum_ok {w : World} {X : List UInt8} (hX : X.length = 64) (hT : Tbw w) :
    Runs Tryd.prog 67 #[.agg (fl encB X).toArray] w (fun v w' => w.grownBy w' none ∧ v = .int .u32 ((maskN (moreN 0 (X.take 37)) : Nat) : Int)) := by
 have hB := gb_refl w none
 refine enter Tryd.func67 Tryd.ntmps67 rfl rfl ?_
 refine C_seq (C_reg rfl ?_)
 refine L_box (cs := fl encB X) rfl rfl rfl ?_
 intro g1 w1 eg1 hb1 hs1 hz1
 replace hB := gb_tr hB hs1
 refine Las rfl rfl (L_nil (N_then (C_seq (C_reg rfl ?_))))
 refine T_slArrG (bs := X) (i := 0) (j := 37) (k := .i64) (k' := .i64) (a := 0) (b := 0) EncB arr50 rfl hb1 hX (by omega) (by omega) rfl rfl ⟨_, rfl⟩ ?_
 intro A_1 hS_1
 have e_ : (X.drop 0).take (37 - 0) = X.take 37 := rfl
 rw [e_] at hS_1 ⊢; clear e_
 refine L_call rfl cb87 (of_ok (bs := X.take 37) hS_1 (by rw [List.length_take]; omega) (hT.gb hB)) rfl ?_
 rintro _ w2 ⟨hs2, rfl⟩
 replace hB := gb_tr hB hs2
 refine L_call rfl cb86 (mask_ok (s := (moreN 0 (X.take 37))) (moreN_lt _ _ (by decide))) rfl ?_
 rintro _ w3 ⟨hs3, rfl⟩
 replace hB := gb_tr hB hs3
 refine Las rfl rfl (L_nil (N_then (C_ret ?_)))
 refine ret1 Tryd.results67 rfl ?_
 exact ⟨hB, rfl⟩
end Go.Proofs.YtkjgjejkfjhcjaaDoor
namespace Go.Proofs.YtkjgjejkfjhcjaaDoor
open Go.RowKit Gw Pl
set_option linter.unusedVariables false
set_option linter.unusedSimpArgs false
theorem agg112 : aggB Tryd.prog 112 23 = true := by kernel_rfl
theorem arr112 : arrB Tryd.prog 112 5 23 1 = true := by kernel_rfl
theorem cb66 : callB Tryd.prog 66 = true := by kernel_rfl
theorem cb67 : callB Tryd.prog 67 = true := by kernel_rfl
theorem cb69 : callB Tryd.prog 69 = true := by kernel_rfl
theorem eqg112 : Tryd.prog.eqGuardType Tryd.prog.depth 112 = false := by kernel_rfl
theorem sz3 : szB Tryd.prog 3 1 = true := by kernel_rfl
theorem sz33 : szB Tryd.prog 33 7 = true := by kernel_rfl
theorem zer33 : (Tryd.prog.info? 33).bind (·.zero) = some (.agg #[.int .u64 0, .int .i64 0, .int .i64 0, .int .i64 0, .int .i64 0, .int .i64 0, .int .i64 0]) := by kernel_rfl
def hhA (X : List UInt8) (i : Nat) : Nat → Int := fun q => if q < i then hHs X q else 0
theorem hhA_step {X : List UInt8} {i : Nat} : upd (hhA X i) i ((getN ((X.drop (21 + 4 * i)).take 4) : Nat) : Int) = hhA X (i + 1) := by
  funext q
  unfold upd hhA
  by_cases h : q = i
  · subst h; rw [if_pos rfl, if_pos (by omega)]; rfl
  · rw [if_neg h]
    by_cases h2 : q < i
    · rw [if_pos h2, if_pos (by omega)]
    · rw [if_neg h2, if_neg (by omega)]
theorem hk8 {X : List UInt8} {a : Nat} : ((X.drop a).take 8).take 8 = (X.drop a).take 8 := by rw [List.take_take]; rfl
theorem msk_i64 {n : Nat} : Value.int .i64 (IntKind.i64.wrap ((maskN n : Nat) : Int)) = .int .i64 ((maskN n : Nat) : Int) := by
  have h_ : maskN n < 4294967296 := by unfold maskN; omega
  refine congrArg (Value.int .i64) ?_
  rw [IntKind.wrap_i64]; omega
theorem hdx_0 {X : List UInt8} (hX : X.length = 64) {q : Nat} (hq : q < 64) : X.getD q 0 = X[q] := by rw [List.getD_eq_getElem?_getD, List.getElem?_eq_getElem (by omega)]; rfl
theorem hdec_ok {w : World} {X : List UInt8} (hX : X.length = 64) (hT : Tbw w) :
    Runs Tryd.prog 50 #[.agg (fl encB X).toArray] w (fun v w' => w.grownBy w' none ∧ ((hdecN X = 0 ∧ v = .tuple #[.agg #[.int .u64 ((hEp X : Nat) : Int), .int .i64 (hSeq X), .int .i64 (hFst X), .int .i64 (hHs X 0), .int .i64 (hHs X 1), .int .i64 (hHs X 2), .int .i64 (hHs X 3)], .int .i64 0]) ∨ (hdecN X ≠ 0 ∧ v = .tuple #[.agg #[.int .u64 0, .int .i64 0, .int .i64 0, .int .i64 0, .int .i64 0, .int .i64 0, .int .i64 0], .int .i64 (hdecN X)]))) := by
 have hB := gb_refl w none
 refine enter Tryd.func50 Tryd.ntmps50 rfl rfl ?_
 refine C_seq (C_reg rfl ?_)
 refine L_box (cs := fl encB X) rfl rfl rfl ?_
 intro g1 w1 eg1 hb1 hs1 hz1
 replace hB := gb_tr hB hs1
 refine L_alloc (cs := [.int .u64 0, .int .i64 0, .int .i64 0, .int .i64 0, .int .i64 0, .int .i64 0, .int .i64 0]) zer33 rfl rfl ?_
 intro g2 w2 eg2 hb2 hs2 hz2
 have ge2 : w.heap.size ≤ g2 := eg_ge hB eg2
 replace hB := gb_tr hB hs2; replace hb1 := hb1.gb hs2
 refine Las rfl rfl (L_nil (N_then (C_seq (C_seq (C_reg rfl (L_run (R_loadA (vs := fl encB X) rfl agg50 (hb1.at_ 0) (flB_lenE hX)) rfl ?_))))))
 refine L_run (R_build (pv := []) (cs := fl encB (List.replicate 64 (0 : UInt8))) rfl (by kernel_rfl)) rfl ?_
 refine L_run (R_eqlA rfl rfl eqg50 (eqs_bytes arr50 int5 scl5 hX List.length_replicate)) rfl ?_
 refine L_nil (N_then (C_if rfl (fun h1 => ?_) (fun h1 => ?_)))
 ·refine C_seq (C_reg rfl ?_)
  refine L_run (R_build (pv := []) (cs := [.int .u64 0, .int .i64 0, .int .i64 0, .int .i64 0, .int .i64 0, .int .i64 0, .int .i64 0]) rfl (by kernel_rfl)) rfl ?_
  refine L_stA (vs := [.int .u64 0, .int .i64 0, .int .i64 0, .int .i64 0, .int .i64 0, .int .i64 0, .int .i64 0]) rfl rfl rfl sz33 rfl hb2 rfl ?_
  intro w3 hb3 hs3 hz3
  replace hB := gb_trg hB hs3 ge2
  refine Las rfl rfl (L_nil (N_then (C_ret (R_then ?_))))
  refine retC1 (vs := [.int .u64 0, .int .i64 0, .int .i64 0, .int .i64 0, .int .i64 0, .int .i64 0, .int .i64 0]) Tryd.results50 rfl agg33 (At.pre (hb3.at_ 0) rfl) rfl rfl ?_
  have hf_ : hdecN X = 7 := hdx_none h1
  exact ⟨hB, .inr ⟨by rw [hf_]; decide, by rw [hf_]⟩⟩
 ·refine C_skip (N_then (C_seq (C_seq (C_reg rfl ?_))))
  refine T_slArrG (bs := X) (i := 0) (j := 4) (k := .i64) (k' := .i64) (a := 0) (b := 0) EncB arr50 rfl hb1 hX (by omega) (by omega) rfl rfl ⟨_, rfl⟩ ?_
  intro A_1 hS_1
  have e_ : (X.drop 0).take (4 - 0) = X.take 4 := rfl
  rw [e_] at hS_1 ⊢; clear e_
  refine L_run (R_b2s' (bs := X.take 4) rfl slc34 int5 str9 hS_1) rfl ?_
  refine L_run (R_eqv (R_neqS rfl rfl) (v' := .bool (decide (¬ ((X.take 4) = [115, 116, 114, 100])))) (bD (not_congr ba_inj))) rfl ?_
  refine Lmv rfl rfl ?_
  refine L_splitN (p := (X.take 4) = [115, 116, 114, 100]) (fun h2 => ?_) (fun h2 => ?_)
  ·refine L_no rfl rfl rfl (decide_eq_true h2) rfl (L_no rfl rfl rfl (decide_eq_true h2) rfl (L_no rfl rfl rfl (decide_eq_true h2) rfl (L_run (R_pickT rfl (decide_eq_true h2) rfl) rfl (Lmv rfl rfl (L_no rfl rfl rfl rfl rfl (L_no rfl rfl rfl rfl rfl (L_no rfl rfl rfl rfl rfl (L_no rfl rfl rfl rfl rfl (L_no rfl rfl rfl rfl rfl (L_run (R_pickT rfl rfl rfl) rfl (L_nil (N_then (C_condT rfl rfl (C_seq (C_reg rfl ?_)))))))))))))))
   refine L_run (R_build (pv := []) (cs := [.int .u64 0, .int .i64 0, .int .i64 0, .int .i64 0, .int .i64 0, .int .i64 0, .int .i64 0]) rfl (by kernel_rfl)) rfl ?_
   refine L_stA (vs := [.int .u64 0, .int .i64 0, .int .i64 0, .int .i64 0, .int .i64 0, .int .i64 0, .int .i64 0]) rfl rfl rfl sz33 rfl hb2 rfl ?_
   intro w4 hb4 hs4 hz4
   replace hB := gb_trg hB hs4 ge2
   refine Las rfl rfl (L_nil (N_then (C_ret (R_then ?_))))
   refine retC1 (vs := [.int .u64 0, .int .i64 0, .int .i64 0, .int .i64 0, .int .i64 0, .int .i64 0, .int .i64 0]) Tryd.results50 rfl agg33 (At.pre (hb4.at_ 0) rfl) rfl rfl ?_
   have hf_ : hdecN X = 2 := hdx_form h1 (fun h_ => h2 h_.1)
   exact ⟨hB, .inr ⟨by rw [hf_]; decide, by rw [hf_]⟩⟩
  ·refine L_yes rfl rfl rfl (decide_eq_false (fun hn => hn h2)) ?_
   refine L_run (R_indexArr (i := 4) (r := 4) rfl rfl (by first | rfl | omega) arr50 (by omega) (by omega)) rfl ?_
   refine L_yes rfl rfl rfl (decide_eq_false (fun hn => hn h2)) ?_
   have hl1 : 4 < X.length := by rw [hX]; omega
   refine L_run (R_load1 rfl scl5 (hb1.cell (fl_atB hl1))) rfl (L_yes rfl rfl rfl (decide_eq_false (fun hn => hn h2)) (L_run (R_neq rfl rfl) rfl (L_run (R_pickF rfl (decide_eq_false (fun hn => hn h2)) rfl) rfl (Lmv rfl rfl ?_))))
   refine L_splitD (p := (X[4].toNat : Int) ≠ 1) (fun h3 => ?_) (fun h3 => ?_)
   ·refine L_no rfl rfl rfl (decide_eq_true h3) rfl (L_no rfl rfl rfl (decide_eq_true h3) rfl (L_no rfl rfl rfl (decide_eq_true h3) rfl (L_no rfl rfl rfl (decide_eq_true h3) rfl (L_no rfl rfl rfl (decide_eq_true h3) rfl (L_run (R_pickT rfl (decide_eq_true h3) rfl) rfl (L_nil (N_then (C_condT rfl rfl (C_seq (C_reg rfl ?_))))))))))
    refine L_run (R_build (pv := []) (cs := [.int .u64 0, .int .i64 0, .int .i64 0, .int .i64 0, .int .i64 0, .int .i64 0, .int .i64 0]) rfl (by kernel_rfl)) rfl ?_
    refine L_stA (vs := [.int .u64 0, .int .i64 0, .int .i64 0, .int .i64 0, .int .i64 0, .int .i64 0, .int .i64 0]) rfl rfl rfl sz33 rfl hb2 rfl ?_
    intro w5 hb5 hs5 hz5
    replace hB := gb_trg hB hs5 ge2
    refine Las rfl rfl (L_nil (N_then (C_ret (R_then ?_))))
    refine retC1 (vs := [.int .u64 0, .int .i64 0, .int .i64 0, .int .i64 0, .int .i64 0, .int .i64 0, .int .i64 0]) Tryd.results50 rfl agg33 (At.pre (hb5.at_ 0) rfl) rfl rfl ?_
    have hf_ : hdecN X = 2 := hdx_form h1 (fun h_ => h3 (by have h9_ := h_.2.1; rw [hdx_0 hX (by omega)] at h9_; rw [h9_]; rfl))
    exact ⟨hB, .inr ⟨by rw [hf_]; decide, by rw [hf_]⟩⟩
   ·refine L_yes rfl rfl rfl (decide_eq_false h3) ?_
    refine T_slArr (bs := X) (i := 41) rfl rfl (by first | rfl | omega) arr50 (by omega) hb1 (by first | omega | (simp; omega)) rfl ?_
    intro A_2 hS_2
    refine L_yes rfl rfl rfl (decide_eq_false h3) ?_
    have hn1 : (X.drop 41).length = 23 := (by rw [List.length_drop]; omega)
    refine T_s2arr (X := X.drop 41) rfl arr112 hS_2 hn1 rfl rfl ?_
    intro g3 o1 ha1
    refine L_yes rfl rfl rfl (decide_eq_false h3) (L_run (R_loadA (vs := fl encB (X.drop 41)) rfl agg112 ha1 (flB_lenE hn1)) rfl (L_yes rfl rfl rfl (decide_eq_false h3) ?_))
    refine L_run (R_build (pv := []) (cs := fl encB (List.replicate 23 (0 : UInt8))) rfl (by kernel_rfl)) rfl ?_
    refine L_yes rfl rfl rfl (decide_eq_false h3) (L_run (R_neqA rfl rfl eqg112 (eqs_bytes arr112 int5 scl5 hn1 List.length_replicate)) rfl (L_run (R_pickF rfl (decide_eq_false h3) rfl) rfl (L_nil (N_then (C_ifN rfl (fun h4 => ?_) (fun h4 => ?_))))))
    ·refine C_seq (C_reg rfl ?_)
     refine L_run (R_build (pv := []) (cs := [.int .u64 0, .int .i64 0, .int .i64 0, .int .i64 0, .int .i64 0, .int .i64 0, .int .i64 0]) rfl (by kernel_rfl)) rfl ?_
     refine L_stA (vs := [.int .u64 0, .int .i64 0, .int .i64 0, .int .i64 0, .int .i64 0, .int .i64 0, .int .i64 0]) rfl rfl rfl sz33 rfl hb2 rfl ?_
     intro w6 hb6 hs6 hz6
     replace hB := gb_trg hB hs6 ge2
     refine Las rfl rfl (L_nil (N_then (C_ret (R_then ?_))))
     refine retC1 (vs := [.int .u64 0, .int .i64 0, .int .i64 0, .int .i64 0, .int .i64 0, .int .i64 0, .int .i64 0]) Tryd.results50 rfl agg33 (At.pre (hb6.at_ 0) rfl) rfl rfl ?_
     have hf_ : hdecN X = 2 := hdx_form h1 (fun h_ => h4 h_.2.2)
     exact ⟨hB, .inr ⟨by rw [hf_]; decide, by rw [hf_]⟩⟩
    ·refine C_skip (N_then (C_seq (C_seq ?_)))
     refine C_draw2 rfl mix ?_
     intro w7 hs7 hz7
     replace hB := gb_tr hB hs7; replace hb1 := hb1.gb hs7; replace hb2 := hb2.gb hs7; replace hS_1 := hS_1.gb hs7; replace hS_2 := hS_2.gb hs7
     refine ⟨fun W_ => Blk W_ g1 50 (fl encB X) ∧ True, [0, 2, 4, 5], ?_⟩
     refine T_tk (i := 0) rfl (Y_of (fun _ ⟨hb1, _⟩ => R_loadA (vs := fl encB X) rfl agg50 (hb1.at_ 0) (flB_lenE hX))) ⟨hb1, trivial⟩ rfl ?_
     refine T_tk (i := 2) rfl (Y_of (fun _ ⟨hb1, _⟩ => R_loadA (vs := fl encB X) rfl agg50 (hb1.at_ 0) (flB_lenE hX))) ⟨hb1, trivial⟩ rfl ?_
     refine T_all (rs := [1]) (by kernel_rfl) rfl (all1 (O_one rfl ?_))
     refine L_call rfl cb66 (hnum_ok (X := X) (a := 37) hX (by omega)) rfl ?_
     rintro _ w8 ⟨hs8, rfl⟩
     replace hB := gb_tr hB hs8; replace hb1 := hb1.gb hs8; replace hb2 := hb2.gb hs8; replace hS_1 := hS_1.gb hs8; replace hS_2 := hS_2.gb hs8
     refine L_nil (N_then ⟨fun hN_ => ⟨hb1, trivial⟩, ?_⟩)
     refine T_all (rs := [3]) (by kernel_rfl) rfl (all1 (O_one rfl ?_))
     refine L_call rfl cb67 (hsum_ok (X := X) hX (hT.gb hB)) rfl ?_
     rintro _ w9 ⟨hs9, rfl⟩
     replace hB := gb_tr hB hs9; replace hb1 := hb1.gb hs9; replace hb2 := hb2.gb hs9; replace hS_1 := hS_1.gb hs9; replace hS_2 := hS_2.gb hs9
     refine L_nil (N_then ⟨fun hN_ => ⟨hb1, trivial⟩, ?_⟩)
     refine T_tk (i := 4) rfl (Y_of (fun _ _ => R_eqv (R_conv rfl any75 int3) (v' := .int .i64 ((maskN (moreN 0 (X.take 37)) : Nat) : Int)) (msk_i64))) ⟨hb1, trivial⟩ rfl ?_
     refine T_tk (i := 5) rfl (Y_of (fun _ _ => R_neq rfl rfl)) ⟨hb1, trivial⟩ rfl ?_
     refine T_done (by kernel_rfl) (CalmE.normal ?_)
     refine N_then ?_
     refine C_if rfl (fun h5 => ?_) (fun h5 => ?_)
     ·refine C_seq (C_reg rfl ?_)
      refine L_run (R_build (pv := []) (cs := [.int .u64 0, .int .i64 0, .int .i64 0, .int .i64 0, .int .i64 0, .int .i64 0, .int .i64 0]) rfl (by kernel_rfl)) rfl ?_
      refine L_stA (vs := [.int .u64 0, .int .i64 0, .int .i64 0, .int .i64 0, .int .i64 0, .int .i64 0, .int .i64 0]) rfl rfl rfl sz33 rfl hb2 rfl ?_
      intro w10 hb7 hs10 hz8
      replace hB := gb_trg hB hs10 ge2
      refine Las rfl rfl (L_nil (N_then (C_ret (R_then ?_))))
      refine retC1 (vs := [.int .u64 0, .int .i64 0, .int .i64 0, .int .i64 0, .int .i64 0, .int .i64 0, .int .i64 0]) Tryd.results50 rfl agg33 (At.pre (hb7.at_ 0) rfl) rfl rfl ?_
      have hf_ : hdecN X = 3 := hdx_sum h1 ⟨h2, (by rw [hdx_0 hX (by omega)]; exact UInt8.toNat_inj.1 (by have h_ := (Decidable.not_not.1 h3); simp; omega)), h4⟩ (by omega)
      exact ⟨hB, .inr ⟨by rw [hf_]; decide, by rw [hf_]⟩⟩
     ·refine C_skip (N_then (C_seq ?_))
      refine C_join (fun a_ w_ => (∃ (σ_ : Nat → Value) (g4 : Nat), a_ = Ac 58 σ_ [] [(0, .agg (fl encB X).toArray), (1, .pointer (some ⟨g1, 0, none⟩)), (2, .pointer (some ⟨g2, 0, none⟩)), (3, .int .i64 0), (4, .pointer (some ⟨g4, 0, none⟩)), (8, .bool (decide (X = (List.replicate 64 (0 : UInt8))))), (24, .bool (decide (¬ (X.drop 41 = (List.replicate 23 (0 : UInt8)))))), (31, .bool (decide (((getN ((X.drop 37).take 4) : Nat) : Int) ≠ ((maskN (moreN 0 (X.take 37)) : Nat) : Int))))] ∧ w.grownBy w_ none ∧ Blk w_ g1 50 (fl encB X) ∧ Blk w_ g2 33 [.int .u64 0, .int .i64 0, .int .i64 0, .int .i64 0, .int .i64 0, .int .i64 0, .int .i64 0] ∧ Sli 0 g1 (g1 + 1) w_ A_1 (fl encB (X.take 4)) ∧ Sli 0 g1 (g1 + 1) w_ A_2 (fl encB (X.drop 41)) ∧ Blk w_ g4 33 [.int .u64 ((getN (((X.drop 5).take 8).take 8) : Nat) : Int), .int .i64 ((getN ((X.drop 13).take 4) : Nat) : Int), .int .i64 ((getN ((X.drop 17).take 4) : Nat) : Int), .int .i64 0, .int .i64 0, .int .i64 0, .int .i64 0] ∧ w.heap.size ≤ g4 ∧ g1 < g4 ∧ g2 < g4)) ?_ ?_
      ·refine C_draw2 rfl mix ?_
       intro w11 hs11 hz9
       replace hB := gb_tr hB hs11; replace hb1 := hb1.gb hs11; replace hb2 := hb2.gb hs11; replace hS_1 := hS_1.gb hs11; replace hS_2 := hS_2.gb hs11
       refine ⟨fun W_ => Blk W_ g1 50 (fl encB X) ∧ True, [2, 4, 6], ?_⟩
       refine T_tk (i := 2) rfl (Y_of (fun _ ⟨hb1, _⟩ => R_loadA (vs := fl encB X) rfl agg50 (hb1.at_ 0) (flB_lenE hX))) ⟨hb1, trivial⟩ rfl ?_
       refine T_tk (i := 4) rfl (Y_of (fun _ ⟨hb1, _⟩ => R_loadA (vs := fl encB X) rfl agg50 (hb1.at_ 0) (flB_lenE hX))) ⟨hb1, trivial⟩ rfl ?_
       refine T_all (rs := [0, 7]) (by kernel_rfl) rfl (all2 (O_one rfl ?_) (O_one rfl ?_))
       ·refine T_slArrG (bs := X) (i := 5) (j := 13) (k := .i64) (k' := .i64) (a := 0) (b := 0) EncB arr50 rfl hb1 hX (by omega) (by omega) rfl ⟨_, rfl⟩ ⟨_, rfl⟩ ?_
        intro A_3 hS_3
        have e_ : (X.drop 5).take (13 - 5) = (X.drop 5).take 8 := rfl
        rw [e_] at hS_3 ⊢; clear e_
        refine L_nil (N_then ⟨fun hN_ => ⟨hb1, trivial⟩, ?_⟩)
        refine T_all (rs := [1, 7]) (by kernel_rfl) rfl (all2 (O_one rfl ?_) (O_one rfl ?_))
        ·refine L_call rfl cb68 (word_get (bs := (X.drop 5).take 8) hS_3 (by simp only [List.length_take, List.length_drop]; omega)) rfl ?_
         rintro _ w12 ⟨hs12, rfl⟩
         replace hB := gb_tr hB hs12; replace hb1 := hb1.gb hs12; replace hb2 := hb2.gb hs12; replace hS_1 := hS_1.gb hs12; replace hS_2 := hS_2.gb hs12
         refine L_nil (N_then ⟨fun hN_ => ⟨hb1, trivial⟩, ?_⟩)
         refine T_all (rs := [3, 7]) (by kernel_rfl) rfl (all2 (O_one rfl ?_) (O_one rfl ?_))
         ·refine L_call rfl cb66 (hnum_ok (X := X) (a := 13) hX (by omega)) rfl ?_
          rintro _ w13 ⟨hs13, rfl⟩
          replace hB := gb_tr hB hs13; replace hb1 := hb1.gb hs13; replace hb2 := hb2.gb hs13; replace hS_1 := hS_1.gb hs13; replace hS_2 := hS_2.gb hs13
          refine L_nil (N_then ⟨fun hN_ => ⟨hb1, trivial⟩, ?_⟩)
          refine T_all (rs := [5, 7]) (by kernel_rfl) rfl (all2 (O_one rfl ?_) (O_one rfl ?_))
          ·refine L_call rfl cb66 (hnum_ok (X := X) (a := 17) hX (by omega)) rfl ?_
           rintro _ w14 ⟨hs14, rfl⟩
           replace hB := gb_tr hB hs14; replace hb1 := hb1.gb hs14; replace hb2 := hb2.gb hs14; replace hS_1 := hS_1.gb hs14; replace hS_2 := hS_2.gb hs14
           refine L_nil (N_then ⟨fun hN_ => ⟨hb1, trivial⟩, ?_⟩)
           refine T_tk (i := 6) rfl (Y_of (fun _ _ => R_build (pv := [(0, .int .u64 ((getN (((X.drop 5).take 8).take 8) : Nat) : Int)), (1, .int .i64 ((getN ((X.drop 13).take 4) : Nat) : Int)), (2, .int .i64 ((getN ((X.drop 17).take 4) : Nat) : Int))]) (cs := [.int .u64 ((getN (((X.drop 5).take 8).take 8) : Nat) : Int), .int .i64 ((getN ((X.drop 13).take 4) : Nat) : Int), .int .i64 ((getN ((X.drop 17).take 4) : Nat) : Int), .int .i64 0, .int .i64 0, .int .i64 0, .int .i64 0]) rfl (by kernel_rfl))) ⟨hb1, trivial⟩ rfl ?_
           refine T_all (rs := [7]) (by kernel_rfl) rfl (all1 (O_one rfl ?_))
           refine L_alloc (cs := [.int .u64 0, .int .i64 0, .int .i64 0, .int .i64 0, .int .i64 0, .int .i64 0, .int .i64 0]) zer33 rfl rfl ?_
           intro g4 w15 eg3 hb8 hs15 hz10
           have ge3 : w.heap.size ≤ g4 := eg_ge hB eg3
           have lt2 : g1 < g4 := lt_of_eg hb1.lt eg3
           have lt3 : g2 < g4 := lt_of_eg hb2.lt eg3
           replace hB := gb_tr hB hs15; replace hb1 := hb1.gb hs15; replace hb2 := hb2.gb hs15; replace hS_1 := hS_1.gb hs15; replace hS_2 := hS_2.gb hs15
           refine L_nil (N_then ⟨fun hN_ => ⟨hb1, trivial⟩, ?_⟩)
           refine T_all (rs := [8]) (by kernel_rfl) rfl (all1 (O_one rfl ?_))
           refine L_stA (vs := [.int .u64 ((getN (((X.drop 5).take 8).take 8) : Nat) : Int), .int .i64 ((getN ((X.drop 13).take 4) : Nat) : Int), .int .i64 ((getN ((X.drop 17).take 4) : Nat) : Int), .int .i64 0, .int .i64 0, .int .i64 0, .int .i64 0]) rfl rfl rfl sz33 rfl hb8 rfl ?_
           intro w16 hb9 hs16 hz11
           replace hB := gb_trg hB hs16 ge3; replace hb1 := hb1.grown hs16 (ne_lt lt2); replace hb2 := hb2.grown hs16 (ne_lt lt3); replace hS_1 := hS_1.grown hs16 (by rintro _ ⟨rfl⟩; omega); replace hS_2 := hS_2.grown hs16 (by rintro _ ⟨rfl⟩; omega)
           refine L_nil (N_then ⟨fun hN_ => ⟨hb1, trivial⟩, ?_⟩)
           refine T_done (by kernel_rfl) (CalmE.normal ?_)
           exact ⟨rfl, ⟨_, g4, Ac_frg ⟨rfl, rfl, rfl, rfl, rfl, rfl, rfl, rfl, trivial⟩, hB, hb1, hb2, hS_1, hS_2, hb9, ge3, lt2, lt3⟩⟩
          ·refine L_alloc (cs := [.int .u64 0, .int .i64 0, .int .i64 0, .int .i64 0, .int .i64 0, .int .i64 0, .int .i64 0]) zer33 rfl rfl ?_
           intro g5 w17 eg4 hb10 hs17 hz12
           have ge4 : w.heap.size ≤ g5 := eg_ge hB eg4
           have lt4 : g1 < g5 := lt_of_eg hb1.lt eg4
           have lt5 : g2 < g5 := lt_of_eg hb2.lt eg4
           replace hB := gb_tr hB hs17; replace hb1 := hb1.gb hs17; replace hb2 := hb2.gb hs17; replace hS_1 := hS_1.gb hs17; replace hS_2 := hS_2.gb hs17
           refine L_nil (N_then ⟨fun hN_ => ⟨hb1, trivial⟩, ?_⟩)
           refine T_all (rs := [5]) (by kernel_rfl) rfl (all1 (O_one rfl ?_))
           refine L_call rfl cb66 (hnum_ok (X := X) (a := 17) hX (by omega)) rfl ?_
           rintro _ w18 ⟨hs18, rfl⟩
           replace hB := gb_tr hB hs18; replace hb1 := hb1.gb hs18; replace hb2 := hb2.gb hs18; replace hS_1 := hS_1.gb hs18; replace hS_2 := hS_2.gb hs18; replace hb10 := hb10.gb hs18
           refine L_nil (N_then ⟨fun hN_ => ⟨hb1, trivial⟩, ?_⟩)
           refine T_tk (i := 6) rfl (Y_of (fun _ _ => R_build (pv := [(0, .int .u64 ((getN (((X.drop 5).take 8).take 8) : Nat) : Int)), (1, .int .i64 ((getN ((X.drop 13).take 4) : Nat) : Int)), (2, .int .i64 ((getN ((X.drop 17).take 4) : Nat) : Int))]) (cs := [.int .u64 ((getN (((X.drop 5).take 8).take 8) : Nat) : Int), .int .i64 ((getN ((X.drop 13).take 4) : Nat) : Int), .int .i64 ((getN ((X.drop 17).take 4) : Nat) : Int), .int .i64 0, .int .i64 0, .int .i64 0, .int .i64 0]) rfl (by kernel_rfl))) ⟨hb1, trivial⟩ rfl ?_
           refine T_all (rs := [8]) (by kernel_rfl) rfl (all1 (O_one rfl ?_))
           refine L_stA (vs := [.int .u64 ((getN (((X.drop 5).take 8).take 8) : Nat) : Int), .int .i64 ((getN ((X.drop 13).take 4) : Nat) : Int), .int .i64 ((getN ((X.drop 17).take 4) : Nat) : Int), .int .i64 0, .int .i64 0, .int .i64 0, .int .i64 0]) rfl rfl rfl sz33 rfl hb10 rfl ?_
           intro w19 hb11 hs19 hz13
           replace hB := gb_trg hB hs19 ge4; replace hb1 := hb1.grown hs19 (ne_lt lt4); replace hb2 := hb2.grown hs19 (ne_lt lt5); replace hS_1 := hS_1.grown hs19 (by rintro _ ⟨rfl⟩; omega); replace hS_2 := hS_2.grown hs19 (by rintro _ ⟨rfl⟩; omega)
           refine L_nil (N_then ⟨fun hN_ => ⟨hb1, trivial⟩, ?_⟩)
           refine T_done (by kernel_rfl) (CalmE.normal ?_)
           exact ⟨rfl, ⟨_, g5, Ac_frg ⟨rfl, rfl, rfl, rfl, rfl, rfl, rfl, rfl, trivial⟩, hB, hb1, hb2, hS_1, hS_2, hb11, ge4, lt4, lt5⟩⟩
         ·refine L_alloc (cs := [.int .u64 0, .int .i64 0, .int .i64 0, .int .i64 0, .int .i64 0, .int .i64 0, .int .i64 0]) zer33 rfl rfl ?_
          intro g6 w20 eg5 hb12 hs20 hz14
          have ge5 : w.heap.size ≤ g6 := eg_ge hB eg5
          have lt6 : g1 < g6 := lt_of_eg hb1.lt eg5
          have lt7 : g2 < g6 := lt_of_eg hb2.lt eg5
          replace hB := gb_tr hB hs20; replace hb1 := hb1.gb hs20; replace hb2 := hb2.gb hs20; replace hS_1 := hS_1.gb hs20; replace hS_2 := hS_2.gb hs20
          refine L_nil (N_then ⟨fun hN_ => ⟨hb1, trivial⟩, ?_⟩)
          refine T_all (rs := [3]) (by kernel_rfl) rfl (all1 (O_one rfl ?_))
          refine L_call rfl cb66 (hnum_ok (X := X) (a := 13) hX (by omega)) rfl ?_
          rintro _ w21 ⟨hs21, rfl⟩
          replace hB := gb_tr hB hs21; replace hb1 := hb1.gb hs21; replace hb2 := hb2.gb hs21; replace hS_1 := hS_1.gb hs21; replace hS_2 := hS_2.gb hs21; replace hb12 := hb12.gb hs21
          refine L_nil (N_then ⟨fun hN_ => ⟨hb1, trivial⟩, ?_⟩)
          refine T_all (rs := [5]) (by kernel_rfl) rfl (all1 (O_one rfl ?_))
          refine L_call rfl cb66 (hnum_ok (X := X) (a := 17) hX (by omega)) rfl ?_
          rintro _ w22 ⟨hs22, rfl⟩
          replace hB := gb_tr hB hs22; replace hb1 := hb1.gb hs22; replace hb2 := hb2.gb hs22; replace hS_1 := hS_1.gb hs22; replace hS_2 := hS_2.gb hs22; replace hb12 := hb12.gb hs22
          refine L_nil (N_then ⟨fun hN_ => ⟨hb1, trivial⟩, ?_⟩)
          refine T_tk (i := 6) rfl (Y_of (fun _ _ => R_build (pv := [(0, .int .u64 ((getN (((X.drop 5).take 8).take 8) : Nat) : Int)), (1, .int .i64 ((getN ((X.drop 13).take 4) : Nat) : Int)), (2, .int .i64 ((getN ((X.drop 17).take 4) : Nat) : Int))]) (cs := [.int .u64 ((getN (((X.drop 5).take 8).take 8) : Nat) : Int), .int .i64 ((getN ((X.drop 13).take 4) : Nat) : Int), .int .i64 ((getN ((X.drop 17).take 4) : Nat) : Int), .int .i64 0, .int .i64 0, .int .i64 0, .int .i64 0]) rfl (by kernel_rfl))) ⟨hb1, trivial⟩ rfl ?_
          refine T_all (rs := [8]) (by kernel_rfl) rfl (all1 (O_one rfl ?_))
          refine L_stA (vs := [.int .u64 ((getN (((X.drop 5).take 8).take 8) : Nat) : Int), .int .i64 ((getN ((X.drop 13).take 4) : Nat) : Int), .int .i64 ((getN ((X.drop 17).take 4) : Nat) : Int), .int .i64 0, .int .i64 0, .int .i64 0, .int .i64 0]) rfl rfl rfl sz33 rfl hb12 rfl ?_
          intro w23 hb13 hs23 hz15
          replace hB := gb_trg hB hs23 ge5; replace hb1 := hb1.grown hs23 (ne_lt lt6); replace hb2 := hb2.grown hs23 (ne_lt lt7); replace hS_1 := hS_1.grown hs23 (by rintro _ ⟨rfl⟩; omega); replace hS_2 := hS_2.grown hs23 (by rintro _ ⟨rfl⟩; omega)
          refine L_nil (N_then ⟨fun hN_ => ⟨hb1, trivial⟩, ?_⟩)
          refine T_done (by kernel_rfl) (CalmE.normal ?_)
          exact ⟨rfl, ⟨_, g6, Ac_frg ⟨rfl, rfl, rfl, rfl, rfl, rfl, rfl, rfl, trivial⟩, hB, hb1, hb2, hS_1, hS_2, hb13, ge5, lt6, lt7⟩⟩
        ·refine L_alloc (cs := [.int .u64 0, .int .i64 0, .int .i64 0, .int .i64 0, .int .i64 0, .int .i64 0, .int .i64 0]) zer33 rfl rfl ?_
         intro g7 w24 eg6 hb14 hs24 hz16
         have ge6 : w.heap.size ≤ g7 := eg_ge hB eg6
         have lt8 : g1 < g7 := lt_of_eg hb1.lt eg6
         have lt9 : g2 < g7 := lt_of_eg hb2.lt eg6
         replace hB := gb_tr hB hs24; replace hb1 := hb1.gb hs24; replace hb2 := hb2.gb hs24; replace hS_1 := hS_1.gb hs24; replace hS_2 := hS_2.gb hs24; replace hS_3 := hS_3.gb hs24
         refine L_nil (N_then ⟨fun hN_ => ⟨hb1, trivial⟩, ?_⟩)
         refine T_all (rs := [1]) (by kernel_rfl) rfl (all1 (O_one rfl ?_))
         refine L_call rfl cb68 (word_get (bs := (X.drop 5).take 8) hS_3 (by simp only [List.length_take, List.length_drop]; omega)) rfl ?_
         rintro _ w25 ⟨hs25, rfl⟩
         replace hB := gb_tr hB hs25; replace hb1 := hb1.gb hs25; replace hb2 := hb2.gb hs25; replace hS_1 := hS_1.gb hs25; replace hS_2 := hS_2.gb hs25; replace hb14 := hb14.gb hs25
         refine L_nil (N_then ⟨fun hN_ => ⟨hb1, trivial⟩, ?_⟩)
         refine T_all (rs := [3]) (by kernel_rfl) rfl (all1 (O_one rfl ?_))
         refine L_call rfl cb66 (hnum_ok (X := X) (a := 13) hX (by omega)) rfl ?_
         rintro _ w26 ⟨hs26, rfl⟩
         replace hB := gb_tr hB hs26; replace hb1 := hb1.gb hs26; replace hb2 := hb2.gb hs26; replace hS_1 := hS_1.gb hs26; replace hS_2 := hS_2.gb hs26; replace hb14 := hb14.gb hs26
         refine L_nil (N_then ⟨fun hN_ => ⟨hb1, trivial⟩, ?_⟩)
         refine T_all (rs := [5]) (by kernel_rfl) rfl (all1 (O_one rfl ?_))
         refine L_call rfl cb66 (hnum_ok (X := X) (a := 17) hX (by omega)) rfl ?_
         rintro _ w27 ⟨hs27, rfl⟩
         replace hB := gb_tr hB hs27; replace hb1 := hb1.gb hs27; replace hb2 := hb2.gb hs27; replace hS_1 := hS_1.gb hs27; replace hS_2 := hS_2.gb hs27; replace hb14 := hb14.gb hs27
         refine L_nil (N_then ⟨fun hN_ => ⟨hb1, trivial⟩, ?_⟩)
         refine T_tk (i := 6) rfl (Y_of (fun _ _ => R_build (pv := [(0, .int .u64 ((getN (((X.drop 5).take 8).take 8) : Nat) : Int)), (1, .int .i64 ((getN ((X.drop 13).take 4) : Nat) : Int)), (2, .int .i64 ((getN ((X.drop 17).take 4) : Nat) : Int))]) (cs := [.int .u64 ((getN (((X.drop 5).take 8).take 8) : Nat) : Int), .int .i64 ((getN ((X.drop 13).take 4) : Nat) : Int), .int .i64 ((getN ((X.drop 17).take 4) : Nat) : Int), .int .i64 0, .int .i64 0, .int .i64 0, .int .i64 0]) rfl (by kernel_rfl))) ⟨hb1, trivial⟩ rfl ?_
         refine T_all (rs := [8]) (by kernel_rfl) rfl (all1 (O_one rfl ?_))
         refine L_stA (vs := [.int .u64 ((getN (((X.drop 5).take 8).take 8) : Nat) : Int), .int .i64 ((getN ((X.drop 13).take 4) : Nat) : Int), .int .i64 ((getN ((X.drop 17).take 4) : Nat) : Int), .int .i64 0, .int .i64 0, .int .i64 0, .int .i64 0]) rfl rfl rfl sz33 rfl hb14 rfl ?_
         intro w28 hb15 hs28 hz17
         replace hB := gb_trg hB hs28 ge6; replace hb1 := hb1.grown hs28 (ne_lt lt8); replace hb2 := hb2.grown hs28 (ne_lt lt9); replace hS_1 := hS_1.grown hs28 (by rintro _ ⟨rfl⟩; omega); replace hS_2 := hS_2.grown hs28 (by rintro _ ⟨rfl⟩; omega)
         refine L_nil (N_then ⟨fun hN_ => ⟨hb1, trivial⟩, ?_⟩)
         refine T_done (by kernel_rfl) (CalmE.normal ?_)
         exact ⟨rfl, ⟨_, g7, Ac_frg ⟨rfl, rfl, rfl, rfl, rfl, rfl, rfl, rfl, trivial⟩, hB, hb1, hb2, hS_1, hS_2, hb15, ge6, lt8, lt9⟩⟩
       ·refine L_alloc (cs := [.int .u64 0, .int .i64 0, .int .i64 0, .int .i64 0, .int .i64 0, .int .i64 0, .int .i64 0]) zer33 rfl rfl ?_
        intro g8 w29 eg7 hb16 hs29 hz18
        have ge7 : w.heap.size ≤ g8 := eg_ge hB eg7
        have lt10 : g1 < g8 := lt_of_eg hb1.lt eg7
        have lt11 : g2 < g8 := lt_of_eg hb2.lt eg7
        replace hB := gb_tr hB hs29; replace hb1 := hb1.gb hs29; replace hb2 := hb2.gb hs29; replace hS_1 := hS_1.gb hs29; replace hS_2 := hS_2.gb hs29
        refine L_nil (N_then ⟨fun hN_ => ⟨hb1, trivial⟩, ?_⟩)
        refine T_all (rs := [0]) (by kernel_rfl) rfl (all1 (O_one rfl ?_))
        refine T_slArrG (bs := X) (i := 5) (j := 13) (k := .i64) (k' := .i64) (a := 0) (b := 0) EncB arr50 rfl hb1 hX (by omega) (by omega) rfl ⟨_, rfl⟩ ⟨_, rfl⟩ ?_
        intro A_4 hS_4
        have e_ : (X.drop 5).take (13 - 5) = (X.drop 5).take 8 := rfl
        rw [e_] at hS_4 ⊢; clear e_
        refine L_nil (N_then ⟨fun hN_ => ⟨hb1, trivial⟩, ?_⟩)
        refine T_all (rs := [1]) (by kernel_rfl) rfl (all1 (O_one rfl ?_))
        refine L_call rfl cb68 (word_get (bs := (X.drop 5).take 8) hS_4 (by simp only [List.length_take, List.length_drop]; omega)) rfl ?_
        rintro _ w30 ⟨hs30, rfl⟩
        replace hB := gb_tr hB hs30; replace hb1 := hb1.gb hs30; replace hb2 := hb2.gb hs30; replace hS_1 := hS_1.gb hs30; replace hS_2 := hS_2.gb hs30; replace hb16 := hb16.gb hs30
        refine L_nil (N_then ⟨fun hN_ => ⟨hb1, trivial⟩, ?_⟩)
        refine T_all (rs := [3]) (by kernel_rfl) rfl (all1 (O_one rfl ?_))
        refine L_call rfl cb66 (hnum_ok (X := X) (a := 13) hX (by omega)) rfl ?_
        rintro _ w31 ⟨hs31, rfl⟩
        replace hB := gb_tr hB hs31; replace hb1 := hb1.gb hs31; replace hb2 := hb2.gb hs31; replace hS_1 := hS_1.gb hs31; replace hS_2 := hS_2.gb hs31; replace hb16 := hb16.gb hs31
        refine L_nil (N_then ⟨fun hN_ => ⟨hb1, trivial⟩, ?_⟩)
        refine T_all (rs := [5]) (by kernel_rfl) rfl (all1 (O_one rfl ?_))
        refine L_call rfl cb66 (hnum_ok (X := X) (a := 17) hX (by omega)) rfl ?_
        rintro _ w32 ⟨hs32, rfl⟩
        replace hB := gb_tr hB hs32; replace hb1 := hb1.gb hs32; replace hb2 := hb2.gb hs32; replace hS_1 := hS_1.gb hs32; replace hS_2 := hS_2.gb hs32; replace hb16 := hb16.gb hs32
        refine L_nil (N_then ⟨fun hN_ => ⟨hb1, trivial⟩, ?_⟩)
        refine T_tk (i := 6) rfl (Y_of (fun _ _ => R_build (pv := [(0, .int .u64 ((getN (((X.drop 5).take 8).take 8) : Nat) : Int)), (1, .int .i64 ((getN ((X.drop 13).take 4) : Nat) : Int)), (2, .int .i64 ((getN ((X.drop 17).take 4) : Nat) : Int))]) (cs := [.int .u64 ((getN (((X.drop 5).take 8).take 8) : Nat) : Int), .int .i64 ((getN ((X.drop 13).take 4) : Nat) : Int), .int .i64 ((getN ((X.drop 17).take 4) : Nat) : Int), .int .i64 0, .int .i64 0, .int .i64 0, .int .i64 0]) rfl (by kernel_rfl))) ⟨hb1, trivial⟩ rfl ?_
        refine T_all (rs := [8]) (by kernel_rfl) rfl (all1 (O_one rfl ?_))
        refine L_stA (vs := [.int .u64 ((getN (((X.drop 5).take 8).take 8) : Nat) : Int), .int .i64 ((getN ((X.drop 13).take 4) : Nat) : Int), .int .i64 ((getN ((X.drop 17).take 4) : Nat) : Int), .int .i64 0, .int .i64 0, .int .i64 0, .int .i64 0]) rfl rfl rfl sz33 rfl hb16 rfl ?_
        intro w33 hb17 hs33 hz19
        replace hB := gb_trg hB hs33 ge7; replace hb1 := hb1.grown hs33 (ne_lt lt10); replace hb2 := hb2.grown hs33 (ne_lt lt11); replace hS_1 := hS_1.grown hs33 (by rintro _ ⟨rfl⟩; omega); replace hS_2 := hS_2.grown hs33 (by rintro _ ⟨rfl⟩; omega)
        refine L_nil (N_then ⟨fun hN_ => ⟨hb1, trivial⟩, ?_⟩)
        refine T_done (by kernel_rfl) (CalmE.normal ?_)
        exact ⟨rfl, ⟨_, g8, Ac_frg ⟨rfl, rfl, rfl, rfl, rfl, rfl, rfl, rfl, trivial⟩, hB, hb1, hb2, hS_1, hS_2, hb17, ge7, lt10, lt11⟩⟩
      ·clear hB
       clear hb1 hb2 hS_1 hS_2 ha1
       rintro a_ w34 ⟨σ_, g4, rfl, hB, hb1, hb2, hS_1, hS_2, hj1, ge8, lt12, lt13⟩
       refine N_then (C_seq (C_seq (C_reg rfl ?_)))
       refine Lmv rfl rfl (L_nil (N_then (C_block ?_)))
       have hbs_ : Blk w34 g4 33 [.int .u64 ((hEp X : Nat) : Int), .int .i64 (hSeq X), .int .i64 (hFst X), .int .i64 ((hhA X 0) 0), .int .i64 ((hhA X 0) 1), .int .i64 ((hhA X 0) 2), .int .i64 ((hhA X 0) 3)] := by have q_ := hj1; rw [hk8] at q_; exact q_
       refine C_loop (fun m_ a_ w_ => ∃ (σ_ : Nat → Value) (i : Nat), a_ = Ac 58 σ_ [] [(1, .pointer (some ⟨g1, 0, none⟩)), (2, .pointer (some ⟨g2, 0, none⟩)), (3, .int .i64 0), (4, .pointer (some ⟨g4, 0, none⟩)), (40, .int .i64 (i : Int))] ∧ w.grownBy w_ none ∧ Blk w_ g1 50 (fl encB X) ∧ Blk w_ g2 33 [.int .u64 0, .int .i64 0, .int .i64 0, .int .i64 0, .int .i64 0, .int .i64 0, .int .i64 0] ∧ Sli 0 g1 (g1 + 1) w_ A_1 (fl encB (X.take 4)) ∧ Sli 0 g1 (g1 + 1) w_ A_2 (fl encB (X.drop 41)) ∧ Blk w_ g4 33 [.int .u64 ((hEp X : Nat) : Int), .int .i64 (hSeq X), .int .i64 (hFst X), .int .i64 ((hhA X i) 0), .int .i64 ((hhA X i) 1), .int .i64 ((hhA X i) 2), .int .i64 ((hhA X i) 3)] ∧ (i ≤ 4) ∧ 4 - i = m_) (4 - 0) ?_ ?_
       ·exact ⟨_, 0, Ac_frg ⟨rfl, rfl, rfl, rfl, (agx rfl), trivial⟩, hB, hb1, hb2, hS_1, hS_2, hbs_, (by omega), rfl⟩
       ·clear hB
        clear hb1 hb2 hS_1 hS_2 hj1
        rintro m_ a_ w35 ⟨σ_, i, rfl, hB, hb1, hb2, hS_1, hS_2, hbh, hi, rfl⟩
        refine C_seq (C_reg rfl ?_)
        refine L_run (R_lss rfl rfl) rfl ?_
        refine L_nil (N_then (C_seq (C_if rfl (fun h6 => ?_) (fun h6 => ?_))))
        ·refine C_skip (N_then (C_seq (C_block (C_seq (C_reg rfl ?_)))))
         refine Lmv rfl rfl (Las rfl rfl (L_nil (N_then (C_reg rfl (Lmv rfl rfl (L_run (R_loadA (vs := fl encB X) rfl agg50 (hb1.at_ 0) (flB_lenE hX)) rfl (Lmv rfl rfl ?_)))))))
         refine L_run (R_add64 rfl rfl (by omega)) rfl ?_
         refine L_run (R_mul64 rfl rfl (by omega)) rfl ?_
         refine L_run (R_eqv (R_add64 rfl rfl (by omega)) (v' := .int .i64 ((21 + 4 * i : Nat) : Int)) (congrArg _ (by omega))) rfl ?_
         refine L_call rfl cb66 (hnum_ok (X := X) (a := (21 + 4 * i)) hX (by omega)) rfl ?_
         rintro _ w36 ⟨hs34, rfl⟩
         replace hB := gb_tr hB hs34; replace hb1 := hb1.gb hs34; replace hb2 := hb2.gb hs34; replace hS_1 := hS_1.gb hs34; replace hS_2 := hS_2.gb hs34; replace hbh := hbh.gb hs34
         refine L_run (R_field (r := 3) rfl fld33_3 rfl) rfl ?_
         have hl2 : i < 4 := by omega
         refine L_run (R_indexArr (sz := 1) (o := 3) (a := (i : Int)) (i := i) (r := (3 + i)) rfl rfl (by first | rfl | omega) arr31 hl2 (by first | omega | rfl | simp)) rfl ?_
         refine L_st1v rfl rfl rfl sz3 hbh (by show 3 + i < 7; omega) ?_
         intro w37 hb18 hs35 hz20
         replace hb18 : Blk w37 g4 33 [.int .u64 ((hEp X : Nat) : Int), .int .i64 (hSeq X), .int .i64 (hFst X), .int .i64 ((upd (hhA X i) i ((getN ((X.drop (21 + 4 * i)).take 4) : Nat) : Int)) 0), .int .i64 ((upd (hhA X i) i ((getN ((X.drop (21 + 4 * i)).take 4) : Nat) : Int)) 1), .int .i64 ((upd (hhA X i) i ((getN ((X.drop (21 + 4 * i)).take 4) : Nat) : Int)) 2), .int .i64 ((upd (hhA X i) i ((getN ((X.drop (21 + 4 * i)).take 4) : Nat) : Int)) 3)] := Blk.cast (four_set (pre := [.int .u64 ((hEp X : Nat) : Int), .int .i64 (hSeq X), .int .i64 (hFst X)]) (post := []) (f := (hhA X i)) (k := .i64) hl2) hb18
         replace hB := gb_trg hB hs35 ge8; replace hb1 := hb1.grown hs35 (ne_lt lt12); replace hb2 := hb2.grown hs35 (ne_lt lt13); replace hS_1 := hS_1.grown hs35 (by rintro _ ⟨rfl⟩; omega); replace hS_2 := hS_2.grown hs35 (by rintro _ ⟨rfl⟩; omega)
         refine L_nil (N_in (N_then (C_reg rfl ?_)))
         refine L_run (R_add64 rfl rfl (by omega)) rfl ?_
         refine Lmv rfl rfl (L_nil (N_then ?_))
         rw [hhA_step] at hb18
         exact ⟨4 - (i + 1), by omega, _, (i + 1), Ac_frg ⟨rfl, rfl, rfl, rfl, (agx rfl), trivial⟩, hB, hb1, hb2, hS_1, hS_2, hb18, (by omega), rfl⟩
        ·refine C_exit (X_then (X_then (X_hit (N_then (C_seq (C_seq (C_reg rfl ?_)))))))
         obtain rfl : i = 4 := by omega
         replace hbh : Blk w35 g4 33 [.int .u64 ((hEp X : Nat) : Int), .int .i64 (hSeq X), .int .i64 (hFst X), .int .i64 (hHs X 0), .int .i64 (hHs X 1), .int .i64 (hHs X 2), .int .i64 (hHs X 3)] := hbh
         refine L_run (R_loadA (vs := [.int .u64 ((hEp X : Nat) : Int), .int .i64 (hSeq X), .int .i64 (hFst X), .int .i64 (hHs X 0), .int .i64 (hHs X 1), .int .i64 (hHs X 2), .int .i64 (hHs X 3)]) rfl agg33 (At.pre (hbh.at_ 0) rfl) rfl) rfl ?_
         refine L_call rfl cb69 (header_Right (ep := ((hEp X : Nat) : Int)) (seq := (hSeq X)) (first := (hFst X)) (hs := hHs X)) rfl ?_
         rintro _ w38 ⟨hs36, rfl⟩
         replace hB := gb_tr hB hs36; replace hb2 := hb2.gb hs36; replace hbh := hbh.gb hs36
         refine L_run (R_notD rfl) rfl ?_
         refine L_nil (N_then (C_ifN rfl (fun h7 => ?_) (fun h7 => ?_)))
         ·refine C_seq (C_reg rfl ?_)
          refine L_run (R_build (pv := []) (cs := [.int .u64 0, .int .i64 0, .int .i64 0, .int .i64 0, .int .i64 0, .int .i64 0, .int .i64 0]) rfl (by kernel_rfl)) rfl ?_
          refine L_stA (vs := [.int .u64 0, .int .i64 0, .int .i64 0, .int .i64 0, .int .i64 0, .int .i64 0, .int .i64 0]) rfl rfl rfl sz33 rfl hb2 rfl ?_
          intro w39 hb19 hs37 hz21
          replace hB := gb_trg hB hs37 ge2
          refine Las rfl rfl (L_nil (N_then (C_ret (R_then ?_))))
          refine retC1 (vs := [.int .u64 0, .int .i64 0, .int .i64 0, .int .i64 0, .int .i64 0, .int .i64 0, .int .i64 0]) Tryd.results50 rfl agg33 (At.pre (hb19.at_ 0) rfl) rfl rfl ?_
          have hf_ : hdecN X = 2 := hdx_bad h1 ⟨h2, (by rw [hdx_0 hX (by omega)]; exact UInt8.toNat_inj.1 (by have h_ := (Decidable.not_not.1 h3); simp; omega)), h4⟩ (by omega) (by assumption)
          exact ⟨hB, .inr ⟨by rw [hf_]; decide, by rw [hf_]⟩⟩
         ·refine C_skip (N_then (C_seq (C_reg rfl ?_)))
          refine L_run (R_loadA (vs := [.int .u64 ((hEp X : Nat) : Int), .int .i64 (hSeq X), .int .i64 (hFst X), .int .i64 (hHs X 0), .int .i64 (hHs X 1), .int .i64 (hHs X 2), .int .i64 (hHs X 3)]) rfl agg33 (At.pre (hbh.at_ 0) rfl) rfl) rfl ?_
          refine L_stA (vs := [.int .u64 ((hEp X : Nat) : Int), .int .i64 (hSeq X), .int .i64 (hFst X), .int .i64 (hHs X 0), .int .i64 (hHs X 1), .int .i64 (hHs X 2), .int .i64 (hHs X 3)]) rfl rfl rfl sz33 rfl hb2 rfl ?_
          intro w40 hb20 hs38 hz22
          replace hB := gb_trg hB hs38 ge2
          refine Las rfl rfl (L_nil (N_then (C_ret ?_)))
          refine retC1 (vs := [.int .u64 ((hEp X : Nat) : Int), .int .i64 (hSeq X), .int .i64 (hFst X), .int .i64 (hHs X 0), .int .i64 (hHs X 1), .int .i64 (hHs X 2), .int .i64 (hHs X 3)]) Tryd.results50 rfl agg33 (At.pre (hb20.at_ 0) rfl) rfl rfl ?_
          have hf_ : hdecN X = 0 := hdx_ok h1 ⟨h2, (by rw [hdx_0 hX (by omega)]; exact UInt8.toNat_inj.1 (by have h_ := (Decidable.not_not.1 h3); simp; omega)), h4⟩ (by omega) (by assumption)
          exact ⟨hB, .inl ⟨hf_, rfl⟩⟩
theorem hdec_ok_y {w : World} {X : List UInt8} (hX : X.length = 64) (hT : Tbw w) (hq : hdecN X = 0) : Runs Tryd.prog 50 #[.agg (fl encB X).toArray] w (fun v w' => w.grownBy w' none ∧ v = .tuple #[.agg #[.int .u64 ((hEp X : Nat) : Int), .int .i64 (hSeq X), .int .i64 (hFst X), .int .i64 (hHs X 0), .int .i64 (hHs X 1), .int .i64 (hHs X 2), .int .i64 (hHs X 3)], .int .i64 0]) := (hdec_ok hX hT).mono fun v w' h => ⟨h.1, h.2.elim (fun h2 => h2.2) (fun h2 => absurd hq h2.1)⟩
theorem hdec_ok_n {w : World} {X : List UInt8} (hX : X.length = 64) (hT : Tbw w) (hq : ¬ hdecN X = 0) : Runs Tryd.prog 50 #[.agg (fl encB X).toArray] w (fun v w' => w.grownBy w' none ∧ v = .tuple #[.agg #[.int .u64 0, .int .i64 0, .int .i64 0, .int .i64 0, .int .i64 0, .int .i64 0, .int .i64 0], .int .i64 (hdecN X)]) := (hdec_ok hX hT).mono fun v w' h => ⟨h.1, h.2.elim (fun h2 => absurd h2.1 hq) (fun h2 => h2.2)⟩
end Go.Proofs.YtkjgjejkfjhcjaaDoor
namespace Go.Proofs.YtkjgjejkfjhcjaaDoor
open Go.RowKit Gw Pl
set_option linter.unusedVariables false
set_option linter.unusedSimpArgs false
theorem cb38 : callB Tryd.prog 38 = true := by kernel_rfl
/-- As far as a sector's bytes have been looked at. -/
def PA (X : List UInt8) (i : Nat) : Prop := X.getD 4 0 = 1 ∧ ∀ j : Nat, j < i → 41 ≤ j → X.getD j 0 = 0
instance {X : List UInt8} {i : Nat} : Decidable (PA X i) := by unfold PA; infer_instance
theorem PA_0 {X : List UInt8} : PA X 41 ↔ X.getD 4 0 = 1 := ⟨And.left, fun h => ⟨h, fun j h1 h2 => by omega⟩⟩
theorem PA_s {X : List UInt8} {i : Nat} (hi : 41 ≤ i) : PA X (i + 1) ↔ PA X i ∧ X.getD i 0 = 0 := by
  constructor
  · intro h
    exact ⟨⟨h.1, fun j h1 h2 => h.2 j (by omega) h2⟩, h.2 i (by omega) hi⟩
  · intro h
    refine ⟨h.1.1, fun j h1 h2 => ?_⟩
    rcases Nat.lt_succ_iff_lt_or_eq.1 h1 with h3 | h3
    · exact h.1.2 j h3 h2
    · subst h3; exact h.2
theorem bz {b c : UInt8} : ((b.toNat : Int) = (c.toNat : Int)) ↔ b = c := ⟨fun h => UInt8.toNat_inj.1 (by omega), fun h => by rw [h]⟩
theorem hform_iff {X : List UInt8} (hX : X.length = 64) : HForm X ↔ (X.getD 0 0 = 115 ∧ X.getD 1 0 = 116 ∧ X.getD 2 0 = 114 ∧ X.getD 3 0 = 100) ∧ PA X 64 := by
  unfold HForm PA
  have e4 : X.take 4 = [X.getD 0 0, X.getD 1 0, X.getD 2 0, X.getD 3 0] := by
    apply List.ext_getElem
    · simp; omega
    · intro i h1 h2
      have hi : i < 4 := by simpa using h2
      rw [List.getElem_take]
      match i, hi with
      | 0, _ => simp [List.getD_eq_getElem?_getD, List.getElem?_eq_getElem (show 0 < X.length by omega)]
      | 1, _ => simp [List.getD_eq_getElem?_getD, List.getElem?_eq_getElem (show 1 < X.length by omega)]
      | 2, _ => simp [List.getD_eq_getElem?_getD, List.getElem?_eq_getElem (show 2 < X.length by omega)]
      | 3, _ => simp [List.getD_eq_getElem?_getD, List.getElem?_eq_getElem (show 3 < X.length by omega)]
  have ez : X.drop 41 = List.replicate 23 0 ↔ ∀ j : Nat, j < 64 → 41 ≤ j → X.getD j 0 = 0 := by
    constructor
    · intro h j h1 h2
      have := congrArg (fun l => l.getD (j - 41) 0) h
      simp only [List.getD_eq_getElem?_getD, List.getElem?_drop] at this
      rw [show 41 + (j - 41) = j by omega] at this
      rw [List.getD_eq_getElem?_getD, this, List.getElem?_replicate]
      split <;> rfl
    · intro h
      apply List.ext_getElem
      · simp; omega
      · intro i h1 h2
        rw [List.getElem_drop, List.getElem_replicate]
        have h3 : i < 23 := by simpa using h2
        have := h (41 + i) (by omega) (by omega)
        rw [List.getD_eq_getElem?_getD, List.getElem?_eq_getElem (by omega)] at this
        exact this
  rw [e4, ez]
  constructor
  · rintro ⟨h1, h2, h3⟩
    injection h1 with a1 h1
    injection h1 with a2 h1
    injection h1 with a3 h1
    injection h1 with a4 h1
    exact ⟨⟨a1, a2, a3, a4⟩, h2, h3⟩
  · rintro ⟨⟨a1, a2, a3, a4⟩, h2, h3⟩
    exact ⟨by rw [a1, a2, a3, a4], h2, h3⟩
theorem hk4a {X : List UInt8} {a b : Nat} (h : b - a = 4) : getN (((X.drop a).take (b - a)).take 8) = getN ((X.drop a).take 4) := by rw [h, List.take_take]; rfl
theorem hk8a {X : List UInt8} {a b : Nat} (h : b - a = 8) : getN (((X.drop a).take (b - a)).take 8) = getN ((X.drop a).take 8) := by rw [h, List.take_take]; rfl
theorem hdec18 {w : World} {X : List UInt8} (hX : X.length = 64) :
    Runs Tryd.prog 18 #[.agg (fl encB X).toArray] w (fun v w' => w.grownBy w' none ∧ ((hdecN X = 0 ∧ v = .tuple #[.agg #[.int .u64 ((hEp X : Nat) : Int), .int .i64 (hSeq X), .int .i64 (hFst X), .int .i64 (hHs X 0), .int .i64 (hHs X 1), .int .i64 (hHs X 2), .int .i64 (hHs X 3)], .int .i64 0]) ∨ (hdecN X ≠ 0 ∧ v = .tuple #[.agg #[.int .u64 0, .int .i64 0, .int .i64 0, .int .i64 0, .int .i64 0, .int .i64 0, .int .i64 0], .int .i64 (hdecN X)]))) := by
 have hB := gb_refl w none
 refine enter Tryd.func18 Tryd.ntmps18 rfl rfl ?_
 refine C_seq (C_reg rfl ?_)
 refine L_box (cs := fl encB X) rfl rfl rfl ?_
 intro g1 w1 eg1 hb1 hs1 hz1
 replace hB := gb_tr hB hs1
 refine L_alloc (cs := [.int .u64 0, .int .i64 0, .int .i64 0, .int .i64 0, .int .i64 0, .int .i64 0, .int .i64 0]) zer33 rfl rfl ?_
 intro g2 w2 eg2 hb2 hs2 hz2
 have ge2 : w.heap.size ≤ g2 := eg_ge hB eg2
 replace hB := gb_tr hB hs2; replace hb1 := hb1.gb hs2
 refine Las rfl rfl (L_nil (N_then (C_seq (C_seq (C_reg rfl (L_run (R_loadA (vs := fl encB X) rfl agg50 (hb1.at_ 0) (flB_lenE hX)) rfl ?_))))))
 refine L_run (R_build (pv := []) (cs := fl encB (List.replicate 64 (0 : UInt8))) rfl (by kernel_rfl)) rfl ?_
 refine L_run (R_eqlA rfl rfl eqg50 (eqs_bytes arr50 int5 scl5 hX List.length_replicate)) rfl ?_
 refine L_nil (N_then (C_if rfl (fun h1 => ?_) (fun h1 => ?_)))
 ·refine C_seq (C_reg rfl ?_)
  refine L_run (R_build (pv := []) (cs := [.int .u64 0, .int .i64 0, .int .i64 0, .int .i64 0, .int .i64 0, .int .i64 0, .int .i64 0]) rfl (by kernel_rfl)) rfl ?_
  refine L_stA (vs := [.int .u64 0, .int .i64 0, .int .i64 0, .int .i64 0, .int .i64 0, .int .i64 0, .int .i64 0]) rfl rfl rfl sz33 rfl hb2 rfl ?_
  intro w3 hb3 hs3 hz3
  replace hB := gb_trg hB hs3 ge2
  refine Las rfl rfl (L_nil (N_then (C_ret (R_then ?_))))
  refine retC1 (vs := [.int .u64 0, .int .i64 0, .int .i64 0, .int .i64 0, .int .i64 0, .int .i64 0, .int .i64 0]) Tryd.results18 rfl agg33 (At.pre (hb3.at_ 0) rfl) rfl rfl ?_
  have hf_ : hdecN X = 7 := hdx_none h1
  exact ⟨hB, .inr ⟨by rw [hf_]; decide, by rw [hf_]⟩⟩
 ·refine C_skip (N_then (C_seq (C_reg rfl ?_)))
  refine L_run (R_indexArr (i := 0) (r := 0) rfl rfl (by first | rfl | omega) arr50 (by omega) (by omega)) rfl ?_
  have hl1 : 0 < X.length := by rw [hX]; omega
  refine L_run (R_load1 rfl scl5 (hb1.cell (fl_atB hl1))) rfl (L_run (R_eql rfl rfl) rfl (Lmv rfl rfl ?_))
  refine L_splitD (p := (X[0].toNat : Int) = 115) (fun h2 => ?_) (fun h2 => ?_)
  ·refine L_yes rfl rfl rfl (decide_eq_true h2) ?_
   refine L_run (R_indexArr (i := 1) (r := 1) rfl rfl (by first | rfl | omega) arr50 (by omega) (by omega)) rfl ?_
   refine L_yes rfl rfl rfl (decide_eq_true h2) ?_
   have hl2 : 1 < X.length := by rw [hX]; omega
   refine L_run (R_load1 rfl scl5 (hb1.cell (fl_atB hl2))) rfl (L_yes rfl rfl rfl (decide_eq_true h2) (L_run (R_eql rfl rfl) rfl (L_run (R_pickT rfl (decide_eq_true h2) rfl) rfl (Lmv rfl rfl ?_))))
   refine L_splitD (p := (X[1].toNat : Int) = 116) (fun h3 => ?_) (fun h3 => ?_)
   ·refine L_yes rfl rfl rfl (decide_eq_true h3) ?_
    refine L_run (R_indexArr (i := 2) (r := 2) rfl rfl (by first | rfl | omega) arr50 (by omega) (by omega)) rfl ?_
    refine L_yes rfl rfl rfl (decide_eq_true h3) ?_
    have hl3 : 2 < X.length := by rw [hX]; omega
    refine L_run (R_load1 rfl scl5 (hb1.cell (fl_atB hl3))) rfl (L_yes rfl rfl rfl (decide_eq_true h3) (L_run (R_eql rfl rfl) rfl (L_run (R_pickT rfl (decide_eq_true h3) rfl) rfl (Lmv rfl rfl ?_))))
    refine L_splitD (p := (X[2].toNat : Int) = 114) (fun h4 => ?_) (fun h4 => ?_)
    ·refine L_yes rfl rfl rfl (decide_eq_true h4) ?_
     refine L_run (R_indexArr (i := 3) (r := 3) rfl rfl (by first | rfl | omega) arr50 (by omega) (by omega)) rfl ?_
     refine L_yes rfl rfl rfl (decide_eq_true h4) ?_
     have hl4 : 3 < X.length := by rw [hX]; omega
     refine L_run (R_load1 rfl scl5 (hb1.cell (fl_atB hl4))) rfl (L_yes rfl rfl rfl (decide_eq_true h4) (L_run (R_eql rfl rfl) rfl (L_run (R_pickT rfl (decide_eq_true h4) rfl) rfl (Lmv rfl rfl ?_))))
     refine L_splitD (p := (X[3].toNat : Int) = 100) (fun h5 => ?_) (fun h5 => ?_)
     ·refine L_yes rfl rfl rfl (decide_eq_true h5) ?_
      refine L_run (R_indexArr (i := 4) (r := 4) rfl rfl (by first | rfl | omega) arr50 (by omega) (by omega)) rfl ?_
      refine L_yes rfl rfl rfl (decide_eq_true h5) ?_
      have hl5 : 4 < X.length := by rw [hX]; omega
      refine L_run (R_load1 rfl scl5 (hb1.cell (fl_atB hl5))) rfl (L_yes rfl rfl rfl (decide_eq_true h5) (L_run (R_eql rfl rfl) rfl (L_run (R_pickT rfl (decide_eq_true h5) rfl) rfl (Las rfl rfl (L_nil (N_then (C_seq (C_seq (C_reg rfl (Las rfl rfl (L_nil (N_then (C_block ?_)))))))))))))
      refine C_loop (fun m_ a_ w_ => ∃ (σ_ : Nat → Value) (i : Nat), a_ = Ac 87 σ_ [] [(1, .pointer (some ⟨g1, 0, none⟩)), (2, .pointer (some ⟨g2, 0, none⟩)), (3, .int .i64 0), (4, .bool (decide (PA X i))), (5, .int .i64 (i : Int))] ∧ w.grownBy w_ none ∧ Blk w_ g1 50 (fl encB X) ∧ Blk w_ g2 33 [.int .u64 0, .int .i64 0, .int .i64 0, .int .i64 0, .int .i64 0, .int .i64 0, .int .i64 0] ∧ (41 ≤ i ∧ i ≤ 64) ∧ 64 - i = m_) (64 - 41) ?_ ?_
      ·exact ⟨_, 41, Ac_frg ⟨rfl, rfl, rfl, (agr rfl (by exact bD (Iff.trans (by rw [hdx_0 hX (by omega)]; exact (show ((X[4].toNat : Int) = 1) ↔ X[4] = 1 from bz (c := 1))) PA_0.symm))), (agx rfl), trivial⟩, hB, hb1, hb2, (by omega), rfl⟩
      ·clear hB
       clear hb1 hb2
       rintro m_ a_ w4 ⟨σ_, i, rfl, hB, hb1, hb2, hi, rfl⟩
       refine C_seq (C_seq (C_reg rfl ?_))
       refine Lmv rfl rfl (L_run (R_lss rfl rfl) rfl (L_nil (N_then (C_if rfl (fun h6 => ?_) (fun h6 => ?_)))))
       ·refine C_skip (N_then (C_seq (C_block (C_reg rfl ?_))))
        refine Lmv rfl rfl (Lmv rfl rfl ?_)
        refine L_splitD (p := PA X i) (fun h7 => ?_) (fun h7 => ?_)
        ·refine L_yes rfl rfl rfl (decide_eq_true h7) (Lmv rfl rfl (L_yes rfl rfl rfl (decide_eq_true h7) ?_))
         refine L_run (R_indexArr (i := i) (r := i) rfl rfl (by first | rfl | omega) arr50 (by omega) (by omega)) rfl ?_
         refine L_yes rfl rfl rfl (decide_eq_true h7) ?_
         have hl6 : i < X.length := by rw [hX]; omega
         refine L_run (R_load1 rfl scl5 (hb1.cell (fl_atB hl6))) rfl (L_yes rfl rfl rfl (decide_eq_true h7) (L_run (R_eql rfl rfl) rfl (L_run (R_pickT rfl (decide_eq_true h7) rfl) rfl (Las rfl rfl ?_))))
         refine L_nil (N_in (N_then (C_reg rfl ?_)))
         refine Lmv rfl rfl ?_
         refine L_run (R_add64 rfl rfl (by omega)) rfl ?_
         refine Las rfl rfl (L_nil (N_then ?_))
         exact ⟨64 - (i + 1), by omega, _, (i + 1), Ac_frg ⟨rfl, rfl, rfl, (agr rfl (by exact bD (Iff.trans (show ((X[i].toNat : Int) = 0) ↔ X.getD i 0 = 0 by rw [hdx_0 hX (by omega)]; exact bz (c := 0)) (Iff.trans ⟨fun h_ => ⟨h7, h_⟩, And.right⟩ (PA_s (by omega)).symm)))), (agx rfl), trivial⟩, hB, hb1, hb2, (by omega), rfl⟩
        ·refine L_no rfl rfl rfl (decide_eq_false h7) rfl (L_no rfl rfl rfl (decide_eq_false h7) rfl (L_no rfl rfl rfl (decide_eq_false h7) rfl (L_no rfl rfl rfl (decide_eq_false h7) rfl (L_run (R_pickF rfl (decide_eq_false h7) rfl) rfl (Las rfl rfl ?_)))))
         refine L_nil (N_in (N_then (C_reg rfl ?_)))
         refine Lmv rfl rfl ?_
         refine L_run (R_add64 rfl rfl (by omega)) rfl ?_
         refine Las rfl rfl (L_nil (N_then ?_))
         exact ⟨64 - (i + 1), by omega, _, (i + 1), Ac_frg ⟨rfl, rfl, rfl, (agr rfl (by exact bF (fun h_ => h7 ((PA_s (by omega)).1 h_).1))), (agx rfl), trivial⟩, hB, hb1, hb2, (by omega), rfl⟩
       ·refine C_exit (X_then (X_then (X_hit (N_then (C_seq (C_seq (C_reg rfl ?_)))))))
        obtain rfl : i = 64 := by omega
        refine Lmv rfl rfl (L_run (R_notD rfl) rfl (L_nil (N_then (C_ifN rfl (fun h8 => ?_) (fun h8 => ?_)))))
        ·refine C_seq (C_reg rfl ?_)
         refine L_run (R_build (pv := []) (cs := [.int .u64 0, .int .i64 0, .int .i64 0, .int .i64 0, .int .i64 0, .int .i64 0, .int .i64 0]) rfl (by kernel_rfl)) rfl ?_
         refine L_stA (vs := [.int .u64 0, .int .i64 0, .int .i64 0, .int .i64 0, .int .i64 0, .int .i64 0, .int .i64 0]) rfl rfl rfl sz33 rfl hb2 rfl ?_
         intro w5 hb4 hs4 hz4
         replace hB := gb_trg hB hs4 ge2
         refine Las rfl rfl (L_nil (N_then (C_ret (R_then ?_))))
         refine retC1 (vs := [.int .u64 0, .int .i64 0, .int .i64 0, .int .i64 0, .int .i64 0, .int .i64 0, .int .i64 0]) Tryd.results18 rfl agg33 (At.pre (hb4.at_ 0) rfl) rfl rfl ?_
         have hk37_ := hk4a (X := X) (a := 37) (b := 41) rfl
         have hf_ : hdecN X = 2 := hdx_form h1 (fun h_ => h8 ((hform_iff hX).1 h_).2)
         exact ⟨hB, .inr ⟨by rw [hf_]; decide, by rw [hf_]⟩⟩
        ·refine C_skip (N_then (C_seq (C_seq ?_)))
         refine C_draw2 rfl mix ?_
         intro w6 hs5 hz5
         replace hB := gb_tr hB hs5; replace hb1 := hb1.gb hs5; replace hb2 := hb2.gb hs5
         refine ⟨fun W_ => True, [0, 2, 5, 6], ?_⟩
         refine T_tk (i := 0) rfl (Y_of (fun _ _ => R_slArrB (bs := X) (i := 37) (j := 41) arr50 rfl hX (by omega) (by omega) (by omega) ⟨_, rfl⟩ ⟨_, rfl⟩)) trivial rfl ?_
         refine T_tk (i := 2) rfl (Y_of (fun _ _ => R_slArrB (bs := X) (i := 0) (j := 37) arr50 rfl hX (by omega) (by omega) (by omega) rfl ⟨_, rfl⟩)) trivial rfl ?_
         refine T_all (rs := [1]) (by kernel_rfl) rfl (all1 (O_one rfl ?_))
         refine L_call rfl cb35 (ref1_get (bs := (X.drop 37).take (41 - 37)) (Blk.cutB (i := 37) (j := 41) hb1 (by omega) (by rw [hX]; omega) (by rw [hX]; omega)) (by simp only [List.length_take, List.length_drop]; omega)) rfl ?_
         rintro _ w7 ⟨hs6, rfl⟩
         replace hB := gb_tr hB hs6; replace hb1 := hb1.gb hs6; replace hb2 := hb2.gb hs6
         refine L_nil (N_then ⟨fun hN_ => trivial, ?_⟩)
         refine T_all (rs := [3]) (by kernel_rfl) rfl (all1 (O_one rfl ?_))
         refine L_call rfl cb37 (of3 (bs := (X.drop 0).take (37 - 0)) (Blk.cutB (i := 0) (j := 37) hb1 (by omega) (by rw [hX]; omega) (by rw [hX]; omega)) (by simp only [List.length_take, List.length_drop]; omega)) rfl ?_
         rintro _ w8 ⟨hs7, rfl⟩
         replace hB := gb_tr hB hs7; replace hb1 := hb1.gb hs7; replace hb2 := hb2.gb hs7
         refine L_nil (N_then ⟨fun hN_ => trivial, ?_⟩)
         refine T_all (rs := [4]) (by kernel_rfl) rfl (all1 (O_one rfl ?_))
         refine L_call rfl cb36 (mask3 (s := (moreN 0 ((X.drop 0).take (37 - 0)))) (moreN_lt _ _ (by decide))) rfl ?_
         rintro _ w9 ⟨hs8, rfl⟩
         replace hB := gb_tr hB hs8; replace hb1 := hb1.gb hs8; replace hb2 := hb2.gb hs8
         refine L_nil (N_then ⟨fun hN_ => trivial, ?_⟩)
         refine T_tk (i := 5) rfl (Y_of (fun _ _ => R_eqv (R_conv rfl any75 int30) (v' := .int .u64 ((maskN (moreN 0 (X.take 37)) : Nat) : Int)) (congrArg (Value.int .u64) (w64n (by unfold maskN; omega))))) trivial rfl ?_
         refine T_tk (i := 6) rfl (Y_of (fun _ _ => R_neq rfl rfl)) trivial rfl ?_
         refine T_done (by kernel_rfl) (CalmE.normal ?_)
         refine N_then ?_
         refine C_if rfl (fun h9 => ?_) (fun h9 => ?_)
         ·refine C_seq (C_reg rfl ?_)
          refine L_run (R_build (pv := []) (cs := [.int .u64 0, .int .i64 0, .int .i64 0, .int .i64 0, .int .i64 0, .int .i64 0, .int .i64 0]) rfl (by kernel_rfl)) rfl ?_
          refine L_stA (vs := [.int .u64 0, .int .i64 0, .int .i64 0, .int .i64 0, .int .i64 0, .int .i64 0, .int .i64 0]) rfl rfl rfl sz33 rfl hb2 rfl ?_
          intro w10 hb5 hs9 hz6
          replace hB := gb_trg hB hs9 ge2
          refine Las rfl rfl (L_nil (N_then (C_ret (R_then ?_))))
          refine retC1 (vs := [.int .u64 0, .int .i64 0, .int .i64 0, .int .i64 0, .int .i64 0, .int .i64 0, .int .i64 0]) Tryd.results18 rfl agg33 (At.pre (hb5.at_ 0) rfl) rfl rfl ?_
          have hk37_ := hk4a (X := X) (a := 37) (b := 41) rfl
          have hf_ : hdecN X = 3 := hdx_sum h1 ((hform_iff hX).2 ⟨⟨(by rw [hdx_0 hX (by omega)]; exact UInt8.toNat_inj.1 (by have h_ := h2; simp; omega)), (by rw [hdx_0 hX (by omega)]; exact UInt8.toNat_inj.1 (by have h_ := h3; simp; omega)), (by rw [hdx_0 hX (by omega)]; exact UInt8.toNat_inj.1 (by have h_ := h4; simp; omega)), (by rw [hdx_0 hX (by omega)]; exact UInt8.toNat_inj.1 (by have h_ := h5; simp; omega))⟩, h8⟩) (by omega)
          exact ⟨hB, .inr ⟨by rw [hf_]; decide, by rw [hf_]⟩⟩
         ·refine C_skip (N_then (C_seq ?_))
          refine C_join (fun a_ w_ => (∃ (σ_ : Nat → Value) (g3 : Nat), a_ = Ac 87 σ_ [] [(1, .pointer (some ⟨g1, 0, none⟩)), (2, .pointer (some ⟨g2, 0, none⟩)), (3, .int .i64 0), (4, .bool (decide (PA X 64))), (5, .int .i64 ((64 : Nat) : Int)), (6, .pointer (some ⟨g3, 0, none⟩)), (47, .bool (decide (¬ (PA X 64)))), (55, .bool (decide (((getN (((X.drop 37).take (41 - 37)).take 8) : Nat) : Int) ≠ ((maskN (moreN 0 (X.take 37)) : Nat) : Int))))] ∧ w.grownBy w_ none ∧ Blk w_ g1 50 (fl encB X) ∧ Blk w_ g2 33 [.int .u64 0, .int .i64 0, .int .i64 0, .int .i64 0, .int .i64 0, .int .i64 0, .int .i64 0] ∧ Blk w_ g3 33 [.int .u64 ((getN (((X.drop 5).take (13 - 5)).take 8) : Nat) : Int), .int .i64 ((getN ((X.drop 13).take 4) : Nat) : Int), .int .i64 ((getN ((X.drop 17).take 4) : Nat) : Int), .int .i64 0, .int .i64 0, .int .i64 0, .int .i64 0] ∧ w.heap.size ≤ g3 ∧ g1 < g3 ∧ g2 < g3)) ?_ ?_
          ·refine C_draw2 rfl mix ?_
           intro w11 hs10 hz7
           replace hB := gb_tr hB hs10; replace hb1 := hb1.gb hs10; replace hb2 := hb2.gb hs10
           refine ⟨fun W_ => True, [0, 2, 4, 5, 7, 8], ?_⟩
           refine T_tk (i := 0) rfl (Y_of (fun _ _ => R_slArrB (bs := X) (i := 5) (j := 13) arr50 rfl hX (by omega) (by omega) (by omega) ⟨_, rfl⟩ ⟨_, rfl⟩)) trivial rfl ?_
           refine T_tk (i := 2) rfl (Y_of (fun _ _ => R_slArrB (bs := X) (i := 13) (j := 17) arr50 rfl hX (by omega) (by omega) (by omega) ⟨_, rfl⟩ ⟨_, rfl⟩)) trivial rfl ?_
           refine T_tk (i := 5) rfl (Y_of (fun _ _ => R_slArrB (bs := X) (i := 17) (j := 21) arr50 rfl hX (by omega) (by omega) (by omega) ⟨_, rfl⟩ ⟨_, rfl⟩)) trivial rfl ?_
           refine T_all (rs := [1, 9]) (by kernel_rfl) rfl (all2 (O_one rfl ?_) (O_one rfl ?_))
           ·refine L_call rfl cb35 (ref1_get (bs := (X.drop 5).take (13 - 5)) (Blk.cutB (i := 5) (j := 13) hb1 (by omega) (by rw [hX]; omega) (by rw [hX]; omega)) (by simp only [List.length_take, List.length_drop]; omega)) rfl ?_
            rintro _ w12 ⟨hs11, rfl⟩
            replace hB := gb_tr hB hs11; replace hb1 := hb1.gb hs11; replace hb2 := hb2.gb hs11
            refine L_nil (N_then ⟨fun hN_ => trivial, ?_⟩)
            refine T_all (rs := [3, 9]) (by kernel_rfl) rfl (all2 (O_one rfl ?_) (O_one rfl ?_))
            ·refine L_call rfl cb35 (ref1_get (bs := (X.drop 13).take (17 - 13)) (Blk.cutB (i := 13) (j := 17) hb1 (by omega) (by rw [hX]; omega) (by rw [hX]; omega)) (by simp only [List.length_take, List.length_drop]; omega)) rfl ?_
             rintro _ w13 ⟨hs12, rfl⟩
             replace hB := gb_tr hB hs12; replace hb1 := hb1.gb hs12; replace hb2 := hb2.gb hs12
             refine L_nil (N_then ⟨fun hN_ => trivial, ?_⟩)
             refine T_tk (i := 4) rfl (Y_of (fun _ _ => R_eqv (R_conv rfl any30 int3) (v' := .int .i64 ((getN ((X.drop 13).take 4) : Nat) : Int)) ((by rw [hk4a (X := X) (a := 13) (b := 17) (by omega)]; have h_ := hg4 (X := X) (a := 13); rw [IntKind.wrap_i64]; exact congrArg (Value.int .i64) (by omega))))) trivial rfl ?_
             refine T_all (rs := [6, 9]) (by kernel_rfl) rfl (all2 (O_one rfl ?_) (O_one rfl ?_))
             ·refine L_call rfl cb35 (ref1_get (bs := (X.drop 17).take (21 - 17)) (Blk.cutB (i := 17) (j := 21) hb1 (by omega) (by rw [hX]; omega) (by rw [hX]; omega)) (by simp only [List.length_take, List.length_drop]; omega)) rfl ?_
              rintro _ w14 ⟨hs13, rfl⟩
              replace hB := gb_tr hB hs13; replace hb1 := hb1.gb hs13; replace hb2 := hb2.gb hs13
              refine L_nil (N_then ⟨fun hN_ => trivial, ?_⟩)
              refine T_tk (i := 7) rfl (Y_of (fun _ _ => R_eqv (R_conv rfl any30 int3) (v' := .int .i64 ((getN ((X.drop 17).take 4) : Nat) : Int)) ((by rw [hk4a (X := X) (a := 17) (b := 21) (by omega)]; have h_ := hg4 (X := X) (a := 17); rw [IntKind.wrap_i64]; exact congrArg (Value.int .i64) (by omega))))) trivial rfl ?_
              refine T_tk (i := 8) rfl (Y_of (fun _ _ => R_build (pv := [(0, .int .u64 ((getN (((X.drop 5).take (13 - 5)).take 8) : Nat) : Int)), (1, .int .i64 ((getN ((X.drop 13).take 4) : Nat) : Int)), (2, .int .i64 ((getN ((X.drop 17).take 4) : Nat) : Int))]) (cs := [.int .u64 ((getN (((X.drop 5).take (13 - 5)).take 8) : Nat) : Int), .int .i64 ((getN ((X.drop 13).take 4) : Nat) : Int), .int .i64 ((getN ((X.drop 17).take 4) : Nat) : Int), .int .i64 0, .int .i64 0, .int .i64 0, .int .i64 0]) rfl (by kernel_rfl))) trivial rfl ?_
              refine T_all (rs := [9]) (by kernel_rfl) rfl (all1 (O_one rfl ?_))
              refine L_alloc (cs := [.int .u64 0, .int .i64 0, .int .i64 0, .int .i64 0, .int .i64 0, .int .i64 0, .int .i64 0]) zer33 rfl rfl ?_
              intro g3 w15 eg3 hb6 hs14 hz8
              have ge3 : w.heap.size ≤ g3 := eg_ge hB eg3
              have lt2 : g1 < g3 := lt_of_eg hb1.lt eg3
              have lt3 : g2 < g3 := lt_of_eg hb2.lt eg3
              replace hB := gb_tr hB hs14; replace hb1 := hb1.gb hs14; replace hb2 := hb2.gb hs14
              refine L_nil (N_then ⟨fun hN_ => trivial, ?_⟩)
              refine T_all (rs := [10]) (by kernel_rfl) rfl (all1 (O_one rfl ?_))
              refine L_stA (vs := [.int .u64 ((getN (((X.drop 5).take (13 - 5)).take 8) : Nat) : Int), .int .i64 ((getN ((X.drop 13).take 4) : Nat) : Int), .int .i64 ((getN ((X.drop 17).take 4) : Nat) : Int), .int .i64 0, .int .i64 0, .int .i64 0, .int .i64 0]) rfl rfl rfl sz33 rfl hb6 rfl ?_
              intro w16 hb7 hs15 hz9
              replace hB := gb_trg hB hs15 ge3; replace hb1 := hb1.grown hs15 (ne_lt lt2); replace hb2 := hb2.grown hs15 (ne_lt lt3)
              refine L_nil (N_then ⟨fun hN_ => trivial, ?_⟩)
              refine T_done (by kernel_rfl) (CalmE.normal ?_)
              exact ⟨rfl, ⟨_, g3, Ac_frg ⟨rfl, rfl, rfl, rfl, rfl, rfl, rfl, rfl, trivial⟩, hB, hb1, hb2, hb7, ge3, lt2, lt3⟩⟩
             ·refine L_alloc (cs := [.int .u64 0, .int .i64 0, .int .i64 0, .int .i64 0, .int .i64 0, .int .i64 0, .int .i64 0]) zer33 rfl rfl ?_
              intro g4 w17 eg4 hb8 hs16 hz10
              have ge4 : w.heap.size ≤ g4 := eg_ge hB eg4
              have lt4 : g1 < g4 := lt_of_eg hb1.lt eg4
              have lt5 : g2 < g4 := lt_of_eg hb2.lt eg4
              replace hB := gb_tr hB hs16; replace hb1 := hb1.gb hs16; replace hb2 := hb2.gb hs16
              refine L_nil (N_then ⟨fun hN_ => trivial, ?_⟩)
              refine T_all (rs := [6]) (by kernel_rfl) rfl (all1 (O_one rfl ?_))
              refine L_call rfl cb35 (ref1_get (bs := (X.drop 17).take (21 - 17)) (Blk.cutB (i := 17) (j := 21) hb1 (by omega) (by rw [hX]; omega) (by rw [hX]; omega)) (by simp only [List.length_take, List.length_drop]; omega)) rfl ?_
              rintro _ w18 ⟨hs17, rfl⟩
              replace hB := gb_tr hB hs17; replace hb1 := hb1.gb hs17; replace hb2 := hb2.gb hs17; replace hb8 := hb8.gb hs17
              refine L_nil (N_then ⟨fun hN_ => trivial, ?_⟩)
              refine T_tk (i := 7) rfl (Y_of (fun _ _ => R_eqv (R_conv rfl any30 int3) (v' := .int .i64 ((getN ((X.drop 17).take 4) : Nat) : Int)) ((by rw [hk4a (X := X) (a := 17) (b := 21) (by omega)]; have h_ := hg4 (X := X) (a := 17); rw [IntKind.wrap_i64]; exact congrArg (Value.int .i64) (by omega))))) trivial rfl ?_
              refine T_tk (i := 8) rfl (Y_of (fun _ _ => R_build (pv := [(0, .int .u64 ((getN (((X.drop 5).take (13 - 5)).take 8) : Nat) : Int)), (1, .int .i64 ((getN ((X.drop 13).take 4) : Nat) : Int)), (2, .int .i64 ((getN ((X.drop 17).take 4) : Nat) : Int))]) (cs := [.int .u64 ((getN (((X.drop 5).take (13 - 5)).take 8) : Nat) : Int), .int .i64 ((getN ((X.drop 13).take 4) : Nat) : Int), .int .i64 ((getN ((X.drop 17).take 4) : Nat) : Int), .int .i64 0, .int .i64 0, .int .i64 0, .int .i64 0]) rfl (by kernel_rfl))) trivial rfl ?_
              refine T_all (rs := [10]) (by kernel_rfl) rfl (all1 (O_one rfl ?_))
              refine L_stA (vs := [.int .u64 ((getN (((X.drop 5).take (13 - 5)).take 8) : Nat) : Int), .int .i64 ((getN ((X.drop 13).take 4) : Nat) : Int), .int .i64 ((getN ((X.drop 17).take 4) : Nat) : Int), .int .i64 0, .int .i64 0, .int .i64 0, .int .i64 0]) rfl rfl rfl sz33 rfl hb8 rfl ?_
              intro w19 hb9 hs18 hz11
              replace hB := gb_trg hB hs18 ge4; replace hb1 := hb1.grown hs18 (ne_lt lt4); replace hb2 := hb2.grown hs18 (ne_lt lt5)
              refine L_nil (N_then ⟨fun hN_ => trivial, ?_⟩)
              refine T_done (by kernel_rfl) (CalmE.normal ?_)
              exact ⟨rfl, ⟨_, g4, Ac_frg ⟨rfl, rfl, rfl, rfl, rfl, rfl, rfl, rfl, trivial⟩, hB, hb1, hb2, hb9, ge4, lt4, lt5⟩⟩
            ·refine L_alloc (cs := [.int .u64 0, .int .i64 0, .int .i64 0, .int .i64 0, .int .i64 0, .int .i64 0, .int .i64 0]) zer33 rfl rfl ?_
             intro g5 w20 eg5 hb10 hs19 hz12
             have ge5 : w.heap.size ≤ g5 := eg_ge hB eg5
             have lt6 : g1 < g5 := lt_of_eg hb1.lt eg5
             have lt7 : g2 < g5 := lt_of_eg hb2.lt eg5
             replace hB := gb_tr hB hs19; replace hb1 := hb1.gb hs19; replace hb2 := hb2.gb hs19
             refine L_nil (N_then ⟨fun hN_ => trivial, ?_⟩)
             refine T_all (rs := [3]) (by kernel_rfl) rfl (all1 (O_one rfl ?_))
             refine L_call rfl cb35 (ref1_get (bs := (X.drop 13).take (17 - 13)) (Blk.cutB (i := 13) (j := 17) hb1 (by omega) (by rw [hX]; omega) (by rw [hX]; omega)) (by simp only [List.length_take, List.length_drop]; omega)) rfl ?_
             rintro _ w21 ⟨hs20, rfl⟩
             replace hB := gb_tr hB hs20; replace hb1 := hb1.gb hs20; replace hb2 := hb2.gb hs20; replace hb10 := hb10.gb hs20
             refine L_nil (N_then ⟨fun hN_ => trivial, ?_⟩)
             refine T_tk (i := 4) rfl (Y_of (fun _ _ => R_eqv (R_conv rfl any30 int3) (v' := .int .i64 ((getN ((X.drop 13).take 4) : Nat) : Int)) ((by rw [hk4a (X := X) (a := 13) (b := 17) (by omega)]; have h_ := hg4 (X := X) (a := 13); rw [IntKind.wrap_i64]; exact congrArg (Value.int .i64) (by omega))))) trivial rfl ?_
             refine T_all (rs := [6]) (by kernel_rfl) rfl (all1 (O_one rfl ?_))
             refine L_call rfl cb35 (ref1_get (bs := (X.drop 17).take (21 - 17)) (Blk.cutB (i := 17) (j := 21) hb1 (by omega) (by rw [hX]; omega) (by rw [hX]; omega)) (by simp only [List.length_take, List.length_drop]; omega)) rfl ?_
             rintro _ w22 ⟨hs21, rfl⟩
             replace hB := gb_tr hB hs21; replace hb1 := hb1.gb hs21; replace hb2 := hb2.gb hs21; replace hb10 := hb10.gb hs21
             refine L_nil (N_then ⟨fun hN_ => trivial, ?_⟩)
             refine T_tk (i := 7) rfl (Y_of (fun _ _ => R_eqv (R_conv rfl any30 int3) (v' := .int .i64 ((getN ((X.drop 17).take 4) : Nat) : Int)) ((by rw [hk4a (X := X) (a := 17) (b := 21) (by omega)]; have h_ := hg4 (X := X) (a := 17); rw [IntKind.wrap_i64]; exact congrArg (Value.int .i64) (by omega))))) trivial rfl ?_
             refine T_tk (i := 8) rfl (Y_of (fun _ _ => R_build (pv := [(0, .int .u64 ((getN (((X.drop 5).take (13 - 5)).take 8) : Nat) : Int)), (1, .int .i64 ((getN ((X.drop 13).take 4) : Nat) : Int)), (2, .int .i64 ((getN ((X.drop 17).take 4) : Nat) : Int))]) (cs := [.int .u64 ((getN (((X.drop 5).take (13 - 5)).take 8) : Nat) : Int), .int .i64 ((getN ((X.drop 13).take 4) : Nat) : Int), .int .i64 ((getN ((X.drop 17).take 4) : Nat) : Int), .int .i64 0, .int .i64 0, .int .i64 0, .int .i64 0]) rfl (by kernel_rfl))) trivial rfl ?_
             refine T_all (rs := [10]) (by kernel_rfl) rfl (all1 (O_one rfl ?_))
             refine L_stA (vs := [.int .u64 ((getN (((X.drop 5).take (13 - 5)).take 8) : Nat) : Int), .int .i64 ((getN ((X.drop 13).take 4) : Nat) : Int), .int .i64 ((getN ((X.drop 17).take 4) : Nat) : Int), .int .i64 0, .int .i64 0, .int .i64 0, .int .i64 0]) rfl rfl rfl sz33 rfl hb10 rfl ?_
             intro w23 hb11 hs22 hz13
             replace hB := gb_trg hB hs22 ge5; replace hb1 := hb1.grown hs22 (ne_lt lt6); replace hb2 := hb2.grown hs22 (ne_lt lt7)
             refine L_nil (N_then ⟨fun hN_ => trivial, ?_⟩)
             refine T_done (by kernel_rfl) (CalmE.normal ?_)
             exact ⟨rfl, ⟨_, g5, Ac_frg ⟨rfl, rfl, rfl, rfl, rfl, rfl, rfl, rfl, trivial⟩, hB, hb1, hb2, hb11, ge5, lt6, lt7⟩⟩
           ·refine L_alloc (cs := [.int .u64 0, .int .i64 0, .int .i64 0, .int .i64 0, .int .i64 0, .int .i64 0, .int .i64 0]) zer33 rfl rfl ?_
            intro g6 w24 eg6 hb12 hs23 hz14
            have ge6 : w.heap.size ≤ g6 := eg_ge hB eg6
            have lt8 : g1 < g6 := lt_of_eg hb1.lt eg6
            have lt9 : g2 < g6 := lt_of_eg hb2.lt eg6
            replace hB := gb_tr hB hs23; replace hb1 := hb1.gb hs23; replace hb2 := hb2.gb hs23
            refine L_nil (N_then ⟨fun hN_ => trivial, ?_⟩)
            refine T_all (rs := [1]) (by kernel_rfl) rfl (all1 (O_one rfl ?_))
            refine L_call rfl cb35 (ref1_get (bs := (X.drop 5).take (13 - 5)) (Blk.cutB (i := 5) (j := 13) hb1 (by omega) (by rw [hX]; omega) (by rw [hX]; omega)) (by simp only [List.length_take, List.length_drop]; omega)) rfl ?_
            rintro _ w25 ⟨hs24, rfl⟩
            replace hB := gb_tr hB hs24; replace hb1 := hb1.gb hs24; replace hb2 := hb2.gb hs24; replace hb12 := hb12.gb hs24
            refine L_nil (N_then ⟨fun hN_ => trivial, ?_⟩)
            refine T_all (rs := [3]) (by kernel_rfl) rfl (all1 (O_one rfl ?_))
            refine L_call rfl cb35 (ref1_get (bs := (X.drop 13).take (17 - 13)) (Blk.cutB (i := 13) (j := 17) hb1 (by omega) (by rw [hX]; omega) (by rw [hX]; omega)) (by simp only [List.length_take, List.length_drop]; omega)) rfl ?_
            rintro _ w26 ⟨hs25, rfl⟩
            replace hB := gb_tr hB hs25; replace hb1 := hb1.gb hs25; replace hb2 := hb2.gb hs25; replace hb12 := hb12.gb hs25
            refine L_nil (N_then ⟨fun hN_ => trivial, ?_⟩)
            refine T_tk (i := 4) rfl (Y_of (fun _ _ => R_eqv (R_conv rfl any30 int3) (v' := .int .i64 ((getN ((X.drop 13).take 4) : Nat) : Int)) ((by rw [hk4a (X := X) (a := 13) (b := 17) (by omega)]; have h_ := hg4 (X := X) (a := 13); rw [IntKind.wrap_i64]; exact congrArg (Value.int .i64) (by omega))))) trivial rfl ?_
            refine T_all (rs := [6]) (by kernel_rfl) rfl (all1 (O_one rfl ?_))
            refine L_call rfl cb35 (ref1_get (bs := (X.drop 17).take (21 - 17)) (Blk.cutB (i := 17) (j := 21) hb1 (by omega) (by rw [hX]; omega) (by rw [hX]; omega)) (by simp only [List.length_take, List.length_drop]; omega)) rfl ?_
            rintro _ w27 ⟨hs26, rfl⟩
            replace hB := gb_tr hB hs26; replace hb1 := hb1.gb hs26; replace hb2 := hb2.gb hs26; replace hb12 := hb12.gb hs26
            refine L_nil (N_then ⟨fun hN_ => trivial, ?_⟩)
            refine T_tk (i := 7) rfl (Y_of (fun _ _ => R_eqv (R_conv rfl any30 int3) (v' := .int .i64 ((getN ((X.drop 17).take 4) : Nat) : Int)) ((by rw [hk4a (X := X) (a := 17) (b := 21) (by omega)]; have h_ := hg4 (X := X) (a := 17); rw [IntKind.wrap_i64]; exact congrArg (Value.int .i64) (by omega))))) trivial rfl ?_
            refine T_tk (i := 8) rfl (Y_of (fun _ _ => R_build (pv := [(0, .int .u64 ((getN (((X.drop 5).take (13 - 5)).take 8) : Nat) : Int)), (1, .int .i64 ((getN ((X.drop 13).take 4) : Nat) : Int)), (2, .int .i64 ((getN ((X.drop 17).take 4) : Nat) : Int))]) (cs := [.int .u64 ((getN (((X.drop 5).take (13 - 5)).take 8) : Nat) : Int), .int .i64 ((getN ((X.drop 13).take 4) : Nat) : Int), .int .i64 ((getN ((X.drop 17).take 4) : Nat) : Int), .int .i64 0, .int .i64 0, .int .i64 0, .int .i64 0]) rfl (by kernel_rfl))) trivial rfl ?_
            refine T_all (rs := [10]) (by kernel_rfl) rfl (all1 (O_one rfl ?_))
            refine L_stA (vs := [.int .u64 ((getN (((X.drop 5).take (13 - 5)).take 8) : Nat) : Int), .int .i64 ((getN ((X.drop 13).take 4) : Nat) : Int), .int .i64 ((getN ((X.drop 17).take 4) : Nat) : Int), .int .i64 0, .int .i64 0, .int .i64 0, .int .i64 0]) rfl rfl rfl sz33 rfl hb12 rfl ?_
            intro w28 hb13 hs27 hz15
            replace hB := gb_trg hB hs27 ge6; replace hb1 := hb1.grown hs27 (ne_lt lt8); replace hb2 := hb2.grown hs27 (ne_lt lt9)
            refine L_nil (N_then ⟨fun hN_ => trivial, ?_⟩)
            refine T_done (by kernel_rfl) (CalmE.normal ?_)
            exact ⟨rfl, ⟨_, g6, Ac_frg ⟨rfl, rfl, rfl, rfl, rfl, rfl, rfl, rfl, trivial⟩, hB, hb1, hb2, hb13, ge6, lt8, lt9⟩⟩
          ·clear hB
           clear hb1 hb2
           rintro a_ w29 ⟨σ_, g3, rfl, hB, hb1, hb2, hj1, ge7, lt10, lt11⟩
           refine N_then (C_seq (C_seq (C_reg rfl ?_)))
           refine Las rfl rfl (L_nil (N_then (C_block ?_)))
           have hbs_ : Blk w29 g3 33 [.int .u64 ((hEp X : Nat) : Int), .int .i64 (hSeq X), .int .i64 (hFst X), .int .i64 ((hhA X 0) 0), .int .i64 ((hhA X 0) 1), .int .i64 ((hhA X 0) 2), .int .i64 ((hhA X 0) 3)] := by have q_ := hj1; rw [hk8a (a := 5) (b := 13) rfl] at q_; exact q_
           refine C_loop (fun m_ a_ w_ => ∃ (σ_ : Nat → Value) (q : Nat), a_ = Ac 87 σ_ [] [(1, .pointer (some ⟨g1, 0, none⟩)), (2, .pointer (some ⟨g2, 0, none⟩)), (3, .int .i64 0), (6, .pointer (some ⟨g3, 0, none⟩)), (7, .int .i64 (q : Int))] ∧ w.grownBy w_ none ∧ Blk w_ g1 50 (fl encB X) ∧ Blk w_ g2 33 [.int .u64 0, .int .i64 0, .int .i64 0, .int .i64 0, .int .i64 0, .int .i64 0, .int .i64 0] ∧ Blk w_ g3 33 [.int .u64 ((hEp X : Nat) : Int), .int .i64 (hSeq X), .int .i64 (hFst X), .int .i64 ((hhA X q) 0), .int .i64 ((hhA X q) 1), .int .i64 ((hhA X q) 2), .int .i64 ((hhA X q) 3)] ∧ (q ≤ 4) ∧ 4 - q = m_) (4 - 0) ?_ ?_
           ·exact ⟨_, 0, Ac_frg ⟨rfl, rfl, rfl, rfl, (agx rfl), trivial⟩, hB, hb1, hb2, hbs_, (by omega), rfl⟩
           ·clear hB
            clear hb1 hb2 hj1
            rintro m_ a_ w30 ⟨σ_, q, rfl, hB, hb1, hb2, hbh, hq, rfl⟩
            refine C_seq (C_seq (C_reg rfl ?_))
            refine Lmv rfl rfl (L_run (R_lss rfl rfl) rfl (L_nil (N_then (C_if rfl (fun h10 => ?_) (fun h10 => ?_)))))
            ·refine C_skip (N_then (C_seq (C_block (C_reg rfl ?_))))
             refine Lmv rfl rfl (Lmv rfl rfl ?_)
             refine L_run (R_mul64 rfl rfl (by omega)) rfl ?_
             refine L_run (R_eqv (R_add64 rfl rfl (by omega)) (v' := .int .i64 ((21 + 4 * q : Nat) : Int)) (congrArg _ (by omega))) rfl ?_
             refine Lmv rfl rfl ?_
             refine L_run (R_mul64 rfl rfl (by omega)) rfl ?_
             refine L_run (R_eqv (R_add64 rfl rfl (by omega)) (v' := .int .i64 ((25 + 4 * q : Nat) : Int)) (congrArg _ (by omega))) rfl ?_
             refine L_run (R_slArrB (bs := X) (i := (21 + 4 * q)) (j := (25 + 4 * q)) arr50 rfl hX (by omega) (by omega) (by omega) ⟨_, rfl⟩ ⟨_, rfl⟩) rfl ?_
             refine L_call rfl cb35 (ref1_get (bs := (X.drop (21 + 4 * q)).take ((25 + 4 * q) - (21 + 4 * q))) (Blk.cutB (i := (21 + 4 * q)) (j := (25 + 4 * q)) hb1 (by omega) (by rw [hX]; omega) (by rw [hX]; omega)) (by simp only [List.length_take, List.length_drop]; omega)) rfl ?_
             rintro _ w31 ⟨hs28, rfl⟩
             replace hB := gb_tr hB hs28; replace hb1 := hb1.gb hs28; replace hb2 := hb2.gb hs28; replace hbh := hbh.gb hs28
             refine L_run (R_eqv (R_conv rfl any30 int3) (v' := .int .i64 ((getN ((X.drop (21 + 4 * q)).take 4) : Nat) : Int)) ((by rw [hk4a (X := X) (a := (21 + 4 * q)) (b := (25 + 4 * q)) (by omega)]; have h_ := hg4 (X := X) (a := (21 + 4 * q)); rw [IntKind.wrap_i64]; exact congrArg (Value.int .i64) (by omega)))) rfl ?_
             refine L_run (R_field (r := 3) rfl fld33_3 rfl) rfl ?_
             have hl7 : q < 4 := by omega
             refine L_run (R_indexArr (sz := 1) (o := 3) (a := (q : Int)) (i := q) (r := (3 + q)) rfl rfl (by first | rfl | omega) arr31 hl7 (by first | omega | rfl | simp)) rfl ?_
             refine L_st1v rfl rfl rfl sz3 hbh (by show 3 + q < 7; omega) ?_
             intro w32 hb14 hs29 hz16
             replace hb14 : Blk w32 g3 33 [.int .u64 ((hEp X : Nat) : Int), .int .i64 (hSeq X), .int .i64 (hFst X), .int .i64 ((upd (hhA X q) q ((getN ((X.drop (21 + 4 * q)).take 4) : Nat) : Int)) 0), .int .i64 ((upd (hhA X q) q ((getN ((X.drop (21 + 4 * q)).take 4) : Nat) : Int)) 1), .int .i64 ((upd (hhA X q) q ((getN ((X.drop (21 + 4 * q)).take 4) : Nat) : Int)) 2), .int .i64 ((upd (hhA X q) q ((getN ((X.drop (21 + 4 * q)).take 4) : Nat) : Int)) 3)] := Blk.cast (four_set (pre := [.int .u64 ((hEp X : Nat) : Int), .int .i64 (hSeq X), .int .i64 (hFst X)]) (post := []) (f := (hhA X q)) (k := .i64) hl7) hb14
             replace hB := gb_trg hB hs29 ge7; replace hb1 := hb1.grown hs29 (ne_lt lt10); replace hb2 := hb2.grown hs29 (ne_lt lt11)
             refine L_nil (N_in (N_then (C_reg rfl ?_)))
             refine Lmv rfl rfl ?_
             refine L_run (R_add64 rfl rfl (by omega)) rfl ?_
             refine Las rfl rfl (L_nil (N_then ?_))
             rw [hhA_step] at hb14
             exact ⟨4 - (q + 1), by omega, _, (q + 1), Ac_frg ⟨rfl, rfl, rfl, rfl, (agx rfl), trivial⟩, hB, hb1, hb2, hb14, (by omega), rfl⟩
            ·refine C_exit (X_then (X_then (X_hit (N_then (C_seq (C_seq (C_reg rfl ?_)))))))
             obtain rfl : q = 4 := by omega
             replace hbh : Blk w30 g3 33 [.int .u64 ((hEp X : Nat) : Int), .int .i64 (hSeq X), .int .i64 (hFst X), .int .i64 (hHs X 0), .int .i64 (hHs X 1), .int .i64 (hHs X 2), .int .i64 (hHs X 3)] := hbh
             refine L_run (R_loadA (vs := [.int .u64 ((hEp X : Nat) : Int), .int .i64 (hSeq X), .int .i64 (hFst X), .int .i64 (hHs X 0), .int .i64 (hHs X 1), .int .i64 (hHs X 2), .int .i64 (hHs X 3)]) rfl agg33 (At.pre (hbh.at_ 0) rfl) rfl) rfl ?_
             refine L_call rfl cb38 (ref18_Right (ep := ((hEp X : Nat) : Int)) (seq := (hSeq X)) (first := (hFst X)) (hs := hHs X) (by omega)) rfl ?_
             rintro _ w33 ⟨hs30, rfl⟩
             replace hB := gb_tr hB hs30; replace hb2 := hb2.gb hs30; replace hbh := hbh.gb hs30
             refine L_run (R_notD rfl) rfl ?_
             refine L_nil (N_then (C_ifN rfl (fun h11 => ?_) (fun h11 => ?_)))
             ·refine C_seq (C_reg rfl ?_)
              refine L_run (R_build (pv := []) (cs := [.int .u64 0, .int .i64 0, .int .i64 0, .int .i64 0, .int .i64 0, .int .i64 0, .int .i64 0]) rfl (by kernel_rfl)) rfl ?_
              refine L_stA (vs := [.int .u64 0, .int .i64 0, .int .i64 0, .int .i64 0, .int .i64 0, .int .i64 0, .int .i64 0]) rfl rfl rfl sz33 rfl hb2 rfl ?_
              intro w34 hb15 hs31 hz17
              replace hB := gb_trg hB hs31 ge2
              refine Las rfl rfl (L_nil (N_then (C_ret (R_then ?_))))
              refine retC1 (vs := [.int .u64 0, .int .i64 0, .int .i64 0, .int .i64 0, .int .i64 0, .int .i64 0, .int .i64 0]) Tryd.results18 rfl agg33 (At.pre (hb15.at_ 0) rfl) rfl rfl ?_
              have hk37_ := hk4a (X := X) (a := 37) (b := 41) rfl
              have hf_ : hdecN X = 2 := hdx_bad h1 ((hform_iff hX).2 ⟨⟨(by rw [hdx_0 hX (by omega)]; exact UInt8.toNat_inj.1 (by have h_ := h2; simp; omega)), (by rw [hdx_0 hX (by omega)]; exact UInt8.toNat_inj.1 (by have h_ := h3; simp; omega)), (by rw [hdx_0 hX (by omega)]; exact UInt8.toNat_inj.1 (by have h_ := h4; simp; omega)), (by rw [hdx_0 hX (by omega)]; exact UInt8.toNat_inj.1 (by have h_ := h5; simp; omega))⟩, h8⟩) (by omega) (by assumption)
              exact ⟨hB, .inr ⟨by rw [hf_]; decide, by rw [hf_]⟩⟩
             ·refine C_skip (N_then (C_seq (C_reg rfl ?_)))
              refine L_run (R_loadA (vs := [.int .u64 ((hEp X : Nat) : Int), .int .i64 (hSeq X), .int .i64 (hFst X), .int .i64 (hHs X 0), .int .i64 (hHs X 1), .int .i64 (hHs X 2), .int .i64 (hHs X 3)]) rfl agg33 (At.pre (hbh.at_ 0) rfl) rfl) rfl ?_
              refine L_stA (vs := [.int .u64 ((hEp X : Nat) : Int), .int .i64 (hSeq X), .int .i64 (hFst X), .int .i64 (hHs X 0), .int .i64 (hHs X 1), .int .i64 (hHs X 2), .int .i64 (hHs X 3)]) rfl rfl rfl sz33 rfl hb2 rfl ?_
              intro w35 hb16 hs32 hz18
              replace hB := gb_trg hB hs32 ge2
              refine Las rfl rfl (L_nil (N_then (C_ret ?_)))
              refine retC1 (vs := [.int .u64 ((hEp X : Nat) : Int), .int .i64 (hSeq X), .int .i64 (hFst X), .int .i64 (hHs X 0), .int .i64 (hHs X 1), .int .i64 (hHs X 2), .int .i64 (hHs X 3)]) Tryd.results18 rfl agg33 (At.pre (hb16.at_ 0) rfl) rfl rfl ?_
              have hk37_ := hk4a (X := X) (a := 37) (b := 41) rfl
              have hf_ : hdecN X = 0 := hdx_ok h1 ((hform_iff hX).2 ⟨⟨(by rw [hdx_0 hX (by omega)]; exact UInt8.toNat_inj.1 (by have h_ := h2; simp; omega)), (by rw [hdx_0 hX (by omega)]; exact UInt8.toNat_inj.1 (by have h_ := h3; simp; omega)), (by rw [hdx_0 hX (by omega)]; exact UInt8.toNat_inj.1 (by have h_ := h4; simp; omega)), (by rw [hdx_0 hX (by omega)]; exact UInt8.toNat_inj.1 (by have h_ := h5; simp; omega))⟩, h8⟩) (by omega) (by assumption)
              exact ⟨hB, .inl ⟨hf_, rfl⟩⟩
     ·refine L_no rfl rfl rfl (decide_eq_false h5) rfl (L_no rfl rfl rfl (decide_eq_false h5) rfl (L_no rfl rfl rfl (decide_eq_false h5) rfl (L_run (R_pickF rfl (decide_eq_false h5) rfl) rfl (Las rfl rfl (L_nil (N_then (C_seq (C_seq (C_reg rfl (Las rfl rfl (L_nil (N_then (C_block ?_)))))))))))))
      refine C_loop (fun m_ a_ w_ => ∃ (σ_ : Nat → Value) (i : Nat), a_ = Ac 87 σ_ [] [(1, .pointer (some ⟨g1, 0, none⟩)), (2, .pointer (some ⟨g2, 0, none⟩)), (3, .int .i64 0), (4, .bool false), (5, .int .i64 (i : Int))] ∧ w.grownBy w_ none ∧ Blk w_ g1 50 (fl encB X) ∧ Blk w_ g2 33 [.int .u64 0, .int .i64 0, .int .i64 0, .int .i64 0, .int .i64 0, .int .i64 0, .int .i64 0] ∧ (41 ≤ i ∧ i ≤ 64) ∧ 64 - i = m_) (64 - 41) ?_ ?_
      ·exact ⟨_, 41, Ac_frg ⟨rfl, rfl, rfl, rfl, (agx rfl), trivial⟩, hB, hb1, hb2, (by omega), rfl⟩
      ·clear hB
       clear hb1 hb2
       rintro m_ a_ w36 ⟨σ_, i, rfl, hB, hb1, hb2, hi, rfl⟩
       refine C_seq (C_seq (C_reg rfl ?_))
       refine Lmv rfl rfl (L_run (R_lss rfl rfl) rfl (L_nil (N_then (C_if rfl (fun h12 => ?_) (fun h12 => ?_)))))
       ·refine C_skip (N_then (C_seq (C_block (C_reg rfl ?_))))
        refine Lmv rfl rfl (Lmv rfl rfl (L_no rfl rfl rfl rfl rfl (L_no rfl rfl rfl rfl rfl (L_no rfl rfl rfl rfl rfl (L_no rfl rfl rfl rfl rfl (L_run (R_pickF rfl rfl rfl) rfl (Las rfl rfl ?_)))))))
        refine L_nil (N_in (N_then (C_reg rfl ?_)))
        refine Lmv rfl rfl ?_
        refine L_run (R_add64 rfl rfl (by omega)) rfl ?_
        refine Las rfl rfl (L_nil (N_then ?_))
        exact ⟨64 - (i + 1), by omega, _, (i + 1), Ac_frg ⟨rfl, rfl, rfl, rfl, (agx rfl), trivial⟩, hB, hb1, hb2, (by omega), rfl⟩
       ·refine C_exit (X_then (X_then (X_hit (N_then (C_seq (C_seq (C_reg rfl ?_)))))))
        refine Lmv rfl rfl (L_run (R_not rfl) rfl (L_nil (N_then (C_condT rfl rfl (C_seq (C_reg rfl ?_))))))
        refine L_run (R_build (pv := []) (cs := [.int .u64 0, .int .i64 0, .int .i64 0, .int .i64 0, .int .i64 0, .int .i64 0, .int .i64 0]) rfl (by kernel_rfl)) rfl ?_
        refine L_stA (vs := [.int .u64 0, .int .i64 0, .int .i64 0, .int .i64 0, .int .i64 0, .int .i64 0, .int .i64 0]) rfl rfl rfl sz33 rfl hb2 rfl ?_
        intro w37 hb17 hs33 hz19
        replace hB := gb_trg hB hs33 ge2
        refine Las rfl rfl (L_nil (N_then (C_ret (R_then ?_))))
        refine retC1 (vs := [.int .u64 0, .int .i64 0, .int .i64 0, .int .i64 0, .int .i64 0, .int .i64 0, .int .i64 0]) Tryd.results18 rfl agg33 (At.pre (hb17.at_ 0) rfl) rfl rfl ?_
        have hk37_ := hk4a (X := X) (a := 37) (b := 41) rfl
        have hf_ : hdecN X = 2 := hdx_form h1 (fun h_ => h5 (by have h9_ := ((hform_iff hX).1 h_).1.2.2.2; rw [hdx_0 hX (by omega)] at h9_; rw [h9_]; rfl))
        exact ⟨hB, .inr ⟨by rw [hf_]; decide, by rw [hf_]⟩⟩
    ·refine L_no rfl rfl rfl (decide_eq_false h4) rfl (L_no rfl rfl rfl (decide_eq_false h4) rfl (L_no rfl rfl rfl (decide_eq_false h4) rfl (L_run (R_pickF rfl (decide_eq_false h4) rfl) rfl (Lmv rfl rfl (L_no rfl rfl rfl rfl rfl (L_no rfl rfl rfl rfl rfl (L_no rfl rfl rfl rfl rfl (L_run (R_pickF rfl rfl rfl) rfl (Las rfl rfl (L_nil (N_then (C_seq (C_seq (C_reg rfl (Las rfl rfl (L_nil (N_then (C_block ?_))))))))))))))))))
     refine C_loop (fun m_ a_ w_ => ∃ (σ_ : Nat → Value) (i : Nat), a_ = Ac 87 σ_ [] [(1, .pointer (some ⟨g1, 0, none⟩)), (2, .pointer (some ⟨g2, 0, none⟩)), (3, .int .i64 0), (4, .bool false), (5, .int .i64 (i : Int))] ∧ w.grownBy w_ none ∧ Blk w_ g1 50 (fl encB X) ∧ Blk w_ g2 33 [.int .u64 0, .int .i64 0, .int .i64 0, .int .i64 0, .int .i64 0, .int .i64 0, .int .i64 0] ∧ (41 ≤ i ∧ i ≤ 64) ∧ 64 - i = m_) (64 - 41) ?_ ?_
     ·exact ⟨_, 41, Ac_frg ⟨rfl, rfl, rfl, rfl, (agx rfl), trivial⟩, hB, hb1, hb2, (by omega), rfl⟩
     ·clear hB
      clear hb1 hb2
      rintro m_ a_ w38 ⟨σ_, i, rfl, hB, hb1, hb2, hi, rfl⟩
      refine C_seq (C_seq (C_reg rfl ?_))
      refine Lmv rfl rfl (L_run (R_lss rfl rfl) rfl (L_nil (N_then (C_if rfl (fun h13 => ?_) (fun h13 => ?_)))))
      ·refine C_skip (N_then (C_seq (C_block (C_reg rfl ?_))))
       refine Lmv rfl rfl (Lmv rfl rfl (L_no rfl rfl rfl rfl rfl (L_no rfl rfl rfl rfl rfl (L_no rfl rfl rfl rfl rfl (L_no rfl rfl rfl rfl rfl (L_run (R_pickF rfl rfl rfl) rfl (Las rfl rfl ?_)))))))
       refine L_nil (N_in (N_then (C_reg rfl ?_)))
       refine Lmv rfl rfl ?_
       refine L_run (R_add64 rfl rfl (by omega)) rfl ?_
       refine Las rfl rfl (L_nil (N_then ?_))
       exact ⟨64 - (i + 1), by omega, _, (i + 1), Ac_frg ⟨rfl, rfl, rfl, rfl, (agx rfl), trivial⟩, hB, hb1, hb2, (by omega), rfl⟩
      ·refine C_exit (X_then (X_then (X_hit (N_then (C_seq (C_seq (C_reg rfl ?_)))))))
       refine Lmv rfl rfl (L_run (R_not rfl) rfl (L_nil (N_then (C_condT rfl rfl (C_seq (C_reg rfl ?_))))))
       refine L_run (R_build (pv := []) (cs := [.int .u64 0, .int .i64 0, .int .i64 0, .int .i64 0, .int .i64 0, .int .i64 0, .int .i64 0]) rfl (by kernel_rfl)) rfl ?_
       refine L_stA (vs := [.int .u64 0, .int .i64 0, .int .i64 0, .int .i64 0, .int .i64 0, .int .i64 0, .int .i64 0]) rfl rfl rfl sz33 rfl hb2 rfl ?_
       intro w39 hb18 hs34 hz20
       replace hB := gb_trg hB hs34 ge2
       refine Las rfl rfl (L_nil (N_then (C_ret (R_then ?_))))
       refine retC1 (vs := [.int .u64 0, .int .i64 0, .int .i64 0, .int .i64 0, .int .i64 0, .int .i64 0, .int .i64 0]) Tryd.results18 rfl agg33 (At.pre (hb18.at_ 0) rfl) rfl rfl ?_
       have hk37_ := hk4a (X := X) (a := 37) (b := 41) rfl
       have hf_ : hdecN X = 2 := hdx_form h1 (fun h_ => h4 (by have h9_ := ((hform_iff hX).1 h_).1.2.2.1; rw [hdx_0 hX (by omega)] at h9_; rw [h9_]; rfl))
       exact ⟨hB, .inr ⟨by rw [hf_]; decide, by rw [hf_]⟩⟩
   ·refine L_no rfl rfl rfl (decide_eq_false h3) rfl (L_no rfl rfl rfl (decide_eq_false h3) rfl (L_no rfl rfl rfl (decide_eq_false h3) rfl (L_run (R_pickF rfl (decide_eq_false h3) rfl) rfl (Lmv rfl rfl (L_no rfl rfl rfl rfl rfl (L_no rfl rfl rfl rfl rfl (L_no rfl rfl rfl rfl rfl (L_run (R_pickF rfl rfl rfl) rfl (Lmv rfl rfl (L_no rfl rfl rfl rfl rfl (L_no rfl rfl rfl rfl rfl (L_no rfl rfl rfl rfl rfl ?_))))))))))))
    refine L_run (R_pickF rfl rfl rfl) rfl ?_
    refine Las rfl rfl (L_nil (N_then (C_seq (C_seq (C_reg rfl (Las rfl rfl (L_nil (N_then (C_block ?_)))))))))
    refine C_loop (fun m_ a_ w_ => ∃ (σ_ : Nat → Value) (i : Nat), a_ = Ac 87 σ_ [] [(1, .pointer (some ⟨g1, 0, none⟩)), (2, .pointer (some ⟨g2, 0, none⟩)), (3, .int .i64 0), (4, .bool false), (5, .int .i64 (i : Int))] ∧ w.grownBy w_ none ∧ Blk w_ g1 50 (fl encB X) ∧ Blk w_ g2 33 [.int .u64 0, .int .i64 0, .int .i64 0, .int .i64 0, .int .i64 0, .int .i64 0, .int .i64 0] ∧ (41 ≤ i ∧ i ≤ 64) ∧ 64 - i = m_) (64 - 41) ?_ ?_
    ·exact ⟨_, 41, Ac_frg ⟨rfl, rfl, rfl, rfl, (agx rfl), trivial⟩, hB, hb1, hb2, (by omega), rfl⟩
    ·clear hB
     clear hb1 hb2
     rintro m_ a_ w40 ⟨σ_, i, rfl, hB, hb1, hb2, hi, rfl⟩
     refine C_seq (C_seq (C_reg rfl ?_))
     refine Lmv rfl rfl (L_run (R_lss rfl rfl) rfl (L_nil (N_then (C_if rfl (fun h14 => ?_) (fun h14 => ?_)))))
     ·refine C_skip (N_then (C_seq (C_block (C_reg rfl ?_))))
      refine Lmv rfl rfl (Lmv rfl rfl (L_no rfl rfl rfl rfl rfl (L_no rfl rfl rfl rfl rfl (L_no rfl rfl rfl rfl rfl (L_no rfl rfl rfl rfl rfl (L_run (R_pickF rfl rfl rfl) rfl (Las rfl rfl ?_)))))))
      refine L_nil (N_in (N_then (C_reg rfl ?_)))
      refine Lmv rfl rfl ?_
      refine L_run (R_add64 rfl rfl (by omega)) rfl ?_
      refine Las rfl rfl (L_nil (N_then ?_))
      exact ⟨64 - (i + 1), by omega, _, (i + 1), Ac_frg ⟨rfl, rfl, rfl, rfl, (agx rfl), trivial⟩, hB, hb1, hb2, (by omega), rfl⟩
     ·refine C_exit (X_then (X_then (X_hit (N_then (C_seq (C_seq (C_reg rfl ?_)))))))
      refine Lmv rfl rfl (L_run (R_not rfl) rfl (L_nil (N_then (C_condT rfl rfl (C_seq (C_reg rfl ?_))))))
      refine L_run (R_build (pv := []) (cs := [.int .u64 0, .int .i64 0, .int .i64 0, .int .i64 0, .int .i64 0, .int .i64 0, .int .i64 0]) rfl (by kernel_rfl)) rfl ?_
      refine L_stA (vs := [.int .u64 0, .int .i64 0, .int .i64 0, .int .i64 0, .int .i64 0, .int .i64 0, .int .i64 0]) rfl rfl rfl sz33 rfl hb2 rfl ?_
      intro w41 hb19 hs35 hz21
      replace hB := gb_trg hB hs35 ge2
      refine Las rfl rfl (L_nil (N_then (C_ret (R_then ?_))))
      refine retC1 (vs := [.int .u64 0, .int .i64 0, .int .i64 0, .int .i64 0, .int .i64 0, .int .i64 0, .int .i64 0]) Tryd.results18 rfl agg33 (At.pre (hb19.at_ 0) rfl) rfl rfl ?_
      have hk37_ := hk4a (X := X) (a := 37) (b := 41) rfl
      have hf_ : hdecN X = 2 := hdx_form h1 (fun h_ => h3 (by have h9_ := ((hform_iff hX).1 h_).1.2.1; rw [hdx_0 hX (by omega)] at h9_; rw [h9_]; rfl))
      exact ⟨hB, .inr ⟨by rw [hf_]; decide, by rw [hf_]⟩⟩
  ·refine L_no rfl rfl rfl (decide_eq_false h2) rfl (L_no rfl rfl rfl (decide_eq_false h2) rfl (L_no rfl rfl rfl (decide_eq_false h2) rfl (L_run (R_pickF rfl (decide_eq_false h2) rfl) rfl (Lmv rfl rfl (L_no rfl rfl rfl rfl rfl (L_no rfl rfl rfl rfl rfl (L_no rfl rfl rfl rfl rfl (L_run (R_pickF rfl rfl rfl) rfl (Lmv rfl rfl (L_no rfl rfl rfl rfl rfl (L_no rfl rfl rfl rfl rfl (L_no rfl rfl rfl rfl rfl ?_))))))))))))
   refine L_run (R_pickF rfl rfl rfl) rfl ?_
   refine Lmv rfl rfl (L_no rfl rfl rfl rfl rfl (L_no rfl rfl rfl rfl rfl (L_no rfl rfl rfl rfl rfl (L_run (R_pickF rfl rfl rfl) rfl (Las rfl rfl (L_nil (N_then (C_seq (C_seq (C_reg rfl (Las rfl rfl (L_nil (N_then (C_block ?_))))))))))))))
   refine C_loop (fun m_ a_ w_ => ∃ (σ_ : Nat → Value) (i : Nat), a_ = Ac 87 σ_ [] [(1, .pointer (some ⟨g1, 0, none⟩)), (2, .pointer (some ⟨g2, 0, none⟩)), (3, .int .i64 0), (4, .bool false), (5, .int .i64 (i : Int))] ∧ w.grownBy w_ none ∧ Blk w_ g1 50 (fl encB X) ∧ Blk w_ g2 33 [.int .u64 0, .int .i64 0, .int .i64 0, .int .i64 0, .int .i64 0, .int .i64 0, .int .i64 0] ∧ (41 ≤ i ∧ i ≤ 64) ∧ 64 - i = m_) (64 - 41) ?_ ?_
   ·exact ⟨_, 41, Ac_frg ⟨rfl, rfl, rfl, rfl, (agx rfl), trivial⟩, hB, hb1, hb2, (by omega), rfl⟩
   ·clear hB
    clear hb1 hb2
    rintro m_ a_ w42 ⟨σ_, i, rfl, hB, hb1, hb2, hi, rfl⟩
    refine C_seq (C_seq (C_reg rfl ?_))
    refine Lmv rfl rfl (L_run (R_lss rfl rfl) rfl (L_nil (N_then (C_if rfl (fun h15 => ?_) (fun h15 => ?_)))))
    ·refine C_skip (N_then (C_seq (C_block (C_reg rfl ?_))))
     refine Lmv rfl rfl (Lmv rfl rfl (L_no rfl rfl rfl rfl rfl (L_no rfl rfl rfl rfl rfl (L_no rfl rfl rfl rfl rfl (L_no rfl rfl rfl rfl rfl (L_run (R_pickF rfl rfl rfl) rfl (Las rfl rfl ?_)))))))
     refine L_nil (N_in (N_then (C_reg rfl ?_)))
     refine Lmv rfl rfl ?_
     refine L_run (R_add64 rfl rfl (by omega)) rfl ?_
     refine Las rfl rfl (L_nil (N_then ?_))
     exact ⟨64 - (i + 1), by omega, _, (i + 1), Ac_frg ⟨rfl, rfl, rfl, rfl, (agx rfl), trivial⟩, hB, hb1, hb2, (by omega), rfl⟩
    ·refine C_exit (X_then (X_then (X_hit (N_then (C_seq (C_seq (C_reg rfl ?_)))))))
     refine Lmv rfl rfl (L_run (R_not rfl) rfl (L_nil (N_then (C_condT rfl rfl (C_seq (C_reg rfl ?_))))))
     refine L_run (R_build (pv := []) (cs := [.int .u64 0, .int .i64 0, .int .i64 0, .int .i64 0, .int .i64 0, .int .i64 0, .int .i64 0]) rfl (by kernel_rfl)) rfl ?_
     refine L_stA (vs := [.int .u64 0, .int .i64 0, .int .i64 0, .int .i64 0, .int .i64 0, .int .i64 0, .int .i64 0]) rfl rfl rfl sz33 rfl hb2 rfl ?_
     intro w43 hb20 hs36 hz22
     replace hB := gb_trg hB hs36 ge2
     refine Las rfl rfl (L_nil (N_then (C_ret (R_then ?_))))
     refine retC1 (vs := [.int .u64 0, .int .i64 0, .int .i64 0, .int .i64 0, .int .i64 0, .int .i64 0, .int .i64 0]) Tryd.results18 rfl agg33 (At.pre (hb20.at_ 0) rfl) rfl rfl ?_
     have hk37_ := hk4a (X := X) (a := 37) (b := 41) rfl
     have hf_ : hdecN X = 2 := hdx_form h1 (fun h_ => h2 (by have h9_ := ((hform_iff hX).1 h_).1.1; rw [hdx_0 hX (by omega)] at h9_; rw [h9_]; rfl))
     exact ⟨hB, .inr ⟨by rw [hf_]; decide, by rw [hf_]⟩⟩
end Go.Proofs.YtkjgjejkfjhcjaaDoor
