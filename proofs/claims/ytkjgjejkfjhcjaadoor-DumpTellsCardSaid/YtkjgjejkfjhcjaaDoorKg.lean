import Derived.Test.YtkjgjejkfjhcjaaDoorKf
/-
  What the law's proof stands on, part 7.
-/
namespace Go.Proofs.YtkjgjejkfjhcjaaDoor
open Go.RowKit Gw Pl
set_option linter.unusedVariables false
set_option linter.unusedSimpArgs false
theorem agg54 : aggB Tryd.prog 54 4 = true := by kernel_rfl
theorem cb39 : callB Tryd.prog 39 = true := by kernel_rfl
theorem cb40 : callB Tryd.prog 40 = true := by kernel_rfl
theorem cb41 : callB Tryd.prog 41 = true := by kernel_rfl
theorem cb42 : callB Tryd.prog 42 = true := by kernel_rfl
theorem cb43 : callB Tryd.prog 43 = true := by kernel_rfl
theorem fld54_0 : fldB Tryd.prog 54 0 0 = true := by kernel_rfl
theorem fld54_1 : fldB Tryd.prog 54 1 1 = true := by kernel_rfl
theorem fld54_2 : fldB Tryd.prog 54 2 2 = true := by kernel_rfl
theorem fld54_3 : fldB Tryd.prog 54 3 3 = true := by kernel_rfl
theorem scl51 : sclB Tryd.prog 51 = true := by kernel_rfl
theorem scl52 : sclB Tryd.prog 52 = true := by kernel_rfl
theorem slc51 : slcB Tryd.prog 51 34 1 24 = true := by kernel_rfl
theorem slc52 : slcB Tryd.prog 52 3 1 8 = true := by kernel_rfl
theorem sz51 : szB Tryd.prog 51 1 = true := by kernel_rfl
theorem sz52 : szB Tryd.prog 52 1 = true := by kernel_rfl
theorem sz54 : szB Tryd.prog 54 4 = true := by kernel_rfl
theorem zer3 : (Tryd.prog.info? 3).bind (·.zero) = some (.int .i64 0) := by kernel_rfl
theorem zer34 : (Tryd.prog.info? 34).bind (·.zero) = some (.slice none 0 0) := by kernel_rfl
theorem zer54 : (Tryd.prog.info? 54).bind (·.zero) = some (.agg #[.slice none 0 0, .slice none 0 0, .int .i64 0, .int .i64 0]) := by kernel_rfl
def xsOf (ls : List Bys) : List (List UInt8) := ls.map Bys.xs
/-- All records of the sectors. -/
def scn (ss : List Sx) (e : Nat) : List (List UInt8 × Nat × Nat) := scanL e (flatB (bsOf ss) e 16) (flatO (bsOf ss) e 16) 833 0 0 false []
/-- What has been told of them. -/
structure ScR (acc : List (List UInt8 × Nat × Nat)) (R : List Bys) (Pl : List Int) (en : Nat) : Prop where
  recs : xsOf R = acc.map (·.1)
  pl : Pl = acc.map fun x => (x.2.1 : Int)
  en : en = endN acc
  cap : ∀ y ∈ R, y.xs.length ≤ y.c
theorem ScR.nil : ScR [] [] [] 0 := ⟨rfl, rfl, rfl, fun y hy => by cases hy⟩
theorem ScR.snoc {acc : List (List UInt8 × Nat × Nat)} {R : List Bys} {Pl : List Int} {en : Nat} (h : ScR acc R Pl en) {y : Bys} {f e : Nat} {d : List UInt8} (hy : y.xs = d) (hc : y.xs.length ≤ y.c) : ScR (acc ++ [(d, f, e)]) (R ++ [y]) (Pl ++ [(f : Int)]) e := by
  refine ⟨?_, ?_, by rw [endN_snoc], fun z hz => (List.mem_append.1 hz).elim (h.cap z) (fun hz => by rw [List.mem_singleton] at hz; rw [hz]; exact hc)⟩
  · unfold xsOf
    rw [List.map_append, List.map_append]
    have := h.recs
    unfold xsOf at this
    rw [this, List.map_singleton, List.map_singleton, hy]
  · rw [List.map_append, h.pl]; rfl
theorem ScR.len {acc : List (List UInt8 × Nat × Nat)} {R : List Bys} {Pl : List Int} {en : Nat} (h : ScR acc R Pl en) : R.length = acc.length ∧ Pl.length = acc.length := by
  have h1 := congrArg List.length h.recs
  have h2 := congrArg List.length h.pl
  unfold xsOf at h1
  rw [List.length_map, List.length_map] at h1
  rw [List.length_map] at h2
  exact ⟨h1, h2⟩
theorem scn_go {e p f fu k n : Nat} {o : Bool} {bs d body : List UInt8} {ok : List Bool} {acc X : List (List UInt8 × Nat × Nat)} (hX : acc ++ scanL e body ok fu p f o bs = X) (hacc : accN e body ok (beginN p) = ((k, d), n)) (hn : n ≠ 0) (hf : 0 < fu)
    (h0 : (feedN o bs k d).2.2.2 = 0) (h1 : (feedN o bs k d).2.2.1 = false) : acc ++ scanL e body ok (fu - 1) (beginN p + n) (if o then f else beginN p) (feedN o bs k d).1.1 (feedN o bs k d).1.2 = X := by
  rw [← hX, scan_go hacc hn hf h0 h1]
theorem scn_fin {e p f fu k n : Nat} {o : Bool} {bs d body : List UInt8} {ok : List Bool} {acc X : List (List UInt8 × Nat × Nat)} (hX : acc ++ scanL e body ok fu p f o bs = X) (hacc : accN e body ok (beginN p) = ((k, d), n)) (hn : n ≠ 0) (hf : 0 < fu)
    (h0 : (feedN o bs k d).2.2.2 = 0) (h1 : (feedN o bs k d).2.2.1 = true) : (acc ++ [((feedN o bs k d).2.1, (if o then f else beginN p), beginN p + n)]) ++ scanL e body ok (fu - 1) (beginN p + n) (if o then f else beginN p) (feedN o bs k d).1.1 (feedN o bs k d).1.2 = X := by
  rw [← hX, scan_fin hacc hn hf h0 h1, List.append_assoc]
  rfl
theorem scn_none {e p f fu : Nat} {o : Bool} {bs body : List UInt8} {ok : List Bool} {acc X : List (List UInt8 × Nat × Nat)} (hX : acc ++ scanL e body ok fu p f o bs = X) (h : (accN e body ok (beginN p)).2 = 0) : X = acc := by
  rw [← hX, scan_none h, List.append_nil]
theorem scn_bad {e p f fu k n : Nat} {o : Bool} {bs d body : List UInt8} {ok : List Bool} {acc X : List (List UInt8 × Nat × Nat)} (hX : acc ++ scanL e body ok fu p f o bs = X) (hacc : accN e body ok (beginN p) = ((k, d), n)) (h : (feedN o bs k d).2.2.2 ≠ 0) : X = acc := by
  rw [← hX, scan_bad hacc h, List.append_nil]
theorem acc_go {e a : Nat} {ss : List Sx} (ha : a ≤ 832) (h : ¬ (((accN e (flatB (bsOf ss) e 16) (flatO (bsOf ss) e 16) a).2 : Nat) : Int) = 0) :
    11 ≤ (accN e (flatB (bsOf ss) e 16) (flatO (bsOf ss) e 16) a).2 ∧ a + (accN e (flatB (bsOf ss) e 16) (flatO (bsOf ss) e 16) a).2 ≤ 832 ∧ (accN e (flatB (bsOf ss) e 16) (flatO (bsOf ss) e 16) a).1.2.length ≤ 832 := by
  have h0 : (accN e (flatB (bsOf ss) e 16) (flatO (bsOf ss) e 16) a).2 ≠ 0 := by omega
  have h2 := accN_ok (e := e) (ok := flatO (bsOf ss) e 16) flatB_n ha h0
  exact ⟨h2.1, h2.2.1, by omega⟩
theorem scan19 {w : World} {t1 lo hi : Nat} {A : Option Addr} {c e : Nat} {ss : List Sx} (hS : Sli t1 lo hi w A (fl encX ss)) (he : e < 18446744073709551616) :
    Runs Tryd.prog 19 #[.int .u64 (e : Int), .slice A ss.length c] w (fun v w' => w.grownBy w' none ∧ ∃ (R : List Bys) (Pl : List Int) (Ar : Option Addr) (cr : Nat) (Ap : Option Addr) (cp : Nat) (en : Nat), v = .agg #[.slice Ar R.length cr, .slice Ap Pl.length cp, .int .i64 (en : Int), .int .i64 (if restN (bsOf ss) en then 1 else 2)] ∧ World.ownsRow w' w.heap.size 34 1 (.slice Ar R.length cr) R.length (fl encY R) ∧ DeepY 5 w' R ∧ World.ownsRow w' w.heap.size 3 1 (.slice Ap Pl.length cp) Pl.length (fl encZ Pl) ∧ ScR (scn ss e) R Pl en ∧ en ≤ 832 ∧ R.length ≤ 832) := by
 have hB := gb_refl w none
 replace hS := hS.top
 refine enter Tryd.func19 Tryd.ntmps19 rfl rfl ?_
 refine C_seq (C_reg rfl ?_)
 refine L_alloc (cs := [.slice none 0 0, .slice none 0 0, .int .i64 0, .int .i64 0]) zer54 rfl rfl ?_
 intro g1 w1 eg1 hb1 hs1 hz1
 have ge1 : w.heap.size ≤ g1 := eg_ge hB eg1
 replace hB := gb_tr hB hs1; replace hS := hS.gb hs1
 refine L_nil (N_then (C_seq (C_reg rfl (Lmv rfl rfl (Lmv rfl rfl ?_)))))
 refine L_call rfl cb39 (flat16 (e := e) (ss := ss) hS (by first | omega | (simp; done) | (simp; omega))) rfl ?_
 rintro _ w2 ⟨hs2, A_1, c_1, A_2, c_2, rfl, ho1, ho2⟩
 replace hB := gb_tr hB hs2; replace hS := hS.gb hs2; replace hb1 := hb1.gb hs2
 have hlo1 : w1.heap.size ≤ w2.heap.size := hs2.size
 refine Lmv rfl rfl (L_run (R_extract rfl rfl) rfl (L_run (R_extract rfl rfl) rfl (Las rfl rfl (Las rfl rfl (L_nil (N_then (C_seq (C_reg rfl ?_))))))))
 refine L_run (R_build (pv := []) (cs := [.slice none 0 0, .slice none 0 0, .int .i64 0, .int .i64 0]) rfl (by kernel_rfl)) rfl ?_
 refine L_alloc (cs := [.slice none 0 0, .slice none 0 0, .int .i64 0, .int .i64 0]) zer54 rfl rfl ?_
 intro g2 w3 eg2 hb2 hs3 hz2
 have ge3 : w.heap.size ≤ g2 := eg_ge hB eg2
 have lt1 : g1 < g2 := lt_of_eg hb1.lt eg2
 replace hB := gb_tr hB hs3; replace hS := hS.gb hs3; replace hb1 := hb1.gb hs3; replace ho1 := own_gb ho1 hs3; replace ho2 := own_gb ho2 hs3; replace hlo1 := Nat.le_trans hlo1 hs3.size
 refine L_stA (vs := [.slice none 0 0, .slice none 0 0, .int .i64 0, .int .i64 0]) rfl rfl rfl sz54 rfl hb2 rfl ?_
 intro w4 hb3 hs4 hz3
 replace hB := gb_trg hB hs4 ge3; replace hS := hS.old hs4 ge3; replace hb1 := hb1.grown hs4 (ne_lt lt1); replace ho1 := own_other ho1 hb2 rfl hs4; replace ho2 := own_other ho2 hb2 rfl hs4; replace hlo1 := Nat.le_trans hlo1 hs4.size
 refine L_nil (N_then (C_seq (C_reg rfl ?_)))
 refine L_run (R_build (pv := []) (cs := [.bool false, .slice none 0 0]) rfl (by kernel_rfl)) rfl ?_
 refine L_alloc (cs := [.bool false, .slice none 0 0]) zer83 rfl rfl ?_
 intro g3 w5 eg3 hb4 hs5 hz4
 have ge4 : w.heap.size ≤ g3 := eg_ge hB eg3
 have lt2 : g1 < g3 := lt_of_eg hb1.lt eg3
 have lt3 : g2 < g3 := lt_of_eg hb3.lt eg3
 replace hB := gb_tr hB hs5; replace hS := hS.gb hs5; replace hb1 := hb1.gb hs5; replace ho1 := own_gb ho1 hs5; replace ho2 := own_gb ho2 hs5; replace hlo1 := Nat.le_trans hlo1 hs5.size; replace hb3 := hb3.gb hs5
 refine L_stA (vs := [.bool false, .slice none 0 0]) rfl rfl rfl sz83 rfl hb4 rfl ?_
 intro w6 hb5 hs6 hz5
 replace hB := gb_trg hB hs6 ge4; replace hS := hS.old hs6 ge4; replace hb1 := hb1.grown hs6 (ne_lt lt2); replace ho1 := own_other ho1 hb4 rfl hs6; replace ho2 := own_other ho2 hb4 rfl hs6; replace hlo1 := Nat.le_trans hlo1 hs6.size; replace hb3 := hb3.grown hs6 (ne_lt lt3)
 refine L_nil (N_then (C_seq (C_reg rfl (Las rfl rfl (L_nil (N_then (C_seq (C_reg rfl (Las rfl rfl (L_nil (N_then (C_seq (C_block ?_)))))))))))))
 refine C_loop (fun m_ a_ w_ => ∃ (σ_ : Nat → Value) (p : Nat) (f : Nat) (o : Bool) (bs : List UInt8) (Aj : Option Addr) (cj : Nat) (R : List Bys) (Ar : Option Addr) (cr : Nat) (Pl : List Int) (Ap : Option Addr) (cp : Nat) (en : Nat) (fu : Nat) (acc : List (List UInt8 × Nat × Nat)), a_ = Ac 77 σ_ [] [(0, .int .u64 (e : Int)), (1, .slice A ss.length c), (4, .pointer (some ⟨g1, 0, none⟩)), (5, .slice A_1 ((flatB (bsOf ss) e 16).length) c_1), (6, .slice A_2 ((flatO (bsOf ss) e 16).length) c_2), (7, .pointer (some ⟨g2, 0, none⟩)), (8, .pointer (some ⟨g3, 0, none⟩)), (9, .int .i64 (p : Int)), (10, .int .i64 (f : Int))] ∧ w.grownBy w_ none ∧ Sli t1 lo w.heap.size w_ A (fl encX ss) ∧ Blk w_ g1 54 [.slice none 0 0, .slice none 0 0, .int .i64 0, .int .i64 0] ∧ World.ownsRow w_ w1.heap.size 5 1 (.slice A_1 (flatB (bsOf ss) e 16).length c_1) (flatB (bsOf ss) e 16).length (fl encB (flatB (bsOf ss) e 16)) ∧ World.ownsRow w_ w1.heap.size 4 1 (.slice A_2 (flatO (bsOf ss) e 16).length c_2) (flatO (bsOf ss) e 16).length (fl encO (flatO (bsOf ss) e 16)) ∧ w1.heap.size ≤ w_.heap.size ∧ Blk w_ g2 54 [.slice Ar R.length cr, .slice Ap Pl.length cp, .int .i64 ((en : Nat) : Int), .int .i64 0] ∧ Blk w_ g3 83 [.bool o, .slice Aj bs.length cj] ∧ World.ownsRow w_ w.heap.size 5 1 (.slice Aj bs.length cj) bs.length (fl encB bs) ∧ World.ownsRow w_ w.heap.size 34 1 (.slice Ar R.length cr) R.length (fl encY R) ∧ World.ownsRow w_ w.heap.size 3 1 (.slice Ap Pl.length cp) Pl.length (fl encZ Pl) ∧ DeepY 5 w_ R ∧ (p ≤ 832) ∧ (bs.length ≤ 512) ∧ (R.length ≤ p ∧ Pl.length ≤ p ∧ en ≤ 832) ∧ (832 < p + fu) ∧ (ScR acc R Pl en) ∧ (acc ++ scanL e (flatB (bsOf ss) e 16) (flatO (bsOf ss) e 16) fu p f o bs = scn ss e) ∧ 832 - p = m_) (832 - 0) ?_ ?_
 ·exact ⟨_, 0, 0, false, [], none, 0, [], none, 0, [], none, 0, 0, 833, [], Ac_frg ⟨rfl, rfl, rfl, rfl, rfl, rfl, rfl, (agx rfl), (agx rfl), trivial⟩, hB, hS, hb1, ho1, ho2, hlo1, hb3, hb5, (own_nil _ _ _ _), (own_nil _ _ _ _), (own_nil _ _ _ _), DeepY.nil, (by omega), (by decide), (by decide), (by omega), ScR.nil, rfl, rfl⟩
 ·clear hB
  clear hS hb1 ho1 ho2 hlo1 hb3 hb5
  rintro m_ a_ w7 ⟨σ_, p, f, o, bs, Aj, cj, R, Ar, cr, Pl, Ap, cp, en, fu, acc, rfl, hB, hS, hb1, ho1, ho2, hlo1, hbr, hbj, ho, hoR, hoP, hDY, hp, hbs, hRl, hfu, hSR, hSX, rfl⟩
  refine C_block (C_seq (C_reg rfl ?_))
  refine Lmv rfl rfl ?_
  refine L_call rfl cb40 (begin7 (n := p) (by first | omega | (simp; done) | (simp; omega))) rfl ?_
  rintro _ w8 ⟨hs7, rfl⟩
  replace hB := gb_tr hB hs7; replace hS := hS.gb hs7; replace hb1 := hb1.gb hs7; replace ho1 := own_gb ho1 hs7; replace ho2 := own_gb ho2 hs7; replace hlo1 := Nat.le_trans hlo1 hs7.size; replace hbr := hbr.gb hs7; replace hbj := hbj.gb hs7; replace ho := own_gb ho hs7; replace hoR := own_gb hoR hs7
  replace hoP := own_gb hoP hs7; replace hDY := hDY.gb hs7
  refine Las rfl rfl (L_nil (N_then (C_seq (C_reg rfl (Lmv rfl rfl (Lmv rfl rfl (Lmv rfl rfl (Lmv rfl rfl ?_))))))))
  refine L_call rfl cb41 (acc_ok (e := e) (body := flatB (bsOf ss) e 16) (oks := flatO (bsOf ss) e 16) (a := (beginN p)) (own_of ho1).2.2 (own_of ho2).2.2 flatB_n (own_cap ho1) (beginN_le (by assumption)).2) rfl ?_
  rintro _ w9 ⟨hs8, E1, A_3, c_3, rfl, ho3⟩
  replace hB := gb_tr hB hs8; replace hS := hS.gb hs8; replace hb1 := hb1.gb hs8; replace ho1 := own_gb ho1 hs8; replace ho2 := own_gb ho2 hs8; replace hlo1 := Nat.le_trans hlo1 hs8.size; replace hbr := hbr.gb hs8; replace hbj := hbj.gb hs8; replace ho := own_gb ho hs8; replace hoR := own_gb hoR hs8
  replace hoP := own_gb hoP hs8; replace hDY := hDY.gb hs8
  have hlo2 : w8.heap.size ≤ w9.heap.size := hs8.size
  refine Lmv rfl rfl (L_run (R_extract rfl rfl) rfl (L_run (R_extract rfl rfl) rfl (L_alloc (cs := [.int .i64 0, .int .u32 0, .slice none 0 0]) zer86 rfl rfl ?_)))
  intro g4 w10 eg4 hb6 hs9 hz6
  have ge6 : w.heap.size ≤ g4 := eg_ge hB eg4
  have lt4 : g1 < g4 := lt_of_eg hb1.lt eg4
  have lt5 : g2 < g4 := lt_of_eg hbr.lt eg4
  have lt6 : g3 < g4 := lt_of_eg hbj.lt eg4
  replace hB := gb_tr hB hs9; replace hS := hS.gb hs9; replace hb1 := hb1.gb hs9; replace ho1 := own_gb ho1 hs9; replace ho2 := own_gb ho2 hs9; replace hlo1 := Nat.le_trans hlo1 hs9.size; replace hbr := hbr.gb hs9; replace hbj := hbj.gb hs9; replace ho := own_gb ho hs9; replace hoR := own_gb hoR hs9
  replace hoP := own_gb hoP hs9; replace hDY := hDY.gb hs9; replace ho3 := own_gb ho3 hs9
  refine L_stA (vs := [.int .i64 (((accN e (flatB (bsOf ss) e 16) (flatO (bsOf ss) e 16) (beginN p)).1.1 : Nat) : Int), .int .u32 E1, .slice A_3 (((accN e (flatB (bsOf ss) e 16) (flatO (bsOf ss) e 16) (beginN p)).1.2).length) c_3]) rfl rfl rfl sz86 rfl hb6 rfl ?_
  intro w11 hb7 hs10 hz7
  replace hB := gb_trg hB hs10 ge6; replace hS := hS.old hs10 ge6; replace hb1 := hb1.grown hs10 (ne_lt lt4); replace ho1 := own_other ho1 hb6 rfl hs10; replace ho2 := own_other ho2 hb6 rfl hs10; replace hlo1 := Nat.le_trans hlo1 hs10.size; replace hbr := hbr.grown hs10 (ne_lt lt5); replace hbj := hbj.grown hs10 (ne_lt lt6)
  replace ho := own_other ho hb6 rfl hs10; replace hoR := own_other hoR hb6 rfl hs10; replace hoP := own_other hoP hb6 rfl hs10; replace hDY := hDY.other hb6 rfl rfl hs10; replace ho3 := own_other ho3 hb6 rfl hs10
  refine Las rfl rfl (L_nil (N_then (C_seq (C_seq (C_reg rfl (Lmv rfl rfl (L_run (R_eql rfl rfl) rfl (L_nil (N_then (C_if rfl (fun h1 => ?_) (fun h1 => ?_)))))))))))
  ·refine C_exit (X_then (X_miss rfl (X_then (X_hit (N_then (C_seq (C_reg rfl ?_)))))))
   refine L_run (R_field (r := 3) rfl fld54_3 rfl) rfl ?_
   refine L_st1 rfl rfl rfl sz3 hbr rfl ?_
   intro w12 hb8 hs11 hz8
   replace hB := gb_trg hB hs11 ge3; replace hS := hS.old hs11 ge3; replace hb1 := hb1.grown hs11 (ne_lt lt1); replace hoR := own_other hoR hbr rfl hs11; replace hoP := own_other hoP hbr rfl hs11; replace hDY := hDY.other hbr rfl rfl hs11
   refine L_nil (N_then (C_seq (C_seq (C_reg rfl (Lmv rfl rfl (L_run (R_field (r := 2) rfl fld54_2 rfl) rfl (L_run (R_load1 rfl scl3 (hb8.cell (i := 2) rfl)) rfl ?_)))))))
   refine L_call rfl cb43 (rest19 (ss := ss) (n := en) hS (by omega)) rfl ?_
   rintro _ w13 ⟨hs12, rfl⟩
   replace hB := gb_tr hB hs12; replace hb1 := hb1.gb hs12; replace hb8 := hb8.gb hs12; replace hoR := own_gb hoR hs12; replace hoP := own_gb hoP hs12; replace hDY := hDY.gb hs12
   refine L_nil (N_then (C_if rfl (fun h2 => ?_) (fun h2 => ?_)))
   ·refine C_reg rfl ?_
    refine L_run (R_field (r := 3) rfl fld54_3 rfl) rfl ?_
    refine L_st1 rfl rfl rfl sz3 hb8 rfl ?_
    intro w14 hb9 hs13 hz9
    replace hB := gb_trg hB hs13 ge3; replace hb1 := hb1.grown hs13 (ne_lt lt1); replace hoR := own_other hoR hb8 rfl hs13; replace hoP := own_other hoP hb8 rfl hs13; replace hDY := hDY.other hb8 rfl rfl hs13
    refine L_nil (N_then (C_seq (C_reg rfl (L_run (R_loadA (vs := [.slice Ar R.length cr, .slice Ap Pl.length cp, .int .i64 ((en : Nat) : Int), .int .i64 1]) rfl agg54 (At.pre (hb9.at_ 0) rfl) rfl) rfl ?_))))
    refine L_stA (vs := [.slice Ar R.length cr, .slice Ap Pl.length cp, .int .i64 ((en : Nat) : Int), .int .i64 1]) rfl rfl rfl sz54 rfl hb1 rfl ?_
    intro w15 hb10 hs14 hz10
    replace hB := gb_trg hB hs14 ge1; replace hoR := own_other hoR hb1 rfl hs14; replace hoP := own_other hoP hb1 rfl hs14; replace hDY := hDY.other hb1 rfl rfl hs14
    refine L_nil (N_then (C_ret ?_))
    refine retC (vs := [.slice Ar R.length cr, .slice Ap Pl.length cp, .int .i64 ((en : Nat) : Int), .int .i64 1]) Tryd.results19 rfl agg54 (At.pre (hb10.at_ 0) rfl) rfl  ?_
    have hsc_ : scn ss e = acc := scn_none hSX (by omega)
    exact ⟨hB, R, Pl, _, _, _, _, en, by rw [if_pos h2], (own_lo hoR (Nat.le_refl _)), hDY, (own_lo hoP (Nat.le_refl _)), by rw [hsc_]; exact hSR, by omega, by omega⟩
   ·refine C_skip (N_then (C_seq (C_reg rfl ?_)))
    refine L_run (R_loadA (vs := [.slice Ar R.length cr, .slice Ap Pl.length cp, .int .i64 ((en : Nat) : Int), .int .i64 2]) rfl agg54 (At.pre (hb8.at_ 0) rfl) rfl) rfl ?_
    refine L_stA (vs := [.slice Ar R.length cr, .slice Ap Pl.length cp, .int .i64 ((en : Nat) : Int), .int .i64 2]) rfl rfl rfl sz54 rfl hb1 rfl ?_
    intro w16 hb11 hs15 hz11
    replace hB := gb_trg hB hs15 ge1; replace hoR := own_other hoR hb1 rfl hs15; replace hoP := own_other hoP hb1 rfl hs15; replace hDY := hDY.other hb1 rfl rfl hs15
    refine L_nil (N_then (C_ret ?_))
    refine retC (vs := [.slice Ar R.length cr, .slice Ap Pl.length cp, .int .i64 ((en : Nat) : Int), .int .i64 2]) Tryd.results19 rfl agg54 (At.pre (hb11.at_ 0) rfl) rfl  ?_
    have hsc_ : scn ss e = acc := scn_none hSX (by omega)
    exact ⟨hB, R, Pl, _, _, _, _, en, by rw [if_neg h2], (own_lo hoR (Nat.le_refl _)), hDY, (own_lo hoP (Nat.le_refl _)), by rw [hsc_]; exact hSR, by omega, by omega⟩
  ·refine C_skip (N_then (C_seq (C_seq (C_reg rfl ?_))))
   refine L_run (R_field (r := 0) rfl fld83_0 rfl) rfl (L_run (R_load1 rfl scl4 (hbj.cell (i := 0) rfl)) rfl (L_run (R_not rfl) rfl (L_nil (N_then ?_))))
   refine C_cond rfl (fun h3 => ?_) (fun h3 => ?_)
   ·refine C_reg rfl ?_
    refine Lmv rfl rfl (Las rfl rfl (L_nil (N_then (C_seq (C_reg rfl (L_run (R_loadA (vs := [.bool o, .slice Aj bs.length cj]) rfl agg83 (At.pre (hbj.at_ 0) rfl) rfl) rfl (L_run (R_loadA (vs := [.int .i64 (((accN e (flatB (bsOf ss) e 16) (flatO (bsOf ss) e 16) (beginN p)).1.1 : Nat) : Int), .int .u32 E1, .slice A_3 (((accN e (flatB (bsOf ss) e 16) (flatO (bsOf ss) e 16) (beginN p)).1.2).length) c_3]) rfl agg86 (At.pre (hb7.at_ 0) rfl) rfl) rfl ?_)))))))
    have ge7 : w.heap.size ≤ w11.heap.size := hB.size
    refine L_call rfl cb42 (feed15_ok (o := o) (bs := bs) (d := (accN e (flatB (bsOf ss) e 16) (flatO (bsOf ss) e 16) (beginN p)).1.2) (k := ((accN e (flatB (bsOf ss) e 16) (flatO (bsOf ss) e 16) (beginN p)).1.1)) (own_of ho).2.2 (own_of ho3).2.2 (by omega) (by have h_ := acc_go (ss := ss) (e := e) (beginN_le hp).2 (by assumption); omega)) rfl ?_
    rintro _ w17 ⟨hs16, A_4, c_4, A_5, c_5, rfl, ho4, ho5⟩
    replace hB := gb_tr hB hs16; replace hS := hS.gb hs16; replace hb1 := hb1.gb hs16; replace ho1 := own_gb ho1 hs16; replace ho2 := own_gb ho2 hs16; replace hlo1 := Nat.le_trans hlo1 hs16.size; replace hbr := hbr.gb hs16; replace hbj := hbj.gb hs16; replace hoR := own_gb hoR hs16; replace hoP := own_gb hoP hs16
    replace hDY := hDY.gb hs16
    have hlo3 : w11.heap.size ≤ w17.heap.size := hs16.size
    refine Lmv rfl rfl (L_run (R_extract rfl rfl) rfl (L_run (R_extract rfl rfl) rfl (L_run (R_extract rfl rfl) rfl (L_run (R_extract rfl rfl) rfl (L_alloc (cs := [.bool false, .slice none 0 0]) zer83 rfl rfl ?_)))))
    intro g5 w18 eg5 hb12 hs17 hz12
    have ge8 : w.heap.size ≤ g5 := eg_ge hB eg5
    have lt7 : g1 < g5 := lt_of_eg hb1.lt eg5
    have lt8 : g2 < g5 := lt_of_eg hbr.lt eg5
    have lt9 : g3 < g5 := lt_of_eg hbj.lt eg5
    replace hB := gb_tr hB hs17; replace hS := hS.gb hs17; replace hb1 := hb1.gb hs17; replace ho1 := own_gb ho1 hs17; replace ho2 := own_gb ho2 hs17; replace hlo1 := Nat.le_trans hlo1 hs17.size; replace hbr := hbr.gb hs17; replace hbj := hbj.gb hs17; replace hoR := own_gb hoR hs17; replace hoP := own_gb hoP hs17
    replace hDY := hDY.gb hs17; replace ho4 := own_gb ho4 hs17; replace ho5 := own_gb ho5 hs17
    refine L_stA (vs := [.bool ((feedN o bs ((accN e (flatB (bsOf ss) e 16) (flatO (bsOf ss) e 16) (beginN p)).1.1) ((accN e (flatB (bsOf ss) e 16) (flatO (bsOf ss) e 16) (beginN p)).1.2)).1.1), .slice A_4 (((feedN o bs ((accN e (flatB (bsOf ss) e 16) (flatO (bsOf ss) e 16) (beginN p)).1.1) ((accN e (flatB (bsOf ss) e 16) (flatO (bsOf ss) e 16) (beginN p)).1.2)).1.2).length) c_4]) rfl rfl rfl sz83 rfl hb12 rfl ?_
    intro w19 hb13 hs18 hz13
    replace hB := gb_trg hB hs18 ge8; replace hS := hS.old hs18 ge8; replace hb1 := hb1.grown hs18 (ne_lt lt7); replace ho1 := own_other ho1 hb12 rfl hs18; replace ho2 := own_other ho2 hb12 rfl hs18; replace hlo1 := Nat.le_trans hlo1 hs18.size; replace hbr := hbr.grown hs18 (ne_lt lt8); replace hbj := hbj.grown hs18 (ne_lt lt9)
    replace hoR := own_other hoR hb12 rfl hs18; replace hoP := own_other hoP hb12 rfl hs18; replace hDY := hDY.other hb12 rfl rfl hs18; replace ho4 := own_other ho4 hb12 rfl hs18; replace ho5 := own_other ho5 hb12 rfl hs18
    refine Las rfl rfl (Las rfl rfl (Las rfl rfl (L_nil (N_then (C_seq (C_seq (C_reg rfl (Lmv rfl rfl (L_run (R_neq rfl rfl) rfl (L_nil (N_then (C_if rfl (fun h4 => ?_) (fun h4 => ?_)))))))))))))
    ·refine C_exit (X_then (X_miss rfl (X_then (X_hit (N_then (C_seq (C_reg rfl ?_)))))))
     refine L_run (R_field (r := 3) rfl fld54_3 rfl) rfl ?_
     refine L_st1 rfl rfl rfl sz3 hbr rfl ?_
     intro w20 hb14 hs19 hz14
     replace hB := gb_trg hB hs19 ge3; replace hS := hS.old hs19 ge3; replace hb1 := hb1.grown hs19 (ne_lt lt1); replace hoR := own_other hoR hbr rfl hs19; replace hoP := own_other hoP hbr rfl hs19; replace hDY := hDY.other hbr rfl rfl hs19
     refine L_nil (N_then (C_seq (C_seq (C_reg rfl (Lmv rfl rfl (L_run (R_field (r := 2) rfl fld54_2 rfl) rfl (L_run (R_load1 rfl scl3 (hb14.cell (i := 2) rfl)) rfl ?_)))))))
     refine L_call rfl cb43 (rest19 (ss := ss) (n := en) hS (by omega)) rfl ?_
     rintro _ w21 ⟨hs20, rfl⟩
     replace hB := gb_tr hB hs20; replace hb1 := hb1.gb hs20; replace hb14 := hb14.gb hs20; replace hoR := own_gb hoR hs20; replace hoP := own_gb hoP hs20; replace hDY := hDY.gb hs20
     refine L_nil (N_then (C_if rfl (fun h5 => ?_) (fun h5 => ?_)))
     ·refine C_reg rfl ?_
      refine L_run (R_field (r := 3) rfl fld54_3 rfl) rfl ?_
      refine L_st1 rfl rfl rfl sz3 hb14 rfl ?_
      intro w22 hb15 hs21 hz15
      replace hB := gb_trg hB hs21 ge3; replace hb1 := hb1.grown hs21 (ne_lt lt1); replace hoR := own_other hoR hb14 rfl hs21; replace hoP := own_other hoP hb14 rfl hs21; replace hDY := hDY.other hb14 rfl rfl hs21
      refine L_nil (N_then (C_seq (C_reg rfl (L_run (R_loadA (vs := [.slice Ar R.length cr, .slice Ap Pl.length cp, .int .i64 ((en : Nat) : Int), .int .i64 1]) rfl agg54 (At.pre (hb15.at_ 0) rfl) rfl) rfl ?_))))
      refine L_stA (vs := [.slice Ar R.length cr, .slice Ap Pl.length cp, .int .i64 ((en : Nat) : Int), .int .i64 1]) rfl rfl rfl sz54 rfl hb1 rfl ?_
      intro w23 hb16 hs22 hz16
      replace hB := gb_trg hB hs22 ge1; replace hoR := own_other hoR hb1 rfl hs22; replace hoP := own_other hoP hb1 rfl hs22; replace hDY := hDY.other hb1 rfl rfl hs22
      refine L_nil (N_then (C_ret ?_))
      refine retC (vs := [.slice Ar R.length cr, .slice Ap Pl.length cp, .int .i64 ((en : Nat) : Int), .int .i64 1]) Tryd.results19 rfl agg54 (At.pre (hb16.at_ 0) rfl) rfl  ?_
      have hsc_ : scn ss e = acc := scn_bad (k := (accN e (flatB (bsOf ss) e 16) (flatO (bsOf ss) e 16) (beginN p)).1.1) (d := (accN e (flatB (bsOf ss) e 16) (flatO (bsOf ss) e 16) (beginN p)).1.2) hSX rfl h4
      exact ⟨hB, R, Pl, _, _, _, _, en, by rw [if_pos h5], (own_lo hoR (Nat.le_refl _)), hDY, (own_lo hoP (Nat.le_refl _)), by rw [hsc_]; exact hSR, by omega, by omega⟩
     ·refine C_skip (N_then (C_seq (C_reg rfl ?_)))
      refine L_run (R_loadA (vs := [.slice Ar R.length cr, .slice Ap Pl.length cp, .int .i64 ((en : Nat) : Int), .int .i64 2]) rfl agg54 (At.pre (hb14.at_ 0) rfl) rfl) rfl ?_
      refine L_stA (vs := [.slice Ar R.length cr, .slice Ap Pl.length cp, .int .i64 ((en : Nat) : Int), .int .i64 2]) rfl rfl rfl sz54 rfl hb1 rfl ?_
      intro w24 hb17 hs23 hz17
      replace hB := gb_trg hB hs23 ge1; replace hoR := own_other hoR hb1 rfl hs23; replace hoP := own_other hoP hb1 rfl hs23; replace hDY := hDY.other hb1 rfl rfl hs23
      refine L_nil (N_then (C_ret ?_))
      refine retC (vs := [.slice Ar R.length cr, .slice Ap Pl.length cp, .int .i64 ((en : Nat) : Int), .int .i64 2]) Tryd.results19 rfl agg54 (At.pre (hb17.at_ 0) rfl) rfl  ?_
      have hsc_ : scn ss e = acc := scn_bad (k := (accN e (flatB (bsOf ss) e 16) (flatO (bsOf ss) e 16) (beginN p)).1.1) (d := (accN e (flatB (bsOf ss) e 16) (flatO (bsOf ss) e 16) (beginN p)).1.2) hSX rfl h4
      exact ⟨hB, R, Pl, _, _, _, _, en, by rw [if_neg h5], (own_lo hoR (Nat.le_refl _)), hDY, (own_lo hoP (Nat.le_refl _)), by rw [hsc_]; exact hSR, by omega, by omega⟩
    ·refine C_skip (N_then (C_seq (C_reg rfl ?_)))
     refine L_run (R_loadA (vs := [.bool ((feedN o bs ((accN e (flatB (bsOf ss) e 16) (flatO (bsOf ss) e 16) (beginN p)).1.1) ((accN e (flatB (bsOf ss) e 16) (flatO (bsOf ss) e 16) (beginN p)).1.2)).1.1), .slice A_4 (((feedN o bs ((accN e (flatB (bsOf ss) e 16) (flatO (bsOf ss) e 16) (beginN p)).1.1) ((accN e (flatB (bsOf ss) e 16) (flatO (bsOf ss) e 16) (beginN p)).1.2)).1.2).length) c_4]) rfl agg83 (At.pre (hb13.at_ 0) rfl) rfl) rfl ?_
     refine L_stA (vs := [.bool ((feedN o bs ((accN e (flatB (bsOf ss) e 16) (flatO (bsOf ss) e 16) (beginN p)).1.1) ((accN e (flatB (bsOf ss) e 16) (flatO (bsOf ss) e 16) (beginN p)).1.2)).1.1), .slice A_4 (((feedN o bs ((accN e (flatB (bsOf ss) e 16) (flatO (bsOf ss) e 16) (beginN p)).1.1) ((accN e (flatB (bsOf ss) e 16) (flatO (bsOf ss) e 16) (beginN p)).1.2)).1.2).length) c_4]) rfl rfl rfl sz83 rfl hbj rfl ?_
     intro w25 hb18 hs24 hz18
     replace hB := gb_trg hB hs24 ge4; replace hS := hS.old hs24 ge4; replace hb1 := hb1.grown hs24 (ne_lt lt2); replace ho1 := own_other ho1 hbj rfl hs24; replace ho2 := own_other ho2 hbj rfl hs24; replace hlo1 := Nat.le_trans hlo1 hs24.size; replace hbr := hbr.grown hs24 (ne_lt lt3); replace hoR := own_other hoR hbj rfl hs24
     replace hoP := own_other hoP hbj rfl hs24; replace hDY := hDY.other hbj rfl rfl hs24; replace ho4 := own_other ho4 hbj rfl hs24; replace ho5 := own_other ho5 hbj rfl hs24
     refine L_nil (N_then (C_seq (C_reg rfl (Lmv rfl rfl (Lmv rfl rfl ?_)))))
     refine L_run (R_eqv (R_add64 rfl rfl (by first | omega | have h_ := acc_go (ss := ss) (e := e) (beginN_le hp).2 (by assumption); omega)) (v' := .int .i64 ((beginN p + (accN e (flatB (bsOf ss) e 16) (flatO (bsOf ss) e 16) (beginN p)).2 : Nat) : Int)) (congrArg _ (by omega))) rfl ?_
     refine Las rfl rfl (L_nil (N_then (C_seq (C_reg rfl (Lmv rfl rfl (L_nil (N_then ?_)))))))
     refine C_cond rfl (fun h6 => ?_) (fun h6 => ?_)
     ·refine C_seq (C_reg rfl ?_)
      refine L_run (R_field (r := 0) rfl fld54_0 rfl) rfl (L_run (R_load1 rfl scl51 (hbr.cell (i := 0) rfl)) rfl (Lmv rfl rfl ?_))
      refine L_buildSlice (pv := [(0, .slice A_5 (((feedN o bs ((accN e (flatB (bsOf ss) e 16) (flatO (bsOf ss) e 16) (beginN p)).1.1) ((accN e (flatB (bsOf ss) e 16) (flatO (bsOf ss) e 16) (beginN p)).1.2)).2.1).length) c_5)]) (cs := [.slice A_5 (((feedN o bs ((accN e (flatB (bsOf ss) e 16) (flatO (bsOf ss) e 16) (beginN p)).1.1) ((accN e (flatB (bsOf ss) e 16) (flatO (bsOf ss) e 16) (beginN p)).1.2)).2.1).length) c_5]) slc51 zer34 rfl rfl (by kernel_rfl) rfl ?_
      intro g6 w26 eg6 hb19 hs25 hz19
      have hap1 : ∀ k_, (Value.slice Ar R.length cr).ownBlock = some k_ → k_ ≠ g6 := fun k_ hk => by have h_ := (World.ownsRow.lt hoR k_ hk).2; omega
      replace hB := gb_tr hB hs25; replace hS := hS.gb hs25; replace hb1 := hb1.gb hs25; replace ho1 := own_gb ho1 hs25; replace ho2 := own_gb ho2 hs25; replace hlo1 := Nat.le_trans hlo1 hs25.size; replace hbr := hbr.gb hs25; replace hb18 := hb18.gb hs25; replace hoR := own_gb hoR hs25; replace hoP := own_gb hoP hs25
      replace hDY := hDY.gb hs25; replace ho4 := own_gb ho4 hs25; replace ho5 := own_gb ho5 hs25
      refine T_append (xs := R) (ys := [(⟨A_5, c_5, ((feedN o bs ((accN e (flatB (bsOf ss) e 16) (flatO (bsOf ss) e 16) (beginN p)).1.1) ((accN e (flatB (bsOf ss) e 16) (flatO (bsOf ss) e 16) (beginN p)).1.2)).2.1)⟩ : Bys)]) EncY slc51 rfl rfl hoR (Blk.sli (m := 0) hb19) (by first | omega | (simp; omega)) (by have := hB.size; omega) rfl ?_
      intro A_6 c_6 w27 ho6 hs26 hat1
      replace hB := gb_tro hB hoR hs26 (Nat.le_refl _); replace hS := hS.grown hs26 (fun k hk => .inr (Nat.le_trans (Nat.le_refl _) (World.ownsRow.lt hoR k hk).1)); replace hb1 := blk_own hb1 hoR rfl hs26; replace ho1 := ho1.kept hs26 (own_type_ne' ho1 hoR rfl); replace ho2 := ho2.kept hs26 (own_type_ne' ho2 hoR rfl)
      replace hlo1 := Nat.le_trans hlo1 hs26.size; replace hbr := blk_own hbr hoR rfl hs26; replace hb18 := blk_own hb18 hoR rfl hs26; replace hoP := hoP.kept hs26 (own_type_ne' hoP hoR rfl); replace hDY := hDY.otherO hoR rfl rfl hs26; replace ho4 := ho4.kept hs26 (own_type_ne' ho4 hoR rfl); replace ho5 := ho5.kept hs26 (own_type_ne' ho5 hoR rfl)
      refine L_run (R_field (r := 0) rfl fld54_0 rfl) rfl ?_
      refine L_st1 rfl rfl rfl sz51 hbr rfl ?_
      intro w28 hb20 hs27 hz20
      replace hB := gb_trg hB hs27 ge3; replace hS := hS.old hs27 ge3; replace hb1 := hb1.grown hs27 (ne_lt lt1); replace ho1 := own_other ho1 hbr rfl hs27; replace ho2 := own_other ho2 hbr rfl hs27; replace hlo1 := Nat.le_trans hlo1 hs27.size; replace hb18 := hb18.grown hs27 (ne_gt lt3); replace hoP := own_other hoP hbr rfl hs27
      replace hDY := hDY.other hbr rfl rfl hs27; replace ho4 := own_other ho4 hbr rfl hs27; replace ho5 := own_other ho5 hbr rfl hs27; replace ho6 := own_other ho6 hbr rfl hs27
      refine L_nil (N_then (C_seq (C_reg rfl (L_run (R_field (r := 1) rfl fld54_1 rfl) rfl (L_run (R_load1 rfl scl52 (hb20.cell (i := 1) rfl)) rfl (Lmv rfl rfl ?_))))))
      refine L_buildSlice (pv := [(0, .int .i64 ((beginN p : Nat) : Int))]) (cs := [.int .i64 ((beginN p : Nat) : Int)]) slc52 zer3 rfl rfl (by kernel_rfl) rfl ?_
      intro g7 w29 eg7 hb21 hs28 hz21
      have hap2 : ∀ k_, (Value.slice Ap Pl.length cp).ownBlock = some k_ → k_ ≠ g7 := fun k_ hk => by have h_ := (World.ownsRow.lt hoP k_ hk).2; omega
      replace hB := gb_tr hB hs28; replace hS := hS.gb hs28; replace hb1 := hb1.gb hs28; replace ho1 := own_gb ho1 hs28; replace ho2 := own_gb ho2 hs28; replace hlo1 := Nat.le_trans hlo1 hs28.size; replace hb20 := hb20.gb hs28; replace hb18 := hb18.gb hs28; replace hoP := own_gb hoP hs28; replace hDY := hDY.gb hs28
      replace ho4 := own_gb ho4 hs28; replace ho5 := own_gb ho5 hs28; replace ho6 := own_gb ho6 hs28
      refine T_append (xs := Pl) (ys := [((beginN p : Nat) : Int)]) EncZ slc52 rfl rfl hoP (Blk.sli (m := 0) hb21) (by first | omega | (simp; omega)) (by have := hB.size; omega) rfl ?_
      intro A_7 c_7 w30 ho7 hs29 hat2
      replace hB := gb_tro hB hoP hs29 (Nat.le_refl _); replace hS := hS.grown hs29 (fun k hk => .inr (Nat.le_trans (Nat.le_refl _) (World.ownsRow.lt hoP k hk).1)); replace hb1 := blk_own hb1 hoP rfl hs29; replace ho1 := ho1.kept hs29 (own_type_ne' ho1 hoP rfl); replace ho2 := ho2.kept hs29 (own_type_ne' ho2 hoP rfl)
      replace hlo1 := Nat.le_trans hlo1 hs29.size; replace hb20 := blk_own hb20 hoP rfl hs29; replace hb18 := blk_own hb18 hoP rfl hs29; replace hDY := hDY.otherO hoP rfl rfl hs29; replace ho4 := ho4.kept hs29 (own_type_ne' ho4 hoP rfl); replace ho5 := ho5.kept hs29 (own_type_ne' ho5 hoP rfl); replace ho6 := ho6.kept hs29 (own_type_ne' ho6 hoP rfl)
      refine L_run (R_field (r := 1) rfl fld54_1 rfl) rfl ?_
      refine L_st1 rfl rfl rfl sz52 hb20 rfl ?_
      intro w31 hb22 hs30 hz22
      replace hB := gb_trg hB hs30 ge3; replace hS := hS.old hs30 ge3; replace hb1 := hb1.grown hs30 (ne_lt lt1); replace ho1 := own_other ho1 hb20 rfl hs30; replace ho2 := own_other ho2 hb20 rfl hs30; replace hlo1 := Nat.le_trans hlo1 hs30.size; replace hb18 := hb18.grown hs30 (ne_gt lt3); replace hDY := hDY.other hb20 rfl rfl hs30
      replace ho4 := own_other ho4 hb20 rfl hs30; replace ho5 := own_other ho5 hb20 rfl hs30; replace ho6 := own_other ho6 hb20 rfl hs30; replace ho7 := own_other ho7 hb20 rfl hs30
      refine L_nil (N_then (C_reg rfl (Lmv rfl rfl (L_run (R_field (r := 2) rfl fld54_2 rfl) rfl ?_))))
      refine L_st1 rfl rfl rfl sz3 hb22 rfl ?_
      intro w32 hb23 hs31 hz23
      replace hB := gb_trg hB hs31 ge3; replace hS := hS.old hs31 ge3; replace hb1 := hb1.grown hs31 (ne_lt lt1); replace ho1 := own_other ho1 hb22 rfl hs31; replace ho2 := own_other ho2 hb22 rfl hs31; replace hlo1 := Nat.le_trans hlo1 hs31.size; replace hb18 := hb18.grown hs31 (ne_gt lt3); replace hDY := hDY.other hb22 rfl rfl hs31
      replace ho4 := own_other ho4 hb22 rfl hs31; replace ho5 := own_other ho5 hb22 rfl hs31; replace ho6 := own_other ho6 hb22 rfl hs31; replace ho7 := own_other ho7 hb22 rfl hs31
      refine L_nil (N_in (N_then ?_))
      have hgo := acc_go (beginN_le hp).2 h1
      have hbn := beginN_le hp
      have hif : (if o = true then f else beginN p) = beginN p := by have h_ : o = false := (by simpa using h3); rw [h_]; rfl
      have hfn := scn_fin (n := (accN e (flatB (bsOf ss) e 16) (flatO (bsOf ss) e 16) (beginN p)).2) (k := (accN e (flatB (bsOf ss) e 16) (flatO (bsOf ss) e 16) (beginN p)).1.1) (d := (accN e (flatB (bsOf ss) e 16) (flatO (bsOf ss) e 16) (beginN p)).1.2) hSX rfl (by omega) (by omega) (Decidable.not_not.1 h4) h6
      rw [hif] at hfn
      exact ⟨832 - (beginN p + (accN e (flatB (bsOf ss) e 16) (flatO (bsOf ss) e 16) (beginN p)).2), by omega, _, (beginN p + (accN e (flatB (bsOf ss) e 16) (flatO (bsOf ss) e 16) (beginN p)).2), (beginN p), ((feedN o bs ((accN e (flatB (bsOf ss) e 16) (flatO (bsOf ss) e 16) (beginN p)).1.1) ((accN e (flatB (bsOf ss) e 16) (flatO (bsOf ss) e 16) (beginN p)).1.2)).1.1), (feedN o bs ((accN e (flatB (bsOf ss) e 16) (flatO (bsOf ss) e 16) (beginN p)).1.1) ((accN e (flatB (bsOf ss) e 16) (flatO (bsOf ss) e 16) (beginN p)).1.2)).1.2, A_4, c_4, R ++ ([(⟨A_5, c_5, ((feedN o bs ((accN e (flatB (bsOf ss) e 16) (flatO (bsOf ss) e 16) (beginN p)).1.1) ((accN e (flatB (bsOf ss) e 16) (flatO (bsOf ss) e 16) (beginN p)).1.2)).2.1)⟩ : Bys)]), A_6, c_6, Pl ++ ([((beginN p : Nat) : Int)]), A_7, c_7, (beginN p + (accN e (flatB (bsOf ss) e 16) (flatO (bsOf ss) e 16) (beginN p)).2), (fu - 1), (acc ++ [((feedN o bs (accN e (flatB (bsOf ss) e 16) (flatO (bsOf ss) e 16) (beginN p)).1.1 (accN e (flatB (bsOf ss) e 16) (flatO (bsOf ss) e 16) (beginN p)).1.2).2.1, (beginN p), beginN p + (accN e (flatB (bsOf ss) e 16) (flatO (bsOf ss) e 16) (beginN p)).2)]), Ac_frg ⟨rfl, rfl, rfl, rfl, rfl, rfl, rfl, (agx rfl), (agx rfl), trivial⟩, hB, hS, hb1, ho1, ho2, hlo1, hb23, hb18, (own_lo ho4 ge7), (own_lo ho6 (Nat.le_refl _)), (own_lo ho7 (Nat.le_refl _)), (hDY.snoc (own_of ho5).2.2), hgo.2.1, feedN_len.1, (by simp only [List.length_append, List.length_cons, List.length_nil]; omega), (by omega), (hSR.snoc rfl (own_of ho5).1), hfn, rfl⟩
     ·refine C_skip (N_in (N_then ?_))
      have hgo := acc_go (beginN_le hp).2 h1
      have hbn := beginN_le hp
      have hif : (if o = true then f else beginN p) = beginN p := by have h_ : o = false := (by simpa using h3); rw [h_]; rfl
      have hop := scn_go (n := (accN e (flatB (bsOf ss) e 16) (flatO (bsOf ss) e 16) (beginN p)).2) (k := (accN e (flatB (bsOf ss) e 16) (flatO (bsOf ss) e 16) (beginN p)).1.1) (d := (accN e (flatB (bsOf ss) e 16) (flatO (bsOf ss) e 16) (beginN p)).1.2) hSX rfl (by omega) (by omega) (Decidable.not_not.1 h4) h6
      rw [hif] at hop
      exact ⟨832 - (beginN p + (accN e (flatB (bsOf ss) e 16) (flatO (bsOf ss) e 16) (beginN p)).2), by omega, _, (beginN p + (accN e (flatB (bsOf ss) e 16) (flatO (bsOf ss) e 16) (beginN p)).2), (beginN p), ((feedN o bs ((accN e (flatB (bsOf ss) e 16) (flatO (bsOf ss) e 16) (beginN p)).1.1) ((accN e (flatB (bsOf ss) e 16) (flatO (bsOf ss) e 16) (beginN p)).1.2)).1.1), (feedN o bs ((accN e (flatB (bsOf ss) e 16) (flatO (bsOf ss) e 16) (beginN p)).1.1) ((accN e (flatB (bsOf ss) e 16) (flatO (bsOf ss) e 16) (beginN p)).1.2)).1.2, A_4, c_4, R, Ar, cr, Pl, Ap, cp, en, (fu - 1), acc, Ac_frg ⟨rfl, rfl, rfl, rfl, rfl, rfl, rfl, (agx rfl), (agx rfl), trivial⟩, hB, hS, hb1, ho1, ho2, hlo1, hbr, hb18, (own_lo ho4 ge7), (own_lo hoR (Nat.le_refl _)), (own_lo hoP (Nat.le_refl _)), hDY, hgo.2.1, feedN_len.1, (by omega), (by omega), hSR, hop, rfl⟩
   ·refine C_skip (N_then (C_seq (C_reg rfl ?_)))
    refine L_run (R_loadA (vs := [.bool o, .slice Aj bs.length cj]) rfl agg83 (At.pre (hbj.at_ 0) rfl) rfl) rfl (L_run (R_loadA (vs := [.int .i64 (((accN e (flatB (bsOf ss) e 16) (flatO (bsOf ss) e 16) (beginN p)).1.1 : Nat) : Int), .int .u32 E1, .slice A_3 (((accN e (flatB (bsOf ss) e 16) (flatO (bsOf ss) e 16) (beginN p)).1.2).length) c_3]) rfl agg86 (At.pre (hb7.at_ 0) rfl) rfl) rfl ?_)
    have ge11 : w.heap.size ≤ w11.heap.size := hB.size
    refine L_call rfl cb42 (feed15_ok (o := o) (bs := bs) (d := (accN e (flatB (bsOf ss) e 16) (flatO (bsOf ss) e 16) (beginN p)).1.2) (k := ((accN e (flatB (bsOf ss) e 16) (flatO (bsOf ss) e 16) (beginN p)).1.1)) (own_of ho).2.2 (own_of ho3).2.2 (by omega) (by have h_ := acc_go (ss := ss) (e := e) (beginN_le hp).2 (by assumption); omega)) rfl ?_
    rintro _ w33 ⟨hs32, A_8, c_8, A_9, c_9, rfl, ho8, ho9⟩
    replace hB := gb_tr hB hs32; replace hS := hS.gb hs32; replace hb1 := hb1.gb hs32; replace ho1 := own_gb ho1 hs32; replace ho2 := own_gb ho2 hs32; replace hlo1 := Nat.le_trans hlo1 hs32.size; replace hbr := hbr.gb hs32; replace hbj := hbj.gb hs32; replace hoR := own_gb hoR hs32; replace hoP := own_gb hoP hs32
    replace hDY := hDY.gb hs32
    have hlo4 : w11.heap.size ≤ w33.heap.size := hs32.size
    refine Lmv rfl rfl (L_run (R_extract rfl rfl) rfl (L_run (R_extract rfl rfl) rfl (L_run (R_extract rfl rfl) rfl (L_run (R_extract rfl rfl) rfl (L_alloc (cs := [.bool false, .slice none 0 0]) zer83 rfl rfl ?_)))))
    intro g8 w34 eg8 hb24 hs33 hz24
    have ge12 : w.heap.size ≤ g8 := eg_ge hB eg8
    have lt21 : g1 < g8 := lt_of_eg hb1.lt eg8
    have lt22 : g2 < g8 := lt_of_eg hbr.lt eg8
    have lt23 : g3 < g8 := lt_of_eg hbj.lt eg8
    replace hB := gb_tr hB hs33; replace hS := hS.gb hs33; replace hb1 := hb1.gb hs33; replace ho1 := own_gb ho1 hs33; replace ho2 := own_gb ho2 hs33; replace hlo1 := Nat.le_trans hlo1 hs33.size; replace hbr := hbr.gb hs33; replace hbj := hbj.gb hs33; replace hoR := own_gb hoR hs33; replace hoP := own_gb hoP hs33
    replace hDY := hDY.gb hs33; replace ho8 := own_gb ho8 hs33; replace ho9 := own_gb ho9 hs33
    refine L_stA (vs := [.bool ((feedN o bs ((accN e (flatB (bsOf ss) e 16) (flatO (bsOf ss) e 16) (beginN p)).1.1) ((accN e (flatB (bsOf ss) e 16) (flatO (bsOf ss) e 16) (beginN p)).1.2)).1.1), .slice A_8 (((feedN o bs ((accN e (flatB (bsOf ss) e 16) (flatO (bsOf ss) e 16) (beginN p)).1.1) ((accN e (flatB (bsOf ss) e 16) (flatO (bsOf ss) e 16) (beginN p)).1.2)).1.2).length) c_8]) rfl rfl rfl sz83 rfl hb24 rfl ?_
    intro w35 hb25 hs34 hz25
    replace hB := gb_trg hB hs34 ge12; replace hS := hS.old hs34 ge12; replace hb1 := hb1.grown hs34 (ne_lt lt21); replace ho1 := own_other ho1 hb24 rfl hs34; replace ho2 := own_other ho2 hb24 rfl hs34; replace hlo1 := Nat.le_trans hlo1 hs34.size; replace hbr := hbr.grown hs34 (ne_lt lt22); replace hbj := hbj.grown hs34 (ne_lt lt23)
    replace hoR := own_other hoR hb24 rfl hs34; replace hoP := own_other hoP hb24 rfl hs34; replace hDY := hDY.other hb24 rfl rfl hs34; replace ho8 := own_other ho8 hb24 rfl hs34; replace ho9 := own_other ho9 hb24 rfl hs34
    refine Las rfl rfl (Las rfl rfl (Las rfl rfl (L_nil (N_then (C_seq (C_seq (C_reg rfl (Lmv rfl rfl (L_run (R_neq rfl rfl) rfl (L_nil (N_then (C_if rfl (fun h7 => ?_) (fun h7 => ?_)))))))))))))
    ·refine C_exit (X_then (X_miss rfl (X_then (X_hit (N_then (C_seq (C_reg rfl ?_)))))))
     refine L_run (R_field (r := 3) rfl fld54_3 rfl) rfl ?_
     refine L_st1 rfl rfl rfl sz3 hbr rfl ?_
     intro w36 hb26 hs35 hz26
     replace hB := gb_trg hB hs35 ge3; replace hS := hS.old hs35 ge3; replace hb1 := hb1.grown hs35 (ne_lt lt1); replace hoR := own_other hoR hbr rfl hs35; replace hoP := own_other hoP hbr rfl hs35; replace hDY := hDY.other hbr rfl rfl hs35
     refine L_nil (N_then (C_seq (C_seq (C_reg rfl (Lmv rfl rfl (L_run (R_field (r := 2) rfl fld54_2 rfl) rfl (L_run (R_load1 rfl scl3 (hb26.cell (i := 2) rfl)) rfl ?_)))))))
     refine L_call rfl cb43 (rest19 (ss := ss) (n := en) hS (by omega)) rfl ?_
     rintro _ w37 ⟨hs36, rfl⟩
     replace hB := gb_tr hB hs36; replace hb1 := hb1.gb hs36; replace hb26 := hb26.gb hs36; replace hoR := own_gb hoR hs36; replace hoP := own_gb hoP hs36; replace hDY := hDY.gb hs36
     refine L_nil (N_then (C_if rfl (fun h8 => ?_) (fun h8 => ?_)))
     ·refine C_reg rfl ?_
      refine L_run (R_field (r := 3) rfl fld54_3 rfl) rfl ?_
      refine L_st1 rfl rfl rfl sz3 hb26 rfl ?_
      intro w38 hb27 hs37 hz27
      replace hB := gb_trg hB hs37 ge3; replace hb1 := hb1.grown hs37 (ne_lt lt1); replace hoR := own_other hoR hb26 rfl hs37; replace hoP := own_other hoP hb26 rfl hs37; replace hDY := hDY.other hb26 rfl rfl hs37
      refine L_nil (N_then (C_seq (C_reg rfl (L_run (R_loadA (vs := [.slice Ar R.length cr, .slice Ap Pl.length cp, .int .i64 ((en : Nat) : Int), .int .i64 1]) rfl agg54 (At.pre (hb27.at_ 0) rfl) rfl) rfl ?_))))
      refine L_stA (vs := [.slice Ar R.length cr, .slice Ap Pl.length cp, .int .i64 ((en : Nat) : Int), .int .i64 1]) rfl rfl rfl sz54 rfl hb1 rfl ?_
      intro w39 hb28 hs38 hz28
      replace hB := gb_trg hB hs38 ge1; replace hoR := own_other hoR hb1 rfl hs38; replace hoP := own_other hoP hb1 rfl hs38; replace hDY := hDY.other hb1 rfl rfl hs38
      refine L_nil (N_then (C_ret ?_))
      refine retC (vs := [.slice Ar R.length cr, .slice Ap Pl.length cp, .int .i64 ((en : Nat) : Int), .int .i64 1]) Tryd.results19 rfl agg54 (At.pre (hb28.at_ 0) rfl) rfl  ?_
      have hsc_ : scn ss e = acc := scn_bad (k := (accN e (flatB (bsOf ss) e 16) (flatO (bsOf ss) e 16) (beginN p)).1.1) (d := (accN e (flatB (bsOf ss) e 16) (flatO (bsOf ss) e 16) (beginN p)).1.2) hSX rfl h7
      exact ⟨hB, R, Pl, _, _, _, _, en, by rw [if_pos h8], (own_lo hoR (Nat.le_refl _)), hDY, (own_lo hoP (Nat.le_refl _)), by rw [hsc_]; exact hSR, by omega, by omega⟩
     ·refine C_skip (N_then (C_seq (C_reg rfl ?_)))
      refine L_run (R_loadA (vs := [.slice Ar R.length cr, .slice Ap Pl.length cp, .int .i64 ((en : Nat) : Int), .int .i64 2]) rfl agg54 (At.pre (hb26.at_ 0) rfl) rfl) rfl ?_
      refine L_stA (vs := [.slice Ar R.length cr, .slice Ap Pl.length cp, .int .i64 ((en : Nat) : Int), .int .i64 2]) rfl rfl rfl sz54 rfl hb1 rfl ?_
      intro w40 hb29 hs39 hz29
      replace hB := gb_trg hB hs39 ge1; replace hoR := own_other hoR hb1 rfl hs39; replace hoP := own_other hoP hb1 rfl hs39; replace hDY := hDY.other hb1 rfl rfl hs39
      refine L_nil (N_then (C_ret ?_))
      refine retC (vs := [.slice Ar R.length cr, .slice Ap Pl.length cp, .int .i64 ((en : Nat) : Int), .int .i64 2]) Tryd.results19 rfl agg54 (At.pre (hb29.at_ 0) rfl) rfl  ?_
      have hsc_ : scn ss e = acc := scn_bad (k := (accN e (flatB (bsOf ss) e 16) (flatO (bsOf ss) e 16) (beginN p)).1.1) (d := (accN e (flatB (bsOf ss) e 16) (flatO (bsOf ss) e 16) (beginN p)).1.2) hSX rfl h7
      exact ⟨hB, R, Pl, _, _, _, _, en, by rw [if_neg h8], (own_lo hoR (Nat.le_refl _)), hDY, (own_lo hoP (Nat.le_refl _)), by rw [hsc_]; exact hSR, by omega, by omega⟩
    ·refine C_skip (N_then (C_seq (C_reg rfl ?_)))
     refine L_run (R_loadA (vs := [.bool ((feedN o bs ((accN e (flatB (bsOf ss) e 16) (flatO (bsOf ss) e 16) (beginN p)).1.1) ((accN e (flatB (bsOf ss) e 16) (flatO (bsOf ss) e 16) (beginN p)).1.2)).1.1), .slice A_8 (((feedN o bs ((accN e (flatB (bsOf ss) e 16) (flatO (bsOf ss) e 16) (beginN p)).1.1) ((accN e (flatB (bsOf ss) e 16) (flatO (bsOf ss) e 16) (beginN p)).1.2)).1.2).length) c_8]) rfl agg83 (At.pre (hb25.at_ 0) rfl) rfl) rfl ?_
     refine L_stA (vs := [.bool ((feedN o bs ((accN e (flatB (bsOf ss) e 16) (flatO (bsOf ss) e 16) (beginN p)).1.1) ((accN e (flatB (bsOf ss) e 16) (flatO (bsOf ss) e 16) (beginN p)).1.2)).1.1), .slice A_8 (((feedN o bs ((accN e (flatB (bsOf ss) e 16) (flatO (bsOf ss) e 16) (beginN p)).1.1) ((accN e (flatB (bsOf ss) e 16) (flatO (bsOf ss) e 16) (beginN p)).1.2)).1.2).length) c_8]) rfl rfl rfl sz83 rfl hbj rfl ?_
     intro w41 hb30 hs40 hz30
     replace hB := gb_trg hB hs40 ge4; replace hS := hS.old hs40 ge4; replace hb1 := hb1.grown hs40 (ne_lt lt2); replace ho1 := own_other ho1 hbj rfl hs40; replace ho2 := own_other ho2 hbj rfl hs40; replace hlo1 := Nat.le_trans hlo1 hs40.size; replace hbr := hbr.grown hs40 (ne_lt lt3); replace hoR := own_other hoR hbj rfl hs40
     replace hoP := own_other hoP hbj rfl hs40; replace hDY := hDY.other hbj rfl rfl hs40; replace ho8 := own_other ho8 hbj rfl hs40; replace ho9 := own_other ho9 hbj rfl hs40
     refine L_nil (N_then (C_seq (C_reg rfl (Lmv rfl rfl (Lmv rfl rfl ?_)))))
     refine L_run (R_eqv (R_add64 rfl rfl (by first | omega | have h_ := acc_go (ss := ss) (e := e) (beginN_le hp).2 (by assumption); omega)) (v' := .int .i64 ((beginN p + (accN e (flatB (bsOf ss) e 16) (flatO (bsOf ss) e 16) (beginN p)).2 : Nat) : Int)) (congrArg _ (by omega))) rfl ?_
     refine Las rfl rfl (L_nil (N_then (C_seq (C_reg rfl (Lmv rfl rfl (L_nil (N_then ?_)))))))
     refine C_cond rfl (fun h9 => ?_) (fun h9 => ?_)
     ·refine C_seq (C_reg rfl ?_)
      refine L_run (R_field (r := 0) rfl fld54_0 rfl) rfl (L_run (R_load1 rfl scl51 (hbr.cell (i := 0) rfl)) rfl (Lmv rfl rfl ?_))
      refine L_buildSlice (pv := [(0, .slice A_9 (((feedN o bs ((accN e (flatB (bsOf ss) e 16) (flatO (bsOf ss) e 16) (beginN p)).1.1) ((accN e (flatB (bsOf ss) e 16) (flatO (bsOf ss) e 16) (beginN p)).1.2)).2.1).length) c_9)]) (cs := [.slice A_9 (((feedN o bs ((accN e (flatB (bsOf ss) e 16) (flatO (bsOf ss) e 16) (beginN p)).1.1) ((accN e (flatB (bsOf ss) e 16) (flatO (bsOf ss) e 16) (beginN p)).1.2)).2.1).length) c_9]) slc51 zer34 rfl rfl (by kernel_rfl) rfl ?_
      intro g9 w42 eg9 hb31 hs41 hz31
      have hap3 : ∀ k_, (Value.slice Ar R.length cr).ownBlock = some k_ → k_ ≠ g9 := fun k_ hk => by have h_ := (World.ownsRow.lt hoR k_ hk).2; omega
      replace hB := gb_tr hB hs41; replace hS := hS.gb hs41; replace hb1 := hb1.gb hs41; replace ho1 := own_gb ho1 hs41; replace ho2 := own_gb ho2 hs41; replace hlo1 := Nat.le_trans hlo1 hs41.size; replace hbr := hbr.gb hs41; replace hb30 := hb30.gb hs41; replace hoR := own_gb hoR hs41; replace hoP := own_gb hoP hs41
      replace hDY := hDY.gb hs41; replace ho8 := own_gb ho8 hs41; replace ho9 := own_gb ho9 hs41
      refine T_append (xs := R) (ys := [(⟨A_9, c_9, ((feedN o bs ((accN e (flatB (bsOf ss) e 16) (flatO (bsOf ss) e 16) (beginN p)).1.1) ((accN e (flatB (bsOf ss) e 16) (flatO (bsOf ss) e 16) (beginN p)).1.2)).2.1)⟩ : Bys)]) EncY slc51 rfl rfl hoR (Blk.sli (m := 0) hb31) (by first | omega | (simp; omega)) (by have := hB.size; omega) rfl ?_
      intro A_10 c_10 w43 ho10 hs42 hat3
      replace hB := gb_tro hB hoR hs42 (Nat.le_refl _); replace hS := hS.grown hs42 (fun k hk => .inr (Nat.le_trans (Nat.le_refl _) (World.ownsRow.lt hoR k hk).1)); replace hb1 := blk_own hb1 hoR rfl hs42; replace ho1 := ho1.kept hs42 (own_type_ne' ho1 hoR rfl); replace ho2 := ho2.kept hs42 (own_type_ne' ho2 hoR rfl)
      replace hlo1 := Nat.le_trans hlo1 hs42.size; replace hbr := blk_own hbr hoR rfl hs42; replace hb30 := blk_own hb30 hoR rfl hs42; replace hoP := hoP.kept hs42 (own_type_ne' hoP hoR rfl); replace hDY := hDY.otherO hoR rfl rfl hs42; replace ho8 := ho8.kept hs42 (own_type_ne' ho8 hoR rfl); replace ho9 := ho9.kept hs42 (own_type_ne' ho9 hoR rfl)
      refine L_run (R_field (r := 0) rfl fld54_0 rfl) rfl ?_
      refine L_st1 rfl rfl rfl sz51 hbr rfl ?_
      intro w44 hb32 hs43 hz32
      replace hB := gb_trg hB hs43 ge3; replace hS := hS.old hs43 ge3; replace hb1 := hb1.grown hs43 (ne_lt lt1); replace ho1 := own_other ho1 hbr rfl hs43; replace ho2 := own_other ho2 hbr rfl hs43; replace hlo1 := Nat.le_trans hlo1 hs43.size; replace hb30 := hb30.grown hs43 (ne_gt lt3); replace hoP := own_other hoP hbr rfl hs43
      replace hDY := hDY.other hbr rfl rfl hs43; replace ho8 := own_other ho8 hbr rfl hs43; replace ho9 := own_other ho9 hbr rfl hs43; replace ho10 := own_other ho10 hbr rfl hs43
      refine L_nil (N_then (C_seq (C_reg rfl (L_run (R_field (r := 1) rfl fld54_1 rfl) rfl (L_run (R_load1 rfl scl52 (hb32.cell (i := 1) rfl)) rfl (Lmv rfl rfl ?_))))))
      refine L_buildSlice (pv := [(0, .int .i64 (f : Int))]) (cs := [.int .i64 (f : Int)]) slc52 zer3 rfl rfl (by kernel_rfl) rfl ?_
      intro g10 w45 eg10 hb33 hs44 hz33
      have hap4 : ∀ k_, (Value.slice Ap Pl.length cp).ownBlock = some k_ → k_ ≠ g10 := fun k_ hk => by have h_ := (World.ownsRow.lt hoP k_ hk).2; omega
      replace hB := gb_tr hB hs44; replace hS := hS.gb hs44; replace hb1 := hb1.gb hs44; replace ho1 := own_gb ho1 hs44; replace ho2 := own_gb ho2 hs44; replace hlo1 := Nat.le_trans hlo1 hs44.size; replace hb32 := hb32.gb hs44; replace hb30 := hb30.gb hs44; replace hoP := own_gb hoP hs44; replace hDY := hDY.gb hs44
      replace ho8 := own_gb ho8 hs44; replace ho9 := own_gb ho9 hs44; replace ho10 := own_gb ho10 hs44
      refine T_append (xs := Pl) (ys := [(f : Int)]) EncZ slc52 rfl rfl hoP (Blk.sli (m := 0) hb33) (by first | omega | (simp; omega)) (by have := hB.size; omega) rfl ?_
      intro A_11 c_11 w46 ho11 hs45 hat4
      replace hB := gb_tro hB hoP hs45 (Nat.le_refl _); replace hS := hS.grown hs45 (fun k hk => .inr (Nat.le_trans (Nat.le_refl _) (World.ownsRow.lt hoP k hk).1)); replace hb1 := blk_own hb1 hoP rfl hs45; replace ho1 := ho1.kept hs45 (own_type_ne' ho1 hoP rfl); replace ho2 := ho2.kept hs45 (own_type_ne' ho2 hoP rfl)
      replace hlo1 := Nat.le_trans hlo1 hs45.size; replace hb32 := blk_own hb32 hoP rfl hs45; replace hb30 := blk_own hb30 hoP rfl hs45; replace hDY := hDY.otherO hoP rfl rfl hs45; replace ho8 := ho8.kept hs45 (own_type_ne' ho8 hoP rfl); replace ho9 := ho9.kept hs45 (own_type_ne' ho9 hoP rfl); replace ho10 := ho10.kept hs45 (own_type_ne' ho10 hoP rfl)
      refine L_run (R_field (r := 1) rfl fld54_1 rfl) rfl ?_
      refine L_st1 rfl rfl rfl sz52 hb32 rfl ?_
      intro w47 hb34 hs46 hz34
      replace hB := gb_trg hB hs46 ge3; replace hS := hS.old hs46 ge3; replace hb1 := hb1.grown hs46 (ne_lt lt1); replace ho1 := own_other ho1 hb32 rfl hs46; replace ho2 := own_other ho2 hb32 rfl hs46; replace hlo1 := Nat.le_trans hlo1 hs46.size; replace hb30 := hb30.grown hs46 (ne_gt lt3); replace hDY := hDY.other hb32 rfl rfl hs46
      replace ho8 := own_other ho8 hb32 rfl hs46; replace ho9 := own_other ho9 hb32 rfl hs46; replace ho10 := own_other ho10 hb32 rfl hs46; replace ho11 := own_other ho11 hb32 rfl hs46
      refine L_nil (N_then (C_reg rfl (Lmv rfl rfl (L_run (R_field (r := 2) rfl fld54_2 rfl) rfl ?_))))
      refine L_st1 rfl rfl rfl sz3 hb34 rfl ?_
      intro w48 hb35 hs47 hz35
      replace hB := gb_trg hB hs47 ge3; replace hS := hS.old hs47 ge3; replace hb1 := hb1.grown hs47 (ne_lt lt1); replace ho1 := own_other ho1 hb34 rfl hs47; replace ho2 := own_other ho2 hb34 rfl hs47; replace hlo1 := Nat.le_trans hlo1 hs47.size; replace hb30 := hb30.grown hs47 (ne_gt lt3); replace hDY := hDY.other hb34 rfl rfl hs47
      replace ho8 := own_other ho8 hb34 rfl hs47; replace ho9 := own_other ho9 hb34 rfl hs47; replace ho10 := own_other ho10 hb34 rfl hs47; replace ho11 := own_other ho11 hb34 rfl hs47
      refine L_nil (N_in (N_then ?_))
      have hgo := acc_go (beginN_le hp).2 h1
      have hbn := beginN_le hp
      have hif : (if o = true then f else beginN p) = f := by have h_ : o = true := (by simpa using h3); rw [h_]; rfl
      have hfn := scn_fin (n := (accN e (flatB (bsOf ss) e 16) (flatO (bsOf ss) e 16) (beginN p)).2) (k := (accN e (flatB (bsOf ss) e 16) (flatO (bsOf ss) e 16) (beginN p)).1.1) (d := (accN e (flatB (bsOf ss) e 16) (flatO (bsOf ss) e 16) (beginN p)).1.2) hSX rfl (by omega) (by omega) (Decidable.not_not.1 h7) h9
      rw [hif] at hfn
      exact ⟨832 - (beginN p + (accN e (flatB (bsOf ss) e 16) (flatO (bsOf ss) e 16) (beginN p)).2), by omega, _, (beginN p + (accN e (flatB (bsOf ss) e 16) (flatO (bsOf ss) e 16) (beginN p)).2), f, ((feedN o bs ((accN e (flatB (bsOf ss) e 16) (flatO (bsOf ss) e 16) (beginN p)).1.1) ((accN e (flatB (bsOf ss) e 16) (flatO (bsOf ss) e 16) (beginN p)).1.2)).1.1), (feedN o bs ((accN e (flatB (bsOf ss) e 16) (flatO (bsOf ss) e 16) (beginN p)).1.1) ((accN e (flatB (bsOf ss) e 16) (flatO (bsOf ss) e 16) (beginN p)).1.2)).1.2, A_8, c_8, R ++ ([(⟨A_9, c_9, ((feedN o bs ((accN e (flatB (bsOf ss) e 16) (flatO (bsOf ss) e 16) (beginN p)).1.1) ((accN e (flatB (bsOf ss) e 16) (flatO (bsOf ss) e 16) (beginN p)).1.2)).2.1)⟩ : Bys)]), A_10, c_10, Pl ++ ([(f : Int)]), A_11, c_11, (beginN p + (accN e (flatB (bsOf ss) e 16) (flatO (bsOf ss) e 16) (beginN p)).2), (fu - 1), (acc ++ [((feedN o bs (accN e (flatB (bsOf ss) e 16) (flatO (bsOf ss) e 16) (beginN p)).1.1 (accN e (flatB (bsOf ss) e 16) (flatO (bsOf ss) e 16) (beginN p)).1.2).2.1, f, beginN p + (accN e (flatB (bsOf ss) e 16) (flatO (bsOf ss) e 16) (beginN p)).2)]), Ac_frg ⟨rfl, rfl, rfl, rfl, rfl, rfl, rfl, (agx rfl), rfl, trivial⟩, hB, hS, hb1, ho1, ho2, hlo1, hb35, hb30, (own_lo ho8 ge11), (own_lo ho10 (Nat.le_refl _)), (own_lo ho11 (Nat.le_refl _)), (hDY.snoc (own_of ho9).2.2), hgo.2.1, feedN_len.1, (by simp only [List.length_append, List.length_cons, List.length_nil]; omega), (by omega), (hSR.snoc rfl (own_of ho9).1), hfn, rfl⟩
     ·refine C_skip (N_in (N_then ?_))
      have hgo := acc_go (beginN_le hp).2 h1
      have hbn := beginN_le hp
      have hif : (if o = true then f else beginN p) = f := by have h_ : o = true := (by simpa using h3); rw [h_]; rfl
      have hop := scn_go (n := (accN e (flatB (bsOf ss) e 16) (flatO (bsOf ss) e 16) (beginN p)).2) (k := (accN e (flatB (bsOf ss) e 16) (flatO (bsOf ss) e 16) (beginN p)).1.1) (d := (accN e (flatB (bsOf ss) e 16) (flatO (bsOf ss) e 16) (beginN p)).1.2) hSX rfl (by omega) (by omega) (Decidable.not_not.1 h7) h9
      rw [hif] at hop
      exact ⟨832 - (beginN p + (accN e (flatB (bsOf ss) e 16) (flatO (bsOf ss) e 16) (beginN p)).2), by omega, _, (beginN p + (accN e (flatB (bsOf ss) e 16) (flatO (bsOf ss) e 16) (beginN p)).2), f, ((feedN o bs ((accN e (flatB (bsOf ss) e 16) (flatO (bsOf ss) e 16) (beginN p)).1.1) ((accN e (flatB (bsOf ss) e 16) (flatO (bsOf ss) e 16) (beginN p)).1.2)).1.1), (feedN o bs ((accN e (flatB (bsOf ss) e 16) (flatO (bsOf ss) e 16) (beginN p)).1.1) ((accN e (flatB (bsOf ss) e 16) (flatO (bsOf ss) e 16) (beginN p)).1.2)).1.2, A_8, c_8, R, Ar, cr, Pl, Ap, cp, en, (fu - 1), acc, Ac_frg ⟨rfl, rfl, rfl, rfl, rfl, rfl, rfl, (agx rfl), rfl, trivial⟩, hB, hS, hb1, ho1, ho2, hlo1, hbr, hb30, (own_lo ho8 ge11), (own_lo hoR (Nat.le_refl _)), (own_lo hoP (Nat.le_refl _)), hDY, hgo.2.1, feedN_len.1, (by omega), (by omega), hSR, hop, rfl⟩
end Go.Proofs.YtkjgjejkfjhcjaaDoor
namespace Go.Proofs.YtkjgjejkfjhcjaaDoor
open Go.RowKit Gw Pl
set_option linter.unusedVariables false
set_option linter.unusedSimpArgs false
theorem cb89 : callB Tryd.prog 89 = true := by kernel_rfl
theorem cb90 : callB Tryd.prog 90 = true := by kernel_rfl
theorem cb91 : callB Tryd.prog 91 = true := by kernel_rfl
theorem cb92 : callB Tryd.prog 92 = true := by kernel_rfl
theorem cb93 : callB Tryd.prog 93 = true := by kernel_rfl
theorem cb94 : callB Tryd.prog 94 = true := by kernel_rfl
theorem fld119_0 : fldB Tryd.prog 119 0 0 = true := by kernel_rfl
theorem fld119_1 : fldB Tryd.prog 119 1 1 = true := by kernel_rfl
theorem fld119_2 : fldB Tryd.prog 119 2 2 = true := by kernel_rfl
theorem fld119_3 : fldB Tryd.prog 119 3 3 = true := by kernel_rfl
theorem fld119_4 : fldB Tryd.prog 119 4 4 = true := by kernel_rfl
theorem fld119_5 : fldB Tryd.prog 119 5 5 = true := by kernel_rfl
theorem fld119_6 : fldB Tryd.prog 119 6 6 = true := by kernel_rfl
theorem fld99_0 : fldB Tryd.prog 99 0 0 = true := by kernel_rfl
theorem fld99_1 : fldB Tryd.prog 99 1 1 = true := by kernel_rfl
theorem fld99_2 : fldB Tryd.prog 99 2 2 = true := by kernel_rfl
theorem scl116 : sclB Tryd.prog 116 = true := by kernel_rfl
theorem scl79 : sclB Tryd.prog 79 = true := by kernel_rfl
theorem begin_room (q : Nat) : 11 ≤ 52 - beginN q % 52 := by
  unfold beginN
  split <;> omega
theorem idle_ok {w : World} {g c n : Nat} {A : Option Addr} {o : Bool} (hb : Blk w g 130 [.bool o, .slice A n c]) :
    Runs Tryd.prog 93 #[.pointer (some ⟨g, 0, none⟩)] w (fun v w' => w.grownBy w' none ∧ v = .bool (!o)) := by
 have hB := gb_refl w none
 refine enter Tryd.func93 Tryd.ntmps93 rfl rfl ?_
 refine C_seq (C_reg rfl ?_)
 refine Las rfl rfl (L_nil (N_then (C_seq (C_reg rfl (Lmv rfl rfl (L_run (R_eqlpPN rfl rfl Tryd.underlying116) rfl (Lmv rfl rfl (L_yes rfl rfl rfl rfl (Lmv rfl rfl (L_yes rfl rfl rfl rfl (L_run (R_nilck rfl) rfl (L_yes rfl rfl rfl rfl (L_run (R_field (r := 0) rfl fld130_0 rfl) rfl (L_yes rfl rfl rfl rfl (L_run (R_load1 rfl scl4 (hb.cell (i := 0) rfl)) rfl (L_yes rfl rfl rfl rfl (L_run (R_not rfl) rfl ?_)))))))))))))))))
 refine L_run (R_pickF rfl rfl rfl) rfl ?_
 refine Las rfl rfl (L_nil (N_then (C_ret ?_)))
 refine ret1 Tryd.results93 rfl ?_
 exact ⟨hB, rfl⟩
set_option maxHeartbeats 4000000 in
theorem step_ok {w w1 : World} {gs gj gB gO gr e : Nat} {body : List UInt8} {oks : List Bool} {X : List (List UInt8 × Nat × Nat)} {p : Nat} {f : Nat} {o : Bool} {bs : List UInt8} {Aj : Option Addr} {cj : Nat} {R : List Bys} {Ar : Option Addr} {cr : Nat} {Pl : List Int} {Ap : Option Addr} {cp : Nat} {en : Nat} {fu : Nat} {acc : List (List UInt8 × Nat × Nat)} (hB : w.grownBy w1 none) (hT : Tbw w) (hbl : body.length = 832) (hol : oks.length = 16) (gs0 : w.heap.size ≤ gs) (gj0 : w.heap.size ≤ gj) (gB0 : w.heap.size ≤ gB) (gO0 : w.heap.size ≤ gO) (gr0 : w.heap.size ≤ gr) (hbs : Blk w1 gs 119 [.int .u32 ((e % 4294967296 : Nat) : Int), .slice (some ⟨gB, 0, none⟩) body.length 832, .slice (some ⟨gO, 0, none⟩) oks.length 16, .pointer (some ⟨gj, 0, none⟩), .int .i64 (p : Int), .int .i64 (f : Int), .slice Ar R.length cr, .slice Ap Pl.length cp, .int .i64 (en : Int), .int .i64 0]) (hbj : Blk w1 gj 130 [.bool o, .slice Aj bs.length cj]) (hbB : Blk w1 gB 5 (fl encB body)) (hbO : Blk w1 gO 4 (fl encO oks)) (ho : World.ownsRow w1 w.heap.size 5 1 (.slice Aj bs.length cj) bs.length (fl encB bs)) (hoR : World.ownsRow w1 w.heap.size 34 1 (.slice Ar R.length cr) R.length (fl encY R)) (hoP : World.ownsRow w1 w.heap.size 3 1 (.slice Ap Pl.length cp) Pl.length (fl encZ Pl)) (hDY : DeepY 5 w1 R) (hbr4 : Blk w1 gr 99 [.slice none 0 0, .slice none 0 0, .int .i64 0, .int .i64 0]) (hp : p ≤ 832) (hbs_ : bs.length ≤ 512) (hRl : R.length ≤ p ∧ Pl.length ≤ p ∧ en ≤ 832) (hfu : 832 < p + fu) (hSR : ScR acc R Pl en) (hSX : acc ++ scanL e body oks fu p f o bs = X) :
    Runs Tryd.prog 72 #[.pointer (some ⟨gs, 0, none⟩)] w1 (fun v w' => w.grownBy w' none ∧ ((∃ (p' f' : Nat), (v = .bool false ∧ X = acc ∧ Blk w' gs 119 [.int .u32 ((e % 4294967296 : Nat) : Int), .slice (some ⟨gB, 0, none⟩) body.length 832, .slice (some ⟨gO, 0, none⟩) oks.length 16, .pointer (some ⟨gj, 0, none⟩), .int .i64 ((p' : Nat) : Int), .int .i64 ((f' : Nat) : Int), .slice Ar R.length cr, .slice Ap Pl.length cp, .int .i64 (en : Int), .int .i64 0] ∧ World.ownsRow w' w.heap.size 34 1 (.slice Ar R.length cr) R.length (fl encY R) ∧ World.ownsRow w' w.heap.size 3 1 (.slice Ap Pl.length cp) Pl.length (fl encZ Pl) ∧ DeepY 5 w' R ∧ Blk w' gr 99 [.slice none 0 0, .slice none 0 0, .int .i64 0, .int .i64 0])) ∨ (∃ (p' : Nat) (f' : Nat) (o' : Bool) (bs' : List UInt8) (Aj' : Option Addr) (cj' : Nat) (R' : List Bys) (Ar' : Option Addr) (cr' : Nat) (Pl' : List Int) (Ap' : Option Addr) (cp' : Nat) (en' : Nat) (fu' : Nat) (acc' : List (List UInt8 × Nat × Nat)), (v = .bool true ∧ p < p' ∧ Blk w' gs 119 [.int .u32 ((e % 4294967296 : Nat) : Int), .slice (some ⟨gB, 0, none⟩) body.length 832, .slice (some ⟨gO, 0, none⟩) oks.length 16, .pointer (some ⟨gj, 0, none⟩), .int .i64 ((p' : Nat) : Int), .int .i64 ((f' : Nat) : Int), .slice Ar' R'.length cr', .slice Ap' Pl'.length cp', .int .i64 ((en' : Nat) : Int), .int .i64 0] ∧ Blk w' gj 130 [.bool o', .slice Aj' bs'.length cj'] ∧ Blk w' gB 5 (fl encB body) ∧ Blk w' gO 4 (fl encO oks) ∧ World.ownsRow w' w.heap.size 5 1 (.slice Aj' bs'.length cj') bs'.length (fl encB bs') ∧ World.ownsRow w' w.heap.size 34 1 (.slice Ar' R'.length cr') R'.length (fl encY R') ∧ World.ownsRow w' w.heap.size 3 1 (.slice Ap' Pl'.length cp') Pl'.length (fl encZ Pl') ∧ DeepY 5 w' R' ∧ Blk w' gr 99 [.slice none 0 0, .slice none 0 0, .int .i64 0, .int .i64 0] ∧ (p' ≤ 832) ∧ (bs'.length ≤ 512) ∧ (R'.length ≤ p' ∧ Pl'.length ≤ p' ∧ en' ≤ 832) ∧ (832 < p' + fu') ∧ (ScR acc' R' Pl' en') ∧ (acc' ++ scanL e body oks fu' p' f' o' bs' = X))))) := by
 have hbp_ := (beginN_le hp).2
 have hbg_ := begin_room p
 have hll_ := leftN_le hbp_
 refine enter Tryd.func72 Tryd.ntmps72 rfl rfl ?_
 refine C_seq (C_reg rfl ?_)
 refine Las rfl rfl (L_nil (N_then (C_seq (C_reg rfl (Lmv rfl rfl (L_run (R_nilck rfl) rfl (L_run (R_field (r := 4) rfl fld119_4 rfl) rfl (L_run (R_load1 rfl scl3 (hbs.cell (i := 4) rfl)) rfl ?_))))))))
 refine L_call rfl cb89 (begin_ok (n := p) hp) rfl ?_
 rintro _ w1 ⟨hs1, rfl⟩
 replace hB := gb_tr hB hs1; replace hbs := hbs.gb hs1; replace hbj := hbj.gb hs1; replace hbB := hbB.gb hs1; replace hbO := hbO.gb hs1; replace ho := own_gb ho hs1; replace hoR := own_gb hoR hs1; replace hoP := own_gb hoP hs1; replace hDY := hDY.gb hs1; replace hbr4 := hbr4.gb hs1
 refine Las rfl rfl (L_nil (N_then (C_seq (C_seq (C_reg rfl (Lmv rfl rfl (L_run (R_eql rfl rfl) rfl (Lmv rfl rfl ?_))))))))
 refine L_splitD (p := ((beginN p : Nat) : Int) = 832) (fun h1 => ?_) (fun h1 => ?_)
 ·refine L_no rfl rfl rfl (decide_eq_true h1) rfl (L_no rfl rfl rfl (decide_eq_true h1) rfl (L_no rfl rfl rfl (decide_eq_true h1) rfl (L_no rfl rfl rfl (decide_eq_true h1) rfl (L_no rfl rfl rfl (decide_eq_true h1) rfl (L_no rfl rfl rfl (decide_eq_true h1) rfl (L_no rfl rfl rfl (decide_eq_true h1) rfl (L_no rfl rfl rfl (decide_eq_true h1) rfl (L_no rfl rfl rfl (decide_eq_true h1) rfl (L_run (R_pickT rfl (decide_eq_true h1) rfl) rfl ?_)))))))))
  refine L_nil (N_then (C_condT rfl rfl (C_seq (C_reg rfl (Las rfl rfl (L_nil (N_then (C_ret (R_then ?_)))))))))
  refine ret1 Tryd.results72 rfl ?_
  have hac_ : (accN e body oks (beginN p)) = _ := acc_far (by omega)
  have hsc_ : X = acc := scn_none hSX (by rw [hac_])
  exact ⟨hB, .inl ⟨p, f, rfl, hsc_, hbs, hoR, hoP, hDY, hbr4⟩⟩
 ·refine L_yes rfl rfl rfl (decide_eq_false h1) (Lmv rfl rfl (L_yes rfl rfl rfl (decide_eq_false h1) (L_run (R_nilck rfl) rfl (L_yes rfl rfl rfl (decide_eq_false h1) (L_run (R_field (r := 2) rfl fld119_2 rfl) rfl (L_yes rfl rfl rfl (decide_eq_false h1) (L_run (R_load1 rfl scl79 (hbs.cell (i := 2) rfl)) rfl (L_yes rfl rfl rfl (decide_eq_false h1) (Lmv rfl rfl (L_yes rfl rfl rfl (decide_eq_false h1) ?_))))))))))
  refine Lmv rfl rfl (L_yes rfl rfl rfl (decide_eq_false h1) ?_)
  refine L_run (R_eqv (R_add64 rfl rfl (by first | omega | (have h_ := acc_bnd (body := body) (e := e) hbl hbp_ (by assumption); omega))) (v' := .int .i64 ((beginN p + 11 : Nat) : Int)) (congrArg _ (by omega))) rfl ?_
  refine L_yes rfl rfl rfl (decide_eq_false h1) ?_
  refine L_call rfl cb90 (cov_ok (ok := oks) (a := (beginN p)) (b := (beginN p + 11)) (Blk.sli (m := 0) hbO)) rfl ?_
  rintro _ w2 ⟨hs2, rfl⟩
  replace hB := gb_tr hB hs2; replace hbs := hbs.gb hs2; replace hbj := hbj.gb hs2; replace hbB := hbB.gb hs2; replace hbO := hbO.gb hs2; replace ho := own_gb ho hs2; replace hoR := own_gb hoR hs2; replace hoP := own_gb hoP hs2; replace hDY := hDY.gb hs2; replace hbr4 := hbr4.gb hs2
  refine L_yes rfl rfl rfl (decide_eq_false h1) (L_run (R_not rfl) rfl (L_run (R_pickF rfl (decide_eq_false h1) rfl) rfl (L_nil (N_then ?_))))
  refine C_cond rfl (fun h2 => ?_) (fun h2 => ?_)
  ·refine C_seq (C_reg rfl ?_)
   refine Las rfl rfl (L_nil (N_then (C_ret (R_then ?_))))
   refine ret1 Tryd.results72 rfl ?_
   have hac_ : (accN e body oks (beginN p)) = _ := acc_unc (by simpa using h2)
   have hsc_ : X = acc := scn_none hSX (by rw [hac_])
   exact ⟨hB, .inl ⟨p, f, rfl, hsc_, hbs, hoR, hoP, hDY, hbr4⟩⟩
  ·refine C_skip (N_then (C_seq ?_))
   refine C_join (fun a_ w_ => (∃ (σ_ : Nat → Value) (g1 : Nat) (A_2 : Option Addr) (c_1 : Nat), a_ = Ac 123 σ_ [] [(0, .pointer (some ⟨gs, 0, none⟩)), (2, .bool false), (3, .int .i64 ((beginN p : Nat) : Int)), (4, .pointer (some ⟨g1, 0, none⟩)), (5, .int .i64 (((fdec ((body.drop (beginN p)).take ((beginN p + leftN (beginN p)) - (beginN p))) (e % 4294967296)).2.1 : Nat) : Int)), (6, .int .i64 0), (26, .bool (!(covN oks (min (beginN p) 832) (min (beginN p + 11) 832))))] ∧ w.grownBy w_ none ∧ Blk w_ gs 119 [.int .u32 ((e % 4294967296 : Nat) : Int), .slice (some ⟨gB, 0, none⟩) body.length 832, .slice (some ⟨gO, 0, none⟩) oks.length 16, .pointer (some ⟨gj, 0, none⟩), .int .i64 (p : Int), .int .i64 (f : Int), .slice Ar R.length cr, .slice Ap Pl.length cp, .int .i64 (en : Int), .int .i64 0] ∧ Blk w_ gj 130 [.bool o, .slice Aj bs.length cj] ∧ Blk w_ gB 5 (fl encB body) ∧ Blk w_ gO 4 (fl encO oks) ∧ World.ownsRow w_ w.heap.size 5 1 (.slice Aj bs.length cj) bs.length (fl encB bs) ∧ World.ownsRow w_ w.heap.size 34 1 (.slice Ar R.length cr) R.length (fl encY R) ∧ World.ownsRow w_ w.heap.size 3 1 (.slice Ap Pl.length cp) Pl.length (fl encZ Pl) ∧ DeepY 5 w_ R ∧ Blk w_ gr 99 [.slice none 0 0, .slice none 0 0, .int .i64 0, .int .i64 0] ∧ World.ownsRow w_ w.heap.size 5 1 (.slice A_2 ((fdec ((body.drop (beginN p)).take ((beginN p + leftN (beginN p)) - (beginN p))) (e % 4294967296)).1.2).length c_1) ((fdec ((body.drop (beginN p)).take ((beginN p + leftN (beginN p)) - (beginN p))) (e % 4294967296)).1.2).length (fl encB ((fdec ((body.drop (beginN p)).take ((beginN p + leftN (beginN p)) - (beginN p))) (e % 4294967296)).1.2)) ∧ Blk w_ g1 86 [.int .i64 (((fdec ((body.drop (beginN p)).take ((beginN p + leftN (beginN p)) - (beginN p))) (e % 4294967296)).1.1 : Nat) : Int), .int .u32 ((e % 4294967296 : Nat) : Int), .slice A_2 (((fdec ((body.drop (beginN p)).take ((beginN p + leftN (beginN p)) - (beginN p))) (e % 4294967296)).1.2).length) c_1] ∧ w.heap.size ≤ g1 ∧ gs < g1 ∧ gj < g1 ∧ gB < g1 ∧ gO < g1 ∧ gr < g1 ∧ (∀ k_, (Value.slice A_2 ((fdec ((body.drop (beginN p)).take ((beginN p + leftN (beginN p)) - (beginN p))) (e % 4294967296)).1.2).length c_1).ownBlock = some k_ → k_ ≠ gB) ∧ (fdec ((body.drop (beginN p)).take ((beginN p + leftN (beginN p)) - (beginN p))) (e % 4294967296)).2.2 = 0) ∨ (∃ (σ_ : Nat → Value) (g2 : Nat), a_ = Ac 123 σ_ [] [(0, .pointer (some ⟨gs, 0, none⟩)), (2, .bool false), (3, .int .i64 ((beginN p : Nat) : Int)), (4, .pointer (some ⟨g2, 0, none⟩)), (5, .int .i64 0), (6, .int .i64 ((fdec ((body.drop (beginN p)).take ((beginN p + leftN (beginN p)) - (beginN p))) (e % 4294967296)).2.2)), (26, .bool (!(covN oks (min (beginN p) 832) (min (beginN p + 11) 832))))] ∧ w.grownBy w_ none ∧ Blk w_ gs 119 [.int .u32 ((e % 4294967296 : Nat) : Int), .slice (some ⟨gB, 0, none⟩) body.length 832, .slice (some ⟨gO, 0, none⟩) oks.length 16, .pointer (some ⟨gj, 0, none⟩), .int .i64 (p : Int), .int .i64 (f : Int), .slice Ar R.length cr, .slice Ap Pl.length cp, .int .i64 (en : Int), .int .i64 0] ∧ Blk w_ gj 130 [.bool o, .slice Aj bs.length cj] ∧ Blk w_ gB 5 (fl encB body) ∧ Blk w_ gO 4 (fl encO oks) ∧ World.ownsRow w_ w.heap.size 5 1 (.slice Aj bs.length cj) bs.length (fl encB bs) ∧ World.ownsRow w_ w.heap.size 34 1 (.slice Ar R.length cr) R.length (fl encY R) ∧ World.ownsRow w_ w.heap.size 3 1 (.slice Ap Pl.length cp) Pl.length (fl encZ Pl) ∧ DeepY 5 w_ R ∧ Blk w_ gr 99 [.slice none 0 0, .slice none 0 0, .int .i64 0, .int .i64 0] ∧ Blk w_ g2 86 [.int .i64 0, .int .u32 0, .slice none 0 0] ∧ w.heap.size ≤ g2 ∧ gs < g2 ∧ gj < g2 ∧ gB < g2 ∧ gO < g2 ∧ gr < g2 ∧ ¬ ((fdec ((body.drop (beginN p)).take ((beginN p + leftN (beginN p)) - (beginN p))) (e % 4294967296)).2.2 = 0))) ?_ ?_
   ·refine C_draw2 rfl mix ?_
    intro w3 hs3 hz1
    replace hB := gb_tr hB hs3; replace hbs := hbs.gb hs3; replace hbj := hbj.gb hs3; replace hbB := hbB.gb hs3; replace hbO := hbO.gb hs3; replace ho := own_gb ho hs3; replace hoR := own_gb hoR hs3; replace hoP := own_gb hoP hs3; replace hDY := hDY.gb hs3; replace hbr4 := hbr4.gb hs3
    refine ⟨fun W_ => Blk W_ gs 119 [.int .u32 ((e % 4294967296 : Nat) : Int), .slice (some ⟨gB, 0, none⟩) body.length 832, .slice (some ⟨gO, 0, none⟩) oks.length 16, .pointer (some ⟨gj, 0, none⟩), .int .i64 (p : Int), .int .i64 (f : Int), .slice Ar R.length cr, .slice Ap Pl.length cp, .int .i64 (en : Int), .int .i64 0] ∧ True, [0, 1, 2, 3, 4, 5, 6, 8, 10, 11, 12, 13, 15, 16, 17, 18, 21, 22], ?_⟩
    refine T_tk (i := 0) rfl (Y_of (fun _ _ => R_move rfl)) ⟨hbs, trivial⟩ rfl ?_
    refine T_tk (i := 1) rfl (Y_of (fun _ _ => R_nilck rfl)) ⟨hbs, trivial⟩ rfl ?_
    refine T_tk (i := 2) rfl (Y_of (fun _ _ => R_field (r := 1) rfl fld119_1 rfl)) ⟨hbs, trivial⟩ rfl ?_
    refine T_tk (i := 3) rfl (Y_of (fun _ ⟨hbs, _⟩ => R_load1 rfl scl34 (hbs.cell (i := 1) rfl))) ⟨hbs, trivial⟩ rfl ?_
    refine T_tk (i := 4) rfl (Y_of (fun _ _ => R_move rfl)) ⟨hbs, trivial⟩ rfl ?_
    refine T_tk (i := 5) rfl (Y_of (fun _ _ => R_move rfl)) ⟨hbs, trivial⟩ rfl ?_
    refine T_tk (i := 6) rfl (Y_of (fun _ _ => R_move rfl)) ⟨hbs, trivial⟩ rfl ?_
    refine T_tk (i := 10) rfl (Y_of (fun _ _ => R_move rfl)) ⟨hbs, trivial⟩ rfl ?_
    refine T_tk (i := 11) rfl (Y_of (fun _ _ => R_nilck rfl)) ⟨hbs, trivial⟩ rfl ?_
    refine T_tk (i := 12) rfl (Y_of (fun _ _ => R_field (r := 0) rfl fld119_0 rfl)) ⟨hbs, trivial⟩ rfl ?_
    refine T_tk (i := 13) rfl (Y_of (fun _ ⟨hbs, _⟩ => R_load1 rfl scl75 (hbs.cell (i := 0) rfl))) ⟨hbs, trivial⟩ rfl ?_
    refine T_all (rs := [7, 19]) (by kernel_rfl) rfl (all2 (O_one rfl ?_) (O_one rfl ?_))
    ·refine L_call rfl cb92 (left_ok (n := (beginN p)) hbp_) rfl ?_
     rintro _ w4 ⟨hs4, rfl⟩
     replace hB := gb_tr hB hs4; replace hbs := hbs.gb hs4; replace hbj := hbj.gb hs4; replace hbB := hbB.gb hs4; replace hbO := hbO.gb hs4; replace ho := own_gb ho hs4; replace hoR := own_gb hoR hs4; replace hoP := own_gb hoP hs4; replace hDY := hDY.gb hs4; replace hbr4 := hbr4.gb hs4
     refine L_nil (N_then ⟨fun hN_ => ⟨hbs, trivial⟩, ?_⟩)
     refine T_tk (i := 8) rfl (Y_of (fun _ _ => R_eqv (R_add64 (a := ((beginN p : Nat) : Int)) (b := ((leftN (beginN p) : Nat) : Int)) rfl rfl (by first | omega | (have h_ := acc_bnd (body := body) (e := e) hbl hbp_ (by assumption); omega))) (v' := .int .i64 ((beginN p + leftN (beginN p) : Nat) : Int)) (congrArg _ (by omega)))) ⟨hbs, trivial⟩ rfl ?_
     refine T_all (rs := [9, 19]) (by kernel_rfl) rfl (all2 (O_one rfl ?_) (O_one rfl ?_))
     ·refine T_slLH (xs := body) (i := (beginN p)) (j := (beginN p + leftN (beginN p))) EncB rfl rfl rfl (by first | rfl | omega) (by first | rfl | omega) slc34 (by omega) (by rw [hbl]; exact hll_.1) (by rw [hbl]; exact Nat.le_refl _) (Blk.sli (m := 0) hbB) rfl ?_
      intro A_1 hS_1
      refine L_nil (N_then ⟨fun hN_ => ⟨hbs, trivial⟩, ?_⟩)
      refine T_all (rs := [14, 19]) (by kernel_rfl) rfl (all2 (O_one rfl ?_) (O_one rfl ?_))
      ·have ge1 : w.heap.size ≤ w4.heap.size := hB.size
       by_cases h3 : (fdec ((body.drop (beginN p)).take ((beginN p + leftN (beginN p)) - (beginN p))) (e % 4294967296)).2.2 = 0
       ·refine L_call rfl cb91 (dec_y (bs := (body.drop (beginN p)).take ((beginN p + leftN (beginN p)) - (beginN p))) (ep := (e % 4294967296)) hS_1 (by simp only [List.length_take, List.length_drop]; omega) (by simp only [List.length_take, List.length_drop]; omega) (hT.gb hB) (by omega)  h3) rfl ?_
        rintro _ w5 ⟨hs5, A_2, c_1, rfl, ho1⟩
        have lb1 : gB < w4.heap.size := hbB.lt
        have lb2 : gO < w4.heap.size := hbO.lt
        replace hB := gb_tr hB hs5; replace hbs := hbs.gb hs5; replace hbj := hbj.gb hs5; replace hbB := hbB.gb hs5; replace hbO := hbO.gb hs5; replace ho := own_gb ho hs5; replace hoR := own_gb hoR hs5; replace hoP := own_gb hoP hs5; replace hDY := hDY.gb hs5; replace hbr4 := hbr4.gb hs5
        have hap1 : ∀ k_, (Value.slice A_2 ((fdec ((body.drop (beginN p)).take ((beginN p + leftN (beginN p)) - (beginN p))) (e % 4294967296)).1.2).length c_1).ownBlock = some k_ → k_ ≠ gB := fun k_ hk => by have h_ := (World.ownsRow.lt ho1 k_ hk).1; omega
        have hlo1 : w4.heap.size ≤ w5.heap.size := hs5.size
        refine L_nil (N_then ⟨fun hN_ => ⟨hbs, trivial⟩, ?_⟩)
        refine T_tk (i := 15) rfl (Y_of (fun _ _ => R_move rfl)) ⟨hbs, trivial⟩ rfl ?_
        refine T_tk (i := 16) rfl (Y_of (fun _ _ => R_extract rfl rfl)) ⟨hbs, trivial⟩ rfl ?_
        refine T_tk (i := 17) rfl (Y_of (fun _ _ => R_extract rfl rfl)) ⟨hbs, trivial⟩ rfl ?_
        refine T_tk (i := 18) rfl (Y_of (fun _ _ => R_extract rfl rfl)) ⟨hbs, trivial⟩ rfl ?_
        refine T_all (rs := [19]) (by kernel_rfl) rfl (all1 (O_one rfl ?_))
        refine L_alloc (cs := [.int .i64 0, .int .u32 0, .slice none 0 0]) zer86 rfl rfl ?_
        intro g1 w6 eg1 hb1 hs6 hz2
        have ge2 : w.heap.size ≤ g1 := eg_ge hB eg1
        have lt1 : gs < g1 := lt_of_eg hbs.lt eg1
        have lt2 : gj < g1 := lt_of_eg hbj.lt eg1
        have lt3 : gB < g1 := lt_of_eg hbB.lt eg1
        have lt4 : gO < g1 := lt_of_eg hbO.lt eg1
        have lt5 : gr < g1 := lt_of_eg hbr4.lt eg1
        replace hB := gb_tr hB hs6; replace hbs := hbs.gb hs6; replace hbj := hbj.gb hs6; replace hbB := hbB.gb hs6; replace hbO := hbO.gb hs6; replace ho := own_gb ho hs6; replace hoR := own_gb hoR hs6; replace hoP := own_gb hoP hs6; replace hDY := hDY.gb hs6; replace hbr4 := hbr4.gb hs6; replace ho1 := own_gb ho1 hs6
        refine L_nil (N_then ⟨fun hN_ => ⟨hbs, trivial⟩, ?_⟩)
        refine T_all (rs := [20]) (by kernel_rfl) rfl (all1 (O_one rfl ?_))
        refine L_stA (vs := [.int .i64 (((fdec ((body.drop (beginN p)).take ((beginN p + leftN (beginN p)) - (beginN p))) (e % 4294967296)).1.1 : Nat) : Int), .int .u32 ((e % 4294967296 : Nat) : Int), .slice A_2 (((fdec ((body.drop (beginN p)).take ((beginN p + leftN (beginN p)) - (beginN p))) (e % 4294967296)).1.2).length) c_1]) rfl rfl rfl sz86 rfl hb1 rfl ?_
        intro w7 hb2 hs7 hz3
        replace hB := gb_trg hB hs7 ge2; replace hbs := hbs.grown hs7 (ne_lt lt1); replace hbj := hbj.grown hs7 (ne_lt lt2); replace hbB := hbB.grown hs7 (ne_lt lt3); replace hbO := hbO.grown hs7 (ne_lt lt4); replace ho := own_other ho hb1 rfl hs7; replace hoR := own_other hoR hb1 rfl hs7; replace hoP := own_other hoP hb1 rfl hs7
        replace hDY := hDY.other hb1 rfl rfl hs7; replace hbr4 := hbr4.grown hs7 (ne_lt lt5); replace ho1 := own_other ho1 hb1 rfl hs7
        refine L_nil (N_then ⟨fun hN_ => ⟨hbs, trivial⟩, ?_⟩)
        refine T_tk (i := 21) rfl (Y_of (fun _ _ => R_assign rfl)) ⟨hbs, trivial⟩ rfl ?_
        refine T_tk (i := 22) rfl (Y_of (fun _ _ => R_assign rfl)) ⟨hbs, trivial⟩ rfl ?_
        refine T_done (by kernel_rfl) (CalmE.normal ?_)
        exact ⟨rfl, .inl ⟨_, g1, A_2, c_1, Ac_frg ⟨rfl, rfl, rfl, rfl, rfl, rfl, rfl, trivial⟩, hB, hbs, hbj, hbB, hbO, ho, hoR, hoP, hDY, hbr4, (own_lo ho1 ge1), hb2, ge2, lt1, lt2, lt3, lt4, lt5, hap1, h3⟩⟩
       ·refine L_call rfl cb91 (dec_n (bs := (body.drop (beginN p)).take ((beginN p + leftN (beginN p)) - (beginN p))) (ep := (e % 4294967296)) hS_1 (by simp only [List.length_take, List.length_drop]; omega) (by simp only [List.length_take, List.length_drop]; omega) (hT.gb hB) (by omega)  h3) rfl ?_
        rintro _ w8 ⟨hs8, rfl⟩
        replace hB := gb_tr hB hs8; replace hbs := hbs.gb hs8; replace hbj := hbj.gb hs8; replace hbB := hbB.gb hs8; replace hbO := hbO.gb hs8; replace ho := own_gb ho hs8; replace hoR := own_gb hoR hs8; replace hoP := own_gb hoP hs8; replace hDY := hDY.gb hs8; replace hbr4 := hbr4.gb hs8
        refine L_nil (N_then ⟨fun hN_ => ⟨hbs, trivial⟩, ?_⟩)
        refine T_tk (i := 15) rfl (Y_of (fun _ _ => R_move rfl)) ⟨hbs, trivial⟩ rfl ?_
        refine T_tk (i := 16) rfl (Y_of (fun _ _ => R_extract rfl rfl)) ⟨hbs, trivial⟩ rfl ?_
        refine T_tk (i := 17) rfl (Y_of (fun _ _ => R_extract rfl rfl)) ⟨hbs, trivial⟩ rfl ?_
        refine T_tk (i := 18) rfl (Y_of (fun _ _ => R_extract rfl rfl)) ⟨hbs, trivial⟩ rfl ?_
        refine T_all (rs := [19]) (by kernel_rfl) rfl (all1 (O_one rfl ?_))
        refine L_alloc (cs := [.int .i64 0, .int .u32 0, .slice none 0 0]) zer86 rfl rfl ?_
        intro g2 w9 eg2 hb3 hs9 hz4
        have ge3 : w.heap.size ≤ g2 := eg_ge hB eg2
        have lt6 : gs < g2 := lt_of_eg hbs.lt eg2
        have lt7 : gj < g2 := lt_of_eg hbj.lt eg2
        have lt8 : gB < g2 := lt_of_eg hbB.lt eg2
        have lt9 : gO < g2 := lt_of_eg hbO.lt eg2
        have lt10 : gr < g2 := lt_of_eg hbr4.lt eg2
        replace hB := gb_tr hB hs9; replace hbs := hbs.gb hs9; replace hbj := hbj.gb hs9; replace hbB := hbB.gb hs9; replace hbO := hbO.gb hs9; replace ho := own_gb ho hs9; replace hoR := own_gb hoR hs9; replace hoP := own_gb hoP hs9; replace hDY := hDY.gb hs9; replace hbr4 := hbr4.gb hs9
        refine L_nil (N_then ⟨fun hN_ => ⟨hbs, trivial⟩, ?_⟩)
        refine T_all (rs := [20]) (by kernel_rfl) rfl (all1 (O_one rfl ?_))
        refine L_stA (vs := [.int .i64 0, .int .u32 0, .slice none 0 0]) rfl rfl rfl sz86 rfl hb3 rfl ?_
        intro w10 hb4 hs10 hz5
        replace hB := gb_trg hB hs10 ge3; replace hbs := hbs.grown hs10 (ne_lt lt6); replace hbj := hbj.grown hs10 (ne_lt lt7); replace hbB := hbB.grown hs10 (ne_lt lt8); replace hbO := hbO.grown hs10 (ne_lt lt9); replace ho := own_other ho hb3 rfl hs10; replace hoR := own_other hoR hb3 rfl hs10; replace hoP := own_other hoP hb3 rfl hs10
        replace hDY := hDY.other hb3 rfl rfl hs10; replace hbr4 := hbr4.grown hs10 (ne_lt lt10)
        refine L_nil (N_then ⟨fun hN_ => ⟨hbs, trivial⟩, ?_⟩)
        refine T_tk (i := 21) rfl (Y_of (fun _ _ => R_assign rfl)) ⟨hbs, trivial⟩ rfl ?_
        refine T_tk (i := 22) rfl (Y_of (fun _ _ => R_assign rfl)) ⟨hbs, trivial⟩ rfl ?_
        refine T_done (by kernel_rfl) (CalmE.normal ?_)
        exact ⟨rfl, .inr (⟨_, g2, Ac_frg ⟨rfl, rfl, rfl, rfl, rfl, rfl, rfl, trivial⟩, hB, hbs, hbj, hbB, hbO, ho, hoR, hoP, hDY, hbr4, hb4, ge3, lt6, lt7, lt8, lt9, lt10, h3⟩)⟩
      ·refine L_alloc (cs := [.int .i64 0, .int .u32 0, .slice none 0 0]) zer86 rfl rfl ?_
       intro g3 w11 eg3 hb5 hs11 hz6
       have ge4 : w.heap.size ≤ g3 := eg_ge hB eg3
       have lt11 : gs < g3 := lt_of_eg hbs.lt eg3
       have lt12 : gj < g3 := lt_of_eg hbj.lt eg3
       have lt13 : gB < g3 := lt_of_eg hbB.lt eg3
       have lt14 : gO < g3 := lt_of_eg hbO.lt eg3
       have lt15 : gr < g3 := lt_of_eg hbr4.lt eg3
       replace hB := gb_tr hB hs11; replace hbs := hbs.gb hs11; replace hbj := hbj.gb hs11; replace hbB := hbB.gb hs11; replace hbO := hbO.gb hs11; replace ho := own_gb ho hs11; replace hoR := own_gb hoR hs11; replace hoP := own_gb hoP hs11; replace hDY := hDY.gb hs11; replace hbr4 := hbr4.gb hs11; replace hS_1 := hS_1.gb hs11
       refine L_nil (N_then ⟨fun hN_ => ⟨hbs, trivial⟩, ?_⟩)
       refine T_all (rs := [14]) (by kernel_rfl) rfl (all1 (O_one rfl ?_))
       have ge5 : w.heap.size ≤ w11.heap.size := hB.size
       by_cases h4 : (fdec ((body.drop (beginN p)).take ((beginN p + leftN (beginN p)) - (beginN p))) (e % 4294967296)).2.2 = 0
       ·refine L_call rfl cb91 (dec_y (bs := (body.drop (beginN p)).take ((beginN p + leftN (beginN p)) - (beginN p))) (ep := (e % 4294967296)) hS_1 (by simp only [List.length_take, List.length_drop]; omega) (by simp only [List.length_take, List.length_drop]; omega) (hT.gb hB) (by omega)  h4) rfl ?_
        rintro _ w12 ⟨hs12, A_3, c_2, rfl, ho2⟩
        have lb3 : gB < w11.heap.size := hbB.lt
        have lb4 : gO < w11.heap.size := hbO.lt
        replace hB := gb_tr hB hs12; replace hbs := hbs.gb hs12; replace hbj := hbj.gb hs12; replace hbB := hbB.gb hs12; replace hbO := hbO.gb hs12; replace ho := own_gb ho hs12; replace hoR := own_gb hoR hs12; replace hoP := own_gb hoP hs12; replace hDY := hDY.gb hs12; replace hbr4 := hbr4.gb hs12; replace hb5 := hb5.gb hs12
        have hap2 : ∀ k_, (Value.slice A_3 ((fdec ((body.drop (beginN p)).take ((beginN p + leftN (beginN p)) - (beginN p))) (e % 4294967296)).1.2).length c_2).ownBlock = some k_ → k_ ≠ gB := fun k_ hk => by have h_ := (World.ownsRow.lt ho2 k_ hk).1; omega
        have hlo2 : w11.heap.size ≤ w12.heap.size := hs12.size
        refine L_nil (N_then ⟨fun hN_ => ⟨hbs, trivial⟩, ?_⟩)
        refine T_tk (i := 15) rfl (Y_of (fun _ _ => R_move rfl)) ⟨hbs, trivial⟩ rfl ?_
        refine T_tk (i := 16) rfl (Y_of (fun _ _ => R_extract rfl rfl)) ⟨hbs, trivial⟩ rfl ?_
        refine T_tk (i := 17) rfl (Y_of (fun _ _ => R_extract rfl rfl)) ⟨hbs, trivial⟩ rfl ?_
        refine T_tk (i := 18) rfl (Y_of (fun _ _ => R_extract rfl rfl)) ⟨hbs, trivial⟩ rfl ?_
        refine T_all (rs := [20]) (by kernel_rfl) rfl (all1 (O_one rfl ?_))
        refine L_stA (vs := [.int .i64 (((fdec ((body.drop (beginN p)).take ((beginN p + leftN (beginN p)) - (beginN p))) (e % 4294967296)).1.1 : Nat) : Int), .int .u32 ((e % 4294967296 : Nat) : Int), .slice A_3 (((fdec ((body.drop (beginN p)).take ((beginN p + leftN (beginN p)) - (beginN p))) (e % 4294967296)).1.2).length) c_2]) rfl rfl rfl sz86 rfl hb5 rfl ?_
        intro w13 hb6 hs13 hz7
        replace hB := gb_trg hB hs13 ge4; replace hbs := hbs.grown hs13 (ne_lt lt11); replace hbj := hbj.grown hs13 (ne_lt lt12); replace hbB := hbB.grown hs13 (ne_lt lt13); replace hbO := hbO.grown hs13 (ne_lt lt14); replace ho := own_other ho hb5 rfl hs13; replace hoR := own_other hoR hb5 rfl hs13
        replace hoP := own_other hoP hb5 rfl hs13; replace hDY := hDY.other hb5 rfl rfl hs13; replace hbr4 := hbr4.grown hs13 (ne_lt lt15); replace ho2 := own_other ho2 hb5 rfl hs13
        refine L_nil (N_then ⟨fun hN_ => ⟨hbs, trivial⟩, ?_⟩)
        refine T_tk (i := 21) rfl (Y_of (fun _ _ => R_assign rfl)) ⟨hbs, trivial⟩ rfl ?_
        refine T_tk (i := 22) rfl (Y_of (fun _ _ => R_assign rfl)) ⟨hbs, trivial⟩ rfl ?_
        refine T_done (by kernel_rfl) (CalmE.normal ?_)
        exact ⟨rfl, .inl ⟨_, g3, A_3, c_2, Ac_frg ⟨rfl, rfl, rfl, rfl, rfl, rfl, rfl, trivial⟩, hB, hbs, hbj, hbB, hbO, ho, hoR, hoP, hDY, hbr4, (own_lo ho2 ge5), hb6, ge4, lt11, lt12, lt13, lt14, lt15, hap2, h4⟩⟩
       ·refine L_call rfl cb91 (dec_n (bs := (body.drop (beginN p)).take ((beginN p + leftN (beginN p)) - (beginN p))) (ep := (e % 4294967296)) hS_1 (by simp only [List.length_take, List.length_drop]; omega) (by simp only [List.length_take, List.length_drop]; omega) (hT.gb hB) (by omega)  h4) rfl ?_
        rintro _ w14 ⟨hs14, rfl⟩
        replace hB := gb_tr hB hs14; replace hbs := hbs.gb hs14; replace hbj := hbj.gb hs14; replace hbB := hbB.gb hs14; replace hbO := hbO.gb hs14; replace ho := own_gb ho hs14; replace hoR := own_gb hoR hs14; replace hoP := own_gb hoP hs14; replace hDY := hDY.gb hs14; replace hbr4 := hbr4.gb hs14; replace hb5 := hb5.gb hs14
        refine L_nil (N_then ⟨fun hN_ => ⟨hbs, trivial⟩, ?_⟩)
        refine T_tk (i := 15) rfl (Y_of (fun _ _ => R_move rfl)) ⟨hbs, trivial⟩ rfl ?_
        refine T_tk (i := 16) rfl (Y_of (fun _ _ => R_extract rfl rfl)) ⟨hbs, trivial⟩ rfl ?_
        refine T_tk (i := 17) rfl (Y_of (fun _ _ => R_extract rfl rfl)) ⟨hbs, trivial⟩ rfl ?_
        refine T_tk (i := 18) rfl (Y_of (fun _ _ => R_extract rfl rfl)) ⟨hbs, trivial⟩ rfl ?_
        refine T_all (rs := [20]) (by kernel_rfl) rfl (all1 (O_one rfl ?_))
        refine L_stA (vs := [.int .i64 0, .int .u32 0, .slice none 0 0]) rfl rfl rfl sz86 rfl hb5 rfl ?_
        intro w15 hb7 hs15 hz8
        replace hB := gb_trg hB hs15 ge4; replace hbs := hbs.grown hs15 (ne_lt lt11); replace hbj := hbj.grown hs15 (ne_lt lt12); replace hbB := hbB.grown hs15 (ne_lt lt13); replace hbO := hbO.grown hs15 (ne_lt lt14); replace ho := own_other ho hb5 rfl hs15; replace hoR := own_other hoR hb5 rfl hs15
        replace hoP := own_other hoP hb5 rfl hs15; replace hDY := hDY.other hb5 rfl rfl hs15; replace hbr4 := hbr4.grown hs15 (ne_lt lt15)
        refine L_nil (N_then ⟨fun hN_ => ⟨hbs, trivial⟩, ?_⟩)
        refine T_tk (i := 21) rfl (Y_of (fun _ _ => R_assign rfl)) ⟨hbs, trivial⟩ rfl ?_
        refine T_tk (i := 22) rfl (Y_of (fun _ _ => R_assign rfl)) ⟨hbs, trivial⟩ rfl ?_
        refine T_done (by kernel_rfl) (CalmE.normal ?_)
        exact ⟨rfl, .inr (⟨_, g3, Ac_frg ⟨rfl, rfl, rfl, rfl, rfl, rfl, rfl, trivial⟩, hB, hbs, hbj, hbB, hbO, ho, hoR, hoP, hDY, hbr4, hb7, ge4, lt11, lt12, lt13, lt14, lt15, h4⟩)⟩
     ·refine L_alloc (cs := [.int .i64 0, .int .u32 0, .slice none 0 0]) zer86 rfl rfl ?_
      intro g4 w16 eg4 hb8 hs16 hz9
      have ge6 : w.heap.size ≤ g4 := eg_ge hB eg4
      have lt16 : gs < g4 := lt_of_eg hbs.lt eg4
      have lt17 : gj < g4 := lt_of_eg hbj.lt eg4
      have lt18 : gB < g4 := lt_of_eg hbB.lt eg4
      have lt19 : gO < g4 := lt_of_eg hbO.lt eg4
      have lt20 : gr < g4 := lt_of_eg hbr4.lt eg4
      replace hB := gb_tr hB hs16; replace hbs := hbs.gb hs16; replace hbj := hbj.gb hs16; replace hbB := hbB.gb hs16; replace hbO := hbO.gb hs16; replace ho := own_gb ho hs16; replace hoR := own_gb hoR hs16; replace hoP := own_gb hoP hs16; replace hDY := hDY.gb hs16; replace hbr4 := hbr4.gb hs16
      refine L_nil (N_then ⟨fun hN_ => ⟨hbs, trivial⟩, ?_⟩)
      refine T_all (rs := [9]) (by kernel_rfl) rfl (all1 (O_one rfl ?_))
      refine T_slLH (xs := body) (i := (beginN p)) (j := (beginN p + leftN (beginN p))) EncB rfl rfl rfl (by first | rfl | omega) (by first | rfl | omega) slc34 (by omega) (by rw [hbl]; exact hll_.1) (by rw [hbl]; exact Nat.le_refl _) (Blk.sli (m := 0) hbB) rfl ?_
      intro A_4 hS_2
      refine L_nil (N_then ⟨fun hN_ => ⟨hbs, trivial⟩, ?_⟩)
      refine T_all (rs := [14]) (by kernel_rfl) rfl (all1 (O_one rfl ?_))
      have ge7 : w.heap.size ≤ w16.heap.size := hB.size
      by_cases h5 : (fdec ((body.drop (beginN p)).take ((beginN p + leftN (beginN p)) - (beginN p))) (e % 4294967296)).2.2 = 0
      ·refine L_call rfl cb91 (dec_y (bs := (body.drop (beginN p)).take ((beginN p + leftN (beginN p)) - (beginN p))) (ep := (e % 4294967296)) hS_2 (by simp only [List.length_take, List.length_drop]; omega) (by simp only [List.length_take, List.length_drop]; omega) (hT.gb hB) (by omega)  h5) rfl ?_
       rintro _ w17 ⟨hs17, A_5, c_3, rfl, ho3⟩
       have lb5 : gB < w16.heap.size := hbB.lt
       have lb6 : gO < w16.heap.size := hbO.lt
       replace hB := gb_tr hB hs17; replace hbs := hbs.gb hs17; replace hbj := hbj.gb hs17; replace hbB := hbB.gb hs17; replace hbO := hbO.gb hs17; replace ho := own_gb ho hs17; replace hoR := own_gb hoR hs17; replace hoP := own_gb hoP hs17; replace hDY := hDY.gb hs17; replace hbr4 := hbr4.gb hs17; replace hb8 := hb8.gb hs17
       have hap3 : ∀ k_, (Value.slice A_5 ((fdec ((body.drop (beginN p)).take ((beginN p + leftN (beginN p)) - (beginN p))) (e % 4294967296)).1.2).length c_3).ownBlock = some k_ → k_ ≠ gB := fun k_ hk => by have h_ := (World.ownsRow.lt ho3 k_ hk).1; omega
       have hlo3 : w16.heap.size ≤ w17.heap.size := hs17.size
       refine L_nil (N_then ⟨fun hN_ => ⟨hbs, trivial⟩, ?_⟩)
       refine T_tk (i := 15) rfl (Y_of (fun _ _ => R_move rfl)) ⟨hbs, trivial⟩ rfl ?_
       refine T_tk (i := 16) rfl (Y_of (fun _ _ => R_extract rfl rfl)) ⟨hbs, trivial⟩ rfl ?_
       refine T_tk (i := 17) rfl (Y_of (fun _ _ => R_extract rfl rfl)) ⟨hbs, trivial⟩ rfl ?_
       refine T_tk (i := 18) rfl (Y_of (fun _ _ => R_extract rfl rfl)) ⟨hbs, trivial⟩ rfl ?_
       refine T_all (rs := [20]) (by kernel_rfl) rfl (all1 (O_one rfl ?_))
       refine L_stA (vs := [.int .i64 (((fdec ((body.drop (beginN p)).take ((beginN p + leftN (beginN p)) - (beginN p))) (e % 4294967296)).1.1 : Nat) : Int), .int .u32 ((e % 4294967296 : Nat) : Int), .slice A_5 (((fdec ((body.drop (beginN p)).take ((beginN p + leftN (beginN p)) - (beginN p))) (e % 4294967296)).1.2).length) c_3]) rfl rfl rfl sz86 rfl hb8 rfl ?_
       intro w18 hb9 hs18 hz10
       replace hB := gb_trg hB hs18 ge6; replace hbs := hbs.grown hs18 (ne_lt lt16); replace hbj := hbj.grown hs18 (ne_lt lt17); replace hbB := hbB.grown hs18 (ne_lt lt18); replace hbO := hbO.grown hs18 (ne_lt lt19); replace ho := own_other ho hb8 rfl hs18; replace hoR := own_other hoR hb8 rfl hs18; replace hoP := own_other hoP hb8 rfl hs18
       replace hDY := hDY.other hb8 rfl rfl hs18; replace hbr4 := hbr4.grown hs18 (ne_lt lt20); replace ho3 := own_other ho3 hb8 rfl hs18
       refine L_nil (N_then ⟨fun hN_ => ⟨hbs, trivial⟩, ?_⟩)
       refine T_tk (i := 21) rfl (Y_of (fun _ _ => R_assign rfl)) ⟨hbs, trivial⟩ rfl ?_
       refine T_tk (i := 22) rfl (Y_of (fun _ _ => R_assign rfl)) ⟨hbs, trivial⟩ rfl ?_
       refine T_done (by kernel_rfl) (CalmE.normal ?_)
       exact ⟨rfl, .inl ⟨_, g4, A_5, c_3, Ac_frg ⟨rfl, rfl, rfl, rfl, rfl, rfl, rfl, trivial⟩, hB, hbs, hbj, hbB, hbO, ho, hoR, hoP, hDY, hbr4, (own_lo ho3 ge7), hb9, ge6, lt16, lt17, lt18, lt19, lt20, hap3, h5⟩⟩
      ·refine L_call rfl cb91 (dec_n (bs := (body.drop (beginN p)).take ((beginN p + leftN (beginN p)) - (beginN p))) (ep := (e % 4294967296)) hS_2 (by simp only [List.length_take, List.length_drop]; omega) (by simp only [List.length_take, List.length_drop]; omega) (hT.gb hB) (by omega)  h5) rfl ?_
       rintro _ w19 ⟨hs19, rfl⟩
       replace hB := gb_tr hB hs19; replace hbs := hbs.gb hs19; replace hbj := hbj.gb hs19; replace hbB := hbB.gb hs19; replace hbO := hbO.gb hs19; replace ho := own_gb ho hs19; replace hoR := own_gb hoR hs19; replace hoP := own_gb hoP hs19; replace hDY := hDY.gb hs19; replace hbr4 := hbr4.gb hs19; replace hb8 := hb8.gb hs19
       refine L_nil (N_then ⟨fun hN_ => ⟨hbs, trivial⟩, ?_⟩)
       refine T_tk (i := 15) rfl (Y_of (fun _ _ => R_move rfl)) ⟨hbs, trivial⟩ rfl ?_
       refine T_tk (i := 16) rfl (Y_of (fun _ _ => R_extract rfl rfl)) ⟨hbs, trivial⟩ rfl ?_
       refine T_tk (i := 17) rfl (Y_of (fun _ _ => R_extract rfl rfl)) ⟨hbs, trivial⟩ rfl ?_
       refine T_tk (i := 18) rfl (Y_of (fun _ _ => R_extract rfl rfl)) ⟨hbs, trivial⟩ rfl ?_
       refine T_all (rs := [20]) (by kernel_rfl) rfl (all1 (O_one rfl ?_))
       refine L_stA (vs := [.int .i64 0, .int .u32 0, .slice none 0 0]) rfl rfl rfl sz86 rfl hb8 rfl ?_
       intro w20 hb10 hs20 hz11
       replace hB := gb_trg hB hs20 ge6; replace hbs := hbs.grown hs20 (ne_lt lt16); replace hbj := hbj.grown hs20 (ne_lt lt17); replace hbB := hbB.grown hs20 (ne_lt lt18); replace hbO := hbO.grown hs20 (ne_lt lt19); replace ho := own_other ho hb8 rfl hs20; replace hoR := own_other hoR hb8 rfl hs20; replace hoP := own_other hoP hb8 rfl hs20
       replace hDY := hDY.other hb8 rfl rfl hs20; replace hbr4 := hbr4.grown hs20 (ne_lt lt20)
       refine L_nil (N_then ⟨fun hN_ => ⟨hbs, trivial⟩, ?_⟩)
       refine T_tk (i := 21) rfl (Y_of (fun _ _ => R_assign rfl)) ⟨hbs, trivial⟩ rfl ?_
       refine T_tk (i := 22) rfl (Y_of (fun _ _ => R_assign rfl)) ⟨hbs, trivial⟩ rfl ?_
       refine T_done (by kernel_rfl) (CalmE.normal ?_)
       exact ⟨rfl, .inr (⟨_, g4, Ac_frg ⟨rfl, rfl, rfl, rfl, rfl, rfl, rfl, trivial⟩, hB, hbs, hbj, hbB, hbO, ho, hoR, hoP, hDY, hbr4, hb10, ge6, lt16, lt17, lt18, lt19, lt20, h5⟩)⟩
    ·refine L_alloc (cs := [.int .i64 0, .int .u32 0, .slice none 0 0]) zer86 rfl rfl ?_
     intro g5 w21 eg5 hb11 hs21 hz12
     have ge8 : w.heap.size ≤ g5 := eg_ge hB eg5
     have lt21 : gs < g5 := lt_of_eg hbs.lt eg5
     have lt22 : gj < g5 := lt_of_eg hbj.lt eg5
     have lt23 : gB < g5 := lt_of_eg hbB.lt eg5
     have lt24 : gO < g5 := lt_of_eg hbO.lt eg5
     have lt25 : gr < g5 := lt_of_eg hbr4.lt eg5
     replace hB := gb_tr hB hs21; replace hbs := hbs.gb hs21; replace hbj := hbj.gb hs21; replace hbB := hbB.gb hs21; replace hbO := hbO.gb hs21; replace ho := own_gb ho hs21; replace hoR := own_gb hoR hs21; replace hoP := own_gb hoP hs21; replace hDY := hDY.gb hs21; replace hbr4 := hbr4.gb hs21
     refine L_nil (N_then ⟨fun hN_ => ⟨hbs, trivial⟩, ?_⟩)
     refine T_all (rs := [7]) (by kernel_rfl) rfl (all1 (O_one rfl ?_))
     refine L_call rfl cb92 (left_ok (n := (beginN p)) hbp_) rfl ?_
     rintro _ w22 ⟨hs22, rfl⟩
     replace hB := gb_tr hB hs22; replace hbs := hbs.gb hs22; replace hbj := hbj.gb hs22; replace hbB := hbB.gb hs22; replace hbO := hbO.gb hs22; replace ho := own_gb ho hs22; replace hoR := own_gb hoR hs22; replace hoP := own_gb hoP hs22; replace hDY := hDY.gb hs22; replace hbr4 := hbr4.gb hs22; replace hb11 := hb11.gb hs22
     refine L_nil (N_then ⟨fun hN_ => ⟨hbs, trivial⟩, ?_⟩)
     refine T_tk (i := 8) rfl (Y_of (fun _ _ => R_eqv (R_add64 (a := ((beginN p : Nat) : Int)) (b := ((leftN (beginN p) : Nat) : Int)) rfl rfl (by first | omega | (have h_ := acc_bnd (body := body) (e := e) hbl hbp_ (by assumption); omega))) (v' := .int .i64 ((beginN p + leftN (beginN p) : Nat) : Int)) (congrArg _ (by omega)))) ⟨hbs, trivial⟩ rfl ?_
     refine T_all (rs := [9]) (by kernel_rfl) rfl (all1 (O_one rfl ?_))
     refine T_slLH (xs := body) (i := (beginN p)) (j := (beginN p + leftN (beginN p))) EncB rfl rfl rfl (by first | rfl | omega) (by first | rfl | omega) slc34 (by omega) (by rw [hbl]; exact hll_.1) (by rw [hbl]; exact Nat.le_refl _) (Blk.sli (m := 0) hbB) rfl ?_
     intro A_6 hS_3
     refine L_nil (N_then ⟨fun hN_ => ⟨hbs, trivial⟩, ?_⟩)
     refine T_all (rs := [14]) (by kernel_rfl) rfl (all1 (O_one rfl ?_))
     have ge9 : w.heap.size ≤ w22.heap.size := hB.size
     by_cases h6 : (fdec ((body.drop (beginN p)).take ((beginN p + leftN (beginN p)) - (beginN p))) (e % 4294967296)).2.2 = 0
     ·refine L_call rfl cb91 (dec_y (bs := (body.drop (beginN p)).take ((beginN p + leftN (beginN p)) - (beginN p))) (ep := (e % 4294967296)) hS_3 (by simp only [List.length_take, List.length_drop]; omega) (by simp only [List.length_take, List.length_drop]; omega) (hT.gb hB) (by omega)  h6) rfl ?_
      rintro _ w23 ⟨hs23, A_7, c_4, rfl, ho4⟩
      have lb7 : gB < w22.heap.size := hbB.lt
      have lb8 : gO < w22.heap.size := hbO.lt
      replace hB := gb_tr hB hs23; replace hbs := hbs.gb hs23; replace hbj := hbj.gb hs23; replace hbB := hbB.gb hs23; replace hbO := hbO.gb hs23; replace ho := own_gb ho hs23; replace hoR := own_gb hoR hs23; replace hoP := own_gb hoP hs23; replace hDY := hDY.gb hs23; replace hbr4 := hbr4.gb hs23; replace hb11 := hb11.gb hs23
      have hap4 : ∀ k_, (Value.slice A_7 ((fdec ((body.drop (beginN p)).take ((beginN p + leftN (beginN p)) - (beginN p))) (e % 4294967296)).1.2).length c_4).ownBlock = some k_ → k_ ≠ gB := fun k_ hk => by have h_ := (World.ownsRow.lt ho4 k_ hk).1; omega
      have hlo4 : w22.heap.size ≤ w23.heap.size := hs23.size
      refine L_nil (N_then ⟨fun hN_ => ⟨hbs, trivial⟩, ?_⟩)
      refine T_tk (i := 15) rfl (Y_of (fun _ _ => R_move rfl)) ⟨hbs, trivial⟩ rfl ?_
      refine T_tk (i := 16) rfl (Y_of (fun _ _ => R_extract rfl rfl)) ⟨hbs, trivial⟩ rfl ?_
      refine T_tk (i := 17) rfl (Y_of (fun _ _ => R_extract rfl rfl)) ⟨hbs, trivial⟩ rfl ?_
      refine T_tk (i := 18) rfl (Y_of (fun _ _ => R_extract rfl rfl)) ⟨hbs, trivial⟩ rfl ?_
      refine T_all (rs := [20]) (by kernel_rfl) rfl (all1 (O_one rfl ?_))
      refine L_stA (vs := [.int .i64 (((fdec ((body.drop (beginN p)).take ((beginN p + leftN (beginN p)) - (beginN p))) (e % 4294967296)).1.1 : Nat) : Int), .int .u32 ((e % 4294967296 : Nat) : Int), .slice A_7 (((fdec ((body.drop (beginN p)).take ((beginN p + leftN (beginN p)) - (beginN p))) (e % 4294967296)).1.2).length) c_4]) rfl rfl rfl sz86 rfl hb11 rfl ?_
      intro w24 hb12 hs24 hz13
      replace hB := gb_trg hB hs24 ge8; replace hbs := hbs.grown hs24 (ne_lt lt21); replace hbj := hbj.grown hs24 (ne_lt lt22); replace hbB := hbB.grown hs24 (ne_lt lt23); replace hbO := hbO.grown hs24 (ne_lt lt24); replace ho := own_other ho hb11 rfl hs24; replace hoR := own_other hoR hb11 rfl hs24
      replace hoP := own_other hoP hb11 rfl hs24; replace hDY := hDY.other hb11 rfl rfl hs24; replace hbr4 := hbr4.grown hs24 (ne_lt lt25); replace ho4 := own_other ho4 hb11 rfl hs24
      refine L_nil (N_then ⟨fun hN_ => ⟨hbs, trivial⟩, ?_⟩)
      refine T_tk (i := 21) rfl (Y_of (fun _ _ => R_assign rfl)) ⟨hbs, trivial⟩ rfl ?_
      refine T_tk (i := 22) rfl (Y_of (fun _ _ => R_assign rfl)) ⟨hbs, trivial⟩ rfl ?_
      refine T_done (by kernel_rfl) (CalmE.normal ?_)
      exact ⟨rfl, .inl ⟨_, g5, A_7, c_4, Ac_frg ⟨rfl, rfl, rfl, rfl, rfl, rfl, rfl, trivial⟩, hB, hbs, hbj, hbB, hbO, ho, hoR, hoP, hDY, hbr4, (own_lo ho4 ge9), hb12, ge8, lt21, lt22, lt23, lt24, lt25, hap4, h6⟩⟩
     ·refine L_call rfl cb91 (dec_n (bs := (body.drop (beginN p)).take ((beginN p + leftN (beginN p)) - (beginN p))) (ep := (e % 4294967296)) hS_3 (by simp only [List.length_take, List.length_drop]; omega) (by simp only [List.length_take, List.length_drop]; omega) (hT.gb hB) (by omega)  h6) rfl ?_
      rintro _ w25 ⟨hs25, rfl⟩
      replace hB := gb_tr hB hs25; replace hbs := hbs.gb hs25; replace hbj := hbj.gb hs25; replace hbB := hbB.gb hs25; replace hbO := hbO.gb hs25; replace ho := own_gb ho hs25; replace hoR := own_gb hoR hs25; replace hoP := own_gb hoP hs25; replace hDY := hDY.gb hs25; replace hbr4 := hbr4.gb hs25; replace hb11 := hb11.gb hs25
      refine L_nil (N_then ⟨fun hN_ => ⟨hbs, trivial⟩, ?_⟩)
      refine T_tk (i := 15) rfl (Y_of (fun _ _ => R_move rfl)) ⟨hbs, trivial⟩ rfl ?_
      refine T_tk (i := 16) rfl (Y_of (fun _ _ => R_extract rfl rfl)) ⟨hbs, trivial⟩ rfl ?_
      refine T_tk (i := 17) rfl (Y_of (fun _ _ => R_extract rfl rfl)) ⟨hbs, trivial⟩ rfl ?_
      refine T_tk (i := 18) rfl (Y_of (fun _ _ => R_extract rfl rfl)) ⟨hbs, trivial⟩ rfl ?_
      refine T_all (rs := [20]) (by kernel_rfl) rfl (all1 (O_one rfl ?_))
      refine L_stA (vs := [.int .i64 0, .int .u32 0, .slice none 0 0]) rfl rfl rfl sz86 rfl hb11 rfl ?_
      intro w26 hb13 hs26 hz14
      replace hB := gb_trg hB hs26 ge8; replace hbs := hbs.grown hs26 (ne_lt lt21); replace hbj := hbj.grown hs26 (ne_lt lt22); replace hbB := hbB.grown hs26 (ne_lt lt23); replace hbO := hbO.grown hs26 (ne_lt lt24); replace ho := own_other ho hb11 rfl hs26; replace hoR := own_other hoR hb11 rfl hs26
      replace hoP := own_other hoP hb11 rfl hs26; replace hDY := hDY.other hb11 rfl rfl hs26; replace hbr4 := hbr4.grown hs26 (ne_lt lt25)
      refine L_nil (N_then ⟨fun hN_ => ⟨hbs, trivial⟩, ?_⟩)
      refine T_tk (i := 21) rfl (Y_of (fun _ _ => R_assign rfl)) ⟨hbs, trivial⟩ rfl ?_
      refine T_tk (i := 22) rfl (Y_of (fun _ _ => R_assign rfl)) ⟨hbs, trivial⟩ rfl ?_
      refine T_done (by kernel_rfl) (CalmE.normal ?_)
      exact ⟨rfl, .inr (⟨_, g5, Ac_frg ⟨rfl, rfl, rfl, rfl, rfl, rfl, rfl, trivial⟩, hB, hbs, hbj, hbB, hbO, ho, hoR, hoP, hDY, hbr4, hb13, ge8, lt21, lt22, lt23, lt24, lt25, h6⟩)⟩
   ·clear hB
    clear hbs hbj hbB hbO ho hoR hoP hDY hbr4
    rintro a_ w27 (⟨σ_, g1, A_2, c_1, rfl, hB, hbs, hbj, hbB, hbO, ho, hoR, hoP, hDY, hbr4, hj1, hj2, ge10, lt26, lt27, lt28, lt29, lt30, ap1, h7⟩ | ⟨σ_, g2, rfl, hB, hbs, hbj, hbB, hbO, ho, hoR, hoP, hDY, hbr4, hj3, ge11, lt31, lt32, lt33, lt34, lt35, h8⟩)
    ·refine N_then (C_seq (C_seq (C_reg rfl ?_)))
     refine Lmv rfl rfl (L_run (R_eqv (R_neq rfl rfl) (v' := .bool false) rfl) rfl (Lmv rfl rfl (L_yes rfl rfl rfl rfl (Lmv rfl rfl (L_yes rfl rfl rfl rfl (L_run (R_nilck rfl) rfl (L_yes rfl rfl rfl rfl (L_run (R_field (r := 2) rfl fld119_2 rfl) rfl (L_yes rfl rfl rfl rfl (L_run (R_load1 rfl scl79 (hbs.cell (i := 2) rfl)) rfl (L_yes rfl rfl rfl rfl (Lmv rfl rfl (L_yes rfl rfl rfl rfl ?_)))))))))))))
     refine Lmv rfl rfl (L_yes rfl rfl rfl rfl (Lmv rfl rfl (L_yes rfl rfl rfl rfl ?_)))
     refine L_run (R_eqv (R_add64 rfl rfl (by first | omega | (have h_ := acc_bnd (body := body) (e := e) hbl hbp_ (by assumption); omega))) (v' := .int .i64 ((beginN p + ((fdec ((body.drop (beginN p)).take ((beginN p + leftN (beginN p)) - (beginN p))) (e % 4294967296)).2.1) : Nat) : Int)) (congrArg _ (by omega))) rfl ?_
     refine L_yes rfl rfl rfl rfl ?_
     refine L_call rfl cb90 (cov_ok (ok := oks) (a := (beginN p)) (b := (beginN p + ((fdec ((body.drop (beginN p)).take ((beginN p + leftN (beginN p)) - (beginN p))) (e % 4294967296)).2.1))) (Blk.sli (m := 0) hbO)) rfl ?_
     rintro _ w28 ⟨hs27, rfl⟩
     replace hB := gb_tr hB hs27; replace hbs := hbs.gb hs27; replace hbj := hbj.gb hs27; replace hbB := hbB.gb hs27; replace hbO := hbO.gb hs27; replace ho := own_gb ho hs27; replace hoR := own_gb hoR hs27; replace hoP := own_gb hoP hs27; replace hDY := hDY.gb hs27; replace hbr4 := hbr4.gb hs27; replace hj1 := own_gb hj1 hs27
     replace hj2 := hj2.gb hs27
     refine L_yes rfl rfl rfl rfl (L_run (R_not rfl) rfl (L_run (R_pickF rfl rfl rfl) rfl (L_nil (N_then ?_))))
     refine C_cond rfl (fun h9 => ?_) (fun h9 => ?_)
     ·refine C_seq (C_reg rfl ?_)
      refine Las rfl rfl (L_nil (N_then (C_ret (R_then ?_))))
      refine ret1 Tryd.results72 rfl ?_
      have hac_ : (accN e body oks (beginN p)) = _ := acc_unc2 hbl hbp_ h7 (by simpa using h9)
      have hsc_ : X = acc := scn_none hSX (by rw [hac_])
      exact ⟨hB, .inl ⟨p, f, rfl, hsc_, hbs, hoR, hoP, hDY, hbr4⟩⟩
     ·refine C_skip (N_then (C_seq (C_seq (C_reg rfl ?_))))
      refine Lmv rfl rfl (L_run (R_nilck rfl) rfl (L_run (R_field (r := 3) rfl fld119_3 rfl) rfl (L_run (R_load1 rfl scl116 (hbs.cell (i := 3) rfl)) rfl ?_)))
      refine L_call rfl cb93 (idle_ok hbj) rfl ?_
      rintro _ w29 ⟨hs28, rfl⟩
      replace hB := gb_tr hB hs28; replace hbs := hbs.gb hs28; replace hbj := hbj.gb hs28; replace hbB := hbB.gb hs28; replace hbO := hbO.gb hs28; replace ho := own_gb ho hs28; replace hoR := own_gb hoR hs28; replace hoP := own_gb hoP hs28; replace hDY := hDY.gb hs28; replace hbr4 := hbr4.gb hs28; replace hj1 := own_gb hj1 hs28
      replace hj2 := hj2.gb hs28
      refine L_nil (N_then ?_)
      refine C_cond rfl (fun h10 => ?_) (fun h10 => ?_)
      ·refine C_reg rfl ?_
       refine Lmv rfl rfl (Lmv rfl rfl (L_run (R_nilck rfl) rfl (L_run (R_field (r := 5) rfl fld119_5 rfl) rfl ?_)))
       refine L_st1 rfl rfl rfl sz3 hbs rfl ?_
       intro w30 hb14 hs29 hz15
       replace hB := gb_trg hB hs29 gs0; replace hbj := hbj.grown hs29 (ne_ty hbj hbs rfl); replace hbB := hbB.grown hs29 (ne_ty hbB hbs rfl); replace hbO := hbO.grown hs29 (ne_ty hbO hbs rfl); replace ho := own_other ho hbs rfl hs29; replace hoR := own_other hoR hbs rfl hs29; replace hoP := own_other hoP hbs rfl hs29
       replace hDY := hDY.other hbs rfl rfl hs29; replace hbr4 := hbr4.grown hs29 (ne_ty hbr4 hbs rfl); replace hj1 := own_other hj1 hbs rfl hs29; replace hj2 := hj2.grown hs29 (ne_gt lt26)
       refine L_nil (N_then (C_seq ?_))
       refine C_draw2 rfl mix ?_
       intro w31 hs30 hz16
       replace hB := gb_tr hB hs30; replace hb14 := hb14.gb hs30; replace hbj := hbj.gb hs30; replace hbB := hbB.gb hs30; replace hbO := hbO.gb hs30; replace ho := own_gb ho hs30; replace hoR := own_gb hoR hs30; replace hoP := own_gb hoP hs30; replace hDY := hDY.gb hs30; replace hbr4 := hbr4.gb hs30
       replace hj1 := own_gb hj1 hs30; replace hj2 := hj2.gb hs30
       refine ⟨fun W_ => Blk W_ gs 119 [.int .u32 ((e % 4294967296 : Nat) : Int), .slice (some ⟨gB, 0, none⟩) body.length 832, .slice (some ⟨gO, 0, none⟩) oks.length 16, .pointer (some ⟨gj, 0, none⟩), .int .i64 (p : Int), .int .i64 ((beginN p : Nat) : Int), .slice Ar R.length cr, .slice Ap Pl.length cp, .int .i64 (en : Int), .int .i64 0] ∧ Blk W_ g1 86 [.int .i64 (((fdec ((body.drop (beginN p)).take ((beginN p + leftN (beginN p)) - (beginN p))) (e % 4294967296)).1.1 : Nat) : Int), .int .u32 ((e % 4294967296 : Nat) : Int), .slice A_2 (((fdec ((body.drop (beginN p)).take ((beginN p + leftN (beginN p)) - (beginN p))) (e % 4294967296)).1.2).length) c_1] ∧ True, [0, 1, 2, 3, 4, 6, 7, 8, 9, 10, 11, 12], ?_⟩
       refine T_tk (i := 0) rfl (Y_of (fun _ _ => R_move rfl)) ⟨hb14, hj2, trivial⟩ rfl ?_
       refine T_tk (i := 1) rfl (Y_of (fun _ _ => R_nilck rfl)) ⟨hb14, hj2, trivial⟩ rfl ?_
       refine T_tk (i := 2) rfl (Y_of (fun _ _ => R_field (r := 3) rfl fld119_3 rfl)) ⟨hb14, hj2, trivial⟩ rfl ?_
       refine T_tk (i := 3) rfl (Y_of (fun _ ⟨hb14, hj2, _⟩ => R_load1 rfl scl116 (hb14.cell (i := 3) rfl))) ⟨hb14, hj2, trivial⟩ rfl ?_
       refine T_tk (i := 4) rfl (Y_of (fun _ ⟨hb14, hj2, _⟩ => R_loadA (vs := [.int .i64 (((fdec ((body.drop (beginN p)).take ((beginN p + leftN (beginN p)) - (beginN p))) (e % 4294967296)).1.1 : Nat) : Int), .int .u32 ((e % 4294967296 : Nat) : Int), .slice A_2 (((fdec ((body.drop (beginN p)).take ((beginN p + leftN (beginN p)) - (beginN p))) (e % 4294967296)).1.2).length) c_1]) rfl agg86 (At.pre (hj2.at_ 0) rfl) rfl)) ⟨hb14, hj2, trivial⟩ rfl ?_
       refine T_all (rs := [5]) (by kernel_rfl) rfl (all1 (O_one rfl ?_))
       have ge12 : w.heap.size ≤ w31.heap.size := hB.size
       refine L_call rfl cb94 (feed_ok (o := o) (bs := bs) (d := (fdec ((body.drop (beginN p)).take ((beginN p + leftN (beginN p)) - (beginN p))) (e % 4294967296)).1.2) (k := ((fdec ((body.drop (beginN p)).take ((beginN p + leftN (beginN p)) - (beginN p))) (e % 4294967296)).1.1)) hbj (own_of ho).2.2 (own_of hj1).2.2 (by omega) (by have h_ := acc_bnd (body := body) (e := e) hbl hbp_ (by assumption); omega)) rfl ?_
       rintro _ w32 ⟨hs31, A_8, c_5, A_9, c_6, rfl, hb15, ho5, ho6⟩
       have lb9 : gB < w31.heap.size := hbB.lt
       have lb10 : gO < w31.heap.size := hbO.lt
       replace hB := gb_trg hB hs31 gj0; replace hb14 := hb14.grown hs31 (ne_ty hb14 hbj rfl); replace hbB := hbB.grown hs31 (ne_ty hbB hbj rfl); replace hbO := hbO.grown hs31 (ne_ty hbO hbj rfl); replace ho := own_other ho hbj rfl hs31; replace hoR := own_other hoR hbj rfl hs31; replace hoP := own_other hoP hbj rfl hs31
       replace hDY := hDY.other hbj rfl rfl hs31; replace hbr4 := hbr4.grown hs31 (ne_ty hbr4 hbj rfl); replace hj1 := own_other hj1 hbj rfl hs31; replace hj2 := hj2.grown hs31 (ne_gt lt27)
       have hap5 : ∀ k_, (Value.slice A_8 ((feedN o bs ((fdec ((body.drop (beginN p)).take ((beginN p + leftN (beginN p)) - (beginN p))) (e % 4294967296)).1.1) ((fdec ((body.drop (beginN p)).take ((beginN p + leftN (beginN p)) - (beginN p))) (e % 4294967296)).1.2)).1.2).length c_5).ownBlock = some k_ → k_ ≠ gB := fun k_ hk => by have h_ := (World.ownsRow.lt ho5 k_ hk).1; omega
       have hap6 : ∀ k_, (Value.slice A_9 ((feedN o bs ((fdec ((body.drop (beginN p)).take ((beginN p + leftN (beginN p)) - (beginN p))) (e % 4294967296)).1.1) ((fdec ((body.drop (beginN p)).take ((beginN p + leftN (beginN p)) - (beginN p))) (e % 4294967296)).1.2)).2.1).length c_6).ownBlock = some k_ → k_ ≠ gB := fun k_ hk => by have h_ := (World.ownsRow.lt ho6 k_ hk).1; omega
       have hlo5 : w31.heap.size ≤ w32.heap.size := hs31.size
       refine L_nil (N_then ⟨fun hN_ => ⟨hb14, hj2, trivial⟩, ?_⟩)
       refine T_tk (i := 6) rfl (Y_of (fun _ _ => R_move rfl)) ⟨hb14, hj2, trivial⟩ rfl ?_
       refine T_tk (i := 7) rfl (Y_of (fun _ _ => R_extract rfl rfl)) ⟨hb14, hj2, trivial⟩ rfl ?_
       refine T_tk (i := 8) rfl (Y_of (fun _ _ => R_extract rfl rfl)) ⟨hb14, hj2, trivial⟩ rfl ?_
       refine T_tk (i := 9) rfl (Y_of (fun _ _ => R_extract rfl rfl)) ⟨hb14, hj2, trivial⟩ rfl ?_
       refine T_tk (i := 10) rfl (Y_of (fun _ _ => R_assign rfl)) ⟨hb14, hj2, trivial⟩ rfl ?_
       refine T_tk (i := 11) rfl (Y_of (fun _ _ => R_assign rfl)) ⟨hb14, hj2, trivial⟩ rfl ?_
       refine T_tk (i := 12) rfl (Y_of (fun _ _ => R_assign rfl)) ⟨hb14, hj2, trivial⟩ rfl ?_
       refine T_done (by kernel_rfl) (CalmE.normal ?_)
       refine N_then (C_seq (C_seq (C_reg rfl ?_)))
       refine Lmv rfl rfl (L_run (R_neq rfl rfl) rfl (L_nil (N_then (C_if rfl (fun h11 => ?_) (fun h11 => ?_)))))
       ·refine C_seq (C_reg rfl ?_)
        refine Las rfl rfl (L_nil (N_then (C_ret (R_then ?_))))
        refine ret1 Tryd.results72 rfl ?_
        have hac_ : (accN e body oks (beginN p)) = _ := acc_yes hbl hbp_ (by simpa using h2) h7 (by simpa using h9)
        have hsc_ : X = acc := scn_bad (k := (fdec ((body.drop (beginN p)).take (beginN p + leftN (beginN p) - beginN p)) (e % 4294967296)).1.1) (d := (fdec ((body.drop (beginN p)).take (beginN p + leftN (beginN p) - beginN p)) (e % 4294967296)).1.2) (n := (fdec ((body.drop (beginN p)).take (beginN p + leftN (beginN p) - beginN p)) (e % 4294967296)).2.1) hSX hac_ h11
        exact ⟨hB, .inl ⟨p, (beginN p), rfl, hsc_, hb14, hoR, hoP, hDY, hbr4⟩⟩
       ·refine C_skip (N_then (C_seq (C_reg rfl ?_)))
        refine Lmv rfl rfl (Lmv rfl rfl (Lmv rfl rfl ?_))
        refine L_run (R_eqv (R_add64 rfl rfl (by first | omega | (have h_ := acc_bnd (body := body) (e := e) hbl hbp_ (by assumption); omega))) (v' := .int .i64 ((beginN p + ((fdec ((body.drop (beginN p)).take ((beginN p + leftN (beginN p)) - (beginN p))) (e % 4294967296)).2.1) : Nat) : Int)) (congrArg _ (by omega))) rfl ?_
        refine L_run (R_nilck rfl) rfl ?_
        refine L_run (R_field (r := 4) rfl fld119_4 rfl) rfl ?_
        refine L_st1 rfl rfl rfl sz3 hb14 rfl ?_
        intro w33 hb16 hs32 hz17
        replace hB := gb_trg hB hs32 gs0; replace hbB := hbB.grown hs32 (ne_ty hbB hb14 rfl); replace hbO := hbO.grown hs32 (ne_ty hbO hb14 rfl); replace ho := own_other ho hb14 rfl hs32; replace hoR := own_other hoR hb14 rfl hs32; replace hoP := own_other hoP hb14 rfl hs32; replace hDY := hDY.other hb14 rfl rfl hs32
        replace hbr4 := hbr4.grown hs32 (ne_ty hbr4 hb14 rfl); replace hj1 := own_other hj1 hb14 rfl hs32; replace hj2 := hj2.grown hs32 (ne_gt lt26); replace hb15 := hb15.grown hs32 (ne_ty hb15 hb14 rfl); replace ho5 := own_other ho5 hb14 rfl hs32; replace ho6 := own_other ho6 hb14 rfl hs32
        refine L_nil (N_then (C_seq (C_seq (C_reg rfl (Lmv rfl rfl (L_nil (N_then ?_)))))))
        refine C_cond rfl (fun h12 => ?_) (fun h12 => ?_)
        ·refine C_seq ?_
         refine C_join (fun a_ w_ => (∃ (σ_ : Nat → Value) (A_10 : Option Addr) (c_7 : Nat) (A_11 : Option Addr) (c_8 : Nat), a_ = Ac 123 σ_ [] [(0, .pointer (some ⟨gs, 0, none⟩)), (2, .bool false), (3, .int .i64 ((beginN p : Nat) : Int)), (4, .pointer (some ⟨g1, 0, none⟩)), (5, .int .i64 (((fdec ((body.drop (beginN p)).take ((beginN p + leftN (beginN p)) - (beginN p))) (e % 4294967296)).2.1 : Nat) : Int)), (6, .int .i64 ((feedN o bs ((fdec ((body.drop (beginN p)).take ((beginN p + leftN (beginN p)) - (beginN p))) (e % 4294967296)).1.1) ((fdec ((body.drop (beginN p)).take ((beginN p + leftN (beginN p)) - (beginN p))) (e % 4294967296)).1.2)).2.2.2)), (7, .slice A_9 (((feedN o bs ((fdec ((body.drop (beginN p)).take ((beginN p + leftN (beginN p)) - (beginN p))) (e % 4294967296)).1.1) ((fdec ((body.drop (beginN p)).take ((beginN p + leftN (beginN p)) - (beginN p))) (e % 4294967296)).1.2)).2.1).length) c_6), (8, .bool ((feedN o bs ((fdec ((body.drop (beginN p)).take ((beginN p + leftN (beginN p)) - (beginN p))) (e % 4294967296)).1.1) ((fdec ((body.drop (beginN p)).take ((beginN p + leftN (beginN p)) - (beginN p))) (e % 4294967296)).1.2)).2.2.1)), (26, .bool (!(covN oks (min (beginN p) 832) (min (beginN p + 11) 832)))), (59, .bool (!(covN oks (min (beginN p) 832) (min (beginN p + ((fdec ((body.drop (beginN p)).take ((beginN p + leftN (beginN p)) - (beginN p))) (e % 4294967296)).2.1)) 832)))), (64, .bool (!o)), (80, .bool (decide ((feedN o bs ((fdec ((body.drop (beginN p)).take ((beginN p + leftN (beginN p)) - (beginN p))) (e % 4294967296)).1.1) ((fdec ((body.drop (beginN p)).take ((beginN p + leftN (beginN p)) - (beginN p))) (e % 4294967296)).1.2)).2.2.2 ≠ 0))), (87, .bool ((feedN o bs ((fdec ((body.drop (beginN p)).take ((beginN p + leftN (beginN p)) - (beginN p))) (e % 4294967296)).1.1) ((fdec ((body.drop (beginN p)).take ((beginN p + leftN (beginN p)) - (beginN p))) (e % 4294967296)).1.2)).2.2.1))] ∧ w.grownBy w_ none ∧ Blk w_ gs 119 [.int .u32 ((e % 4294967296 : Nat) : Int), .slice (some ⟨gB, 0, none⟩) body.length 832, .slice (some ⟨gO, 0, none⟩) oks.length 16, .pointer (some ⟨gj, 0, none⟩), .int .i64 ((beginN p + ((fdec ((body.drop (beginN p)).take ((beginN p + leftN (beginN p)) - (beginN p))) (e % 4294967296)).2.1) : Nat) : Int), .int .i64 ((beginN p : Nat) : Int), .slice A_10 ((R ++ ([(⟨A_9, c_6, ((feedN o bs ((fdec ((body.drop (beginN p)).take ((beginN p + leftN (beginN p)) - (beginN p))) (e % 4294967296)).1.1) ((fdec ((body.drop (beginN p)).take ((beginN p + leftN (beginN p)) - (beginN p))) (e % 4294967296)).1.2)).2.1)⟩ : Bys)])).length) c_7, .slice A_11 ((Pl ++ ([((beginN p : Nat) : Int)])).length) c_8, .int .i64 (en : Int), .int .i64 0] ∧ Blk w_ gB 5 (fl encB body) ∧ Blk w_ gO 4 (fl encO oks) ∧ World.ownsRow w_ w.heap.size 5 1 (.slice Aj bs.length cj) bs.length (fl encB bs) ∧ DeepY 5 w_ R ∧ Blk w_ gr 99 [.slice none 0 0, .slice none 0 0, .int .i64 0, .int .i64 0] ∧ World.ownsRow w_ w.heap.size 5 1 (.slice A_2 ((fdec ((body.drop (beginN p)).take ((beginN p + leftN (beginN p)) - (beginN p))) (e % 4294967296)).1.2).length c_1) ((fdec ((body.drop (beginN p)).take ((beginN p + leftN (beginN p)) - (beginN p))) (e % 4294967296)).1.2).length (fl encB ((fdec ((body.drop (beginN p)).take ((beginN p + leftN (beginN p)) - (beginN p))) (e % 4294967296)).1.2)) ∧ Blk w_ g1 86 [.int .i64 (((fdec ((body.drop (beginN p)).take ((beginN p + leftN (beginN p)) - (beginN p))) (e % 4294967296)).1.1 : Nat) : Int), .int .u32 ((e % 4294967296 : Nat) : Int), .slice A_2 (((fdec ((body.drop (beginN p)).take ((beginN p + leftN (beginN p)) - (beginN p))) (e % 4294967296)).1.2).length) c_1] ∧ Blk w_ gj 130 [.bool ((feedN o bs ((fdec ((body.drop (beginN p)).take ((beginN p + leftN (beginN p)) - (beginN p))) (e % 4294967296)).1.1) ((fdec ((body.drop (beginN p)).take ((beginN p + leftN (beginN p)) - (beginN p))) (e % 4294967296)).1.2)).1.1), .slice A_8 (((feedN o bs ((fdec ((body.drop (beginN p)).take ((beginN p + leftN (beginN p)) - (beginN p))) (e % 4294967296)).1.1) ((fdec ((body.drop (beginN p)).take ((beginN p + leftN (beginN p)) - (beginN p))) (e % 4294967296)).1.2)).1.2).length) c_5] ∧ World.ownsRow w_ w.heap.size 5 1 (.slice A_8 ((feedN o bs ((fdec ((body.drop (beginN p)).take ((beginN p + leftN (beginN p)) - (beginN p))) (e % 4294967296)).1.1) ((fdec ((body.drop (beginN p)).take ((beginN p + leftN (beginN p)) - (beginN p))) (e % 4294967296)).1.2)).1.2).length c_5) ((feedN o bs ((fdec ((body.drop (beginN p)).take ((beginN p + leftN (beginN p)) - (beginN p))) (e % 4294967296)).1.1) ((fdec ((body.drop (beginN p)).take ((beginN p + leftN (beginN p)) - (beginN p))) (e % 4294967296)).1.2)).1.2).length (fl encB ((feedN o bs ((fdec ((body.drop (beginN p)).take ((beginN p + leftN (beginN p)) - (beginN p))) (e % 4294967296)).1.1) ((fdec ((body.drop (beginN p)).take ((beginN p + leftN (beginN p)) - (beginN p))) (e % 4294967296)).1.2)).1.2)) ∧ World.ownsRow w_ w.heap.size 5 1 (.slice A_9 ((feedN o bs ((fdec ((body.drop (beginN p)).take ((beginN p + leftN (beginN p)) - (beginN p))) (e % 4294967296)).1.1) ((fdec ((body.drop (beginN p)).take ((beginN p + leftN (beginN p)) - (beginN p))) (e % 4294967296)).1.2)).2.1).length c_6) ((feedN o bs ((fdec ((body.drop (beginN p)).take ((beginN p + leftN (beginN p)) - (beginN p))) (e % 4294967296)).1.1) ((fdec ((body.drop (beginN p)).take ((beginN p + leftN (beginN p)) - (beginN p))) (e % 4294967296)).1.2)).2.1).length (fl encB ((feedN o bs ((fdec ((body.drop (beginN p)).take ((beginN p + leftN (beginN p)) - (beginN p))) (e % 4294967296)).1.1) ((fdec ((body.drop (beginN p)).take ((beginN p + leftN (beginN p)) - (beginN p))) (e % 4294967296)).1.2)).2.1)) ∧ World.ownsRow w_ w.heap.size 34 1 (.slice A_10 (R ++ ([(⟨A_9, c_6, ((feedN o bs ((fdec ((body.drop (beginN p)).take ((beginN p + leftN (beginN p)) - (beginN p))) (e % 4294967296)).1.1) ((fdec ((body.drop (beginN p)).take ((beginN p + leftN (beginN p)) - (beginN p))) (e % 4294967296)).1.2)).2.1)⟩ : Bys)])).length c_7) (R ++ ([(⟨A_9, c_6, ((feedN o bs ((fdec ((body.drop (beginN p)).take ((beginN p + leftN (beginN p)) - (beginN p))) (e % 4294967296)).1.1) ((fdec ((body.drop (beginN p)).take ((beginN p + leftN (beginN p)) - (beginN p))) (e % 4294967296)).1.2)).2.1)⟩ : Bys)])).length (fl encY (R ++ ([(⟨A_9, c_6, ((feedN o bs ((fdec ((body.drop (beginN p)).take ((beginN p + leftN (beginN p)) - (beginN p))) (e % 4294967296)).1.1) ((fdec ((body.drop (beginN p)).take ((beginN p + leftN (beginN p)) - (beginN p))) (e % 4294967296)).1.2)).2.1)⟩ : Bys)]))) ∧ World.ownsRow w_ w.heap.size 3 1 (.slice A_11 (Pl ++ ([((beginN p : Nat) : Int)])).length c_8) (Pl ++ ([((beginN p : Nat) : Int)])).length (fl encZ (Pl ++ ([((beginN p : Nat) : Int)]))) ∧ (∀ k_, (Value.slice A_2 ((fdec ((body.drop (beginN p)).take ((beginN p + leftN (beginN p)) - (beginN p))) (e % 4294967296)).1.2).length c_1).ownBlock = some k_ → k_ ≠ gB) ∧ (∀ k_, (Value.slice A_8 ((feedN o bs ((fdec ((body.drop (beginN p)).take ((beginN p + leftN (beginN p)) - (beginN p))) (e % 4294967296)).1.1) ((fdec ((body.drop (beginN p)).take ((beginN p + leftN (beginN p)) - (beginN p))) (e % 4294967296)).1.2)).1.2).length c_5).ownBlock = some k_ → k_ ≠ gB) ∧ (∀ k_, (Value.slice A_9 ((feedN o bs ((fdec ((body.drop (beginN p)).take ((beginN p + leftN (beginN p)) - (beginN p))) (e % 4294967296)).1.1) ((fdec ((body.drop (beginN p)).take ((beginN p + leftN (beginN p)) - (beginN p))) (e % 4294967296)).1.2)).2.1).length c_6).ownBlock = some k_ → k_ ≠ gB))) ?_ ?_
         ·refine C_draw2 rfl mix ?_
          intro w34 hs33 hz18
          replace hB := gb_tr hB hs33; replace hb16 := hb16.gb hs33; replace hbB := hbB.gb hs33; replace hbO := hbO.gb hs33; replace ho := own_gb ho hs33; replace hoR := own_gb hoR hs33; replace hoP := own_gb hoP hs33; replace hDY := hDY.gb hs33; replace hbr4 := hbr4.gb hs33; replace hj1 := own_gb hj1 hs33
          replace hj2 := hj2.gb hs33; replace hb15 := hb15.gb hs33; replace ho5 := own_gb ho5 hs33; replace ho6 := own_gb ho6 hs33
          refine ⟨fun W_ => Blk W_ gs 119 [.int .u32 ((e % 4294967296 : Nat) : Int), .slice (some ⟨gB, 0, none⟩) body.length 832, .slice (some ⟨gO, 0, none⟩) oks.length 16, .pointer (some ⟨gj, 0, none⟩), .int .i64 ((beginN p + ((fdec ((body.drop (beginN p)).take ((beginN p + leftN (beginN p)) - (beginN p))) (e % 4294967296)).2.1) : Nat) : Int), .int .i64 ((beginN p : Nat) : Int), .slice Ar R.length cr, .slice Ap Pl.length cp, .int .i64 (en : Int), .int .i64 0] ∧ True, [0, 1, 2, 3, 4, 5, 6, 7, 10, 11, 12, 13, 14, 15, 16, 17, 18, 21, 22, 23], ?_⟩
          refine T_tk (i := 0) rfl (Y_of (fun _ _ => R_move rfl)) ⟨hb16, trivial⟩ rfl ?_
          refine T_tk (i := 1) rfl (Y_of (fun _ _ => R_move rfl)) ⟨hb16, trivial⟩ rfl ?_
          refine T_tk (i := 2) rfl (Y_of (fun _ _ => R_move rfl)) ⟨hb16, trivial⟩ rfl ?_
          refine T_tk (i := 3) rfl (Y_of (fun _ _ => R_nilck rfl)) ⟨hb16, trivial⟩ rfl ?_
          refine T_tk (i := 4) rfl (Y_of (fun _ _ => R_field (r := 6) rfl fld119_6 rfl)) ⟨hb16, trivial⟩ rfl ?_
          refine T_tk (i := 5) rfl (Y_of (fun _ _ => R_field (r := 6) rfl fld99_0 rfl)) ⟨hb16, trivial⟩ rfl ?_
          refine T_tk (i := 6) rfl (Y_of (fun _ ⟨hb16, _⟩ => R_load1 rfl scl51 (hb16.cell (i := 6) rfl))) ⟨hb16, trivial⟩ rfl ?_
          refine T_tk (i := 7) rfl (Y_of (fun _ _ => R_move rfl)) ⟨hb16, trivial⟩ rfl ?_
          refine T_tk (i := 10) rfl (Y_of (fun _ _ => R_move rfl)) ⟨hb16, trivial⟩ rfl ?_
          refine T_tk (i := 11) rfl (Y_of (fun _ _ => R_nilck rfl)) ⟨hb16, trivial⟩ rfl ?_
          refine T_tk (i := 12) rfl (Y_of (fun _ _ => R_field (r := 6) rfl fld119_6 rfl)) ⟨hb16, trivial⟩ rfl ?_
          refine T_tk (i := 13) rfl (Y_of (fun _ _ => R_field (r := 7) rfl fld99_1 rfl)) ⟨hb16, trivial⟩ rfl ?_
          refine T_tk (i := 14) rfl (Y_of (fun _ ⟨hb16, _⟩ => R_load1 rfl scl52 (hb16.cell (i := 7) rfl))) ⟨hb16, trivial⟩ rfl ?_
          refine T_tk (i := 15) rfl (Y_of (fun _ _ => R_move rfl)) ⟨hb16, trivial⟩ rfl ?_
          refine T_tk (i := 16) rfl (Y_of (fun _ _ => R_nilck rfl)) ⟨hb16, trivial⟩ rfl ?_
          refine T_tk (i := 17) rfl (Y_of (fun _ _ => R_field (r := 5) rfl fld119_5 rfl)) ⟨hb16, trivial⟩ rfl ?_
          refine T_tk (i := 18) rfl (Y_of (fun _ ⟨hb16, _⟩ => R_load1 rfl scl3 (hb16.cell (i := 5) rfl))) ⟨hb16, trivial⟩ rfl ?_
          refine T_all (rs := [8, 19]) (by kernel_rfl) rfl (all2 (O_one rfl ?_) (O_one rfl ?_))
          ·refine L_buildSlice (pv := [(0, .slice A_9 (((feedN o bs ((fdec ((body.drop (beginN p)).take ((beginN p + leftN (beginN p)) - (beginN p))) (e % 4294967296)).1.1) ((fdec ((body.drop (beginN p)).take ((beginN p + leftN (beginN p)) - (beginN p))) (e % 4294967296)).1.2)).2.1).length) c_6)]) (cs := [.slice A_9 (((feedN o bs ((fdec ((body.drop (beginN p)).take ((beginN p + leftN (beginN p)) - (beginN p))) (e % 4294967296)).1.1) ((fdec ((body.drop (beginN p)).take ((beginN p + leftN (beginN p)) - (beginN p))) (e % 4294967296)).1.2)).2.1).length) c_6]) slc51 zer34 rfl rfl (by kernel_rfl) rfl ?_
           intro g6 w35 eg6 hb17 hs34 hz19
           have hap7 : ∀ k_, (Value.slice Ar R.length cr).ownBlock = some k_ → k_ ≠ g6 := fun k_ hk => by have h_ := (World.ownsRow.lt hoR k_ hk).2; omega
           replace hB := gb_tr hB hs34; replace hb16 := hb16.gb hs34; replace hbB := hbB.gb hs34; replace hbO := hbO.gb hs34; replace ho := own_gb ho hs34; replace hoR := own_gb hoR hs34; replace hoP := own_gb hoP hs34; replace hDY := hDY.gb hs34; replace hbr4 := hbr4.gb hs34; replace hj1 := own_gb hj1 hs34
           replace hj2 := hj2.gb hs34; replace hb15 := hb15.gb hs34; replace ho5 := own_gb ho5 hs34; replace ho6 := own_gb ho6 hs34
           refine L_nil (N_then ⟨fun hN_ => ⟨hb16, trivial⟩, ?_⟩)
           refine T_all (rs := [9, 19]) (by kernel_rfl) rfl (all2 (O_one rfl ?_) (O_one rfl ?_))
           ·refine T_append (xs := R) (ys := [(⟨A_9, c_6, ((feedN o bs ((fdec ((body.drop (beginN p)).take ((beginN p + leftN (beginN p)) - (beginN p))) (e % 4294967296)).1.1) ((fdec ((body.drop (beginN p)).take ((beginN p + leftN (beginN p)) - (beginN p))) (e % 4294967296)).1.2)).2.1)⟩ : Bys)]) EncY slc51 rfl rfl hoR (Blk.sli (m := 0) hb17) (by first | omega | (simp; omega)) (by have := hB.size; omega) rfl ?_
            intro A_10 c_7 w36 ho7 hs35 hat1
            replace hB := gb_tro hB hoR hs35 (Nat.le_refl _); replace hb16 := blk_own hb16 hoR rfl hs35; replace hbB := blk_own hbB hoR rfl hs35; replace hbO := blk_own hbO hoR rfl hs35; replace ho := ho.kept hs35 (own_type_ne' ho hoR rfl); replace hoP := hoP.kept hs35 (own_type_ne' hoP hoR rfl); replace hDY := hDY.otherO hoR rfl rfl hs35
            replace hbr4 := blk_own hbr4 hoR rfl hs35; replace hj1 := hj1.kept hs35 (own_type_ne' hj1 hoR rfl); replace hj2 := blk_own hj2 hoR rfl hs35; replace hb15 := blk_own hb15 hoR rfl hs35; replace ho5 := ho5.kept hs35 (own_type_ne' ho5 hoR rfl); replace ho6 := ho6.kept hs35 (own_type_ne' ho6 hoR rfl)
            refine L_nil (N_then ⟨fun hN_ => ⟨hb16, trivial⟩, ?_⟩)
            refine T_all (rs := [19]) (by kernel_rfl) rfl (all1 (O_one rfl ?_))
            refine L_buildSlice (pv := [(0, .int .i64 ((beginN p : Nat) : Int))]) (cs := [.int .i64 ((beginN p : Nat) : Int)]) slc52 zer3 rfl rfl (by kernel_rfl) rfl ?_
            intro g7 w37 eg7 hb18 hs36 hz20
            have hap8 : ∀ k_, (Value.slice Ap Pl.length cp).ownBlock = some k_ → k_ ≠ g7 := fun k_ hk => by have h_ := (World.ownsRow.lt hoP k_ hk).2; omega
            replace hB := gb_tr hB hs36; replace hb16 := hb16.gb hs36; replace hbB := hbB.gb hs36; replace hbO := hbO.gb hs36; replace ho := own_gb ho hs36; replace hoP := own_gb hoP hs36; replace hDY := hDY.gb hs36; replace hbr4 := hbr4.gb hs36; replace hj1 := own_gb hj1 hs36; replace hj2 := hj2.gb hs36
            replace hb15 := hb15.gb hs36; replace ho5 := own_gb ho5 hs36; replace ho6 := own_gb ho6 hs36; replace ho7 := own_gb ho7 hs36
            refine L_nil (N_then ⟨fun hN_ => ⟨hb16, trivial⟩, ?_⟩)
            refine T_all (rs := [20]) (by kernel_rfl) rfl (all1 (O_one rfl ?_))
            refine T_append (xs := Pl) (ys := [((beginN p : Nat) : Int)]) EncZ slc52 rfl rfl hoP (Blk.sli (m := 0) hb18) (by first | omega | (simp; omega)) (by have := hB.size; omega) rfl ?_
            intro A_11 c_8 w38 ho8 hs37 hat2
            replace hB := gb_tro hB hoP hs37 (Nat.le_refl _); replace hb16 := blk_own hb16 hoP rfl hs37; replace hbB := blk_own hbB hoP rfl hs37; replace hbO := blk_own hbO hoP rfl hs37; replace ho := ho.kept hs37 (own_type_ne' ho hoP rfl); replace hDY := hDY.otherO hoP rfl rfl hs37; replace hbr4 := blk_own hbr4 hoP rfl hs37
            replace hj1 := hj1.kept hs37 (own_type_ne' hj1 hoP rfl); replace hj2 := blk_own hj2 hoP rfl hs37; replace hb15 := blk_own hb15 hoP rfl hs37; replace ho5 := ho5.kept hs37 (own_type_ne' ho5 hoP rfl); replace ho6 := ho6.kept hs37 (own_type_ne' ho6 hoP rfl); replace ho7 := ho7.kept hs37 (own_type_ne' ho7 hoP rfl)
            refine L_nil (N_then ⟨fun hN_ => ⟨hb16, trivial⟩, ?_⟩)
            refine T_tk (i := 21) rfl (Y_of (fun _ _ => R_nilck rfl)) ⟨hb16, trivial⟩ rfl ?_
            refine T_tk (i := 22) rfl (Y_of (fun _ _ => R_field (r := 6) rfl fld119_6 rfl)) ⟨hb16, trivial⟩ rfl ?_
            refine T_tk (i := 23) rfl (Y_of (fun _ _ => R_field (r := 6) rfl fld99_0 rfl)) ⟨hb16, trivial⟩ rfl ?_
            refine T_all (rs := [24]) (by kernel_rfl) rfl (all1 (O_one rfl ?_))
            refine L_st1 rfl rfl rfl sz51 hb16 rfl ?_
            intro w39 hb19 hs38 hz21
            replace hB := gb_trg hB hs38 gs0; replace hbB := hbB.grown hs38 (ne_ty hbB hb16 rfl); replace hbO := hbO.grown hs38 (ne_ty hbO hb16 rfl); replace ho := own_other ho hb16 rfl hs38; replace hDY := hDY.other hb16 rfl rfl hs38; replace hbr4 := hbr4.grown hs38 (ne_ty hbr4 hb16 rfl); replace hj1 := own_other hj1 hb16 rfl hs38
            replace hj2 := hj2.grown hs38 (ne_gt lt26); replace hb15 := hb15.grown hs38 (ne_ty hb15 hb16 rfl); replace ho5 := own_other ho5 hb16 rfl hs38; replace ho6 := own_other ho6 hb16 rfl hs38; replace ho7 := own_other ho7 hb16 rfl hs38; replace ho8 := own_other ho8 hb16 rfl hs38
            refine L_nil (N_then ⟨fun hN_ => absurd (hN_.symm.trans (show _ = false by kernel_rfl)) (by decide), ?_⟩)
            refine T_all (rs := [25]) (by kernel_rfl) rfl (all1 (O_one rfl ?_))
            refine L_run (R_nilck rfl) rfl ?_
            refine L_nil (N_then ⟨fun hN_ => absurd (hN_.symm.trans (show _ = false by kernel_rfl)) (by decide), ?_⟩)
            refine T_all (rs := [26]) (by kernel_rfl) rfl (all1 (O_one rfl ?_))
            refine L_run (R_field (r := 6) rfl fld119_6 rfl) rfl (L_nil (N_then ⟨fun hN_ => absurd (hN_.symm.trans (show _ = false by kernel_rfl)) (by decide), ?_⟩))
            refine T_all (rs := [27]) (by kernel_rfl) rfl (all1 (O_one rfl ?_))
            refine L_run (R_field (r := 7) rfl fld99_1 rfl) rfl (L_nil (N_then ⟨fun hN_ => absurd (hN_.symm.trans (show _ = false by kernel_rfl)) (by decide), ?_⟩))
            refine T_switch (S' := fun _ => True) (qs' := []) (by kernel_rfl) ?_
            refine T_all (rs := [28]) (by kernel_rfl) rfl (all1 (O_one rfl ?_))
            refine L_st1 rfl rfl rfl sz52 hb19 rfl ?_
            intro w40 hb20 hs39 hz22
            replace hB := gb_trg hB hs39 gs0; replace hbB := hbB.grown hs39 (ne_ty hbB hb19 rfl); replace hbO := hbO.grown hs39 (ne_ty hbO hb19 rfl); replace ho := own_other ho hb19 rfl hs39; replace hDY := hDY.other hb19 rfl rfl hs39; replace hbr4 := hbr4.grown hs39 (ne_ty hbr4 hb19 rfl); replace hj1 := own_other hj1 hb19 rfl hs39
            replace hj2 := hj2.grown hs39 (ne_gt lt26); replace hb15 := hb15.grown hs39 (ne_ty hb15 hb19 rfl); replace ho5 := own_other ho5 hb19 rfl hs39; replace ho6 := own_other ho6 hb19 rfl hs39; replace ho7 := own_other ho7 hb19 rfl hs39; replace ho8 := own_other ho8 hb19 rfl hs39
            refine L_nil (N_then ⟨fun hN_ => trivial, ?_⟩)
            refine T_done (by kernel_rfl) (CalmE.normal ?_)
            exact ⟨rfl, ⟨_, A_10, c_7, A_11, c_8, Ac_frg ⟨rfl, rfl, rfl, rfl, rfl, rfl, rfl, rfl, rfl, rfl, rfl, rfl, rfl, trivial⟩, hB, hb20, hbB, hbO, ho, hDY, hbr4, hj1, hj2, hb15, (own_lo ho5 ge12), (own_lo ho6 ge12), ho7, ho8, ap1, hap5, hap6⟩⟩
           ·refine L_buildSlice (pv := [(0, .int .i64 ((beginN p : Nat) : Int))]) (cs := [.int .i64 ((beginN p : Nat) : Int)]) slc52 zer3 rfl rfl (by kernel_rfl) rfl ?_
            intro g8 w41 eg8 hb21 hs40 hz23
            have hap9 : ∀ k_, (Value.slice Ap Pl.length cp).ownBlock = some k_ → k_ ≠ g8 := fun k_ hk => by have h_ := (World.ownsRow.lt hoP k_ hk).2; omega
            replace hB := gb_tr hB hs40; replace hb16 := hb16.gb hs40; replace hbB := hbB.gb hs40; replace hbO := hbO.gb hs40; replace ho := own_gb ho hs40; replace hoR := own_gb hoR hs40; replace hoP := own_gb hoP hs40; replace hDY := hDY.gb hs40; replace hbr4 := hbr4.gb hs40; replace hj1 := own_gb hj1 hs40
            replace hj2 := hj2.gb hs40; replace hb15 := hb15.gb hs40; replace ho5 := own_gb ho5 hs40; replace ho6 := own_gb ho6 hs40; replace hb17 := hb17.gb hs40
            refine L_nil (N_then ⟨fun hN_ => ⟨hb16, trivial⟩, ?_⟩)
            refine T_all (rs := [9]) (by kernel_rfl) rfl (all1 (O_one rfl ?_))
            refine T_append (xs := R) (ys := [(⟨A_9, c_6, ((feedN o bs ((fdec ((body.drop (beginN p)).take ((beginN p + leftN (beginN p)) - (beginN p))) (e % 4294967296)).1.1) ((fdec ((body.drop (beginN p)).take ((beginN p + leftN (beginN p)) - (beginN p))) (e % 4294967296)).1.2)).2.1)⟩ : Bys)]) EncY slc51 rfl rfl hoR (Blk.sli (m := 0) hb17) (by first | omega | (simp; omega)) (by have := hB.size; omega) rfl ?_
            intro A_12 c_9 w42 ho9 hs41 hat3
            replace hB := gb_tro hB hoR hs41 (Nat.le_refl _); replace hb16 := blk_own hb16 hoR rfl hs41; replace hbB := blk_own hbB hoR rfl hs41; replace hbO := blk_own hbO hoR rfl hs41; replace ho := ho.kept hs41 (own_type_ne' ho hoR rfl); replace hoP := hoP.kept hs41 (own_type_ne' hoP hoR rfl); replace hDY := hDY.otherO hoR rfl rfl hs41
            replace hbr4 := blk_own hbr4 hoR rfl hs41; replace hj1 := hj1.kept hs41 (own_type_ne' hj1 hoR rfl); replace hj2 := blk_own hj2 hoR rfl hs41; replace hb15 := blk_own hb15 hoR rfl hs41; replace ho5 := ho5.kept hs41 (own_type_ne' ho5 hoR rfl); replace ho6 := ho6.kept hs41 (own_type_ne' ho6 hoR rfl)
            replace hb21 := blk_own hb21 hoR rfl hs41
            refine L_nil (N_then ⟨fun hN_ => ⟨hb16, trivial⟩, ?_⟩)
            refine T_all (rs := [20]) (by kernel_rfl) rfl (all1 (O_one rfl ?_))
            refine T_append (xs := Pl) (ys := [((beginN p : Nat) : Int)]) EncZ slc52 rfl rfl hoP (Blk.sli (m := 0) hb21) (by first | omega | (simp; omega)) (by have := hB.size; omega) rfl ?_
            intro A_13 c_10 w43 ho10 hs42 hat4
            replace hB := gb_tro hB hoP hs42 (Nat.le_refl _); replace hb16 := blk_own hb16 hoP rfl hs42; replace hbB := blk_own hbB hoP rfl hs42; replace hbO := blk_own hbO hoP rfl hs42; replace ho := ho.kept hs42 (own_type_ne' ho hoP rfl); replace hDY := hDY.otherO hoP rfl rfl hs42; replace hbr4 := blk_own hbr4 hoP rfl hs42
            replace hj1 := hj1.kept hs42 (own_type_ne' hj1 hoP rfl); replace hj2 := blk_own hj2 hoP rfl hs42; replace hb15 := blk_own hb15 hoP rfl hs42; replace ho5 := ho5.kept hs42 (own_type_ne' ho5 hoP rfl); replace ho6 := ho6.kept hs42 (own_type_ne' ho6 hoP rfl); replace ho9 := ho9.kept hs42 (own_type_ne' ho9 hoP rfl)
            refine L_nil (N_then ⟨fun hN_ => ⟨hb16, trivial⟩, ?_⟩)
            refine T_tk (i := 21) rfl (Y_of (fun _ _ => R_nilck rfl)) ⟨hb16, trivial⟩ rfl ?_
            refine T_tk (i := 22) rfl (Y_of (fun _ _ => R_field (r := 6) rfl fld119_6 rfl)) ⟨hb16, trivial⟩ rfl ?_
            refine T_tk (i := 23) rfl (Y_of (fun _ _ => R_field (r := 6) rfl fld99_0 rfl)) ⟨hb16, trivial⟩ rfl ?_
            refine T_all (rs := [24]) (by kernel_rfl) rfl (all1 (O_one rfl ?_))
            refine L_st1 rfl rfl rfl sz51 hb16 rfl ?_
            intro w44 hb22 hs43 hz24
            replace hB := gb_trg hB hs43 gs0; replace hbB := hbB.grown hs43 (ne_ty hbB hb16 rfl); replace hbO := hbO.grown hs43 (ne_ty hbO hb16 rfl); replace ho := own_other ho hb16 rfl hs43; replace hDY := hDY.other hb16 rfl rfl hs43; replace hbr4 := hbr4.grown hs43 (ne_ty hbr4 hb16 rfl); replace hj1 := own_other hj1 hb16 rfl hs43
            replace hj2 := hj2.grown hs43 (ne_gt lt26); replace hb15 := hb15.grown hs43 (ne_ty hb15 hb16 rfl); replace ho5 := own_other ho5 hb16 rfl hs43; replace ho6 := own_other ho6 hb16 rfl hs43; replace ho9 := own_other ho9 hb16 rfl hs43; replace ho10 := own_other ho10 hb16 rfl hs43
            refine L_nil (N_then ⟨fun hN_ => absurd (hN_.symm.trans (show _ = false by kernel_rfl)) (by decide), ?_⟩)
            refine T_all (rs := [25]) (by kernel_rfl) rfl (all1 (O_one rfl ?_))
            refine L_run (R_nilck rfl) rfl ?_
            refine L_nil (N_then ⟨fun hN_ => absurd (hN_.symm.trans (show _ = false by kernel_rfl)) (by decide), ?_⟩)
            refine T_all (rs := [26]) (by kernel_rfl) rfl (all1 (O_one rfl ?_))
            refine L_run (R_field (r := 6) rfl fld119_6 rfl) rfl (L_nil (N_then ⟨fun hN_ => absurd (hN_.symm.trans (show _ = false by kernel_rfl)) (by decide), ?_⟩))
            refine T_all (rs := [27]) (by kernel_rfl) rfl (all1 (O_one rfl ?_))
            refine L_run (R_field (r := 7) rfl fld99_1 rfl) rfl (L_nil (N_then ⟨fun hN_ => absurd (hN_.symm.trans (show _ = false by kernel_rfl)) (by decide), ?_⟩))
            refine T_switch (S' := fun _ => True) (qs' := []) (by kernel_rfl) ?_
            refine T_all (rs := [28]) (by kernel_rfl) rfl (all1 (O_one rfl ?_))
            refine L_st1 rfl rfl rfl sz52 hb22 rfl ?_
            intro w45 hb23 hs44 hz25
            replace hB := gb_trg hB hs44 gs0; replace hbB := hbB.grown hs44 (ne_ty hbB hb22 rfl); replace hbO := hbO.grown hs44 (ne_ty hbO hb22 rfl); replace ho := own_other ho hb22 rfl hs44; replace hDY := hDY.other hb22 rfl rfl hs44; replace hbr4 := hbr4.grown hs44 (ne_ty hbr4 hb22 rfl); replace hj1 := own_other hj1 hb22 rfl hs44
            replace hj2 := hj2.grown hs44 (ne_gt lt26); replace hb15 := hb15.grown hs44 (ne_ty hb15 hb22 rfl); replace ho5 := own_other ho5 hb22 rfl hs44; replace ho6 := own_other ho6 hb22 rfl hs44; replace ho9 := own_other ho9 hb22 rfl hs44; replace ho10 := own_other ho10 hb22 rfl hs44
            refine L_nil (N_then ⟨fun hN_ => trivial, ?_⟩)
            refine T_done (by kernel_rfl) (CalmE.normal ?_)
            exact ⟨rfl, ⟨_, A_12, c_9, A_13, c_10, Ac_frg ⟨rfl, rfl, rfl, rfl, rfl, rfl, rfl, rfl, rfl, rfl, rfl, rfl, rfl, trivial⟩, hB, hb23, hbB, hbO, ho, hDY, hbr4, hj1, hj2, hb15, (own_lo ho5 ge12), (own_lo ho6 ge12), ho9, ho10, ap1, hap5, hap6⟩⟩
          ·refine L_buildSlice (pv := [(0, .int .i64 ((beginN p : Nat) : Int))]) (cs := [.int .i64 ((beginN p : Nat) : Int)]) slc52 zer3 rfl rfl (by kernel_rfl) rfl ?_
           intro g9 w46 eg9 hb24 hs45 hz26
           have hap10 : ∀ k_, (Value.slice Ap Pl.length cp).ownBlock = some k_ → k_ ≠ g9 := fun k_ hk => by have h_ := (World.ownsRow.lt hoP k_ hk).2; omega
           replace hB := gb_tr hB hs45; replace hb16 := hb16.gb hs45; replace hbB := hbB.gb hs45; replace hbO := hbO.gb hs45; replace ho := own_gb ho hs45; replace hoR := own_gb hoR hs45; replace hoP := own_gb hoP hs45; replace hDY := hDY.gb hs45; replace hbr4 := hbr4.gb hs45; replace hj1 := own_gb hj1 hs45
           replace hj2 := hj2.gb hs45; replace hb15 := hb15.gb hs45; replace ho5 := own_gb ho5 hs45; replace ho6 := own_gb ho6 hs45
           refine L_nil (N_then ⟨fun hN_ => ⟨hb16, trivial⟩, ?_⟩)
           refine T_all (rs := [8]) (by kernel_rfl) rfl (all1 (O_one rfl ?_))
           refine L_buildSlice (pv := [(0, .slice A_9 (((feedN o bs ((fdec ((body.drop (beginN p)).take ((beginN p + leftN (beginN p)) - (beginN p))) (e % 4294967296)).1.1) ((fdec ((body.drop (beginN p)).take ((beginN p + leftN (beginN p)) - (beginN p))) (e % 4294967296)).1.2)).2.1).length) c_6)]) (cs := [.slice A_9 (((feedN o bs ((fdec ((body.drop (beginN p)).take ((beginN p + leftN (beginN p)) - (beginN p))) (e % 4294967296)).1.1) ((fdec ((body.drop (beginN p)).take ((beginN p + leftN (beginN p)) - (beginN p))) (e % 4294967296)).1.2)).2.1).length) c_6]) slc51 zer34 rfl rfl (by kernel_rfl) rfl ?_
           intro g10 w47 eg10 hb25 hs46 hz27
           have hap11 : ∀ k_, (Value.slice Ar R.length cr).ownBlock = some k_ → k_ ≠ g10 := fun k_ hk => by have h_ := (World.ownsRow.lt hoR k_ hk).2; omega
           replace hB := gb_tr hB hs46; replace hb16 := hb16.gb hs46; replace hbB := hbB.gb hs46; replace hbO := hbO.gb hs46; replace ho := own_gb ho hs46; replace hoR := own_gb hoR hs46; replace hoP := own_gb hoP hs46; replace hDY := hDY.gb hs46; replace hbr4 := hbr4.gb hs46; replace hj1 := own_gb hj1 hs46
           replace hj2 := hj2.gb hs46; replace hb15 := hb15.gb hs46; replace ho5 := own_gb ho5 hs46; replace ho6 := own_gb ho6 hs46; replace hb24 := hb24.gb hs46
           refine L_nil (N_then ⟨fun hN_ => ⟨hb16, trivial⟩, ?_⟩)
           refine T_all (rs := [9]) (by kernel_rfl) rfl (all1 (O_one rfl ?_))
           refine T_append (xs := R) (ys := [(⟨A_9, c_6, ((feedN o bs ((fdec ((body.drop (beginN p)).take ((beginN p + leftN (beginN p)) - (beginN p))) (e % 4294967296)).1.1) ((fdec ((body.drop (beginN p)).take ((beginN p + leftN (beginN p)) - (beginN p))) (e % 4294967296)).1.2)).2.1)⟩ : Bys)]) EncY slc51 rfl rfl hoR (Blk.sli (m := 0) hb25) (by first | omega | (simp; omega)) (by have := hB.size; omega) rfl ?_
           intro A_14 c_11 w48 ho11 hs47 hat5
           replace hB := gb_tro hB hoR hs47 (Nat.le_refl _); replace hb16 := blk_own hb16 hoR rfl hs47; replace hbB := blk_own hbB hoR rfl hs47; replace hbO := blk_own hbO hoR rfl hs47; replace ho := ho.kept hs47 (own_type_ne' ho hoR rfl); replace hoP := hoP.kept hs47 (own_type_ne' hoP hoR rfl); replace hDY := hDY.otherO hoR rfl rfl hs47
           replace hbr4 := blk_own hbr4 hoR rfl hs47; replace hj1 := hj1.kept hs47 (own_type_ne' hj1 hoR rfl); replace hj2 := blk_own hj2 hoR rfl hs47; replace hb15 := blk_own hb15 hoR rfl hs47; replace ho5 := ho5.kept hs47 (own_type_ne' ho5 hoR rfl); replace ho6 := ho6.kept hs47 (own_type_ne' ho6 hoR rfl)
           replace hb24 := blk_own hb24 hoR rfl hs47
           refine L_nil (N_then ⟨fun hN_ => ⟨hb16, trivial⟩, ?_⟩)
           refine T_all (rs := [20]) (by kernel_rfl) rfl (all1 (O_one rfl ?_))
           refine T_append (xs := Pl) (ys := [((beginN p : Nat) : Int)]) EncZ slc52 rfl rfl hoP (Blk.sli (m := 0) hb24) (by first | omega | (simp; omega)) (by have := hB.size; omega) rfl ?_
           intro A_15 c_12 w49 ho12 hs48 hat6
           replace hB := gb_tro hB hoP hs48 (Nat.le_refl _); replace hb16 := blk_own hb16 hoP rfl hs48; replace hbB := blk_own hbB hoP rfl hs48; replace hbO := blk_own hbO hoP rfl hs48; replace ho := ho.kept hs48 (own_type_ne' ho hoP rfl); replace hDY := hDY.otherO hoP rfl rfl hs48; replace hbr4 := blk_own hbr4 hoP rfl hs48
           replace hj1 := hj1.kept hs48 (own_type_ne' hj1 hoP rfl); replace hj2 := blk_own hj2 hoP rfl hs48; replace hb15 := blk_own hb15 hoP rfl hs48; replace ho5 := ho5.kept hs48 (own_type_ne' ho5 hoP rfl); replace ho6 := ho6.kept hs48 (own_type_ne' ho6 hoP rfl); replace ho11 := ho11.kept hs48 (own_type_ne' ho11 hoP rfl)
           refine L_nil (N_then ⟨fun hN_ => ⟨hb16, trivial⟩, ?_⟩)
           refine T_tk (i := 21) rfl (Y_of (fun _ _ => R_nilck rfl)) ⟨hb16, trivial⟩ rfl ?_
           refine T_tk (i := 22) rfl (Y_of (fun _ _ => R_field (r := 6) rfl fld119_6 rfl)) ⟨hb16, trivial⟩ rfl ?_
           refine T_tk (i := 23) rfl (Y_of (fun _ _ => R_field (r := 6) rfl fld99_0 rfl)) ⟨hb16, trivial⟩ rfl ?_
           refine T_all (rs := [24]) (by kernel_rfl) rfl (all1 (O_one rfl ?_))
           refine L_st1 rfl rfl rfl sz51 hb16 rfl ?_
           intro w50 hb26 hs49 hz28
           replace hB := gb_trg hB hs49 gs0; replace hbB := hbB.grown hs49 (ne_ty hbB hb16 rfl); replace hbO := hbO.grown hs49 (ne_ty hbO hb16 rfl); replace ho := own_other ho hb16 rfl hs49; replace hDY := hDY.other hb16 rfl rfl hs49; replace hbr4 := hbr4.grown hs49 (ne_ty hbr4 hb16 rfl); replace hj1 := own_other hj1 hb16 rfl hs49
           replace hj2 := hj2.grown hs49 (ne_gt lt26); replace hb15 := hb15.grown hs49 (ne_ty hb15 hb16 rfl); replace ho5 := own_other ho5 hb16 rfl hs49; replace ho6 := own_other ho6 hb16 rfl hs49; replace ho11 := own_other ho11 hb16 rfl hs49; replace ho12 := own_other ho12 hb16 rfl hs49
           refine L_nil (N_then ⟨fun hN_ => absurd (hN_.symm.trans (show _ = false by kernel_rfl)) (by decide), ?_⟩)
           refine T_all (rs := [25]) (by kernel_rfl) rfl (all1 (O_one rfl ?_))
           refine L_run (R_nilck rfl) rfl ?_
           refine L_nil (N_then ⟨fun hN_ => absurd (hN_.symm.trans (show _ = false by kernel_rfl)) (by decide), ?_⟩)
           refine T_all (rs := [26]) (by kernel_rfl) rfl (all1 (O_one rfl ?_))
           refine L_run (R_field (r := 6) rfl fld119_6 rfl) rfl (L_nil (N_then ⟨fun hN_ => absurd (hN_.symm.trans (show _ = false by kernel_rfl)) (by decide), ?_⟩))
           refine T_all (rs := [27]) (by kernel_rfl) rfl (all1 (O_one rfl ?_))
           refine L_run (R_field (r := 7) rfl fld99_1 rfl) rfl (L_nil (N_then ⟨fun hN_ => absurd (hN_.symm.trans (show _ = false by kernel_rfl)) (by decide), ?_⟩))
           refine T_switch (S' := fun _ => True) (qs' := []) (by kernel_rfl) ?_
           refine T_all (rs := [28]) (by kernel_rfl) rfl (all1 (O_one rfl ?_))
           refine L_st1 rfl rfl rfl sz52 hb26 rfl ?_
           intro w51 hb27 hs50 hz29
           replace hB := gb_trg hB hs50 gs0; replace hbB := hbB.grown hs50 (ne_ty hbB hb26 rfl); replace hbO := hbO.grown hs50 (ne_ty hbO hb26 rfl); replace ho := own_other ho hb26 rfl hs50; replace hDY := hDY.other hb26 rfl rfl hs50; replace hbr4 := hbr4.grown hs50 (ne_ty hbr4 hb26 rfl); replace hj1 := own_other hj1 hb26 rfl hs50
           replace hj2 := hj2.grown hs50 (ne_gt lt26); replace hb15 := hb15.grown hs50 (ne_ty hb15 hb26 rfl); replace ho5 := own_other ho5 hb26 rfl hs50; replace ho6 := own_other ho6 hb26 rfl hs50; replace ho11 := own_other ho11 hb26 rfl hs50; replace ho12 := own_other ho12 hb26 rfl hs50
           refine L_nil (N_then ⟨fun hN_ => trivial, ?_⟩)
           refine T_done (by kernel_rfl) (CalmE.normal ?_)
           exact ⟨rfl, ⟨_, A_14, c_11, A_15, c_12, Ac_frg ⟨rfl, rfl, rfl, rfl, rfl, rfl, rfl, rfl, rfl, rfl, rfl, rfl, rfl, trivial⟩, hB, hb27, hbB, hbO, ho, hDY, hbr4, hj1, hj2, hb15, (own_lo ho5 ge12), (own_lo ho6 ge12), ho11, ho12, ap1, hap5, hap6⟩⟩
         ·clear hB
          clear hb16 hbB hbO ho hoR hoP hDY hbr4 hj1 hj2 hb15 ho5 ho6 hlo5
          rintro a_ w52 ⟨σ_, A_10, c_7, A_11, c_8, rfl, hB, hj4, hbB, hbO, ho, hDY, hbr4, hj1, hj2, hb15, ho5, ho6, hj5, hj6, ap2, ap3, ap4⟩
          refine N_then (C_reg rfl ?_)
          refine Lmv rfl rfl (Lmv rfl rfl (L_run (R_nilck rfl) rfl (L_run (R_field (r := 4) rfl fld119_4 rfl) rfl (L_run (R_load1 rfl scl3 (hj4.cell (i := 4) rfl)) rfl (L_run (R_nilck rfl) rfl (L_run (R_field (r := 6) rfl fld119_6 rfl) rfl (L_run (R_field (r := 8) rfl fld99_2 rfl) rfl ?_)))))))
          refine L_st1 rfl rfl rfl sz3 hj4 rfl ?_
          intro w53 hb28 hs51 hz30
          replace hB := gb_trg hB hs51 gs0; replace hbB := hbB.grown hs51 (ne_ty hbB hj4 rfl); replace hbO := hbO.grown hs51 (ne_ty hbO hj4 rfl); replace hDY := hDY.other hj4 rfl rfl hs51; replace hbr4 := hbr4.grown hs51 (ne_ty hbr4 hj4 rfl); replace hb15 := hb15.grown hs51 (ne_ty hb15 hj4 rfl); replace ho5 := own_other ho5 hj4 rfl hs51
          replace ho6 := own_other ho6 hj4 rfl hs51; replace hj5 := own_other hj5 hj4 rfl hs51; replace hj6 := own_other hj6 hj4 rfl hs51
          refine L_nil (N_then (C_seq (C_reg rfl (Las rfl rfl (L_nil (N_then (C_ret ?_)))))))
          refine ret1 Tryd.results72 rfl ?_
          have hac_ : (accN e body oks (beginN p)) = _ := acc_yes hbl hbp_ (by simpa using h2) h7 (by simpa using h9)
          have hbd_ := acc_bnd hbl hbp_ h7
          have hbn_ := beginN_le hp
          have hif : (if o = true then f else beginN p) = beginN p := by have h_ : o = false := (by simpa using h10); rw [h_]; rfl
          have hfn := scn_fin (n := (fdec ((body.drop (beginN p)).take (beginN p + leftN (beginN p) - beginN p)) (e % 4294967296)).2.1) (k := (fdec ((body.drop (beginN p)).take (beginN p + leftN (beginN p) - beginN p)) (e % 4294967296)).1.1) (d := (fdec ((body.drop (beginN p)).take (beginN p + leftN (beginN p) - beginN p)) (e % 4294967296)).1.2) hSX hac_ (by omega) (by omega) (Decidable.not_not.1 h11) h12
          rw [hif] at hfn
          exact ⟨hB, .inr ⟨(beginN p + (fdec ((body.drop (beginN p)).take (beginN p + leftN (beginN p) - beginN p)) (e % 4294967296)).2.1), (beginN p), ((feedN o bs ((fdec ((body.drop (beginN p)).take ((beginN p + leftN (beginN p)) - (beginN p))) (e % 4294967296)).1.1) ((fdec ((body.drop (beginN p)).take ((beginN p + leftN (beginN p)) - (beginN p))) (e % 4294967296)).1.2)).1.1), (feedN o bs ((fdec ((body.drop (beginN p)).take ((beginN p + leftN (beginN p)) - (beginN p))) (e % 4294967296)).1.1) ((fdec ((body.drop (beginN p)).take ((beginN p + leftN (beginN p)) - (beginN p))) (e % 4294967296)).1.2)).1.2, A_8, c_5, R ++ ([(⟨A_9, c_6, ((feedN o bs ((fdec ((body.drop (beginN p)).take ((beginN p + leftN (beginN p)) - (beginN p))) (e % 4294967296)).1.1) ((fdec ((body.drop (beginN p)).take ((beginN p + leftN (beginN p)) - (beginN p))) (e % 4294967296)).1.2)).2.1)⟩ : Bys)]), A_10, c_7, Pl ++ ([((beginN p : Nat) : Int)]), A_11, c_8, (beginN p + ((fdec ((body.drop (beginN p)).take ((beginN p + leftN (beginN p)) - (beginN p))) (e % 4294967296)).2.1)), (fu - 1), (acc ++ [((feedN o bs (fdec ((body.drop (beginN p)).take (beginN p + leftN (beginN p) - beginN p)) (e % 4294967296)).1.1 (fdec ((body.drop (beginN p)).take (beginN p + leftN (beginN p) - beginN p)) (e % 4294967296)).1.2).2.1, (beginN p), beginN p + (fdec ((body.drop (beginN p)).take (beginN p + leftN (beginN p) - beginN p)) (e % 4294967296)).2.1)]), rfl, by omega, hb28, hb15, hbB, hbO, (own_lo ho5 (Nat.le_refl _)), (own_lo hj5 (Nat.le_refl _)), (own_lo hj6 (Nat.le_refl _)), (hDY.snoc (own_of ho6).2.2), hbr4, by omega, feedN_len.1, (by simp only [List.length_append, List.length_cons, List.length_nil]; omega), by omega, (hSR.snoc rfl (own_of ho6).1), hfn⟩⟩
        ·refine C_skip (N_then (C_seq (C_reg rfl ?_)))
         refine Las rfl rfl (L_nil (N_then (C_ret ?_)))
         refine ret1 Tryd.results72 rfl ?_
         have hac_ : (accN e body oks (beginN p)) = _ := acc_yes hbl hbp_ (by simpa using h2) h7 (by simpa using h9)
         have hbd_ := acc_bnd hbl hbp_ h7
         have hbn_ := beginN_le hp
         have hif : (if o = true then f else beginN p) = beginN p := by have h_ : o = false := (by simpa using h10); rw [h_]; rfl
         have hop := scn_go (n := (fdec ((body.drop (beginN p)).take (beginN p + leftN (beginN p) - beginN p)) (e % 4294967296)).2.1) (k := (fdec ((body.drop (beginN p)).take (beginN p + leftN (beginN p) - beginN p)) (e % 4294967296)).1.1) (d := (fdec ((body.drop (beginN p)).take (beginN p + leftN (beginN p) - beginN p)) (e % 4294967296)).1.2) hSX hac_ (by omega) (by omega) (Decidable.not_not.1 h11) h12
         rw [hif] at hop
         exact ⟨hB, .inr ⟨(beginN p + (fdec ((body.drop (beginN p)).take (beginN p + leftN (beginN p) - beginN p)) (e % 4294967296)).2.1), (beginN p), ((feedN o bs ((fdec ((body.drop (beginN p)).take ((beginN p + leftN (beginN p)) - (beginN p))) (e % 4294967296)).1.1) ((fdec ((body.drop (beginN p)).take ((beginN p + leftN (beginN p)) - (beginN p))) (e % 4294967296)).1.2)).1.1), (feedN o bs ((fdec ((body.drop (beginN p)).take ((beginN p + leftN (beginN p)) - (beginN p))) (e % 4294967296)).1.1) ((fdec ((body.drop (beginN p)).take ((beginN p + leftN (beginN p)) - (beginN p))) (e % 4294967296)).1.2)).1.2, A_8, c_5, R, Ar, cr, Pl, Ap, cp, en, (fu - 1), acc, rfl, by omega, hb16, hb15, hbB, hbO, (own_lo ho5 ge12), (own_lo hoR (Nat.le_refl _)), (own_lo hoP (Nat.le_refl _)), hDY, hbr4, by omega, feedN_len.1, (by omega), by omega, hSR, hop⟩⟩
      ·refine C_skip (N_then (C_seq ?_))
       refine C_draw2 rfl mix ?_
       intro w54 hs52 hz31
       replace hB := gb_tr hB hs52; replace hbs := hbs.gb hs52; replace hbj := hbj.gb hs52; replace hbB := hbB.gb hs52; replace hbO := hbO.gb hs52; replace ho := own_gb ho hs52; replace hoR := own_gb hoR hs52; replace hoP := own_gb hoP hs52; replace hDY := hDY.gb hs52; replace hbr4 := hbr4.gb hs52; replace hj1 := own_gb hj1 hs52
       replace hj2 := hj2.gb hs52
       refine ⟨fun W_ => Blk W_ gs 119 [.int .u32 ((e % 4294967296 : Nat) : Int), .slice (some ⟨gB, 0, none⟩) body.length 832, .slice (some ⟨gO, 0, none⟩) oks.length 16, .pointer (some ⟨gj, 0, none⟩), .int .i64 (p : Int), .int .i64 (f : Int), .slice Ar R.length cr, .slice Ap Pl.length cp, .int .i64 (en : Int), .int .i64 0] ∧ Blk W_ g1 86 [.int .i64 (((fdec ((body.drop (beginN p)).take ((beginN p + leftN (beginN p)) - (beginN p))) (e % 4294967296)).1.1 : Nat) : Int), .int .u32 ((e % 4294967296 : Nat) : Int), .slice A_2 (((fdec ((body.drop (beginN p)).take ((beginN p + leftN (beginN p)) - (beginN p))) (e % 4294967296)).1.2).length) c_1] ∧ True, [0, 1, 2, 3, 4, 6, 7, 8, 9, 10, 11, 12], ?_⟩
       refine T_tk (i := 0) rfl (Y_of (fun _ _ => R_move rfl)) ⟨hbs, hj2, trivial⟩ rfl ?_
       refine T_tk (i := 1) rfl (Y_of (fun _ _ => R_nilck rfl)) ⟨hbs, hj2, trivial⟩ rfl ?_
       refine T_tk (i := 2) rfl (Y_of (fun _ _ => R_field (r := 3) rfl fld119_3 rfl)) ⟨hbs, hj2, trivial⟩ rfl ?_
       refine T_tk (i := 3) rfl (Y_of (fun _ ⟨hbs, hj2, _⟩ => R_load1 rfl scl116 (hbs.cell (i := 3) rfl))) ⟨hbs, hj2, trivial⟩ rfl ?_
       refine T_tk (i := 4) rfl (Y_of (fun _ ⟨hbs, hj2, _⟩ => R_loadA (vs := [.int .i64 (((fdec ((body.drop (beginN p)).take ((beginN p + leftN (beginN p)) - (beginN p))) (e % 4294967296)).1.1 : Nat) : Int), .int .u32 ((e % 4294967296 : Nat) : Int), .slice A_2 (((fdec ((body.drop (beginN p)).take ((beginN p + leftN (beginN p)) - (beginN p))) (e % 4294967296)).1.2).length) c_1]) rfl agg86 (At.pre (hj2.at_ 0) rfl) rfl)) ⟨hbs, hj2, trivial⟩ rfl ?_
       refine T_all (rs := [5]) (by kernel_rfl) rfl (all1 (O_one rfl ?_))
       have ge18 : w.heap.size ≤ w54.heap.size := hB.size
       refine L_call rfl cb94 (feed_ok (o := o) (bs := bs) (d := (fdec ((body.drop (beginN p)).take ((beginN p + leftN (beginN p)) - (beginN p))) (e % 4294967296)).1.2) (k := ((fdec ((body.drop (beginN p)).take ((beginN p + leftN (beginN p)) - (beginN p))) (e % 4294967296)).1.1)) hbj (own_of ho).2.2 (own_of hj1).2.2 (by omega) (by have h_ := acc_bnd (body := body) (e := e) hbl hbp_ (by assumption); omega)) rfl ?_
       rintro _ w55 ⟨hs53, A_16, c_13, A_17, c_14, rfl, hb29, ho13, ho14⟩
       have lb11 : gB < w54.heap.size := hbB.lt
       have lb12 : gO < w54.heap.size := hbO.lt
       replace hB := gb_trg hB hs53 gj0; replace hbs := hbs.grown hs53 (ne_ty hbs hbj rfl); replace hbB := hbB.grown hs53 (ne_ty hbB hbj rfl); replace hbO := hbO.grown hs53 (ne_ty hbO hbj rfl); replace ho := own_other ho hbj rfl hs53; replace hoR := own_other hoR hbj rfl hs53; replace hoP := own_other hoP hbj rfl hs53
       replace hDY := hDY.other hbj rfl rfl hs53; replace hbr4 := hbr4.grown hs53 (ne_ty hbr4 hbj rfl); replace hj1 := own_other hj1 hbj rfl hs53; replace hj2 := hj2.grown hs53 (ne_gt lt27)
       have hap12 : ∀ k_, (Value.slice A_16 ((feedN o bs ((fdec ((body.drop (beginN p)).take ((beginN p + leftN (beginN p)) - (beginN p))) (e % 4294967296)).1.1) ((fdec ((body.drop (beginN p)).take ((beginN p + leftN (beginN p)) - (beginN p))) (e % 4294967296)).1.2)).1.2).length c_13).ownBlock = some k_ → k_ ≠ gB := fun k_ hk => by have h_ := (World.ownsRow.lt ho13 k_ hk).1; omega
       have hap13 : ∀ k_, (Value.slice A_17 ((feedN o bs ((fdec ((body.drop (beginN p)).take ((beginN p + leftN (beginN p)) - (beginN p))) (e % 4294967296)).1.1) ((fdec ((body.drop (beginN p)).take ((beginN p + leftN (beginN p)) - (beginN p))) (e % 4294967296)).1.2)).2.1).length c_14).ownBlock = some k_ → k_ ≠ gB := fun k_ hk => by have h_ := (World.ownsRow.lt ho14 k_ hk).1; omega
       have hlo6 : w54.heap.size ≤ w55.heap.size := hs53.size
       refine L_nil (N_then ⟨fun hN_ => ⟨hbs, hj2, trivial⟩, ?_⟩)
       refine T_tk (i := 6) rfl (Y_of (fun _ _ => R_move rfl)) ⟨hbs, hj2, trivial⟩ rfl ?_
       refine T_tk (i := 7) rfl (Y_of (fun _ _ => R_extract rfl rfl)) ⟨hbs, hj2, trivial⟩ rfl ?_
       refine T_tk (i := 8) rfl (Y_of (fun _ _ => R_extract rfl rfl)) ⟨hbs, hj2, trivial⟩ rfl ?_
       refine T_tk (i := 9) rfl (Y_of (fun _ _ => R_extract rfl rfl)) ⟨hbs, hj2, trivial⟩ rfl ?_
       refine T_tk (i := 10) rfl (Y_of (fun _ _ => R_assign rfl)) ⟨hbs, hj2, trivial⟩ rfl ?_
       refine T_tk (i := 11) rfl (Y_of (fun _ _ => R_assign rfl)) ⟨hbs, hj2, trivial⟩ rfl ?_
       refine T_tk (i := 12) rfl (Y_of (fun _ _ => R_assign rfl)) ⟨hbs, hj2, trivial⟩ rfl ?_
       refine T_done (by kernel_rfl) (CalmE.normal ?_)
       refine N_then (C_seq (C_seq (C_reg rfl ?_)))
       refine Lmv rfl rfl (L_run (R_neq rfl rfl) rfl (L_nil (N_then (C_if rfl (fun h13 => ?_) (fun h13 => ?_)))))
       ·refine C_seq (C_reg rfl ?_)
        refine Las rfl rfl (L_nil (N_then (C_ret (R_then ?_))))
        refine ret1 Tryd.results72 rfl ?_
        have hac_ : (accN e body oks (beginN p)) = _ := acc_yes hbl hbp_ (by simpa using h2) h7 (by simpa using h9)
        have hsc_ : X = acc := scn_bad (k := (fdec ((body.drop (beginN p)).take (beginN p + leftN (beginN p) - beginN p)) (e % 4294967296)).1.1) (d := (fdec ((body.drop (beginN p)).take (beginN p + leftN (beginN p) - beginN p)) (e % 4294967296)).1.2) (n := (fdec ((body.drop (beginN p)).take (beginN p + leftN (beginN p) - beginN p)) (e % 4294967296)).2.1) hSX hac_ h13
        exact ⟨hB, .inl ⟨p, f, rfl, hsc_, hbs, hoR, hoP, hDY, hbr4⟩⟩
       ·refine C_skip (N_then (C_seq (C_reg rfl ?_)))
        refine Lmv rfl rfl (Lmv rfl rfl (Lmv rfl rfl ?_))
        refine L_run (R_eqv (R_add64 rfl rfl (by first | omega | (have h_ := acc_bnd (body := body) (e := e) hbl hbp_ (by assumption); omega))) (v' := .int .i64 ((beginN p + ((fdec ((body.drop (beginN p)).take ((beginN p + leftN (beginN p)) - (beginN p))) (e % 4294967296)).2.1) : Nat) : Int)) (congrArg _ (by omega))) rfl ?_
        refine L_run (R_nilck rfl) rfl ?_
        refine L_run (R_field (r := 4) rfl fld119_4 rfl) rfl ?_
        refine L_st1 rfl rfl rfl sz3 hbs rfl ?_
        intro w56 hb30 hs54 hz32
        replace hB := gb_trg hB hs54 gs0; replace hbB := hbB.grown hs54 (ne_ty hbB hbs rfl); replace hbO := hbO.grown hs54 (ne_ty hbO hbs rfl); replace ho := own_other ho hbs rfl hs54; replace hoR := own_other hoR hbs rfl hs54; replace hoP := own_other hoP hbs rfl hs54; replace hDY := hDY.other hbs rfl rfl hs54
        replace hbr4 := hbr4.grown hs54 (ne_ty hbr4 hbs rfl); replace hj1 := own_other hj1 hbs rfl hs54; replace hj2 := hj2.grown hs54 (ne_gt lt26); replace hb29 := hb29.grown hs54 (ne_ty hb29 hbs rfl); replace ho13 := own_other ho13 hbs rfl hs54; replace ho14 := own_other ho14 hbs rfl hs54
        refine L_nil (N_then (C_seq (C_seq (C_reg rfl (Lmv rfl rfl (L_nil (N_then ?_)))))))
        refine C_cond rfl (fun h14 => ?_) (fun h14 => ?_)
        ·refine C_seq ?_
         refine C_join (fun a_ w_ => (∃ (σ_ : Nat → Value) (A_18 : Option Addr) (c_15 : Nat) (A_19 : Option Addr) (c_16 : Nat), a_ = Ac 123 σ_ [] [(0, .pointer (some ⟨gs, 0, none⟩)), (2, .bool false), (3, .int .i64 ((beginN p : Nat) : Int)), (4, .pointer (some ⟨g1, 0, none⟩)), (5, .int .i64 (((fdec ((body.drop (beginN p)).take ((beginN p + leftN (beginN p)) - (beginN p))) (e % 4294967296)).2.1 : Nat) : Int)), (6, .int .i64 ((feedN o bs ((fdec ((body.drop (beginN p)).take ((beginN p + leftN (beginN p)) - (beginN p))) (e % 4294967296)).1.1) ((fdec ((body.drop (beginN p)).take ((beginN p + leftN (beginN p)) - (beginN p))) (e % 4294967296)).1.2)).2.2.2)), (7, .slice A_17 (((feedN o bs ((fdec ((body.drop (beginN p)).take ((beginN p + leftN (beginN p)) - (beginN p))) (e % 4294967296)).1.1) ((fdec ((body.drop (beginN p)).take ((beginN p + leftN (beginN p)) - (beginN p))) (e % 4294967296)).1.2)).2.1).length) c_14), (8, .bool ((feedN o bs ((fdec ((body.drop (beginN p)).take ((beginN p + leftN (beginN p)) - (beginN p))) (e % 4294967296)).1.1) ((fdec ((body.drop (beginN p)).take ((beginN p + leftN (beginN p)) - (beginN p))) (e % 4294967296)).1.2)).2.2.1)), (26, .bool (!(covN oks (min (beginN p) 832) (min (beginN p + 11) 832)))), (59, .bool (!(covN oks (min (beginN p) 832) (min (beginN p + ((fdec ((body.drop (beginN p)).take ((beginN p + leftN (beginN p)) - (beginN p))) (e % 4294967296)).2.1)) 832)))), (64, .bool (!o)), (80, .bool (decide ((feedN o bs ((fdec ((body.drop (beginN p)).take ((beginN p + leftN (beginN p)) - (beginN p))) (e % 4294967296)).1.1) ((fdec ((body.drop (beginN p)).take ((beginN p + leftN (beginN p)) - (beginN p))) (e % 4294967296)).1.2)).2.2.2 ≠ 0))), (87, .bool ((feedN o bs ((fdec ((body.drop (beginN p)).take ((beginN p + leftN (beginN p)) - (beginN p))) (e % 4294967296)).1.1) ((fdec ((body.drop (beginN p)).take ((beginN p + leftN (beginN p)) - (beginN p))) (e % 4294967296)).1.2)).2.2.1))] ∧ w.grownBy w_ none ∧ Blk w_ gs 119 [.int .u32 ((e % 4294967296 : Nat) : Int), .slice (some ⟨gB, 0, none⟩) body.length 832, .slice (some ⟨gO, 0, none⟩) oks.length 16, .pointer (some ⟨gj, 0, none⟩), .int .i64 ((beginN p + ((fdec ((body.drop (beginN p)).take ((beginN p + leftN (beginN p)) - (beginN p))) (e % 4294967296)).2.1) : Nat) : Int), .int .i64 (f : Int), .slice A_18 ((R ++ ([(⟨A_17, c_14, ((feedN o bs ((fdec ((body.drop (beginN p)).take ((beginN p + leftN (beginN p)) - (beginN p))) (e % 4294967296)).1.1) ((fdec ((body.drop (beginN p)).take ((beginN p + leftN (beginN p)) - (beginN p))) (e % 4294967296)).1.2)).2.1)⟩ : Bys)])).length) c_15, .slice A_19 ((Pl ++ ([(f : Int)])).length) c_16, .int .i64 (en : Int), .int .i64 0] ∧ Blk w_ gB 5 (fl encB body) ∧ Blk w_ gO 4 (fl encO oks) ∧ World.ownsRow w_ w.heap.size 5 1 (.slice Aj bs.length cj) bs.length (fl encB bs) ∧ DeepY 5 w_ R ∧ Blk w_ gr 99 [.slice none 0 0, .slice none 0 0, .int .i64 0, .int .i64 0] ∧ World.ownsRow w_ w.heap.size 5 1 (.slice A_2 ((fdec ((body.drop (beginN p)).take ((beginN p + leftN (beginN p)) - (beginN p))) (e % 4294967296)).1.2).length c_1) ((fdec ((body.drop (beginN p)).take ((beginN p + leftN (beginN p)) - (beginN p))) (e % 4294967296)).1.2).length (fl encB ((fdec ((body.drop (beginN p)).take ((beginN p + leftN (beginN p)) - (beginN p))) (e % 4294967296)).1.2)) ∧ Blk w_ g1 86 [.int .i64 (((fdec ((body.drop (beginN p)).take ((beginN p + leftN (beginN p)) - (beginN p))) (e % 4294967296)).1.1 : Nat) : Int), .int .u32 ((e % 4294967296 : Nat) : Int), .slice A_2 (((fdec ((body.drop (beginN p)).take ((beginN p + leftN (beginN p)) - (beginN p))) (e % 4294967296)).1.2).length) c_1] ∧ Blk w_ gj 130 [.bool ((feedN o bs ((fdec ((body.drop (beginN p)).take ((beginN p + leftN (beginN p)) - (beginN p))) (e % 4294967296)).1.1) ((fdec ((body.drop (beginN p)).take ((beginN p + leftN (beginN p)) - (beginN p))) (e % 4294967296)).1.2)).1.1), .slice A_16 (((feedN o bs ((fdec ((body.drop (beginN p)).take ((beginN p + leftN (beginN p)) - (beginN p))) (e % 4294967296)).1.1) ((fdec ((body.drop (beginN p)).take ((beginN p + leftN (beginN p)) - (beginN p))) (e % 4294967296)).1.2)).1.2).length) c_13] ∧ World.ownsRow w_ w.heap.size 5 1 (.slice A_16 ((feedN o bs ((fdec ((body.drop (beginN p)).take ((beginN p + leftN (beginN p)) - (beginN p))) (e % 4294967296)).1.1) ((fdec ((body.drop (beginN p)).take ((beginN p + leftN (beginN p)) - (beginN p))) (e % 4294967296)).1.2)).1.2).length c_13) ((feedN o bs ((fdec ((body.drop (beginN p)).take ((beginN p + leftN (beginN p)) - (beginN p))) (e % 4294967296)).1.1) ((fdec ((body.drop (beginN p)).take ((beginN p + leftN (beginN p)) - (beginN p))) (e % 4294967296)).1.2)).1.2).length (fl encB ((feedN o bs ((fdec ((body.drop (beginN p)).take ((beginN p + leftN (beginN p)) - (beginN p))) (e % 4294967296)).1.1) ((fdec ((body.drop (beginN p)).take ((beginN p + leftN (beginN p)) - (beginN p))) (e % 4294967296)).1.2)).1.2)) ∧ World.ownsRow w_ w.heap.size 5 1 (.slice A_17 ((feedN o bs ((fdec ((body.drop (beginN p)).take ((beginN p + leftN (beginN p)) - (beginN p))) (e % 4294967296)).1.1) ((fdec ((body.drop (beginN p)).take ((beginN p + leftN (beginN p)) - (beginN p))) (e % 4294967296)).1.2)).2.1).length c_14) ((feedN o bs ((fdec ((body.drop (beginN p)).take ((beginN p + leftN (beginN p)) - (beginN p))) (e % 4294967296)).1.1) ((fdec ((body.drop (beginN p)).take ((beginN p + leftN (beginN p)) - (beginN p))) (e % 4294967296)).1.2)).2.1).length (fl encB ((feedN o bs ((fdec ((body.drop (beginN p)).take ((beginN p + leftN (beginN p)) - (beginN p))) (e % 4294967296)).1.1) ((fdec ((body.drop (beginN p)).take ((beginN p + leftN (beginN p)) - (beginN p))) (e % 4294967296)).1.2)).2.1)) ∧ World.ownsRow w_ w.heap.size 34 1 (.slice A_18 (R ++ ([(⟨A_17, c_14, ((feedN o bs ((fdec ((body.drop (beginN p)).take ((beginN p + leftN (beginN p)) - (beginN p))) (e % 4294967296)).1.1) ((fdec ((body.drop (beginN p)).take ((beginN p + leftN (beginN p)) - (beginN p))) (e % 4294967296)).1.2)).2.1)⟩ : Bys)])).length c_15) (R ++ ([(⟨A_17, c_14, ((feedN o bs ((fdec ((body.drop (beginN p)).take ((beginN p + leftN (beginN p)) - (beginN p))) (e % 4294967296)).1.1) ((fdec ((body.drop (beginN p)).take ((beginN p + leftN (beginN p)) - (beginN p))) (e % 4294967296)).1.2)).2.1)⟩ : Bys)])).length (fl encY (R ++ ([(⟨A_17, c_14, ((feedN o bs ((fdec ((body.drop (beginN p)).take ((beginN p + leftN (beginN p)) - (beginN p))) (e % 4294967296)).1.1) ((fdec ((body.drop (beginN p)).take ((beginN p + leftN (beginN p)) - (beginN p))) (e % 4294967296)).1.2)).2.1)⟩ : Bys)]))) ∧ World.ownsRow w_ w.heap.size 3 1 (.slice A_19 (Pl ++ ([(f : Int)])).length c_16) (Pl ++ ([(f : Int)])).length (fl encZ (Pl ++ ([(f : Int)]))) ∧ (∀ k_, (Value.slice A_2 ((fdec ((body.drop (beginN p)).take ((beginN p + leftN (beginN p)) - (beginN p))) (e % 4294967296)).1.2).length c_1).ownBlock = some k_ → k_ ≠ gB) ∧ (∀ k_, (Value.slice A_16 ((feedN o bs ((fdec ((body.drop (beginN p)).take ((beginN p + leftN (beginN p)) - (beginN p))) (e % 4294967296)).1.1) ((fdec ((body.drop (beginN p)).take ((beginN p + leftN (beginN p)) - (beginN p))) (e % 4294967296)).1.2)).1.2).length c_13).ownBlock = some k_ → k_ ≠ gB) ∧ (∀ k_, (Value.slice A_17 ((feedN o bs ((fdec ((body.drop (beginN p)).take ((beginN p + leftN (beginN p)) - (beginN p))) (e % 4294967296)).1.1) ((fdec ((body.drop (beginN p)).take ((beginN p + leftN (beginN p)) - (beginN p))) (e % 4294967296)).1.2)).2.1).length c_14).ownBlock = some k_ → k_ ≠ gB))) ?_ ?_
         ·refine C_draw2 rfl mix ?_
          intro w57 hs55 hz33
          replace hB := gb_tr hB hs55; replace hb30 := hb30.gb hs55; replace hbB := hbB.gb hs55; replace hbO := hbO.gb hs55; replace ho := own_gb ho hs55; replace hoR := own_gb hoR hs55; replace hoP := own_gb hoP hs55; replace hDY := hDY.gb hs55; replace hbr4 := hbr4.gb hs55; replace hj1 := own_gb hj1 hs55
          replace hj2 := hj2.gb hs55; replace hb29 := hb29.gb hs55; replace ho13 := own_gb ho13 hs55; replace ho14 := own_gb ho14 hs55
          refine ⟨fun W_ => Blk W_ gs 119 [.int .u32 ((e % 4294967296 : Nat) : Int), .slice (some ⟨gB, 0, none⟩) body.length 832, .slice (some ⟨gO, 0, none⟩) oks.length 16, .pointer (some ⟨gj, 0, none⟩), .int .i64 ((beginN p + ((fdec ((body.drop (beginN p)).take ((beginN p + leftN (beginN p)) - (beginN p))) (e % 4294967296)).2.1) : Nat) : Int), .int .i64 (f : Int), .slice Ar R.length cr, .slice Ap Pl.length cp, .int .i64 (en : Int), .int .i64 0] ∧ True, [0, 1, 2, 3, 4, 5, 6, 7, 10, 11, 12, 13, 14, 15, 16, 17, 18, 21, 22, 23], ?_⟩
          refine T_tk (i := 0) rfl (Y_of (fun _ _ => R_move rfl)) ⟨hb30, trivial⟩ rfl ?_
          refine T_tk (i := 1) rfl (Y_of (fun _ _ => R_move rfl)) ⟨hb30, trivial⟩ rfl ?_
          refine T_tk (i := 2) rfl (Y_of (fun _ _ => R_move rfl)) ⟨hb30, trivial⟩ rfl ?_
          refine T_tk (i := 3) rfl (Y_of (fun _ _ => R_nilck rfl)) ⟨hb30, trivial⟩ rfl ?_
          refine T_tk (i := 4) rfl (Y_of (fun _ _ => R_field (r := 6) rfl fld119_6 rfl)) ⟨hb30, trivial⟩ rfl ?_
          refine T_tk (i := 5) rfl (Y_of (fun _ _ => R_field (r := 6) rfl fld99_0 rfl)) ⟨hb30, trivial⟩ rfl ?_
          refine T_tk (i := 6) rfl (Y_of (fun _ ⟨hb30, _⟩ => R_load1 rfl scl51 (hb30.cell (i := 6) rfl))) ⟨hb30, trivial⟩ rfl ?_
          refine T_tk (i := 7) rfl (Y_of (fun _ _ => R_move rfl)) ⟨hb30, trivial⟩ rfl ?_
          refine T_tk (i := 10) rfl (Y_of (fun _ _ => R_move rfl)) ⟨hb30, trivial⟩ rfl ?_
          refine T_tk (i := 11) rfl (Y_of (fun _ _ => R_nilck rfl)) ⟨hb30, trivial⟩ rfl ?_
          refine T_tk (i := 12) rfl (Y_of (fun _ _ => R_field (r := 6) rfl fld119_6 rfl)) ⟨hb30, trivial⟩ rfl ?_
          refine T_tk (i := 13) rfl (Y_of (fun _ _ => R_field (r := 7) rfl fld99_1 rfl)) ⟨hb30, trivial⟩ rfl ?_
          refine T_tk (i := 14) rfl (Y_of (fun _ ⟨hb30, _⟩ => R_load1 rfl scl52 (hb30.cell (i := 7) rfl))) ⟨hb30, trivial⟩ rfl ?_
          refine T_tk (i := 15) rfl (Y_of (fun _ _ => R_move rfl)) ⟨hb30, trivial⟩ rfl ?_
          refine T_tk (i := 16) rfl (Y_of (fun _ _ => R_nilck rfl)) ⟨hb30, trivial⟩ rfl ?_
          refine T_tk (i := 17) rfl (Y_of (fun _ _ => R_field (r := 5) rfl fld119_5 rfl)) ⟨hb30, trivial⟩ rfl ?_
          refine T_tk (i := 18) rfl (Y_of (fun _ ⟨hb30, _⟩ => R_load1 rfl scl3 (hb30.cell (i := 5) rfl))) ⟨hb30, trivial⟩ rfl ?_
          refine T_all (rs := [8, 19]) (by kernel_rfl) rfl (all2 (O_one rfl ?_) (O_one rfl ?_))
          ·refine L_buildSlice (pv := [(0, .slice A_17 (((feedN o bs ((fdec ((body.drop (beginN p)).take ((beginN p + leftN (beginN p)) - (beginN p))) (e % 4294967296)).1.1) ((fdec ((body.drop (beginN p)).take ((beginN p + leftN (beginN p)) - (beginN p))) (e % 4294967296)).1.2)).2.1).length) c_14)]) (cs := [.slice A_17 (((feedN o bs ((fdec ((body.drop (beginN p)).take ((beginN p + leftN (beginN p)) - (beginN p))) (e % 4294967296)).1.1) ((fdec ((body.drop (beginN p)).take ((beginN p + leftN (beginN p)) - (beginN p))) (e % 4294967296)).1.2)).2.1).length) c_14]) slc51 zer34 rfl rfl (by kernel_rfl) rfl ?_
           intro g11 w58 eg11 hb31 hs56 hz34
           have hap14 : ∀ k_, (Value.slice Ar R.length cr).ownBlock = some k_ → k_ ≠ g11 := fun k_ hk => by have h_ := (World.ownsRow.lt hoR k_ hk).2; omega
           replace hB := gb_tr hB hs56; replace hb30 := hb30.gb hs56; replace hbB := hbB.gb hs56; replace hbO := hbO.gb hs56; replace ho := own_gb ho hs56; replace hoR := own_gb hoR hs56; replace hoP := own_gb hoP hs56; replace hDY := hDY.gb hs56; replace hbr4 := hbr4.gb hs56; replace hj1 := own_gb hj1 hs56
           replace hj2 := hj2.gb hs56; replace hb29 := hb29.gb hs56; replace ho13 := own_gb ho13 hs56; replace ho14 := own_gb ho14 hs56
           refine L_nil (N_then ⟨fun hN_ => ⟨hb30, trivial⟩, ?_⟩)
           refine T_all (rs := [9, 19]) (by kernel_rfl) rfl (all2 (O_one rfl ?_) (O_one rfl ?_))
           ·refine T_append (xs := R) (ys := [(⟨A_17, c_14, ((feedN o bs ((fdec ((body.drop (beginN p)).take ((beginN p + leftN (beginN p)) - (beginN p))) (e % 4294967296)).1.1) ((fdec ((body.drop (beginN p)).take ((beginN p + leftN (beginN p)) - (beginN p))) (e % 4294967296)).1.2)).2.1)⟩ : Bys)]) EncY slc51 rfl rfl hoR (Blk.sli (m := 0) hb31) (by first | omega | (simp; omega)) (by have := hB.size; omega) rfl ?_
            intro A_18 c_15 w59 ho15 hs57 hat7
            replace hB := gb_tro hB hoR hs57 (Nat.le_refl _); replace hb30 := blk_own hb30 hoR rfl hs57; replace hbB := blk_own hbB hoR rfl hs57; replace hbO := blk_own hbO hoR rfl hs57; replace ho := ho.kept hs57 (own_type_ne' ho hoR rfl); replace hoP := hoP.kept hs57 (own_type_ne' hoP hoR rfl); replace hDY := hDY.otherO hoR rfl rfl hs57
            replace hbr4 := blk_own hbr4 hoR rfl hs57; replace hj1 := hj1.kept hs57 (own_type_ne' hj1 hoR rfl); replace hj2 := blk_own hj2 hoR rfl hs57; replace hb29 := blk_own hb29 hoR rfl hs57; replace ho13 := ho13.kept hs57 (own_type_ne' ho13 hoR rfl); replace ho14 := ho14.kept hs57 (own_type_ne' ho14 hoR rfl)
            refine L_nil (N_then ⟨fun hN_ => ⟨hb30, trivial⟩, ?_⟩)
            refine T_all (rs := [19]) (by kernel_rfl) rfl (all1 (O_one rfl ?_))
            refine L_buildSlice (pv := [(0, .int .i64 (f : Int))]) (cs := [.int .i64 (f : Int)]) slc52 zer3 rfl rfl (by kernel_rfl) rfl ?_
            intro g12 w60 eg12 hb32 hs58 hz35
            have hap15 : ∀ k_, (Value.slice Ap Pl.length cp).ownBlock = some k_ → k_ ≠ g12 := fun k_ hk => by have h_ := (World.ownsRow.lt hoP k_ hk).2; omega
            replace hB := gb_tr hB hs58; replace hb30 := hb30.gb hs58; replace hbB := hbB.gb hs58; replace hbO := hbO.gb hs58; replace ho := own_gb ho hs58; replace hoP := own_gb hoP hs58; replace hDY := hDY.gb hs58; replace hbr4 := hbr4.gb hs58; replace hj1 := own_gb hj1 hs58; replace hj2 := hj2.gb hs58
            replace hb29 := hb29.gb hs58; replace ho13 := own_gb ho13 hs58; replace ho14 := own_gb ho14 hs58; replace ho15 := own_gb ho15 hs58
            refine L_nil (N_then ⟨fun hN_ => ⟨hb30, trivial⟩, ?_⟩)
            refine T_all (rs := [20]) (by kernel_rfl) rfl (all1 (O_one rfl ?_))
            refine T_append (xs := Pl) (ys := [(f : Int)]) EncZ slc52 rfl rfl hoP (Blk.sli (m := 0) hb32) (by first | omega | (simp; omega)) (by have := hB.size; omega) rfl ?_
            intro A_19 c_16 w61 ho16 hs59 hat8
            replace hB := gb_tro hB hoP hs59 (Nat.le_refl _); replace hb30 := blk_own hb30 hoP rfl hs59; replace hbB := blk_own hbB hoP rfl hs59; replace hbO := blk_own hbO hoP rfl hs59; replace ho := ho.kept hs59 (own_type_ne' ho hoP rfl); replace hDY := hDY.otherO hoP rfl rfl hs59; replace hbr4 := blk_own hbr4 hoP rfl hs59
            replace hj1 := hj1.kept hs59 (own_type_ne' hj1 hoP rfl); replace hj2 := blk_own hj2 hoP rfl hs59; replace hb29 := blk_own hb29 hoP rfl hs59; replace ho13 := ho13.kept hs59 (own_type_ne' ho13 hoP rfl); replace ho14 := ho14.kept hs59 (own_type_ne' ho14 hoP rfl); replace ho15 := ho15.kept hs59 (own_type_ne' ho15 hoP rfl)
            refine L_nil (N_then ⟨fun hN_ => ⟨hb30, trivial⟩, ?_⟩)
            refine T_tk (i := 21) rfl (Y_of (fun _ _ => R_nilck rfl)) ⟨hb30, trivial⟩ rfl ?_
            refine T_tk (i := 22) rfl (Y_of (fun _ _ => R_field (r := 6) rfl fld119_6 rfl)) ⟨hb30, trivial⟩ rfl ?_
            refine T_tk (i := 23) rfl (Y_of (fun _ _ => R_field (r := 6) rfl fld99_0 rfl)) ⟨hb30, trivial⟩ rfl ?_
            refine T_all (rs := [24]) (by kernel_rfl) rfl (all1 (O_one rfl ?_))
            refine L_st1 rfl rfl rfl sz51 hb30 rfl ?_
            intro w62 hb33 hs60 hz36
            replace hB := gb_trg hB hs60 gs0; replace hbB := hbB.grown hs60 (ne_ty hbB hb30 rfl); replace hbO := hbO.grown hs60 (ne_ty hbO hb30 rfl); replace ho := own_other ho hb30 rfl hs60; replace hDY := hDY.other hb30 rfl rfl hs60; replace hbr4 := hbr4.grown hs60 (ne_ty hbr4 hb30 rfl); replace hj1 := own_other hj1 hb30 rfl hs60
            replace hj2 := hj2.grown hs60 (ne_gt lt26); replace hb29 := hb29.grown hs60 (ne_ty hb29 hb30 rfl); replace ho13 := own_other ho13 hb30 rfl hs60; replace ho14 := own_other ho14 hb30 rfl hs60; replace ho15 := own_other ho15 hb30 rfl hs60; replace ho16 := own_other ho16 hb30 rfl hs60
            refine L_nil (N_then ⟨fun hN_ => absurd (hN_.symm.trans (show _ = false by kernel_rfl)) (by decide), ?_⟩)
            refine T_all (rs := [25]) (by kernel_rfl) rfl (all1 (O_one rfl ?_))
            refine L_run (R_nilck rfl) rfl ?_
            refine L_nil (N_then ⟨fun hN_ => absurd (hN_.symm.trans (show _ = false by kernel_rfl)) (by decide), ?_⟩)
            refine T_all (rs := [26]) (by kernel_rfl) rfl (all1 (O_one rfl ?_))
            refine L_run (R_field (r := 6) rfl fld119_6 rfl) rfl (L_nil (N_then ⟨fun hN_ => absurd (hN_.symm.trans (show _ = false by kernel_rfl)) (by decide), ?_⟩))
            refine T_all (rs := [27]) (by kernel_rfl) rfl (all1 (O_one rfl ?_))
            refine L_run (R_field (r := 7) rfl fld99_1 rfl) rfl (L_nil (N_then ⟨fun hN_ => absurd (hN_.symm.trans (show _ = false by kernel_rfl)) (by decide), ?_⟩))
            refine T_switch (S' := fun _ => True) (qs' := []) (by kernel_rfl) ?_
            refine T_all (rs := [28]) (by kernel_rfl) rfl (all1 (O_one rfl ?_))
            refine L_st1 rfl rfl rfl sz52 hb33 rfl ?_
            intro w63 hb34 hs61 hz37
            replace hB := gb_trg hB hs61 gs0; replace hbB := hbB.grown hs61 (ne_ty hbB hb33 rfl); replace hbO := hbO.grown hs61 (ne_ty hbO hb33 rfl); replace ho := own_other ho hb33 rfl hs61; replace hDY := hDY.other hb33 rfl rfl hs61; replace hbr4 := hbr4.grown hs61 (ne_ty hbr4 hb33 rfl); replace hj1 := own_other hj1 hb33 rfl hs61
            replace hj2 := hj2.grown hs61 (ne_gt lt26); replace hb29 := hb29.grown hs61 (ne_ty hb29 hb33 rfl); replace ho13 := own_other ho13 hb33 rfl hs61; replace ho14 := own_other ho14 hb33 rfl hs61; replace ho15 := own_other ho15 hb33 rfl hs61; replace ho16 := own_other ho16 hb33 rfl hs61
            refine L_nil (N_then ⟨fun hN_ => trivial, ?_⟩)
            refine T_done (by kernel_rfl) (CalmE.normal ?_)
            exact ⟨rfl, ⟨_, A_18, c_15, A_19, c_16, Ac_frg ⟨rfl, rfl, rfl, rfl, rfl, rfl, rfl, rfl, rfl, rfl, rfl, rfl, rfl, trivial⟩, hB, hb34, hbB, hbO, ho, hDY, hbr4, hj1, hj2, hb29, (own_lo ho13 ge18), (own_lo ho14 ge18), ho15, ho16, ap1, hap12, hap13⟩⟩
           ·refine L_buildSlice (pv := [(0, .int .i64 (f : Int))]) (cs := [.int .i64 (f : Int)]) slc52 zer3 rfl rfl (by kernel_rfl) rfl ?_
            intro g13 w64 eg13 hb35 hs62 hz38
            have hap16 : ∀ k_, (Value.slice Ap Pl.length cp).ownBlock = some k_ → k_ ≠ g13 := fun k_ hk => by have h_ := (World.ownsRow.lt hoP k_ hk).2; omega
            replace hB := gb_tr hB hs62; replace hb30 := hb30.gb hs62; replace hbB := hbB.gb hs62; replace hbO := hbO.gb hs62; replace ho := own_gb ho hs62; replace hoR := own_gb hoR hs62; replace hoP := own_gb hoP hs62; replace hDY := hDY.gb hs62; replace hbr4 := hbr4.gb hs62; replace hj1 := own_gb hj1 hs62
            replace hj2 := hj2.gb hs62; replace hb29 := hb29.gb hs62; replace ho13 := own_gb ho13 hs62; replace ho14 := own_gb ho14 hs62; replace hb31 := hb31.gb hs62
            refine L_nil (N_then ⟨fun hN_ => ⟨hb30, trivial⟩, ?_⟩)
            refine T_all (rs := [9]) (by kernel_rfl) rfl (all1 (O_one rfl ?_))
            refine T_append (xs := R) (ys := [(⟨A_17, c_14, ((feedN o bs ((fdec ((body.drop (beginN p)).take ((beginN p + leftN (beginN p)) - (beginN p))) (e % 4294967296)).1.1) ((fdec ((body.drop (beginN p)).take ((beginN p + leftN (beginN p)) - (beginN p))) (e % 4294967296)).1.2)).2.1)⟩ : Bys)]) EncY slc51 rfl rfl hoR (Blk.sli (m := 0) hb31) (by first | omega | (simp; omega)) (by have := hB.size; omega) rfl ?_
            intro A_20 c_17 w65 ho17 hs63 hat9
            replace hB := gb_tro hB hoR hs63 (Nat.le_refl _); replace hb30 := blk_own hb30 hoR rfl hs63; replace hbB := blk_own hbB hoR rfl hs63; replace hbO := blk_own hbO hoR rfl hs63; replace ho := ho.kept hs63 (own_type_ne' ho hoR rfl); replace hoP := hoP.kept hs63 (own_type_ne' hoP hoR rfl); replace hDY := hDY.otherO hoR rfl rfl hs63
            replace hbr4 := blk_own hbr4 hoR rfl hs63; replace hj1 := hj1.kept hs63 (own_type_ne' hj1 hoR rfl); replace hj2 := blk_own hj2 hoR rfl hs63; replace hb29 := blk_own hb29 hoR rfl hs63; replace ho13 := ho13.kept hs63 (own_type_ne' ho13 hoR rfl); replace ho14 := ho14.kept hs63 (own_type_ne' ho14 hoR rfl)
            replace hb35 := blk_own hb35 hoR rfl hs63
            refine L_nil (N_then ⟨fun hN_ => ⟨hb30, trivial⟩, ?_⟩)
            refine T_all (rs := [20]) (by kernel_rfl) rfl (all1 (O_one rfl ?_))
            refine T_append (xs := Pl) (ys := [(f : Int)]) EncZ slc52 rfl rfl hoP (Blk.sli (m := 0) hb35) (by first | omega | (simp; omega)) (by have := hB.size; omega) rfl ?_
            intro A_21 c_18 w66 ho18 hs64 hat10
            replace hB := gb_tro hB hoP hs64 (Nat.le_refl _); replace hb30 := blk_own hb30 hoP rfl hs64; replace hbB := blk_own hbB hoP rfl hs64; replace hbO := blk_own hbO hoP rfl hs64; replace ho := ho.kept hs64 (own_type_ne' ho hoP rfl); replace hDY := hDY.otherO hoP rfl rfl hs64; replace hbr4 := blk_own hbr4 hoP rfl hs64
            replace hj1 := hj1.kept hs64 (own_type_ne' hj1 hoP rfl); replace hj2 := blk_own hj2 hoP rfl hs64; replace hb29 := blk_own hb29 hoP rfl hs64; replace ho13 := ho13.kept hs64 (own_type_ne' ho13 hoP rfl); replace ho14 := ho14.kept hs64 (own_type_ne' ho14 hoP rfl); replace ho17 := ho17.kept hs64 (own_type_ne' ho17 hoP rfl)
            refine L_nil (N_then ⟨fun hN_ => ⟨hb30, trivial⟩, ?_⟩)
            refine T_tk (i := 21) rfl (Y_of (fun _ _ => R_nilck rfl)) ⟨hb30, trivial⟩ rfl ?_
            refine T_tk (i := 22) rfl (Y_of (fun _ _ => R_field (r := 6) rfl fld119_6 rfl)) ⟨hb30, trivial⟩ rfl ?_
            refine T_tk (i := 23) rfl (Y_of (fun _ _ => R_field (r := 6) rfl fld99_0 rfl)) ⟨hb30, trivial⟩ rfl ?_
            refine T_all (rs := [24]) (by kernel_rfl) rfl (all1 (O_one rfl ?_))
            refine L_st1 rfl rfl rfl sz51 hb30 rfl ?_
            intro w67 hb36 hs65 hz39
            replace hB := gb_trg hB hs65 gs0; replace hbB := hbB.grown hs65 (ne_ty hbB hb30 rfl); replace hbO := hbO.grown hs65 (ne_ty hbO hb30 rfl); replace ho := own_other ho hb30 rfl hs65; replace hDY := hDY.other hb30 rfl rfl hs65; replace hbr4 := hbr4.grown hs65 (ne_ty hbr4 hb30 rfl); replace hj1 := own_other hj1 hb30 rfl hs65
            replace hj2 := hj2.grown hs65 (ne_gt lt26); replace hb29 := hb29.grown hs65 (ne_ty hb29 hb30 rfl); replace ho13 := own_other ho13 hb30 rfl hs65; replace ho14 := own_other ho14 hb30 rfl hs65; replace ho17 := own_other ho17 hb30 rfl hs65; replace ho18 := own_other ho18 hb30 rfl hs65
            refine L_nil (N_then ⟨fun hN_ => absurd (hN_.symm.trans (show _ = false by kernel_rfl)) (by decide), ?_⟩)
            refine T_all (rs := [25]) (by kernel_rfl) rfl (all1 (O_one rfl ?_))
            refine L_run (R_nilck rfl) rfl ?_
            refine L_nil (N_then ⟨fun hN_ => absurd (hN_.symm.trans (show _ = false by kernel_rfl)) (by decide), ?_⟩)
            refine T_all (rs := [26]) (by kernel_rfl) rfl (all1 (O_one rfl ?_))
            refine L_run (R_field (r := 6) rfl fld119_6 rfl) rfl (L_nil (N_then ⟨fun hN_ => absurd (hN_.symm.trans (show _ = false by kernel_rfl)) (by decide), ?_⟩))
            refine T_all (rs := [27]) (by kernel_rfl) rfl (all1 (O_one rfl ?_))
            refine L_run (R_field (r := 7) rfl fld99_1 rfl) rfl (L_nil (N_then ⟨fun hN_ => absurd (hN_.symm.trans (show _ = false by kernel_rfl)) (by decide), ?_⟩))
            refine T_switch (S' := fun _ => True) (qs' := []) (by kernel_rfl) ?_
            refine T_all (rs := [28]) (by kernel_rfl) rfl (all1 (O_one rfl ?_))
            refine L_st1 rfl rfl rfl sz52 hb36 rfl ?_
            intro w68 hb37 hs66 hz40
            replace hB := gb_trg hB hs66 gs0; replace hbB := hbB.grown hs66 (ne_ty hbB hb36 rfl); replace hbO := hbO.grown hs66 (ne_ty hbO hb36 rfl); replace ho := own_other ho hb36 rfl hs66; replace hDY := hDY.other hb36 rfl rfl hs66; replace hbr4 := hbr4.grown hs66 (ne_ty hbr4 hb36 rfl); replace hj1 := own_other hj1 hb36 rfl hs66
            replace hj2 := hj2.grown hs66 (ne_gt lt26); replace hb29 := hb29.grown hs66 (ne_ty hb29 hb36 rfl); replace ho13 := own_other ho13 hb36 rfl hs66; replace ho14 := own_other ho14 hb36 rfl hs66; replace ho17 := own_other ho17 hb36 rfl hs66; replace ho18 := own_other ho18 hb36 rfl hs66
            refine L_nil (N_then ⟨fun hN_ => trivial, ?_⟩)
            refine T_done (by kernel_rfl) (CalmE.normal ?_)
            exact ⟨rfl, ⟨_, A_20, c_17, A_21, c_18, Ac_frg ⟨rfl, rfl, rfl, rfl, rfl, rfl, rfl, rfl, rfl, rfl, rfl, rfl, rfl, trivial⟩, hB, hb37, hbB, hbO, ho, hDY, hbr4, hj1, hj2, hb29, (own_lo ho13 ge18), (own_lo ho14 ge18), ho17, ho18, ap1, hap12, hap13⟩⟩
          ·refine L_buildSlice (pv := [(0, .int .i64 (f : Int))]) (cs := [.int .i64 (f : Int)]) slc52 zer3 rfl rfl (by kernel_rfl) rfl ?_
           intro g14 w69 eg14 hb38 hs67 hz41
           have hap17 : ∀ k_, (Value.slice Ap Pl.length cp).ownBlock = some k_ → k_ ≠ g14 := fun k_ hk => by have h_ := (World.ownsRow.lt hoP k_ hk).2; omega
           replace hB := gb_tr hB hs67; replace hb30 := hb30.gb hs67; replace hbB := hbB.gb hs67; replace hbO := hbO.gb hs67; replace ho := own_gb ho hs67; replace hoR := own_gb hoR hs67; replace hoP := own_gb hoP hs67; replace hDY := hDY.gb hs67; replace hbr4 := hbr4.gb hs67; replace hj1 := own_gb hj1 hs67
           replace hj2 := hj2.gb hs67; replace hb29 := hb29.gb hs67; replace ho13 := own_gb ho13 hs67; replace ho14 := own_gb ho14 hs67
           refine L_nil (N_then ⟨fun hN_ => ⟨hb30, trivial⟩, ?_⟩)
           refine T_all (rs := [8]) (by kernel_rfl) rfl (all1 (O_one rfl ?_))
           refine L_buildSlice (pv := [(0, .slice A_17 (((feedN o bs ((fdec ((body.drop (beginN p)).take ((beginN p + leftN (beginN p)) - (beginN p))) (e % 4294967296)).1.1) ((fdec ((body.drop (beginN p)).take ((beginN p + leftN (beginN p)) - (beginN p))) (e % 4294967296)).1.2)).2.1).length) c_14)]) (cs := [.slice A_17 (((feedN o bs ((fdec ((body.drop (beginN p)).take ((beginN p + leftN (beginN p)) - (beginN p))) (e % 4294967296)).1.1) ((fdec ((body.drop (beginN p)).take ((beginN p + leftN (beginN p)) - (beginN p))) (e % 4294967296)).1.2)).2.1).length) c_14]) slc51 zer34 rfl rfl (by kernel_rfl) rfl ?_
           intro g15 w70 eg15 hb39 hs68 hz42
           have hap18 : ∀ k_, (Value.slice Ar R.length cr).ownBlock = some k_ → k_ ≠ g15 := fun k_ hk => by have h_ := (World.ownsRow.lt hoR k_ hk).2; omega
           replace hB := gb_tr hB hs68; replace hb30 := hb30.gb hs68; replace hbB := hbB.gb hs68; replace hbO := hbO.gb hs68; replace ho := own_gb ho hs68; replace hoR := own_gb hoR hs68; replace hoP := own_gb hoP hs68; replace hDY := hDY.gb hs68; replace hbr4 := hbr4.gb hs68; replace hj1 := own_gb hj1 hs68
           replace hj2 := hj2.gb hs68; replace hb29 := hb29.gb hs68; replace ho13 := own_gb ho13 hs68; replace ho14 := own_gb ho14 hs68; replace hb38 := hb38.gb hs68
           refine L_nil (N_then ⟨fun hN_ => ⟨hb30, trivial⟩, ?_⟩)
           refine T_all (rs := [9]) (by kernel_rfl) rfl (all1 (O_one rfl ?_))
           refine T_append (xs := R) (ys := [(⟨A_17, c_14, ((feedN o bs ((fdec ((body.drop (beginN p)).take ((beginN p + leftN (beginN p)) - (beginN p))) (e % 4294967296)).1.1) ((fdec ((body.drop (beginN p)).take ((beginN p + leftN (beginN p)) - (beginN p))) (e % 4294967296)).1.2)).2.1)⟩ : Bys)]) EncY slc51 rfl rfl hoR (Blk.sli (m := 0) hb39) (by first | omega | (simp; omega)) (by have := hB.size; omega) rfl ?_
           intro A_22 c_19 w71 ho19 hs69 hat11
           replace hB := gb_tro hB hoR hs69 (Nat.le_refl _); replace hb30 := blk_own hb30 hoR rfl hs69; replace hbB := blk_own hbB hoR rfl hs69; replace hbO := blk_own hbO hoR rfl hs69; replace ho := ho.kept hs69 (own_type_ne' ho hoR rfl); replace hoP := hoP.kept hs69 (own_type_ne' hoP hoR rfl); replace hDY := hDY.otherO hoR rfl rfl hs69
           replace hbr4 := blk_own hbr4 hoR rfl hs69; replace hj1 := hj1.kept hs69 (own_type_ne' hj1 hoR rfl); replace hj2 := blk_own hj2 hoR rfl hs69; replace hb29 := blk_own hb29 hoR rfl hs69; replace ho13 := ho13.kept hs69 (own_type_ne' ho13 hoR rfl); replace ho14 := ho14.kept hs69 (own_type_ne' ho14 hoR rfl)
           replace hb38 := blk_own hb38 hoR rfl hs69
           refine L_nil (N_then ⟨fun hN_ => ⟨hb30, trivial⟩, ?_⟩)
           refine T_all (rs := [20]) (by kernel_rfl) rfl (all1 (O_one rfl ?_))
           refine T_append (xs := Pl) (ys := [(f : Int)]) EncZ slc52 rfl rfl hoP (Blk.sli (m := 0) hb38) (by first | omega | (simp; omega)) (by have := hB.size; omega) rfl ?_
           intro A_23 c_20 w72 ho20 hs70 hat12
           replace hB := gb_tro hB hoP hs70 (Nat.le_refl _); replace hb30 := blk_own hb30 hoP rfl hs70; replace hbB := blk_own hbB hoP rfl hs70; replace hbO := blk_own hbO hoP rfl hs70; replace ho := ho.kept hs70 (own_type_ne' ho hoP rfl); replace hDY := hDY.otherO hoP rfl rfl hs70; replace hbr4 := blk_own hbr4 hoP rfl hs70
           replace hj1 := hj1.kept hs70 (own_type_ne' hj1 hoP rfl); replace hj2 := blk_own hj2 hoP rfl hs70; replace hb29 := blk_own hb29 hoP rfl hs70; replace ho13 := ho13.kept hs70 (own_type_ne' ho13 hoP rfl); replace ho14 := ho14.kept hs70 (own_type_ne' ho14 hoP rfl); replace ho19 := ho19.kept hs70 (own_type_ne' ho19 hoP rfl)
           refine L_nil (N_then ⟨fun hN_ => ⟨hb30, trivial⟩, ?_⟩)
           refine T_tk (i := 21) rfl (Y_of (fun _ _ => R_nilck rfl)) ⟨hb30, trivial⟩ rfl ?_
           refine T_tk (i := 22) rfl (Y_of (fun _ _ => R_field (r := 6) rfl fld119_6 rfl)) ⟨hb30, trivial⟩ rfl ?_
           refine T_tk (i := 23) rfl (Y_of (fun _ _ => R_field (r := 6) rfl fld99_0 rfl)) ⟨hb30, trivial⟩ rfl ?_
           refine T_all (rs := [24]) (by kernel_rfl) rfl (all1 (O_one rfl ?_))
           refine L_st1 rfl rfl rfl sz51 hb30 rfl ?_
           intro w73 hb40 hs71 hz43
           replace hB := gb_trg hB hs71 gs0; replace hbB := hbB.grown hs71 (ne_ty hbB hb30 rfl); replace hbO := hbO.grown hs71 (ne_ty hbO hb30 rfl); replace ho := own_other ho hb30 rfl hs71; replace hDY := hDY.other hb30 rfl rfl hs71; replace hbr4 := hbr4.grown hs71 (ne_ty hbr4 hb30 rfl); replace hj1 := own_other hj1 hb30 rfl hs71
           replace hj2 := hj2.grown hs71 (ne_gt lt26); replace hb29 := hb29.grown hs71 (ne_ty hb29 hb30 rfl); replace ho13 := own_other ho13 hb30 rfl hs71; replace ho14 := own_other ho14 hb30 rfl hs71; replace ho19 := own_other ho19 hb30 rfl hs71; replace ho20 := own_other ho20 hb30 rfl hs71
           refine L_nil (N_then ⟨fun hN_ => absurd (hN_.symm.trans (show _ = false by kernel_rfl)) (by decide), ?_⟩)
           refine T_all (rs := [25]) (by kernel_rfl) rfl (all1 (O_one rfl ?_))
           refine L_run (R_nilck rfl) rfl ?_
           refine L_nil (N_then ⟨fun hN_ => absurd (hN_.symm.trans (show _ = false by kernel_rfl)) (by decide), ?_⟩)
           refine T_all (rs := [26]) (by kernel_rfl) rfl (all1 (O_one rfl ?_))
           refine L_run (R_field (r := 6) rfl fld119_6 rfl) rfl (L_nil (N_then ⟨fun hN_ => absurd (hN_.symm.trans (show _ = false by kernel_rfl)) (by decide), ?_⟩))
           refine T_all (rs := [27]) (by kernel_rfl) rfl (all1 (O_one rfl ?_))
           refine L_run (R_field (r := 7) rfl fld99_1 rfl) rfl (L_nil (N_then ⟨fun hN_ => absurd (hN_.symm.trans (show _ = false by kernel_rfl)) (by decide), ?_⟩))
           refine T_switch (S' := fun _ => True) (qs' := []) (by kernel_rfl) ?_
           refine T_all (rs := [28]) (by kernel_rfl) rfl (all1 (O_one rfl ?_))
           refine L_st1 rfl rfl rfl sz52 hb40 rfl ?_
           intro w74 hb41 hs72 hz44
           replace hB := gb_trg hB hs72 gs0; replace hbB := hbB.grown hs72 (ne_ty hbB hb40 rfl); replace hbO := hbO.grown hs72 (ne_ty hbO hb40 rfl); replace ho := own_other ho hb40 rfl hs72; replace hDY := hDY.other hb40 rfl rfl hs72; replace hbr4 := hbr4.grown hs72 (ne_ty hbr4 hb40 rfl); replace hj1 := own_other hj1 hb40 rfl hs72
           replace hj2 := hj2.grown hs72 (ne_gt lt26); replace hb29 := hb29.grown hs72 (ne_ty hb29 hb40 rfl); replace ho13 := own_other ho13 hb40 rfl hs72; replace ho14 := own_other ho14 hb40 rfl hs72; replace ho19 := own_other ho19 hb40 rfl hs72; replace ho20 := own_other ho20 hb40 rfl hs72
           refine L_nil (N_then ⟨fun hN_ => trivial, ?_⟩)
           refine T_done (by kernel_rfl) (CalmE.normal ?_)
           exact ⟨rfl, ⟨_, A_22, c_19, A_23, c_20, Ac_frg ⟨rfl, rfl, rfl, rfl, rfl, rfl, rfl, rfl, rfl, rfl, rfl, rfl, rfl, trivial⟩, hB, hb41, hbB, hbO, ho, hDY, hbr4, hj1, hj2, hb29, (own_lo ho13 ge18), (own_lo ho14 ge18), ho19, ho20, ap1, hap12, hap13⟩⟩
         ·clear hB
          clear hb30 hbB hbO ho hoR hoP hDY hbr4 hj1 hj2 hb29 ho13 ho14 hlo6
          rintro a_ w75 ⟨σ_, A_18, c_15, A_19, c_16, rfl, hB, hj7, hbB, hbO, ho, hDY, hbr4, hj1, hj2, hb29, ho13, ho14, hj8, hj9, ap5, ap6, ap7⟩
          refine N_then (C_reg rfl ?_)
          refine Lmv rfl rfl (Lmv rfl rfl (L_run (R_nilck rfl) rfl (L_run (R_field (r := 4) rfl fld119_4 rfl) rfl (L_run (R_load1 rfl scl3 (hj7.cell (i := 4) rfl)) rfl (L_run (R_nilck rfl) rfl (L_run (R_field (r := 6) rfl fld119_6 rfl) rfl (L_run (R_field (r := 8) rfl fld99_2 rfl) rfl ?_)))))))
          refine L_st1 rfl rfl rfl sz3 hj7 rfl ?_
          intro w76 hb42 hs73 hz45
          replace hB := gb_trg hB hs73 gs0; replace hbB := hbB.grown hs73 (ne_ty hbB hj7 rfl); replace hbO := hbO.grown hs73 (ne_ty hbO hj7 rfl); replace hDY := hDY.other hj7 rfl rfl hs73; replace hbr4 := hbr4.grown hs73 (ne_ty hbr4 hj7 rfl); replace hb29 := hb29.grown hs73 (ne_ty hb29 hj7 rfl); replace ho13 := own_other ho13 hj7 rfl hs73
          replace ho14 := own_other ho14 hj7 rfl hs73; replace hj8 := own_other hj8 hj7 rfl hs73; replace hj9 := own_other hj9 hj7 rfl hs73
          refine L_nil (N_then (C_seq (C_reg rfl (Las rfl rfl (L_nil (N_then (C_ret ?_)))))))
          refine ret1 Tryd.results72 rfl ?_
          have hac_ : (accN e body oks (beginN p)) = _ := acc_yes hbl hbp_ (by simpa using h2) h7 (by simpa using h9)
          have hbd_ := acc_bnd hbl hbp_ h7
          have hbn_ := beginN_le hp
          have hif : (if o = true then f else beginN p) = f := by have h_ : o = true := (by simpa using h10); rw [h_]; rfl
          have hfn := scn_fin (n := (fdec ((body.drop (beginN p)).take (beginN p + leftN (beginN p) - beginN p)) (e % 4294967296)).2.1) (k := (fdec ((body.drop (beginN p)).take (beginN p + leftN (beginN p) - beginN p)) (e % 4294967296)).1.1) (d := (fdec ((body.drop (beginN p)).take (beginN p + leftN (beginN p) - beginN p)) (e % 4294967296)).1.2) hSX hac_ (by omega) (by omega) (Decidable.not_not.1 h13) h14
          rw [hif] at hfn
          exact ⟨hB, .inr ⟨(beginN p + (fdec ((body.drop (beginN p)).take (beginN p + leftN (beginN p) - beginN p)) (e % 4294967296)).2.1), f, ((feedN o bs ((fdec ((body.drop (beginN p)).take ((beginN p + leftN (beginN p)) - (beginN p))) (e % 4294967296)).1.1) ((fdec ((body.drop (beginN p)).take ((beginN p + leftN (beginN p)) - (beginN p))) (e % 4294967296)).1.2)).1.1), (feedN o bs ((fdec ((body.drop (beginN p)).take ((beginN p + leftN (beginN p)) - (beginN p))) (e % 4294967296)).1.1) ((fdec ((body.drop (beginN p)).take ((beginN p + leftN (beginN p)) - (beginN p))) (e % 4294967296)).1.2)).1.2, A_16, c_13, R ++ ([(⟨A_17, c_14, ((feedN o bs ((fdec ((body.drop (beginN p)).take ((beginN p + leftN (beginN p)) - (beginN p))) (e % 4294967296)).1.1) ((fdec ((body.drop (beginN p)).take ((beginN p + leftN (beginN p)) - (beginN p))) (e % 4294967296)).1.2)).2.1)⟩ : Bys)]), A_18, c_15, Pl ++ ([(f : Int)]), A_19, c_16, (beginN p + ((fdec ((body.drop (beginN p)).take ((beginN p + leftN (beginN p)) - (beginN p))) (e % 4294967296)).2.1)), (fu - 1), (acc ++ [((feedN o bs (fdec ((body.drop (beginN p)).take (beginN p + leftN (beginN p) - beginN p)) (e % 4294967296)).1.1 (fdec ((body.drop (beginN p)).take (beginN p + leftN (beginN p) - beginN p)) (e % 4294967296)).1.2).2.1, f, beginN p + (fdec ((body.drop (beginN p)).take (beginN p + leftN (beginN p) - beginN p)) (e % 4294967296)).2.1)]), rfl, by omega, hb42, hb29, hbB, hbO, (own_lo ho13 (Nat.le_refl _)), (own_lo hj8 (Nat.le_refl _)), (own_lo hj9 (Nat.le_refl _)), (hDY.snoc (own_of ho14).2.2), hbr4, by omega, feedN_len.1, (by simp only [List.length_append, List.length_cons, List.length_nil]; omega), by omega, (hSR.snoc rfl (own_of ho14).1), hfn⟩⟩
        ·refine C_skip (N_then (C_seq (C_reg rfl ?_)))
         refine Las rfl rfl (L_nil (N_then (C_ret ?_)))
         refine ret1 Tryd.results72 rfl ?_
         have hac_ : (accN e body oks (beginN p)) = _ := acc_yes hbl hbp_ (by simpa using h2) h7 (by simpa using h9)
         have hbd_ := acc_bnd hbl hbp_ h7
         have hbn_ := beginN_le hp
         have hif : (if o = true then f else beginN p) = f := by have h_ : o = true := (by simpa using h10); rw [h_]; rfl
         have hop := scn_go (n := (fdec ((body.drop (beginN p)).take (beginN p + leftN (beginN p) - beginN p)) (e % 4294967296)).2.1) (k := (fdec ((body.drop (beginN p)).take (beginN p + leftN (beginN p) - beginN p)) (e % 4294967296)).1.1) (d := (fdec ((body.drop (beginN p)).take (beginN p + leftN (beginN p) - beginN p)) (e % 4294967296)).1.2) hSX hac_ (by omega) (by omega) (Decidable.not_not.1 h13) h14
         rw [hif] at hop
         exact ⟨hB, .inr ⟨(beginN p + (fdec ((body.drop (beginN p)).take (beginN p + leftN (beginN p) - beginN p)) (e % 4294967296)).2.1), f, ((feedN o bs ((fdec ((body.drop (beginN p)).take ((beginN p + leftN (beginN p)) - (beginN p))) (e % 4294967296)).1.1) ((fdec ((body.drop (beginN p)).take ((beginN p + leftN (beginN p)) - (beginN p))) (e % 4294967296)).1.2)).1.1), (feedN o bs ((fdec ((body.drop (beginN p)).take ((beginN p + leftN (beginN p)) - (beginN p))) (e % 4294967296)).1.1) ((fdec ((body.drop (beginN p)).take ((beginN p + leftN (beginN p)) - (beginN p))) (e % 4294967296)).1.2)).1.2, A_16, c_13, R, Ar, cr, Pl, Ap, cp, en, (fu - 1), acc, rfl, by omega, hb30, hb29, hbB, hbO, (own_lo ho13 ge18), (own_lo hoR (Nat.le_refl _)), (own_lo hoP (Nat.le_refl _)), hDY, hbr4, by omega, feedN_len.1, (by omega), by omega, hSR, hop⟩⟩
    ·refine N_then (C_seq (C_seq (C_reg rfl ?_)))
     refine Lmv rfl rfl (L_run (R_neq rfl rfl) rfl (Lmv rfl rfl (L_no rfl rfl rfl (decide_eq_true h8) rfl (L_no rfl rfl rfl (decide_eq_true h8) rfl (L_no rfl rfl rfl (decide_eq_true h8) rfl (L_no rfl rfl rfl (decide_eq_true h8) rfl (L_no rfl rfl rfl (decide_eq_true h8) rfl (L_no rfl rfl rfl (decide_eq_true h8) rfl (L_no rfl rfl rfl (decide_eq_true h8) rfl (L_no rfl rfl rfl (decide_eq_true h8) rfl ?_))))))))))
     refine L_no rfl rfl rfl (decide_eq_true h8) rfl (L_no rfl rfl rfl (decide_eq_true h8) rfl (L_run (R_pickT rfl (decide_eq_true h8) rfl) rfl (L_nil (N_then (C_condT rfl rfl (C_seq (C_reg rfl (Las rfl rfl (L_nil (N_then (C_ret (R_then ?_))))))))))))
     refine ret1 Tryd.results72 rfl ?_
     have hac_ : (accN e body oks (beginN p)) = _ := acc_err h8
     have hsc_ : X = acc := scn_none hSX (by rw [hac_])
     exact ⟨hB, .inl ⟨p, f, rfl, hsc_, hbs, hoR, hoP, hDY, hbr4⟩⟩
end Go.Proofs.YtkjgjejkfjhcjaaDoor
