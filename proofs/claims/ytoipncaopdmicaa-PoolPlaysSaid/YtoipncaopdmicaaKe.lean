import Derived.Test.YtoipncaopdmicaaKd
/-
  What the law's proof stands on, part 5.
-/
namespace Go.Proofs.Ytoipncaopdmicaa
open Go.RowKit Gw Pl
set_option linter.unusedVariables false
set_option linter.unusedSimpArgs false
theorem cb40 : callB Try.prog 40 = true := by kernel_rfl
theorem cb53 : callB Try.prog 53 = true := by kernel_rfl
theorem cb54 : callB Try.prog 54 = true := by kernel_rfl
theorem cb73 : callB Try.prog 73 = true := by kernel_rfl
theorem cb74 : callB Try.prog 74 = true := by kernel_rfl
def tabGe1 : TT := { fld := [(36, 0, 0), (36, 3, 3), (92, 2, 2)], scl := [4, 34], agg := [(36, 6)], str := [], slc := [(27, 81, 64, 64)], ptr := [], cv := [] }
theorem ttGe1 : TOk Try.prog tabGe1 := TT.ok_of (by kernel_rfl)
theorem fnq0 : (⟨#[102, 114, 101, 101, 45, 48]⟩ : ByteArray) = fn0 0 := by unfold fn0 pname; rw [if_pos (by decide), digI_nat, dig_lt (by decide)]; rfl
theorem fnq1 : (⟨#[102, 114, 101, 101, 45, 49]⟩ : ByteArray) = fn0 1 := by unfold fn0 pname; rw [if_pos (by decide), digI_nat, dig_lt (by decide)]; rfl
theorem fnq2 : (⟨#[102, 114, 101, 101, 45, 50]⟩ : ByteArray) = fn0 2 := by unfold fn0 pname; rw [if_pos (by decide), digI_nat, dig_lt (by decide)]; rfl
def cntR (fs : List PF) : Nat := (if sizeP fs (fn0 1) = 17 then 1 else 0) + (if sizeP fs (fn0 2) = 17 then 1 else 0)
/-- The reference's way: of these names the bad ones. -/
def cleanR : List ByteArray → PD → PD × Int
  | [], d => (d, 0)
  | s :: r, d => if 0 < sizeP d.fs s ∧ sizeP d.fs s ≠ 17 then (if (d.remove s).2 ≠ 0 then d.remove s else cleanR r (d.remove s).1) else cleanR r d
theorem cleanR_no {s : ByteArray} {r : List ByteArray} {d : PD} (h : ¬ (0 < sizeP d.fs s ∧ sizeP d.fs s ≠ 17)) : cleanR (s :: r) d = cleanR r d := by rw [cleanR, if_neg h]
theorem cleanR_ok {s : ByteArray} {r : List ByteArray} {d d1 : PD} (h : 0 < sizeP d.fs s ∧ sizeP d.fs s ≠ 17) (z : ¬ (d.remove s).2 ≠ 0) (e : d1 = (d.remove s).1) : cleanR (s :: r) d = cleanR r d1 := by rw [cleanR, if_pos h, if_neg z, e]
theorem cleanR_e {s : ByteArray} {r : List ByteArray} {d : PD} (h : 0 < sizeP d.fs s ∧ sizeP d.fs s ≠ 17) (z : (d.remove s).2 ≠ 0) : cleanR (s :: r) d = d.remove s := by rw [cleanR, if_pos h, if_pos z]
def PD.clean2 (d : PD) : PD × Int := if d.dn then (d, 9) else cleanR [fn0 0, fn0 1, fn0 2] d
theorem rsize_ix {r : RK} {nm : ByteArray} {i : Nat} (hr : (r.rs.map RF.nm).Pairwise slt) (hi : i < r.rs.length) (e : r.rs[i].nm = nm) : sizeP r.pd.fs nm = r.rs[i].seen.length := by
  unfold sizeP
  rw [if_pos (Decidable.not_not.1 (rhy ⟨_, List.getElem_mem hi, e⟩)), show getP r.pd.fs nm = r.rs[i].pf from getP_ix hr hi e]
  rfl
theorem rsize_no {r : RK} {nm : ByteArray} (h : ¬ HasR r.rs nm) : sizeP r.pd.fs nm = 0 := by unfold sizeP; rw [if_neg (rhn h)]
def RTook (U : Nat → Prop) (w w' : World) (p : PD × ByteArray × Int) (v : Value) : Prop := ∃ r', RAt (upU U w) w' r' ∧ v = .tuple #[.agg r'.cs.toArray, .string p.2.1, .int .i64 p.2.2] ∧ r'.pd = p.1
theorem rtk_e {U : Nat → Prop} {w w' : World} {r : RK} {p : PD × ByteArray × Int} {s s' : ByteArray} {k : Int} (h : RAt (lowU U w) w' r) (e : p = (r.pd, s, k)) (es : s' = s) : RTook U w w' p (.tuple #[.agg r.cs.toArray, .string s', .int .i64 k]) := ⟨r, h.up low_l, by rw [e, es], by rw [e]⟩
theorem upU2 {U : Nat → Prop} {w w1 : World} (h : w.heap.size ≤ w1.heap.size) : ∀ k, upU (upU U w) w1 k → upU U w k := fun k hk => hk.elim id (fun q => .inr (Nat.le_trans h q))
theorem rtk_m {U : Nat → Prop} {w0 w w' : World} {r1 : RK} {p : PD × ByteArray × Int} {q : PD} {s s' : ByteArray} {k : Int} (hw : w0.heap.size ≤ w.heap.size) (h : RAt (upU (lowU U w0) w) w' r1) (e : p = (q, s, k)) (e1 : r1.pd = q) (es : s' = s) : RTook U w0 w' p (.tuple #[.agg r1.cs.toArray, .string s', .int .i64 k]) :=
  ⟨r1, h.up fun k hk => hk.elim (fun q => .inl q.1) (fun q => .inr (Nat.le_trans hw q)), by rw [e, es], by rw [e, e1]⟩
theorem RDid.low2 {U : Nat → Prop} {w0 w1 w w' : World} {p : PD × Int} {v : Value} (hw1 : w0.heap.size ≤ w1.heap.size) (hw : w0.heap.size ≤ w.heap.size) (h : RDid (upU (lowU U w0) w1) w w' p v) : RDid U w0 w' p v := by
  obtain ⟨r', hA, h1, h2⟩ := h
  exact ⟨r', hA.up fun k hk => hk.elim (fun q => q.elim (fun q => .inl q.1) (fun q => .inr (Nat.le_trans hw1 q))) (fun q => .inr (Nat.le_trans hw q)), h1, h2⟩
theorem RDid.low {U : Nat → Prop} {w0 w w' : World} {p : PD × Int} {v : Value} (hw : w0.heap.size ≤ w.heap.size) (h : RDid (lowU U w0) w w' p v) : RDid U w0 w' p v := by
  obtain ⟨r', hA, h1, h2⟩ := h
  exact ⟨r', hA.up fun k hk => hk.elim (fun q => .inl q.1) (fun q => .inr (Nat.le_trans hw q)), h1, h2⟩
theorem rsize_ok {U : Nat → Prop} {w : World} {r : RK} (hR : RAt U w r) {nm : ByteArray} :
    Runs Try.prog 73 #[.agg #[.slice r.A r.rs.length r.c, .int .i64 r.cap, .int .i64 r.ops, .bool r.dn, .bool r.tl, .int .i64 r.af], .string nm] w (fun v w' => w.grownBy w' none ∧ v = .int .i64 (sizeP r.pd.fs nm : Int)) := by
  have hB := gb_refl w none
  have hR0 := hR
  replace hR := hR.low
  refine enterQ Try.func73 Try.ntmps73 rfl rfl ?_
  refine Qco ttGe1 2 [] rfl ?_
  refine L_box (cs := [.slice r.A r.rs.length r.c, .int .i64 r.cap, .int .i64 r.ops, .bool r.dn, .bool r.tl, .int .i64 r.af]) rfl rfl rfl ?_
  intro g1 w1 eg1 hb1 hs1 hz1
  have ge1 : w.heap.size ≤ g1 := eg_ge hB eg1
  replace hB := gb_tr hB hs1
  replace hR := hR.gb hs1
  refine Qoo ttGe1 7 [kb hb1] rfl ?_
  refine L_call rfl cb77 (rfind (nm := nm) hR) rfl ?_
  rintro _ w2 ⟨hs2, ⟨hq1, rfl⟩ | ⟨ix1, hix1, rfl, hnm1⟩⟩
  · replace hB := gb_tr hB hs2
    replace hR := hR.gb hs2
    replace hb1 := hb1.gb hs2
    refine Qoe ttGe1 18 [] rfl ?_
    refine ret1 Try.results73 rfl ?_
    rw [rsize_no hq1]; exact ⟨hB, rfl⟩
  · replace hB := gb_tr hB hs2
    replace hR := hR.gb hs2
    replace hb1 := hb1.gb hs2
    have hneg1 : ¬ (ix1 : Int) < 0 := by omega
    refine Qoc ttGe1 10 [] rfl ?_
    refine Clit (t := 10) rfl (decide_eq_false hneg1) ?_
    refine Qco ttGe1 8 [kb hb1] rfl ?_
    have hl1 : ix1 < r.rs.length := by first | omega | (simp; done) | (simp; omega)
    refine T_index (xs := r.rs) (i := ix1) EncRF rfl rfl (by first | rfl | omega) slc34 hl1 hR.hS rfl ?_
    intro g2 o1 ha1
    refine Qoo ttGe1 1 [] rfl ?_
    refine L_run (R_load1 rfl scl27 (ha1 2 _ rfl)) rfl ?_
    refine Qoe ttGe1 5 [] rfl ?_
    refine ret1 Try.results73 rfl ?_
    rw [rsize_ix hR0.hr hix1 hnm1]; exact ⟨hB, rfl⟩
section
variable {U : Nat → Prop} {w : World} {r : RK} (hR : RAt U w r) {s nm to t2 : ByteArray} {n : Int}
include hR
theorem rmake_l (e : s = nm) (hl : nm.size ≤ 9000000000000000000) : Runs Try.prog 40 #[.agg r.cs.toArray, .string s, .int .i64 n] w (fun v w' => w.grownBy w' none ∧ RDid U w w' (r.pd.make nm n) v) := by subst e; exact rmake_ok hR hl
theorem rremove_l (e : s = nm) : Runs Try.prog 54 #[.agg r.cs.toArray, .string s] w (fun v w' => w.grownBy w' none ∧ RDid U w w' (r.pd.remove nm) v) := by subst e; exact rremove_ok hR
theorem rsize_l (e : s = nm) : Runs Try.prog 73 #[.agg r.cs.toArray, .string s] w (fun v w' => w.grownBy w' none ∧ v = .int .i64 (sizeP r.pd.fs nm : Int)) := by subst e; exact rsize_ok hR
end
theorem runused_ok {U : Nat → Prop} {w : World} {r : RK} (hR : RAt U w r)  :
    Runs Try.prog 74 #[.agg #[.slice r.A r.rs.length r.c, .int .i64 r.cap, .int .i64 r.ops, .bool r.dn, .bool r.tl, .int .i64 r.af]] w (fun v w' => w.grownBy w' none ∧ v = .string (unusedP r.pd.fs)) := by
  have hB := gb_refl w none
  have hR0 := hR
  replace hR := hR.low
  refine enterQ Try.func74 Try.ntmps74 rfl rfl ?_
  refine Qco ttGe1 2 [] rfl ?_
  refine L_box (cs := [.slice r.A r.rs.length r.c, .int .i64 r.cap, .int .i64 r.ops, .bool r.dn, .bool r.tl, .int .i64 r.af]) rfl rfl rfl ?_
  intro g1 w1 eg1 hb1 hs1 hz1
  have ge1 : w.heap.size ≤ g1 := eg_ge hB eg1
  replace hB := gb_tr hB hs1
  replace hR := hR.gb hs1
  refine Qoo ttGe1 7 [kb hb1] rfl ?_
  refine L_call rfl cb73 (rsize_l hR fnq1) rfl ?_
  rintro _ w2 ⟨hs2, rfl⟩
  replace hB := gb_tr hB hs2
  replace hR := hR.gb hs2
  replace hb1 := hb1.gb hs2
  refine Qoc ttGe1 3 [] rfl ?_
  refine C_if rfl (fun h1 => ?_) (fun h1 => ?_)
  · refine Qce ttGe1 7 [] rfl ?_
    refine ret1 Try.results74 rfl ?_
    refine ⟨hB, ?_⟩; rw [fnq1]; unfold unusedP; rw [if_pos (by omega)]
  · refine Qco ttGe1 6 [kb hb1] rfl ?_
    refine L_call rfl cb73 (rsize_l hR fnq2) rfl ?_
    rintro _ w3 ⟨hs3, rfl⟩
    replace hB := gb_tr hB hs3
    replace hR := hR.gb hs3
    replace hb1 := hb1.gb hs3
    refine Qoc ttGe1 3 [] rfl ?_
    refine C_if rfl (fun h2 => ?_) (fun h2 => ?_)
    · refine Qce ttGe1 7 [] rfl ?_
      refine ret1 Try.results74 rfl ?_
      refine ⟨hB, ?_⟩; rw [fnq2]; unfold unusedP; rw [if_neg (by omega), if_pos (by omega)]
    · refine Qce ttGe1 8 [] rfl ?_
      refine ret1 Try.results74 rfl ?_
      refine ⟨hB, ?_⟩; unfold unusedP; rw [if_neg (by omega), if_neg (by omega)]
theorem rcount_ok {U : Nat → Prop} {w : World} {r : RK} (hR : RAt U w r)  :
    Runs Try.prog 79 #[.agg #[.slice r.A r.rs.length r.c, .int .i64 r.cap, .int .i64 r.ops, .bool r.dn, .bool r.tl, .int .i64 r.af]] w (fun v w' => w.grownBy w' none ∧ v = .int .i64 ((cntR r.pd.fs : Nat) : Int)) := by
  have hB := gb_refl w none
  have hR0 := hR
  replace hR := hR.low
  refine enterQ Try.func79 Try.ntmps79 rfl rfl ?_
  refine Qco ttGe1 2 [] rfl ?_
  refine L_box (cs := [.slice r.A r.rs.length r.c, .int .i64 r.cap, .int .i64 r.ops, .bool r.dn, .bool r.tl, .int .i64 r.af]) rfl rfl rfl ?_
  intro g1 w1 eg1 hb1 hs1 hz1
  have ge1 : w.heap.size ≤ g1 := eg_ge hB eg1
  replace hB := gb_tr hB hs1
  replace hR := hR.gb hs1
  refine Qoo ttGe1 12 [kb hb1] rfl ?_
  refine L_call rfl cb73 (rsize_l hR fnq1) rfl ?_
  rintro _ w2 ⟨hs2, rfl⟩
  replace hB := gb_tr hB hs2
  replace hR := hR.gb hs2
  replace hb1 := hb1.gb hs2
  refine Qoc ttGe1 3 [] rfl ?_
  refine C_if rfl (fun h1 => ?_) (fun h1 => ?_)
  · refine Qco ttGe1 10 [kb hb1] rfl ?_
    refine L_call rfl cb73 (rsize_l hR fnq2) rfl ?_
    rintro _ w3 ⟨hs3, rfl⟩
    replace hB := gb_tr hB hs3
    replace hR := hR.gb hs3
    replace hb1 := hb1.gb hs3
    refine Qoc ttGe1 3 [] rfl ?_
    refine C_if rfl (fun h2 => ?_) (fun h2 => ?_)
    · refine Qce ttGe1 13 [] rfl ?_
      refine ret1 Try.results79 rfl ?_
      refine ⟨hB, ?_⟩; unfold cntR; rw [if_pos (by omega), if_pos (by omega)]; rfl
    · refine Qce ttGe1 9 [] rfl ?_
      refine ret1 Try.results79 rfl ?_
      refine ⟨hB, ?_⟩; unfold cntR; rw [if_pos (by omega), if_neg (by omega)]; rfl
  · refine Qco ttGe1 6 [kb hb1] rfl ?_
    refine L_call rfl cb73 (rsize_l hR fnq2) rfl ?_
    rintro _ w4 ⟨hs4, rfl⟩
    replace hB := gb_tr hB hs4
    replace hR := hR.gb hs4
    replace hb1 := hb1.gb hs4
    refine Qoc ttGe1 3 [] rfl ?_
    refine C_if rfl (fun h3 => ?_) (fun h3 => ?_)
    · refine Qce ttGe1 13 [] rfl ?_
      refine ret1 Try.results79 rfl ?_
      refine ⟨hB, ?_⟩; unfold cntR; rw [if_neg (by omega), if_pos (by omega)]; rfl
    · refine Qce ttGe1 9 [] rfl ?_
      refine ret1 Try.results79 rfl ?_
      refine ⟨hB, ?_⟩; unfold cntR; rw [if_neg (by omega), if_neg (by omega)]; rfl
theorem rgive_ok {U : Nat → Prop} {w : World} {r : RK} (hR : RAt U w r) {nm : ByteArray} :
    Runs Try.prog 35 #[.agg #[.slice r.A r.rs.length r.c, .int .i64 r.cap, .int .i64 r.ops, .bool r.dn, .bool r.tl, .int .i64 r.af], .string nm] w (fun v w' => w.grownBy w' none ∧ RDid U w w' (r.pd.give nm) v) := by
  have hB := gb_refl w none
  have hR0 := hR
  replace hR := hR.low
  refine enterQ Try.func35 Try.ntmps35 rfl rfl ?_
  refine Qco ttGe1 2 [] rfl ?_
  refine L_box (cs := [.slice r.A r.rs.length r.c, .int .i64 r.cap, .int .i64 r.ops, .bool r.dn, .bool r.tl, .int .i64 r.af]) rfl rfl rfl ?_
  intro g1 w1 eg1 hb1 hs1 hz1
  have ge1 : w.heap.size ≤ g1 := eg_ge hB eg1
  replace hB := gb_tr hB hs1
  replace hR := hR.gb hs1
  refine L_alloc (cs := [.slice none 0 0, .int .i64 0, .int .i64 0, .bool false, .bool false, .int .i64 0]) zer36 rfl rfl ?_
  intro g2 w2 eg2 hb2 hs2 hz2
  have ge2 : w.heap.size ≤ g2 := eg_ge hB eg2
  have lt1 : g1 < g2 := lt_of_eg hb1.lt eg2
  replace hB := gb_tr hB hs2
  replace hR := hR.gb hs2
  replace hb1 := hb1.gb hs2
  refine Qoc ttGe1 10 [kb hb1] rfl ?_
  refine C_cond rfl (fun h1 => ?_) (fun h1 => ?_)
  · refine Qco ttGe1 3 [kb hb1] rfl ?_
    refine L_stA (vs := [.slice r.A r.rs.length r.c, .int .i64 r.cap, .int .i64 r.ops, .bool r.dn, .bool r.tl, .int .i64 r.af]) rfl rfl rfl sz36 rfl hb2 rfl ?_
    intro w3 hb3 hs3 hz3
    replace hB := gb_trg hB hs3 ge2
    replace hR := hR.other hb2 rfl rfl rfl hs3
    replace hb1 := hb1.grown hs3 (ne_lt lt1)
    refine Qoe ttGe1 5 [] rfl ?_
    refine retC1 (vs := [.slice r.A r.rs.length r.c, .int .i64 r.cap, .int .i64 r.ops, .bool r.dn, .bool r.tl, .int .i64 r.af]) Try.results35 rfl agg36 (At.pre (hb3.at_ 0) rfl) rfl rfl ?_
    exact ⟨hB, rfin_e hR (if_pos h1)⟩
  · refine Qco ttGe1 7 [kb hb1] rfl ?_
    refine L_call rfl cb73 (rsize_l hR rfl) rfl ?_
    rintro _ w4 ⟨hs4, rfl⟩
    replace hB := gb_tr hB hs4
    replace hR := hR.gb hs4
    replace hb1 := hb1.gb hs4
    replace hb2 := hb2.gb hs4
    refine Qoc ttGe1 3 [] rfl ?_
    refine C_if rfl (fun h2 => ?_) (fun h2 => ?_)
    · refine Qco ttGe1 3 [kb hb1] rfl ?_
      refine L_stA (vs := [.slice r.A r.rs.length r.c, .int .i64 r.cap, .int .i64 r.ops, .bool r.dn, .bool r.tl, .int .i64 r.af]) rfl rfl rfl sz36 rfl hb2 rfl ?_
      intro w5 hb4 hs5 hz4
      replace hB := gb_trg hB hs5 ge2
      replace hR := hR.other hb2 rfl rfl rfl hs5
      replace hb1 := hb1.grown hs5 (ne_lt lt1)
      refine Qoe ttGe1 5 [] rfl ?_
      refine retC1 (vs := [.slice r.A r.rs.length r.c, .int .i64 r.cap, .int .i64 r.ops, .bool r.dn, .bool r.tl, .int .i64 r.af]) Try.results35 rfl agg36 (At.pre (hb4.at_ 0) rfl) rfl rfl ?_
      exact ⟨hB, rfin_e hR (by unfold PD.give; rw [if_neg (rpdn h1), if_pos (by omega)])⟩
    · refine Qco ttGe1 7 [kb hb1] rfl ?_
      refine L_call rfl cb73 (rsize_l hR rfl) rfl ?_
      rintro _ w6 ⟨hs6, rfl⟩
      replace hB := gb_tr hB hs6
      replace hR := hR.gb hs6
      replace hb1 := hb1.gb hs6
      replace hb2 := hb2.gb hs6
      refine Qoo ttGe1 2 [] rfl ?_
      refine Lsp 18 rfl (fun h3 => ?_) (fun h3 => ?_)
      · refine Qoo ttGe1 11 [kb hb1] rfl ?_
        have hszhs7_ := hB.size
        refine L_call rfl cb54 (rremove_l hR rfl) rfl ?_
        rintro _ w7 ⟨hs7, rk1, hA1, rfl, hpd1⟩
        replace hB := gb_tr hB hs7
        replace hR := hR.gb hs7
        replace hb1 := hb1.gb hs7
        replace hb2 := hb2.gb hs7
        refine Qoo ttGe1 2 [] rfl ?_
        refine L_stA (vs := [.slice rk1.A rk1.rs.length rk1.c, .int .i64 rk1.cap, .int .i64 rk1.ops, .bool rk1.dn, .bool rk1.tl, .int .i64 rk1.af]) rfl rfl rfl sz36 rfl hb2 rfl ?_
        intro w8 hb5 hs8 hz5
        replace hB := gb_trg hB hs8 ge2
        replace hb1 := hb1.grown hs8 (ne_lt lt1)
        replace hA1 := hA1.other hb2 rfl rfl rfl hs8
        refine Qoe ttGe1 5 [] rfl ?_
        refine retC1 (vs := [.slice rk1.A rk1.rs.length rk1.c, .int .i64 rk1.cap, .int .i64 rk1.ops, .bool rk1.dn, .bool rk1.tl, .int .i64 rk1.af]) Try.results35 rfl agg36 (At.pre (hb5.at_ 0) rfl) rfl rfl ?_
        have hc_ : sizeP r.pd.fs nm ≠ 17 ∨ unusedP r.pd.fs = ⟨#[]⟩ := by first | exact .inl (by omega) | exact .inr (by assumption)
        have he_ : r.pd.give nm = r.pd.remove nm := by unfold PD.give; rw [if_neg (rpdn h1), if_neg (by omega), if_pos hc_]
        rw [he_]; exact ⟨hB, RDid.low hszhs7_ ⟨rk1, hA1, rfl, hpd1⟩⟩
      · refine Qoo ttGe1 1 [kb hb1] rfl ?_
        refine L_yes rfl rfl rfl rfl ?_
        refine L_call rfl cb74 (runused_ok hR) rfl ?_
        rintro _ w9 ⟨hs9, rfl⟩
        replace hB := gb_tr hB hs9
        replace hR := hR.gb hs9
        replace hb1 := hb1.gb hs9
        replace hb2 := hb2.gb hs9
        refine Qoc ttGe1 4 [] rfl ?_
        refine C_if rfl (fun h4 => ?_) (fun h4 => ?_)
        · refine Qco ttGe1 4 [kb hb1] rfl ?_
          have hszhs10_ := hB.size
          refine L_call rfl cb54 (rremove_l hR rfl) rfl ?_
          rintro _ w10 ⟨hs10, rk2, hA2, rfl, hpd2⟩
          replace hB := gb_tr hB hs10
          replace hR := hR.gb hs10
          replace hb1 := hb1.gb hs10
          replace hb2 := hb2.gb hs10
          refine Qoo ttGe1 2 [] rfl ?_
          refine L_stA (vs := [.slice rk2.A rk2.rs.length rk2.c, .int .i64 rk2.cap, .int .i64 rk2.ops, .bool rk2.dn, .bool rk2.tl, .int .i64 rk2.af]) rfl rfl rfl sz36 rfl hb2 rfl ?_
          intro w11 hb6 hs11 hz6
          replace hB := gb_trg hB hs11 ge2
          replace hb1 := hb1.grown hs11 (ne_lt lt1)
          replace hA2 := hA2.other hb2 rfl rfl rfl hs11
          refine Qoe ttGe1 5 [] rfl ?_
          refine retC1 (vs := [.slice rk2.A rk2.rs.length rk2.c, .int .i64 rk2.cap, .int .i64 rk2.ops, .bool rk2.dn, .bool rk2.tl, .int .i64 rk2.af]) Try.results35 rfl agg36 (At.pre (hb6.at_ 0) rfl) rfl rfl ?_
          have hc_ : sizeP r.pd.fs nm ≠ 17 ∨ unusedP r.pd.fs = ⟨#[]⟩ := by first | exact .inl (by omega) | exact .inr (by assumption)
          have he_ : r.pd.give nm = r.pd.remove nm := by unfold PD.give; rw [if_neg (rpdn h1), if_neg (by omega), if_pos hc_]
          rw [he_]; exact ⟨hB, RDid.low hszhs10_ ⟨rk2, hA2, rfl, hpd2⟩⟩
        · refine Qcc ttGe1 3 [] rfl ?_
          refine C_draw2 rfl mix ?_
          intro w12 hs12 hz7
          replace hB := gb_tr hB hs12
          replace hR := hR.gb hs12
          replace hb1 := hb1.gb hs12
          replace hb2 := hb2.gb hs12
          refine ⟨fun W_ => Blk W_ g1 36 [.slice r.A r.rs.length r.c, .int .i64 r.cap, .int .i64 r.ops, .bool r.dn, .bool r.tl, .int .i64 r.af] ∧ True, [0, 1, 2, 5, 6, 8], ?_⟩
          refine Tqs ttGe1 6 [0, 1, 2] [kd hb1, kd hb1] (fun _ ⟨hb1, _⟩ => ⟨hb1, hb1, trivial⟩) ⟨hb1, trivial⟩ rfl ?_
          refine T_all (rs := [3]) (by kernel_rfl) rfl (all1 (O_one rfl ?_))
          refine L_call rfl cb74 (runused_ok hR) rfl ?_
          rintro _ w13 ⟨hs13, rfl⟩
          replace hB := gb_tr hB hs13
          replace hR := hR.gb hs13
          replace hb1 := hb1.gb hs13
          replace hb2 := hb2.gb hs13
          refine L_nil (N_then ⟨fun hN_ => ⟨hb1, trivial⟩, ?_⟩)
          refine T_all (rs := [4]) (by kernel_rfl) rfl (all1 (O_one rfl ?_))
          have hszhs14_ := hB.size
          refine L_call rfl cb53 (rrename_ok hR (unused_size _)) rfl ?_
          rintro _ w14 ⟨hs14, rk3, hA3, rfl, hpd3⟩
          replace hB := gb_tr hB hs14
          replace hR := hR.gb hs14
          replace hb1 := hb1.gb hs14
          replace hb2 := hb2.gb hs14
          refine L_nil (N_then ⟨fun hN_ => ⟨hb1, trivial⟩, ?_⟩)
          refine Tqs ttGe1 2 [5, 6] [] (fun _ _ => trivial) ⟨hb1, trivial⟩ rfl ?_
          refine T_all (rs := [7]) (by kernel_rfl) rfl (all1 (O_one rfl ?_))
          refine L_stA (vs := [.slice rk3.A rk3.rs.length rk3.c, .int .i64 rk3.cap, .int .i64 rk3.ops, .bool rk3.dn, .bool rk3.tl, .int .i64 rk3.af]) rfl rfl rfl sz36 rfl hb2 rfl ?_
          intro w15 hb7 hs15 hz8
          replace hB := gb_trg hB hs15 ge2
          replace hb1 := hb1.grown hs15 (ne_lt lt1)
          replace hA3 := hA3.other hb2 rfl rfl rfl hs15
          refine L_nil (N_then ⟨fun hN_ => ⟨hb1, trivial⟩, ?_⟩)
          refine Tqs ttGe1 0 [8] [] (fun _ _ => trivial) ⟨hb1, trivial⟩ rfl ?_
          refine T_done (by kernel_rfl) (CalmE.normal ?_)
          refine Qee ttGe1 2 [] rfl ?_
          refine retC1 (vs := [.slice rk3.A rk3.rs.length rk3.c, .int .i64 rk3.cap, .int .i64 rk3.ops, .bool rk3.dn, .bool rk3.tl, .int .i64 rk3.af]) Try.results35 rfl agg36 (At.pre (hb7.at_ 0) rfl) rfl rfl ?_
          have hc_ : ¬ (sizeP r.pd.fs nm ≠ 17 ∨ unusedP r.pd.fs = ⟨#[]⟩) := by rintro (h_ | h_); omega; exact absurd h_ (by assumption)
          have he_ : r.pd.give nm = r.pd.rename nm (unusedP r.pd.fs) := by unfold PD.give; rw [if_neg (rpdn h1), if_neg (by omega), if_neg hc_]
          rw [he_]; exact ⟨hB, RDid.low hszhs14_ ⟨rk3, hA3, rfl, hpd3⟩⟩
theorem rtake_ok {U : Nat → Prop} {w : World} {r : RK} (hR : RAt U w r)  :
    Runs Try.prog 33 #[.agg #[.slice r.A r.rs.length r.c, .int .i64 r.cap, .int .i64 r.ops, .bool r.dn, .bool r.tl, .int .i64 r.af]] w (fun v w' => w.grownBy w' none ∧ RTook U w w' r.pd.take v) := by
  have hB := gb_refl w none
  have hR0 := hR
  replace hR := hR.low
  refine enterQ Try.func33 Try.ntmps33 rfl rfl ?_
  refine Qco ttGe1 2 [] rfl ?_
  refine L_box (cs := [.slice r.A r.rs.length r.c, .int .i64 r.cap, .int .i64 r.ops, .bool r.dn, .bool r.tl, .int .i64 r.af]) rfl rfl rfl ?_
  intro g1 w1 eg1 hb1 hs1 hz1
  have ge1 : w.heap.size ≤ g1 := eg_ge hB eg1
  replace hB := gb_tr hB hs1
  replace hR := hR.gb hs1
  refine L_alloc (cs := [.slice none 0 0, .int .i64 0, .int .i64 0, .bool false, .bool false, .int .i64 0]) zer36 rfl rfl ?_
  intro g2 w2 eg2 hb2 hs2 hz2
  have ge2 : w.heap.size ≤ g2 := eg_ge hB eg2
  have lt1 : g1 < g2 := lt_of_eg hb1.lt eg2
  replace hB := gb_tr hB hs2
  replace hR := hR.gb hs2
  replace hb1 := hb1.gb hs2
  refine Qoc ttGe1 11 [kb hb1] rfl ?_
  refine C_cond rfl (fun h1 => ?_) (fun h1 => ?_)
  · refine Qco ttGe1 3 [kb hb1] rfl ?_
    refine L_stA (vs := [.slice r.A r.rs.length r.c, .int .i64 r.cap, .int .i64 r.ops, .bool r.dn, .bool r.tl, .int .i64 r.af]) rfl rfl rfl sz36 rfl hb2 rfl ?_
    intro w3 hb3 hs3 hz3
    replace hB := gb_trg hB hs3 ge2
    replace hR := hR.other hb2 rfl rfl rfl hs3
    replace hb1 := hb1.grown hs3 (ne_lt lt1)
    refine Qoe ttGe1 6 [] rfl ?_
    refine retC2 (vs := [.slice r.A r.rs.length r.c, .int .i64 r.cap, .int .i64 r.ops, .bool r.dn, .bool r.tl, .int .i64 r.af]) Try.results33 rfl agg36 (At.pre (hb3.at_ 0) rfl) rfl rfl rfl ?_
    exact ⟨hB, rtk_e hR (if_pos h1) rfl⟩
  · refine Qco ttGe1 6 [kb hb1] rfl ?_
    refine L_call rfl cb73 (rsize_l hR fnq1) rfl ?_
    rintro _ w4 ⟨hs4, rfl⟩
    replace hB := gb_tr hB hs4
    replace hR := hR.gb hs4
    replace hb1 := hb1.gb hs4
    replace hb2 := hb2.gb hs4
    refine Qoc ttGe1 3 [] rfl ?_
    refine C_if rfl (fun h2 => ?_) (fun h2 => ?_)
    · refine Qco ttGe1 3 [kb hb1] rfl ?_
      refine L_stA (vs := [.slice r.A r.rs.length r.c, .int .i64 r.cap, .int .i64 r.ops, .bool r.dn, .bool r.tl, .int .i64 r.af]) rfl rfl rfl sz36 rfl hb2 rfl ?_
      intro w5 hb4 hs5 hz4
      replace hB := gb_trg hB hs5 ge2
      replace hR := hR.other hb2 rfl rfl rfl hs5
      replace hb1 := hb1.grown hs5 (ne_lt lt1)
      refine Qoe ttGe1 6 [] rfl ?_
      refine retC2 (vs := [.slice r.A r.rs.length r.c, .int .i64 r.cap, .int .i64 r.ops, .bool r.dn, .bool r.tl, .int .i64 r.af]) Try.results33 rfl agg36 (At.pre (hb4.at_ 0) rfl) rfl rfl rfl ?_
      exact ⟨hB, rtk_e hR (by unfold PD.take; rw [if_neg (rpdn h1), if_pos (by omega)]) fnq1⟩
    · refine Qco ttGe1 6 [kb hb1] rfl ?_
      refine L_call rfl cb73 (rsize_l hR fnq2) rfl ?_
      rintro _ w6 ⟨hs6, rfl⟩
      replace hB := gb_tr hB hs6
      replace hR := hR.gb hs6
      replace hb1 := hb1.gb hs6
      replace hb2 := hb2.gb hs6
      refine Qoc ttGe1 3 [] rfl ?_
      refine C_if rfl (fun h3 => ?_) (fun h3 => ?_)
      · refine Qco ttGe1 3 [kb hb1] rfl ?_
        refine L_stA (vs := [.slice r.A r.rs.length r.c, .int .i64 r.cap, .int .i64 r.ops, .bool r.dn, .bool r.tl, .int .i64 r.af]) rfl rfl rfl sz36 rfl hb2 rfl ?_
        intro w7 hb5 hs7 hz5
        replace hB := gb_trg hB hs7 ge2
        replace hR := hR.other hb2 rfl rfl rfl hs7
        replace hb1 := hb1.grown hs7 (ne_lt lt1)
        refine Qoe ttGe1 6 [] rfl ?_
        refine retC2 (vs := [.slice r.A r.rs.length r.c, .int .i64 r.cap, .int .i64 r.ops, .bool r.dn, .bool r.tl, .int .i64 r.af]) Try.results33 rfl agg36 (At.pre (hb5.at_ 0) rfl) rfl rfl rfl ?_
        exact ⟨hB, rtk_e hR (by unfold PD.take; rw [if_neg (rpdn h1), if_neg (by omega), if_pos (by omega)]) fnq2⟩
      · refine Qco ttGe1 5 [kb hb1] rfl ?_
        refine L_call rfl cb74 (runused_ok hR) rfl ?_
        rintro _ w8 ⟨hs8, rfl⟩
        replace hB := gb_tr hB hs8
        replace hR := hR.gb hs8
        replace hb1 := hb1.gb hs8
        replace hb2 := hb2.gb hs8
        refine Qoc ttGe1 10 [] rfl ?_
        refine C_if rfl (fun h4 => ?_) (fun h4 => ?_)
        · refine Qco ttGe1 3 [kb hb1] rfl ?_
          refine L_stA (vs := [.slice r.A r.rs.length r.c, .int .i64 r.cap, .int .i64 r.ops, .bool r.dn, .bool r.tl, .int .i64 r.af]) rfl rfl rfl sz36 rfl hb2 rfl ?_
          intro w9 hb6 hs9 hz6
          replace hB := gb_trg hB hs9 ge2
          replace hR := hR.other hb2 rfl rfl rfl hs9
          replace hb1 := hb1.grown hs9 (ne_lt lt1)
          refine Qoe ttGe1 6 [] rfl ?_
          refine retC2 (vs := [.slice r.A r.rs.length r.c, .int .i64 r.cap, .int .i64 r.ops, .bool r.dn, .bool r.tl, .int .i64 r.af]) Try.results33 rfl agg36 (At.pre (hb6.at_ 0) rfl) rfl rfl rfl ?_
          exact ⟨hB, rtk_e hR (by unfold PD.take; rw [if_neg (rpdn h1), if_neg (by omega), if_neg (by omega), if_pos h4]) rfl⟩
        · refine Qco ttGe1 6 [kb hb1] rfl ?_
          have hszhs10_ := hB.size
          refine L_call rfl cb40 (rmake_l (n := 17) hR rfl (unused_size _)) rfl ?_
          rintro _ w10 ⟨hs10, rk1, hA1, rfl, hpd1⟩
          replace hB := gb_tr hB hs10
          replace hR := hR.gb hs10
          replace hb1 := hb1.gb hs10
          replace hb2 := hb2.gb hs10
          refine Qoo ttGe1 3 [] rfl ?_
          refine L_alloc (cs := [.slice none 0 0, .int .i64 0, .int .i64 0, .bool false, .bool false, .int .i64 0]) zer36 rfl rfl ?_
          intro g3 w11 eg3 hb7 hs11 hz7
          have ge3 : w.heap.size ≤ g3 := eg_ge hB eg3
          have lt2 : g1 < g3 := lt_of_eg hb1.lt eg3
          have lt3 : g2 < g3 := lt_of_eg hb2.lt eg3
          replace hB := gb_tr hB hs11
          replace hb1 := hb1.gb hs11
          replace hb2 := hb2.gb hs11
          replace hA1 := hA1.gb hs11
          refine L_stA (vs := [.slice rk1.A rk1.rs.length rk1.c, .int .i64 rk1.cap, .int .i64 rk1.ops, .bool rk1.dn, .bool rk1.tl, .int .i64 rk1.af]) rfl rfl rfl sz36 rfl hb7 rfl ?_
          intro w12 hb8 hs12 hz8
          replace hB := gb_trg hB hs12 ge3
          replace hb1 := hb1.grown hs12 (ne_lt lt2)
          replace hb2 := hb2.grown hs12 (ne_lt lt3)
          replace hA1 := hA1.other hb7 rfl rfl rfl hs12
          refine Qoc ttGe1 10 [] rfl ?_
          refine C_if rfl (fun h5 => ?_) (fun h5 => ?_)
          · refine Qco ttGe1 4 [kb hb8] rfl ?_
            refine L_stA (vs := [.slice rk1.A rk1.rs.length rk1.c, .int .i64 rk1.cap, .int .i64 rk1.ops, .bool rk1.dn, .bool rk1.tl, .int .i64 rk1.af]) rfl rfl rfl sz36 rfl hb2 rfl ?_
            intro w13 hb9 hs13 hz9
            replace hB := gb_trg hB hs13 ge2
            replace hb1 := hb1.grown hs13 (ne_lt lt1)
            replace hA1 := hA1.other hb2 rfl rfl rfl hs13
            replace hb8 := hb8.grown hs13 (ne_gt lt3)
            refine Qoe ttGe1 6 [] rfl ?_
            refine retC2 (vs := [.slice rk1.A rk1.rs.length rk1.c, .int .i64 rk1.cap, .int .i64 rk1.ops, .bool rk1.dn, .bool rk1.tl, .int .i64 rk1.af]) Try.results33 rfl agg36 (At.pre (hb9.at_ 0) rfl) rfl rfl rfl ?_
            exact ⟨hB, rtk_m hszhs10_ hA1 (by unfold PD.take; rw [if_neg (rpdn h1), if_neg (by omega), if_neg (by omega), if_neg h4, if_pos h5]) hpd1 rfl⟩
          · refine Qco ttGe1 6 [kb hb8] rfl ?_
            refine L_stA (vs := [.slice rk1.A rk1.rs.length rk1.c, .int .i64 rk1.cap, .int .i64 rk1.ops, .bool rk1.dn, .bool rk1.tl, .int .i64 rk1.af]) rfl rfl rfl sz36 rfl hb2 rfl ?_
            intro w14 hb10 hs14 hz10
            replace hB := gb_trg hB hs14 ge2
            replace hb1 := hb1.grown hs14 (ne_lt lt1)
            replace hA1 := hA1.other hb2 rfl rfl rfl hs14
            replace hb8 := hb8.grown hs14 (ne_gt lt3)
            refine Qoe ttGe1 5 [] rfl ?_
            refine retC2 (vs := [.slice rk1.A rk1.rs.length rk1.c, .int .i64 rk1.cap, .int .i64 rk1.ops, .bool rk1.dn, .bool rk1.tl, .int .i64 rk1.af]) Try.results33 rfl agg36 (At.pre (hb10.at_ 0) rfl) rfl rfl rfl ?_
            exact ⟨hB, rtk_m hszhs10_ hA1 (by unfold PD.take; rw [if_neg (rpdn h1), if_neg (by omega), if_neg (by omega), if_neg h4, if_neg h5]) hpd1 rfl⟩
theorem rspare_ok {U : Nat → Prop} {w : World} {r : RK} (hR : RAt U w r)  :
    Runs Try.prog 37 #[.agg #[.slice r.A r.rs.length r.c, .int .i64 r.cap, .int .i64 r.ops, .bool r.dn, .bool r.tl, .int .i64 r.af]] w (fun v w' => w.grownBy w' none ∧ RDid U w w' (r.pd.spare) v) := by
  have hB := gb_refl w none
  have hR0 := hR
  replace hR := hR.low
  refine enterQ Try.func37 Try.ntmps37 rfl rfl ?_
  refine Qco ttGe1 2 [] rfl ?_
  refine L_box (cs := [.slice r.A r.rs.length r.c, .int .i64 r.cap, .int .i64 r.ops, .bool r.dn, .bool r.tl, .int .i64 r.af]) rfl rfl rfl ?_
  intro g1 w1 eg1 hb1 hs1 hz1
  have ge1 : w.heap.size ≤ g1 := eg_ge hB eg1
  replace hB := gb_tr hB hs1
  replace hR := hR.gb hs1
  refine L_alloc (cs := [.slice none 0 0, .int .i64 0, .int .i64 0, .bool false, .bool false, .int .i64 0]) zer36 rfl rfl ?_
  intro g2 w2 eg2 hb2 hs2 hz2
  have ge2 : w.heap.size ≤ g2 := eg_ge hB eg2
  have lt1 : g1 < g2 := lt_of_eg hb1.lt eg2
  replace hB := gb_tr hB hs2
  replace hR := hR.gb hs2
  replace hb1 := hb1.gb hs2
  refine Qoc ttGe1 10 [kb hb1] rfl ?_
  refine C_cond rfl (fun h1 => ?_) (fun h1 => ?_)
  · refine Qco ttGe1 3 [kb hb1] rfl ?_
    refine L_stA (vs := [.slice r.A r.rs.length r.c, .int .i64 r.cap, .int .i64 r.ops, .bool r.dn, .bool r.tl, .int .i64 r.af]) rfl rfl rfl sz36 rfl hb2 rfl ?_
    intro w3 hb3 hs3 hz3
    replace hB := gb_trg hB hs3 ge2
    replace hR := hR.other hb2 rfl rfl rfl hs3
    replace hb1 := hb1.grown hs3 (ne_lt lt1)
    refine Qoe ttGe1 5 [] rfl ?_
    refine retC1 (vs := [.slice r.A r.rs.length r.c, .int .i64 r.cap, .int .i64 r.ops, .bool r.dn, .bool r.tl, .int .i64 r.af]) Try.results37 rfl agg36 (At.pre (hb3.at_ 0) rfl) rfl rfl ?_
    exact ⟨hB, rfin_e hR (if_pos h1)⟩
  · refine Qco ttGe1 6 [kb hb1] rfl ?_
    refine L_call rfl cb73 (rsize_l hR fnq0) rfl ?_
    rintro _ w4 ⟨hs4, rfl⟩
    replace hB := gb_tr hB hs4
    replace hR := hR.gb hs4
    replace hb1 := hb1.gb hs4
    replace hb2 := hb2.gb hs4
    refine Qoc ttGe1 3 [] rfl ?_
    refine C_if rfl (fun h2 => ?_) (fun h2 => ?_)
    · refine Qco ttGe1 3 [kb hb1] rfl ?_
      refine L_stA (vs := [.slice r.A r.rs.length r.c, .int .i64 r.cap, .int .i64 r.ops, .bool r.dn, .bool r.tl, .int .i64 r.af]) rfl rfl rfl sz36 rfl hb2 rfl ?_
      intro w5 hb4 hs5 hz4
      replace hB := gb_trg hB hs5 ge2
      replace hR := hR.other hb2 rfl rfl rfl hs5
      replace hb1 := hb1.grown hs5 (ne_lt lt1)
      refine Qoe ttGe1 5 [] rfl ?_
      refine retC1 (vs := [.slice r.A r.rs.length r.c, .int .i64 r.cap, .int .i64 r.ops, .bool r.dn, .bool r.tl, .int .i64 r.af]) Try.results37 rfl agg36 (At.pre (hb4.at_ 0) rfl) rfl rfl ?_
      exact ⟨hB, rfin_e hR (by unfold PD.spare; rw [if_neg (rpdn h1), if_pos (by omega)])⟩
    · refine Qco ttGe1 11 [kb hb1] rfl ?_
      refine L_call rfl cb73 (rsize_l hR fnq0) rfl ?_
      rintro _ w6 ⟨hs6, rfl⟩
      replace hB := gb_tr hB hs6
      replace hR := hR.gb hs6
      replace hb1 := hb1.gb hs6
      replace hb2 := hb2.gb hs6
      refine Qoc ttGe1 3 [] rfl ?_
      refine C_if rfl (fun h3 => ?_) (fun h3 => ?_)
      · refine Qco ttGe1 2 [kb hb1] rfl ?_
        have hszhs7_ := hB.size
        refine L_call rfl cb54 (rremove_l hR fnq0) rfl ?_
        rintro _ w7 ⟨hs7, rk1, hA1, rfl, hpd1⟩
        replace hB := gb_tr hB hs7
        replace hR := hR.gb hs7
        replace hb1 := hb1.gb hs7
        replace hb2 := hb2.gb hs7
        refine Qoo ttGe1 3 [] rfl ?_
        refine L_stA (vs := [.slice rk1.A rk1.rs.length rk1.c, .int .i64 rk1.cap, .int .i64 rk1.ops, .bool rk1.dn, .bool rk1.tl, .int .i64 rk1.af]) rfl rfl rfl sz36 rfl hb1 rfl ?_
        intro w8 hb5 hs8 hz5
        replace hB := gb_trg hB hs8 ge1
        replace hb2 := hb2.grown hs8 (ne_gt lt1)
        replace hA1 := hA1.other hb1 rfl rfl rfl hs8
        refine Qoc ttGe1 10 [] rfl ?_
        refine C_if rfl (fun h4 => ?_) (fun h4 => ?_)
        · refine Qco ttGe1 4 [kb hb5] rfl ?_
          refine L_stA (vs := [.slice rk1.A rk1.rs.length rk1.c, .int .i64 rk1.cap, .int .i64 rk1.ops, .bool rk1.dn, .bool rk1.tl, .int .i64 rk1.af]) rfl rfl rfl sz36 rfl hb2 rfl ?_
          intro w9 hb6 hs9 hz6
          replace hB := gb_trg hB hs9 ge2
          replace hb5 := hb5.grown hs9 (ne_lt lt1)
          replace hA1 := hA1.other hb2 rfl rfl rfl hs9
          refine Qoe ttGe1 5 [] rfl ?_
          refine retC1 (vs := [.slice rk1.A rk1.rs.length rk1.c, .int .i64 rk1.cap, .int .i64 rk1.ops, .bool rk1.dn, .bool rk1.tl, .int .i64 rk1.af]) Try.results37 rfl agg36 (At.pre (hb6.at_ 0) rfl) rfl rfl ?_
          have he_ : r.pd.spare = r.pd.remove (fn0 0) := by unfold PD.spare; rw [if_neg (rpdn h1), if_neg (by omega), if_pos (by omega), if_pos h4]
          rw [he_]; exact ⟨hB, RDid.low hszhs7_ ⟨rk1, hA1, rfl, hpd1⟩⟩
        · refine Qco ttGe1 5 [kb hb5] rfl ?_
          have hszhs10_ := hB.size
          refine L_call rfl cb40 (rmake_l (n := 17) hA1 fnq0 (fn0_size _ (by decide))) rfl ?_
          rintro _ w10 ⟨hs10, rk2, hA2, rfl, hpd2⟩
          replace hB := gb_tr hB hs10
          replace hb5 := hb5.gb hs10
          replace hb2 := hb2.gb hs10
          replace hA1 := hA1.gb hs10
          refine Qoo ttGe1 2 [] rfl ?_
          refine L_stA (vs := [.slice rk2.A rk2.rs.length rk2.c, .int .i64 rk2.cap, .int .i64 rk2.ops, .bool rk2.dn, .bool rk2.tl, .int .i64 rk2.af]) rfl rfl rfl sz36 rfl hb2 rfl ?_
          intro w11 hb7 hs11 hz7
          replace hB := gb_trg hB hs11 ge2
          replace hb5 := hb5.grown hs11 (ne_lt lt1)
          replace hA2 := hA2.other hb2 rfl rfl rfl hs11
          refine Qoe ttGe1 4 [] rfl ?_
          refine retC1 (vs := [.slice rk2.A rk2.rs.length rk2.c, .int .i64 rk2.cap, .int .i64 rk2.ops, .bool rk2.dn, .bool rk2.tl, .int .i64 rk2.af]) Try.results37 rfl agg36 (At.pre (hb7.at_ 0) rfl) rfl rfl ?_
          have he_ : r.pd.spare = (r.pd.remove (fn0 0)).1.make (fn0 0) 17 := by unfold PD.spare; rw [if_neg (rpdn h1), if_neg (by omega), if_pos (by omega), if_neg h4]
          rw [he_, ← hpd1]; exact ⟨hB, RDid.low2 hszhs7_ hszhs10_ ⟨rk2, hA2, rfl, hpd2⟩⟩
      · refine Qco ttGe1 15 [kb hb1] rfl ?_
        have hszhs12_ := hB.size
        refine L_call rfl cb40 (rmake_l (n := 17) hR fnq0 (fn0_size _ (by decide))) rfl ?_
        rintro _ w12 ⟨hs12, rk3, hA3, rfl, hpd3⟩
        replace hB := gb_tr hB hs12
        replace hR := hR.gb hs12
        replace hb1 := hb1.gb hs12
        replace hb2 := hb2.gb hs12
        refine Qoo ttGe1 2 [] rfl ?_
        refine L_stA (vs := [.slice rk3.A rk3.rs.length rk3.c, .int .i64 rk3.cap, .int .i64 rk3.ops, .bool rk3.dn, .bool rk3.tl, .int .i64 rk3.af]) rfl rfl rfl sz36 rfl hb2 rfl ?_
        intro w13 hb8 hs13 hz8
        replace hB := gb_trg hB hs13 ge2
        replace hb1 := hb1.grown hs13 (ne_lt lt1)
        replace hA3 := hA3.other hb2 rfl rfl rfl hs13
        refine Qoe ttGe1 4 [] rfl ?_
        refine retC1 (vs := [.slice rk3.A rk3.rs.length rk3.c, .int .i64 rk3.cap, .int .i64 rk3.ops, .bool rk3.dn, .bool rk3.tl, .int .i64 rk3.af]) Try.results37 rfl agg36 (At.pre (hb8.at_ 0) rfl) rfl rfl ?_
        have he_ : r.pd.spare = r.pd.make (fn0 0) 17 := by unfold PD.spare; rw [if_neg (rpdn h1), if_neg (by omega), if_neg (by omega)]
        rw [he_]; exact ⟨hB, RDid.low hszhs12_ ⟨rk3, hA3, rfl, hpd3⟩⟩
end Go.Proofs.Ytoipncaopdmicaa
namespace Go.Proofs.Ytoipncaopdmicaa
open Go.RowKit Gw Pl
set_option linter.unusedVariables false
set_option linter.unusedSimpArgs false
def tabGf1 : TT := { fld := [(36, 3, 3)], scl := [4], agg := [(36, 6)], str := [], slc := [], ptr := [], cv := [] }
theorem ttGf1 : TOk Try.prog tabGf1 := TT.ok_of (by kernel_rfl)
theorem at_lt {w : World} {g o : Nat} {v : Value} {vs : List Value} (h : At w g o (v :: vs)) : g < w.heap.size := World.block_lt_of_cell? w ⟨g, o + 0, none⟩ (h 0 v rfl)
theorem rclean_ok {U : Nat → Prop} {w : World} {r : RK} (hR : RAt U w r)  :
    Runs Try.prog 39 #[.agg #[.slice r.A r.rs.length r.c, .int .i64 r.cap, .int .i64 r.ops, .bool r.dn, .bool r.tl, .int .i64 r.af]] w (fun v w' => w.grownBy w' none ∧ RDid U w w' r.pd.clean2 v) := by
  have hB := gb_refl w none
  have hR0 := hR
  replace hR := hR.low
  refine enterQ Try.func39 Try.ntmps39 rfl rfl ?_
  refine Qco ttGf1 2 [] rfl ?_
  refine L_box (cs := [.slice r.A r.rs.length r.c, .int .i64 r.cap, .int .i64 r.ops, .bool r.dn, .bool r.tl, .int .i64 r.af]) rfl rfl rfl ?_
  intro g1 w1 eg1 hb1 hs1 hz1
  have ge1 : w.heap.size ≤ g1 := eg_ge hB eg1
  replace hB := gb_tr hB hs1
  replace hR := hR.gb hs1
  refine L_alloc (cs := [.slice none 0 0, .int .i64 0, .int .i64 0, .bool false, .bool false, .int .i64 0]) zer36 rfl rfl ?_
  intro g2 w2 eg2 hb2 hs2 hz2
  have ge2 : w.heap.size ≤ g2 := eg_ge hB eg2
  have lt1 : g1 < g2 := lt_of_eg hb1.lt eg2
  replace hB := gb_tr hB hs2
  replace hR := hR.gb hs2
  replace hb1 := hb1.gb hs2
  refine Qoc ttGf1 10 [kb hb1] rfl ?_
  refine C_cond rfl (fun h1 => ?_) (fun h1 => ?_)
  · refine Qco ttGf1 3 [kb hb1] rfl ?_
    refine L_stA (vs := [.slice r.A r.rs.length r.c, .int .i64 r.cap, .int .i64 r.ops, .bool r.dn, .bool r.tl, .int .i64 r.af]) rfl rfl rfl sz36 rfl hb2 rfl ?_
    intro w3 hb3 hs3 hz3
    replace hB := gb_trg hB hs3 ge2
    replace hR := hR.other hb2 rfl rfl rfl hs3
    replace hb1 := hb1.grown hs3 (ne_lt lt1)
    refine Qoe ttGf1 5 [] rfl ?_
    refine retC1 (vs := [.slice r.A r.rs.length r.c, .int .i64 r.cap, .int .i64 r.ops, .bool r.dn, .bool r.tl, .int .i64 r.af]) Try.results39 rfl agg36 (At.pre (hb3.at_ 0) rfl) rfl rfl ?_
    exact ⟨hB, rfin_e hR (if_pos h1)⟩
  · refine Qco ttGf1 4 [] rfl ?_
    refine L_buildSlice (pv := [(0, .string (⟨#[102, 114, 101, 101, 45, 48]⟩)), (1, .string (⟨#[102, 114, 101, 101, 45, 49]⟩)), (2, .string (⟨#[102, 114, 101, 101, 45, 50]⟩))]) (cs := [.string (⟨#[102, 114, 101, 101, 45, 48]⟩), .string (⟨#[102, 114, 101, 101, 45, 49]⟩), .string (⟨#[102, 114, 101, 101, 45, 50]⟩)]) slc61 zer9 rfl rfl (by kernel_rfl) rfl ?_
    intro g3 w4 eg3 hb4 hs4 hz4
    have ge3 : w.heap.size ≤ g3 := eg_ge hB eg3
    have lt2 : g1 < g3 := lt_of_eg hb1.lt eg3
    have lt3 : g2 < g3 := lt_of_eg hb2.lt eg3
    replace hB := gb_tr hB hs4
    replace hR := hR.gb hs4
    replace hb1 := hb1.gb hs4
    replace hb2 := hb2.gb hs4
    refine Qoc ttGf1 10 [] rfl ?_
    refine C_loop (fun m_ a_ w_ => ∃ (σ_ : Nat → Value) (r' : RK) (i : Nat), a_ = Ac 47 σ_ [] [(1, .pointer (some ⟨g1, 0, none⟩)), (2, .pointer (some ⟨g2, 0, none⟩)), (3, .int .i64 0), (4, .slice (some ⟨g3, 0, none⟩) 3 3), (5, .int .i64 (i : Int))] ∧ w.grownBy w_ none ∧ Blk w_ g2 36 [.slice none 0 0, .int .i64 0, .int .i64 0, .bool false, .bool false, .int .i64 0] ∧ Blk w_ g3 9 [.string (⟨#[102, 114, 101, 101, 45, 48]⟩), .string (⟨#[102, 114, 101, 101, 45, 49]⟩), .string (⟨#[102, 114, 101, 101, 45, 50]⟩)] ∧ RAt (upU U w) w_ r' ∧ Blk w_ g1 36 [.slice r'.A r'.rs.length r'.c, .int .i64 r'.cap, .int .i64 r'.ops, .bool r'.dn, .bool r'.tl, .int .i64 r'.af] ∧ (i ≤ 3) ∧ (cleanR [fn0 0, fn0 1, fn0 2] r.pd = cleanR ([fn0 0, fn0 1, fn0 2].drop i) r'.pd) ∧ 3 - i = m_) (3 - 0) ?_ ?_
    · exact ⟨_, r, 0, Ac_frg ⟨rfl, rfl, rfl, rfl, rfl, trivial⟩, hB, hb2, hb4, hR.up low_l, hb1, (by omega), rfl, rfl⟩
    · clear hB
      clear hR hb1 hb2 hb4
      rintro m_ a_ w5 ⟨σ_, r', i, rfl, hB, hb2, hb4, hRw, hb1, hi_, hcl, rfl⟩
      refine Q0c ?_
      rcases (show i = 0 ∨ i = 1 ∨ i = 2 ∨ i = 3 by omega) with rfl | rfl | rfl | rfl
      · refine Qcc ttGf1 13 [] rfl ?_
        refine C_draw2 rfl mix ?_
        intro w6 hs5 hz5
        replace hB := gb_tr hB hs5
        replace hb2 := hb2.gb hs5
        replace hb4 := hb4.gb hs5
        replace hRw := hRw.gb hs5
        replace hb1 := hb1.gb hs5
        have hl1 : 0 < ([(⟨#[102, 114, 101, 101, 45, 48]⟩ : ByteArray), (⟨#[102, 114, 101, 101, 45, 49]⟩ : ByteArray), (⟨#[102, 114, 101, 101, 45, 50]⟩ : ByteArray)]).length := by first | omega | (simp; done) | (simp; omega)
        obtain ⟨g4, o1, r1, eA1, er1, ha1⟩ := Sli.place' (xs := [(⟨#[102, 114, 101, 101, 45, 48]⟩ : ByteArray), (⟨#[102, 114, 101, 101, 45, 49]⟩ : ByteArray), (⟨#[102, 114, 101, 101, 45, 50]⟩ : ByteArray)]) (i := 0) EncT (Blk.sli (m := 0) hb4) hl1 rfl
        refine ⟨fun W_ => Blk W_ g1 36 [.slice r'.A r'.rs.length r'.c, .int .i64 r'.cap, .int .i64 r'.ops, .bool r'.dn, .bool r'.tl, .int .i64 r'.af] ∧ At W_ g4 r1 [.string (([(⟨#[102, 114, 101, 101, 45, 48]⟩ : ByteArray), (⟨#[102, 114, 101, 101, 45, 49]⟩ : ByteArray), (⟨#[102, 114, 101, 101, 45, 50]⟩ : ByteArray)])[0])] ∧ True, [0, 1, 2, 3, 4, 6, 7, 8, 9, 10, 11, 12, 14, 15], ?_⟩
        refine Tqs ttGf1 13 [0, 1, 2] [kd hb1] (fun _ ⟨hb1, ha1, _⟩ => ⟨hb1, trivial⟩) ⟨hb1, ha1, trivial⟩ rfl ?_
        refine T_takeA (i := 3) rfl (by kernel_rfl) (by kernel_rfl) (by kernel_rfl) (by kernel_rfl) (Y_of (fun _ ⟨hb1, ha1, _⟩ => R_indexE rfl rfl (by first | rfl | omega) slc61 hl1 eA1 er1)) ⟨hb1, ha1, trivial⟩ rfl ?_
        refine T_takeA (i := 4) rfl (by kernel_rfl) (by kernel_rfl) (by kernel_rfl) (by kernel_rfl) (Y_of (fun _ ⟨hb1, ha1, _⟩ => R_load1 rfl scl9 (ha1 0 _ rfl))) ⟨hb1, ha1, trivial⟩ rfl ?_
        refine T_all (rs := [5]) (by kernel_rfl) rfl (all1 (O_one rfl ?_))
        refine L_call rfl cb73 (rsize_l hRw fnq0) rfl ?_
        rintro _ w7 ⟨hs6, rfl⟩
        replace hB := gb_tr hB hs6
        replace hb2 := hb2.gb hs6
        replace hb4 := hb4.gb hs6
        replace hRw := hRw.gb hs6
        replace hb1 := hb1.gb hs6
        replace ha1 := At.gb ha1 hs6 (by simp)
        refine L_nil (N_then ⟨fun hN_ => ⟨hb1, ha1, trivial⟩, ?_⟩)
        refine Tqs ttGf1 8 [6, 7] [] (fun _ _ => trivial) ⟨hb1, ha1, trivial⟩ rfl ?_
        by_cases h2 : 0 < (sizeP r'.pd.fs (fn0 0) : Int)
        · refine T_takeA (i := 8) rfl (by kernel_rfl) (by kernel_rfl) (by kernel_rfl) (by kernel_rfl) (Y_yes rfl rfl rfl (decide_eq_true h2) (fun _ ⟨hb1, ha1, _⟩ => R_loadA (vs := [.slice r'.A r'.rs.length r'.c, .int .i64 r'.cap, .int .i64 r'.ops, .bool r'.dn, .bool r'.tl, .int .i64 r'.af]) rfl agg36 (At.pre (hb1.at_ 0) rfl) rfl)) ⟨hb1, ha1, trivial⟩ rfl ?_
          refine T_takeA (i := 9) rfl (by kernel_rfl) (by kernel_rfl) (by kernel_rfl) (by kernel_rfl) (Y_yes rfl rfl rfl (decide_eq_true h2) (fun _ ⟨hb1, ha1, _⟩ => R_move rfl)) ⟨hb1, ha1, trivial⟩ rfl ?_
          refine T_takeA (i := 10) rfl (by kernel_rfl) (by kernel_rfl) (by kernel_rfl) (by kernel_rfl) (Y_yes rfl rfl rfl (decide_eq_true h2) (fun _ ⟨hb1, ha1, _⟩ => R_move rfl)) ⟨hb1, ha1, trivial⟩ rfl ?_
          refine T_takeA (i := 11) rfl (by kernel_rfl) (by kernel_rfl) (by kernel_rfl) (by kernel_rfl) (Y_yes rfl rfl rfl (decide_eq_true h2) (fun _ ⟨hb1, ha1, _⟩ => R_indexE rfl rfl (by first | rfl | omega) slc61 hl1 eA1 er1)) ⟨hb1, ha1, trivial⟩ rfl ?_
          refine T_takeA (i := 12) rfl (by kernel_rfl) (by kernel_rfl) (by kernel_rfl) (by kernel_rfl) (Y_yes rfl rfl rfl (decide_eq_true h2) (fun _ ⟨hb1, ha1, _⟩ => R_load1 rfl scl9 (ha1 0 _ rfl))) ⟨hb1, ha1, trivial⟩ rfl ?_
          refine T_all (rs := [13]) (by kernel_rfl) rfl (all1 (O_one rfl ?_))
          refine L_yes rfl rfl rfl (decide_eq_true h2) ?_
          refine L_call rfl cb73 (rsize_l hRw fnq0) rfl ?_
          rintro _ w8 ⟨hs7, rfl⟩
          replace hB := gb_tr hB hs7
          replace hb2 := hb2.gb hs7
          replace hb4 := hb4.gb hs7
          replace hRw := hRw.gb hs7
          replace hb1 := hb1.gb hs7
          replace ha1 := At.gb ha1 hs7 (by simp)
          refine L_nil (N_then ⟨fun hN_ => ⟨hb1, ha1, trivial⟩, ?_⟩)
          refine T_takeA (i := 14) rfl (by kernel_rfl) (by kernel_rfl) (by kernel_rfl) (by kernel_rfl) (Y_yes rfl rfl rfl (decide_eq_true h2) (fun _ ⟨hb1, ha1, _⟩ => R_neq rfl rfl)) ⟨hb1, ha1, trivial⟩ rfl ?_
          refine T_takeA (i := 15) rfl (by kernel_rfl) (by kernel_rfl) (by kernel_rfl) (by kernel_rfl) (Y_of (fun _ ⟨hb1, ha1, _⟩ => R_pickT rfl (decide_eq_true h2) rfl)) ⟨hb1, ha1, trivial⟩ rfl ?_
          refine T_done (by kernel_rfl) (CalmE.normal ?_)
          refine Qec ttGf1 1 [] rfl ?_
          refine C_if rfl (fun h3 => ?_) (fun h3 => ?_)
          · refine Qcc ttGf1 1 [] rfl ?_
            refine C_draw2 rfl mix ?_
            intro w9 hs8 hz6
            replace hB := gb_tr hB hs8
            replace hb2 := hb2.gb hs8
            replace hb4 := hb4.gb hs8
            replace hRw := hRw.gb hs8
            replace hb1 := hb1.gb hs8
            replace ha1 := At.gb ha1 hs8 (by simp)
            have hl2 : 0 < ([(⟨#[102, 114, 101, 101, 45, 48]⟩ : ByteArray), (⟨#[102, 114, 101, 101, 45, 49]⟩ : ByteArray), (⟨#[102, 114, 101, 101, 45, 50]⟩ : ByteArray)]).length := by first | omega | (simp; done) | (simp; omega)
            obtain ⟨g5, o2, r2, eA2, er2, ha2⟩ := Sli.place' (xs := [(⟨#[102, 114, 101, 101, 45, 48]⟩ : ByteArray), (⟨#[102, 114, 101, 101, 45, 49]⟩ : ByteArray), (⟨#[102, 114, 101, 101, 45, 50]⟩ : ByteArray)]) (i := 0) EncT (Blk.sli (m := 0) hb4) hl2 rfl
            refine ⟨fun W_ => Blk W_ g1 36 [.slice r'.A r'.rs.length r'.c, .int .i64 r'.cap, .int .i64 r'.ops, .bool r'.dn, .bool r'.tl, .int .i64 r'.af] ∧ At W_ g5 r2 [.string (([(⟨#[102, 114, 101, 101, 45, 48]⟩ : ByteArray), (⟨#[102, 114, 101, 101, 45, 49]⟩ : ByteArray), (⟨#[102, 114, 101, 101, 45, 50]⟩ : ByteArray)])[0])] ∧ True, [0, 1, 2, 3, 4, 6, 7, 8, 11], ?_⟩
            refine Tqs ttGf1 9 [0, 1, 2] [kd hb1] (fun _ ⟨hb1, ha2, _⟩ => ⟨hb1, trivial⟩) ⟨hb1, ha2, trivial⟩ rfl ?_
            refine T_takeA (i := 3) rfl (by kernel_rfl) (by kernel_rfl) (by kernel_rfl) (by kernel_rfl) (Y_of (fun _ ⟨hb1, ha2, _⟩ => R_indexE rfl rfl (by first | rfl | omega) slc61 hl2 eA2 er2)) ⟨hb1, ha2, trivial⟩ rfl ?_
            refine T_takeA (i := 4) rfl (by kernel_rfl) (by kernel_rfl) (by kernel_rfl) (by kernel_rfl) (Y_of (fun _ ⟨hb1, ha2, _⟩ => R_load1 rfl scl9 (ha2 0 _ rfl))) ⟨hb1, ha2, trivial⟩ rfl ?_
            refine T_all (rs := [5, 9]) (by kernel_rfl) rfl (all2 (O_one rfl ?_) (O_one rfl ?_))
            · have hszhs9_ := hB.size
              have hR9_ := hRw
              refine L_call rfl cb54 (rremove_l hRw fnq0) rfl ?_
              rintro _ w10 ⟨hs9, rk1, hA1, rfl, hpd1⟩
              replace hB := gb_tr hB hs9
              replace hb2 := hb2.gb hs9
              replace hb4 := hb4.gb hs9
              replace hRw := hRw.gb hs9
              replace hb1 := hb1.gb hs9
              replace ha1 := At.gb ha1 hs9 (by simp)
              replace ha2 := At.gb ha2 hs9 (by simp)
              replace hA1 := hA1.up (upU2 hszhs9_)
              refine L_nil (N_then ⟨fun hN_ => ⟨hb1, ha2, trivial⟩, ?_⟩)
              refine Tqs ttGf1 3 [6, 7, 8] [] (fun _ _ => trivial) ⟨hb1, ha2, trivial⟩ rfl ?_
              refine T_all (rs := [9]) (by kernel_rfl) rfl (all1 (O_one rfl ?_))
              refine L_alloc (cs := [.slice none 0 0, .int .i64 0, .int .i64 0, .bool false, .bool false, .int .i64 0]) zer36 rfl rfl ?_
              intro g6 w11 eg4 hb5 hs10 hz7
              have ge4 : w.heap.size ≤ g6 := eg_ge hB eg4
              have lt4 : g2 < g6 := lt_of_eg hb2.lt eg4
              have lt5 : g3 < g6 := lt_of_eg hb4.lt eg4
              have lt6 : g1 < g6 := lt_of_eg hb1.lt eg4
              have lt7 : g4 < g6 := lt_of_eg (at_lt ha1) eg4
              have lt8 : g5 < g6 := lt_of_eg (at_lt ha2) eg4
              replace hB := gb_tr hB hs10
              replace hb2 := hb2.gb hs10
              replace hb4 := hb4.gb hs10
              replace hb1 := hb1.gb hs10
              replace ha1 := At.gb ha1 hs10 (by simp)
              replace ha2 := At.gb ha2 hs10 (by simp)
              replace hA1 := hA1.gb hs10
              refine L_nil (N_then ⟨fun hN_ => ⟨hb1, ha2, trivial⟩, ?_⟩)
              refine T_all (rs := [10]) (by kernel_rfl) rfl (all1 (O_one rfl ?_))
              refine L_stA (vs := [.slice rk1.A rk1.rs.length rk1.c, .int .i64 rk1.cap, .int .i64 rk1.ops, .bool rk1.dn, .bool rk1.tl, .int .i64 rk1.af]) rfl rfl rfl sz36 rfl hb5 rfl ?_
              intro w12 hb6 hs11 hz8
              replace hB := gb_trg hB hs11 ge4
              replace hb2 := hb2.grown hs11 (ne_lt lt4)
              replace hb4 := hb4.grown hs11 (ne_lt lt5)
              replace hb1 := hb1.grown hs11 (ne_lt lt6)
              replace ha1 := At.gb ha1 hs11 (ne_lt lt7)
              replace ha2 := At.gb ha2 hs11 (ne_lt lt8)
              replace hA1 := hA1.other hb5 rfl rfl rfl hs11
              refine L_nil (N_then ⟨fun hN_ => ⟨hb1, ha2, trivial⟩, ?_⟩)
              refine Tqs ttGf1 0 [11] [] (fun _ _ => trivial) ⟨hb1, ha2, trivial⟩ rfl ?_
              refine T_done (by kernel_rfl) (CalmE.normal ?_)
              refine Qec ttGf1 8 [] rfl ?_
              refine C_if rfl (fun h4 => ?_) (fun h4 => ?_)
              · refine Qco ttGf1 4 [kb hb6] rfl ?_
                refine L_stA (vs := [.slice rk1.A rk1.rs.length rk1.c, .int .i64 rk1.cap, .int .i64 rk1.ops, .bool rk1.dn, .bool rk1.tl, .int .i64 rk1.af]) rfl rfl rfl sz36 rfl hb2 rfl ?_
                intro w13 hb7 hs12 hz9
                replace hB := gb_trg hB hs12 ge2
                replace hb4 := hb4.grown hs12 (ne_gt lt3)
                replace hb1 := hb1.grown hs12 (by intro e; injection e; omega)
                replace hA1 := hA1.other hb2 rfl rfl rfl hs12
                replace hb6 := hb6.grown hs12 (ne_gt lt4)
                refine Qoe ttGf1 7 [] rfl ?_
                refine Rl ?_
                refine Qee ttGf1 2 [] rfl ?_
                refine retC1 (vs := [.slice rk1.A rk1.rs.length rk1.c, .int .i64 rk1.cap, .int .i64 rk1.ops, .bool rk1.dn, .bool rk1.tl, .int .i64 rk1.af]) Try.results39 rfl agg36 (At.pre (hb7.at_ 0) rfl) rfl rfl ?_
                have he_ : r.pd.clean2 = cleanR [fn0 0, fn0 1, fn0 2] r.pd := by unfold PD.clean2; rw [if_neg (rpdn h1)]
                replace hcl := hcl.trans (cleanR_e (by omega) h4)
                rw [he_, hcl]; exact ⟨hB, _, hA1, rfl, hpd1⟩
              · refine Qco ttGf1 4 [kb hb6] rfl ?_
                refine L_stA (vs := [.slice rk1.A rk1.rs.length rk1.c, .int .i64 rk1.cap, .int .i64 rk1.ops, .bool rk1.dn, .bool rk1.tl, .int .i64 rk1.af]) rfl rfl rfl sz36 rfl hb1 rfl ?_
                intro w14 hb8 hs13 hz10
                replace hB := gb_trg hB hs13 ge1
                replace hb2 := hb2.grown hs13 (by intro e; injection e; omega)
                replace hb4 := hb4.grown hs13 (ne_ty hb4 hb1 rfl)
                replace hA1 := hA1.other hb1 rfl rfl rfl hs13
                replace hb6 := hb6.grown hs13 (ne_gt lt6)
                refine Qoe ttGf1 8 [] rfl ?_
                refine Nl ?_
                replace hcl := hcl.trans (show cleanR (fn0 0 :: [fn0 1, fn0 2]) r'.pd = cleanR [fn0 1, fn0 2] rk1.pd from cleanR_ok (by omega) h4 hpd1)
                exact ⟨3 - 1, by omega, _, rk1, 1, Ac_frg ⟨rfl, rfl, rfl, rfl, (agr rfl (by first | rfl | (congr 1; omega) | (congr 1; simp; done) | (congr 1; simp only [IntKind.wrap_u64, IntKind.wrap_i64, IntKind.wrap_u8]; omega) | (congr 1 <;> omega))), trivial⟩, hB, hb2, hb4, hA1, hb8, (by omega), hcl, rfl⟩
            · refine L_alloc (cs := [.slice none 0 0, .int .i64 0, .int .i64 0, .bool false, .bool false, .int .i64 0]) zer36 rfl rfl ?_
              intro g7 w15 eg5 hb9 hs14 hz11
              have ge5 : w.heap.size ≤ g7 := eg_ge hB eg5
              have lt9 : g2 < g7 := lt_of_eg hb2.lt eg5
              have lt10 : g3 < g7 := lt_of_eg hb4.lt eg5
              have lt11 : g1 < g7 := lt_of_eg hb1.lt eg5
              have lt12 : g4 < g7 := lt_of_eg (at_lt ha1) eg5
              have lt13 : g5 < g7 := lt_of_eg (at_lt ha2) eg5
              replace hB := gb_tr hB hs14
              replace hb2 := hb2.gb hs14
              replace hb4 := hb4.gb hs14
              replace hRw := hRw.gb hs14
              replace hb1 := hb1.gb hs14
              replace ha1 := At.gb ha1 hs14 (by simp)
              replace ha2 := At.gb ha2 hs14 (by simp)
              refine L_nil (N_then ⟨fun hN_ => ⟨hb1, ha2, trivial⟩, ?_⟩)
              refine T_all (rs := [5]) (by kernel_rfl) rfl (all1 (O_one rfl ?_))
              have hszhs15_ := hB.size
              have hR9_ := hRw
              refine L_call rfl cb54 (rremove_l hRw fnq0) rfl ?_
              rintro _ w16 ⟨hs15, rk2, hA2, rfl, hpd2⟩
              replace hB := gb_tr hB hs15
              replace hb2 := hb2.gb hs15
              replace hb4 := hb4.gb hs15
              replace hRw := hRw.gb hs15
              replace hb1 := hb1.gb hs15
              replace ha1 := At.gb ha1 hs15 (by simp)
              replace ha2 := At.gb ha2 hs15 (by simp)
              replace hb9 := hb9.gb hs15
              replace hA2 := hA2.up (upU2 hszhs15_)
              refine L_nil (N_then ⟨fun hN_ => ⟨hb1, ha2, trivial⟩, ?_⟩)
              refine Tqs ttGf1 2 [6, 7, 8] [] (fun _ _ => trivial) ⟨hb1, ha2, trivial⟩ rfl ?_
              refine T_all (rs := [10]) (by kernel_rfl) rfl (all1 (O_one rfl ?_))
              refine L_stA (vs := [.slice rk2.A rk2.rs.length rk2.c, .int .i64 rk2.cap, .int .i64 rk2.ops, .bool rk2.dn, .bool rk2.tl, .int .i64 rk2.af]) rfl rfl rfl sz36 rfl hb9 rfl ?_
              intro w17 hb10 hs16 hz12
              replace hB := gb_trg hB hs16 ge5
              replace hb2 := hb2.grown hs16 (ne_lt lt9)
              replace hb4 := hb4.grown hs16 (ne_lt lt10)
              replace hb1 := hb1.grown hs16 (ne_lt lt11)
              replace ha1 := At.gb ha1 hs16 (ne_lt lt12)
              replace ha2 := At.gb ha2 hs16 (ne_lt lt13)
              replace hA2 := hA2.other hb9 rfl rfl rfl hs16
              refine L_nil (N_then ⟨fun hN_ => ⟨hb1, ha2, trivial⟩, ?_⟩)
              refine Tqs ttGf1 0 [11] [] (fun _ _ => trivial) ⟨hb1, ha2, trivial⟩ rfl ?_
              refine T_done (by kernel_rfl) (CalmE.normal ?_)
              refine Qec ttGf1 8 [] rfl ?_
              refine C_if rfl (fun h5 => ?_) (fun h5 => ?_)
              · refine Qco ttGf1 4 [kb hb10] rfl ?_
                refine L_stA (vs := [.slice rk2.A rk2.rs.length rk2.c, .int .i64 rk2.cap, .int .i64 rk2.ops, .bool rk2.dn, .bool rk2.tl, .int .i64 rk2.af]) rfl rfl rfl sz36 rfl hb2 rfl ?_
                intro w18 hb11 hs17 hz13
                replace hB := gb_trg hB hs17 ge2
                replace hb4 := hb4.grown hs17 (ne_gt lt3)
                replace hb1 := hb1.grown hs17 (by intro e; injection e; omega)
                replace hb10 := hb10.grown hs17 (ne_gt lt9)
                replace hA2 := hA2.other hb2 rfl rfl rfl hs17
                refine Qoe ttGf1 7 [] rfl ?_
                refine Rl ?_
                refine Qee ttGf1 2 [] rfl ?_
                refine retC1 (vs := [.slice rk2.A rk2.rs.length rk2.c, .int .i64 rk2.cap, .int .i64 rk2.ops, .bool rk2.dn, .bool rk2.tl, .int .i64 rk2.af]) Try.results39 rfl agg36 (At.pre (hb11.at_ 0) rfl) rfl rfl ?_
                have he_ : r.pd.clean2 = cleanR [fn0 0, fn0 1, fn0 2] r.pd := by unfold PD.clean2; rw [if_neg (rpdn h1)]
                replace hcl := hcl.trans (cleanR_e (by omega) h5)
                rw [he_, hcl]; exact ⟨hB, _, hA2, rfl, hpd2⟩
              · refine Qco ttGf1 4 [kb hb10] rfl ?_
                refine L_stA (vs := [.slice rk2.A rk2.rs.length rk2.c, .int .i64 rk2.cap, .int .i64 rk2.ops, .bool rk2.dn, .bool rk2.tl, .int .i64 rk2.af]) rfl rfl rfl sz36 rfl hb1 rfl ?_
                intro w19 hb12 hs18 hz14
                replace hB := gb_trg hB hs18 ge1
                replace hb2 := hb2.grown hs18 (by intro e; injection e; omega)
                replace hb4 := hb4.grown hs18 (ne_ty hb4 hb1 rfl)
                replace hb10 := hb10.grown hs18 (ne_gt lt11)
                replace hA2 := hA2.other hb1 rfl rfl rfl hs18
                refine Qoe ttGf1 8 [] rfl ?_
                refine Nl ?_
                replace hcl := hcl.trans (show cleanR (fn0 0 :: [fn0 1, fn0 2]) r'.pd = cleanR [fn0 1, fn0 2] rk2.pd from cleanR_ok (by omega) h5 hpd2)
                exact ⟨3 - 1, by omega, _, rk2, 1, Ac_frg ⟨rfl, rfl, rfl, rfl, (agr rfl (by first | rfl | (congr 1; omega) | (congr 1; simp; done) | (congr 1; simp only [IntKind.wrap_u64, IntKind.wrap_i64, IntKind.wrap_u8]; omega) | (congr 1 <;> omega))), trivial⟩, hB, hb2, hb4, hA2, hb12, (by omega), hcl, rfl⟩
          · refine Qce ttGf1 8 [] rfl ?_
            refine Nl ?_
            replace hcl := hcl.trans (show cleanR (fn0 0 :: [fn0 1, fn0 2]) r'.pd = cleanR [fn0 1, fn0 2] r'.pd from cleanR_no (by omega))
            exact ⟨3 - 1, by omega, _, r', 1, Ac_frg ⟨rfl, rfl, rfl, rfl, (agr rfl (by first | rfl | (congr 1; omega) | (congr 1; simp; done) | (congr 1; simp only [IntKind.wrap_u64, IntKind.wrap_i64, IntKind.wrap_u8]; omega) | (congr 1 <;> omega))), trivial⟩, hB, hb2, hb4, hRw, hb1, (by omega), hcl, rfl⟩
        · refine T_takeA (i := 8) rfl (by kernel_rfl) (by kernel_rfl) (by kernel_rfl) (by kernel_rfl) (Y_no rfl rfl rfl (decide_eq_false h2)) ⟨hb1, ha1, trivial⟩ rfl ?_
          refine T_takeA (i := 9) rfl (by kernel_rfl) (by kernel_rfl) (by kernel_rfl) (by kernel_rfl) (Y_no rfl rfl rfl (decide_eq_false h2)) ⟨hb1, ha1, trivial⟩ rfl ?_
          refine T_takeA (i := 10) rfl (by kernel_rfl) (by kernel_rfl) (by kernel_rfl) (by kernel_rfl) (Y_no rfl rfl rfl (decide_eq_false h2)) ⟨hb1, ha1, trivial⟩ rfl ?_
          refine T_takeA (i := 11) rfl (by kernel_rfl) (by kernel_rfl) (by kernel_rfl) (by kernel_rfl) (Y_no rfl rfl rfl (decide_eq_false h2)) ⟨hb1, ha1, trivial⟩ rfl ?_
          refine T_takeA (i := 12) rfl (by kernel_rfl) (by kernel_rfl) (by kernel_rfl) (by kernel_rfl) (Y_no rfl rfl rfl (decide_eq_false h2)) ⟨hb1, ha1, trivial⟩ rfl ?_
          refine T_all (rs := [13]) (by kernel_rfl) rfl (all1 (O_one rfl ?_))
          refine L_no rfl rfl rfl (decide_eq_false h2) rfl ?_
          refine L_nil (N_then ⟨fun hN_ => ⟨hb1, ha1, trivial⟩, ?_⟩)
          refine T_takeA (i := 14) rfl (by kernel_rfl) (by kernel_rfl) (by kernel_rfl) (by kernel_rfl) (Y_no rfl rfl rfl (decide_eq_false h2)) ⟨hb1, ha1, trivial⟩ rfl ?_
          refine T_takeA (i := 15) rfl (by kernel_rfl) (by kernel_rfl) (by kernel_rfl) (by kernel_rfl) (Y_of (fun _ ⟨hb1, ha1, _⟩ => R_pickF rfl (decide_eq_false h2) rfl)) ⟨hb1, ha1, trivial⟩ rfl ?_
          refine T_done (by kernel_rfl) (CalmE.normal ?_)
          refine Qee ttGf1 10 [] rfl ?_
          refine Nl ?_
          replace hcl := hcl.trans (show cleanR (fn0 0 :: [fn0 1, fn0 2]) r'.pd = cleanR [fn0 1, fn0 2] r'.pd from cleanR_no (by omega))
          exact ⟨3 - 1, by omega, _, r', 1, Ac_frg ⟨rfl, rfl, rfl, rfl, (agr rfl (by first | rfl | (congr 1; omega) | (congr 1; simp; done) | (congr 1; simp only [IntKind.wrap_u64, IntKind.wrap_i64, IntKind.wrap_u8]; omega) | (congr 1 <;> omega))), trivial⟩, hB, hb2, hb4, hRw, hb1, (by omega), hcl, rfl⟩
      · refine Qcc ttGf1 13 [] rfl ?_
        refine C_draw2 rfl mix ?_
        intro w20 hs19 hz15
        replace hB := gb_tr hB hs19
        replace hb2 := hb2.gb hs19
        replace hb4 := hb4.gb hs19
        replace hRw := hRw.gb hs19
        replace hb1 := hb1.gb hs19
        have hl3 : 1 < ([(⟨#[102, 114, 101, 101, 45, 48]⟩ : ByteArray), (⟨#[102, 114, 101, 101, 45, 49]⟩ : ByteArray), (⟨#[102, 114, 101, 101, 45, 50]⟩ : ByteArray)]).length := by first | omega | (simp; done) | (simp; omega)
        obtain ⟨g8, o3, r3, eA3, er3, ha3⟩ := Sli.place' (xs := [(⟨#[102, 114, 101, 101, 45, 48]⟩ : ByteArray), (⟨#[102, 114, 101, 101, 45, 49]⟩ : ByteArray), (⟨#[102, 114, 101, 101, 45, 50]⟩ : ByteArray)]) (i := 1) EncT (Blk.sli (m := 0) hb4) hl3 rfl
        refine ⟨fun W_ => Blk W_ g1 36 [.slice r'.A r'.rs.length r'.c, .int .i64 r'.cap, .int .i64 r'.ops, .bool r'.dn, .bool r'.tl, .int .i64 r'.af] ∧ At W_ g8 r3 [.string (([(⟨#[102, 114, 101, 101, 45, 48]⟩ : ByteArray), (⟨#[102, 114, 101, 101, 45, 49]⟩ : ByteArray), (⟨#[102, 114, 101, 101, 45, 50]⟩ : ByteArray)])[1])] ∧ True, [0, 1, 2, 3, 4, 6, 7, 8, 9, 10, 11, 12, 14, 15], ?_⟩
        refine Tqs ttGf1 13 [0, 1, 2] [kd hb1] (fun _ ⟨hb1, ha3, _⟩ => ⟨hb1, trivial⟩) ⟨hb1, ha3, trivial⟩ rfl ?_
        refine T_takeA (i := 3) rfl (by kernel_rfl) (by kernel_rfl) (by kernel_rfl) (by kernel_rfl) (Y_of (fun _ ⟨hb1, ha3, _⟩ => R_indexE rfl rfl (by first | rfl | omega) slc61 hl3 eA3 er3)) ⟨hb1, ha3, trivial⟩ rfl ?_
        refine T_takeA (i := 4) rfl (by kernel_rfl) (by kernel_rfl) (by kernel_rfl) (by kernel_rfl) (Y_of (fun _ ⟨hb1, ha3, _⟩ => R_load1 rfl scl9 (ha3 0 _ rfl))) ⟨hb1, ha3, trivial⟩ rfl ?_
        refine T_all (rs := [5]) (by kernel_rfl) rfl (all1 (O_one rfl ?_))
        refine L_call rfl cb73 (rsize_l hRw fnq1) rfl ?_
        rintro _ w21 ⟨hs20, rfl⟩
        replace hB := gb_tr hB hs20
        replace hb2 := hb2.gb hs20
        replace hb4 := hb4.gb hs20
        replace hRw := hRw.gb hs20
        replace hb1 := hb1.gb hs20
        replace ha3 := At.gb ha3 hs20 (by simp)
        refine L_nil (N_then ⟨fun hN_ => ⟨hb1, ha3, trivial⟩, ?_⟩)
        refine Tqs ttGf1 8 [6, 7] [] (fun _ _ => trivial) ⟨hb1, ha3, trivial⟩ rfl ?_
        by_cases h6 : 0 < (sizeP r'.pd.fs (fn0 1) : Int)
        · refine T_takeA (i := 8) rfl (by kernel_rfl) (by kernel_rfl) (by kernel_rfl) (by kernel_rfl) (Y_yes rfl rfl rfl (decide_eq_true h6) (fun _ ⟨hb1, ha3, _⟩ => R_loadA (vs := [.slice r'.A r'.rs.length r'.c, .int .i64 r'.cap, .int .i64 r'.ops, .bool r'.dn, .bool r'.tl, .int .i64 r'.af]) rfl agg36 (At.pre (hb1.at_ 0) rfl) rfl)) ⟨hb1, ha3, trivial⟩ rfl ?_
          refine T_takeA (i := 9) rfl (by kernel_rfl) (by kernel_rfl) (by kernel_rfl) (by kernel_rfl) (Y_yes rfl rfl rfl (decide_eq_true h6) (fun _ ⟨hb1, ha3, _⟩ => R_move rfl)) ⟨hb1, ha3, trivial⟩ rfl ?_
          refine T_takeA (i := 10) rfl (by kernel_rfl) (by kernel_rfl) (by kernel_rfl) (by kernel_rfl) (Y_yes rfl rfl rfl (decide_eq_true h6) (fun _ ⟨hb1, ha3, _⟩ => R_move rfl)) ⟨hb1, ha3, trivial⟩ rfl ?_
          refine T_takeA (i := 11) rfl (by kernel_rfl) (by kernel_rfl) (by kernel_rfl) (by kernel_rfl) (Y_yes rfl rfl rfl (decide_eq_true h6) (fun _ ⟨hb1, ha3, _⟩ => R_indexE rfl rfl (by first | rfl | omega) slc61 hl3 eA3 er3)) ⟨hb1, ha3, trivial⟩ rfl ?_
          refine T_takeA (i := 12) rfl (by kernel_rfl) (by kernel_rfl) (by kernel_rfl) (by kernel_rfl) (Y_yes rfl rfl rfl (decide_eq_true h6) (fun _ ⟨hb1, ha3, _⟩ => R_load1 rfl scl9 (ha3 0 _ rfl))) ⟨hb1, ha3, trivial⟩ rfl ?_
          refine T_all (rs := [13]) (by kernel_rfl) rfl (all1 (O_one rfl ?_))
          refine L_yes rfl rfl rfl (decide_eq_true h6) ?_
          refine L_call rfl cb73 (rsize_l hRw fnq1) rfl ?_
          rintro _ w22 ⟨hs21, rfl⟩
          replace hB := gb_tr hB hs21
          replace hb2 := hb2.gb hs21
          replace hb4 := hb4.gb hs21
          replace hRw := hRw.gb hs21
          replace hb1 := hb1.gb hs21
          replace ha3 := At.gb ha3 hs21 (by simp)
          refine L_nil (N_then ⟨fun hN_ => ⟨hb1, ha3, trivial⟩, ?_⟩)
          refine T_takeA (i := 14) rfl (by kernel_rfl) (by kernel_rfl) (by kernel_rfl) (by kernel_rfl) (Y_yes rfl rfl rfl (decide_eq_true h6) (fun _ ⟨hb1, ha3, _⟩ => R_neq rfl rfl)) ⟨hb1, ha3, trivial⟩ rfl ?_
          refine T_takeA (i := 15) rfl (by kernel_rfl) (by kernel_rfl) (by kernel_rfl) (by kernel_rfl) (Y_of (fun _ ⟨hb1, ha3, _⟩ => R_pickT rfl (decide_eq_true h6) rfl)) ⟨hb1, ha3, trivial⟩ rfl ?_
          refine T_done (by kernel_rfl) (CalmE.normal ?_)
          refine Qec ttGf1 1 [] rfl ?_
          refine C_if rfl (fun h7 => ?_) (fun h7 => ?_)
          · refine Qcc ttGf1 1 [] rfl ?_
            refine C_draw2 rfl mix ?_
            intro w23 hs22 hz16
            replace hB := gb_tr hB hs22
            replace hb2 := hb2.gb hs22
            replace hb4 := hb4.gb hs22
            replace hRw := hRw.gb hs22
            replace hb1 := hb1.gb hs22
            replace ha3 := At.gb ha3 hs22 (by simp)
            have hl4 : 1 < ([(⟨#[102, 114, 101, 101, 45, 48]⟩ : ByteArray), (⟨#[102, 114, 101, 101, 45, 49]⟩ : ByteArray), (⟨#[102, 114, 101, 101, 45, 50]⟩ : ByteArray)]).length := by first | omega | (simp; done) | (simp; omega)
            obtain ⟨g9, o4, r4, eA4, er4, ha4⟩ := Sli.place' (xs := [(⟨#[102, 114, 101, 101, 45, 48]⟩ : ByteArray), (⟨#[102, 114, 101, 101, 45, 49]⟩ : ByteArray), (⟨#[102, 114, 101, 101, 45, 50]⟩ : ByteArray)]) (i := 1) EncT (Blk.sli (m := 0) hb4) hl4 rfl
            refine ⟨fun W_ => Blk W_ g1 36 [.slice r'.A r'.rs.length r'.c, .int .i64 r'.cap, .int .i64 r'.ops, .bool r'.dn, .bool r'.tl, .int .i64 r'.af] ∧ At W_ g9 r4 [.string (([(⟨#[102, 114, 101, 101, 45, 48]⟩ : ByteArray), (⟨#[102, 114, 101, 101, 45, 49]⟩ : ByteArray), (⟨#[102, 114, 101, 101, 45, 50]⟩ : ByteArray)])[1])] ∧ True, [0, 1, 2, 3, 4, 6, 7, 8, 11], ?_⟩
            refine Tqs ttGf1 9 [0, 1, 2] [kd hb1] (fun _ ⟨hb1, ha4, _⟩ => ⟨hb1, trivial⟩) ⟨hb1, ha4, trivial⟩ rfl ?_
            refine T_takeA (i := 3) rfl (by kernel_rfl) (by kernel_rfl) (by kernel_rfl) (by kernel_rfl) (Y_of (fun _ ⟨hb1, ha4, _⟩ => R_indexE rfl rfl (by first | rfl | omega) slc61 hl4 eA4 er4)) ⟨hb1, ha4, trivial⟩ rfl ?_
            refine T_takeA (i := 4) rfl (by kernel_rfl) (by kernel_rfl) (by kernel_rfl) (by kernel_rfl) (Y_of (fun _ ⟨hb1, ha4, _⟩ => R_load1 rfl scl9 (ha4 0 _ rfl))) ⟨hb1, ha4, trivial⟩ rfl ?_
            refine T_all (rs := [5, 9]) (by kernel_rfl) rfl (all2 (O_one rfl ?_) (O_one rfl ?_))
            · have hszhs23_ := hB.size
              have hR9_ := hRw
              refine L_call rfl cb54 (rremove_l hRw fnq1) rfl ?_
              rintro _ w24 ⟨hs23, rk3, hA3, rfl, hpd3⟩
              replace hB := gb_tr hB hs23
              replace hb2 := hb2.gb hs23
              replace hb4 := hb4.gb hs23
              replace hRw := hRw.gb hs23
              replace hb1 := hb1.gb hs23
              replace ha3 := At.gb ha3 hs23 (by simp)
              replace ha4 := At.gb ha4 hs23 (by simp)
              replace hA3 := hA3.up (upU2 hszhs23_)
              refine L_nil (N_then ⟨fun hN_ => ⟨hb1, ha4, trivial⟩, ?_⟩)
              refine Tqs ttGf1 3 [6, 7, 8] [] (fun _ _ => trivial) ⟨hb1, ha4, trivial⟩ rfl ?_
              refine T_all (rs := [9]) (by kernel_rfl) rfl (all1 (O_one rfl ?_))
              refine L_alloc (cs := [.slice none 0 0, .int .i64 0, .int .i64 0, .bool false, .bool false, .int .i64 0]) zer36 rfl rfl ?_
              intro g10 w25 eg6 hb13 hs24 hz17
              have ge6 : w.heap.size ≤ g10 := eg_ge hB eg6
              have lt14 : g2 < g10 := lt_of_eg hb2.lt eg6
              have lt15 : g3 < g10 := lt_of_eg hb4.lt eg6
              have lt16 : g1 < g10 := lt_of_eg hb1.lt eg6
              have lt17 : g8 < g10 := lt_of_eg (at_lt ha3) eg6
              have lt18 : g9 < g10 := lt_of_eg (at_lt ha4) eg6
              replace hB := gb_tr hB hs24
              replace hb2 := hb2.gb hs24
              replace hb4 := hb4.gb hs24
              replace hb1 := hb1.gb hs24
              replace ha3 := At.gb ha3 hs24 (by simp)
              replace ha4 := At.gb ha4 hs24 (by simp)
              replace hA3 := hA3.gb hs24
              refine L_nil (N_then ⟨fun hN_ => ⟨hb1, ha4, trivial⟩, ?_⟩)
              refine T_all (rs := [10]) (by kernel_rfl) rfl (all1 (O_one rfl ?_))
              refine L_stA (vs := [.slice rk3.A rk3.rs.length rk3.c, .int .i64 rk3.cap, .int .i64 rk3.ops, .bool rk3.dn, .bool rk3.tl, .int .i64 rk3.af]) rfl rfl rfl sz36 rfl hb13 rfl ?_
              intro w26 hb14 hs25 hz18
              replace hB := gb_trg hB hs25 ge6
              replace hb2 := hb2.grown hs25 (ne_lt lt14)
              replace hb4 := hb4.grown hs25 (ne_lt lt15)
              replace hb1 := hb1.grown hs25 (ne_lt lt16)
              replace ha3 := At.gb ha3 hs25 (ne_lt lt17)
              replace ha4 := At.gb ha4 hs25 (ne_lt lt18)
              replace hA3 := hA3.other hb13 rfl rfl rfl hs25
              refine L_nil (N_then ⟨fun hN_ => ⟨hb1, ha4, trivial⟩, ?_⟩)
              refine Tqs ttGf1 0 [11] [] (fun _ _ => trivial) ⟨hb1, ha4, trivial⟩ rfl ?_
              refine T_done (by kernel_rfl) (CalmE.normal ?_)
              refine Qec ttGf1 8 [] rfl ?_
              refine C_if rfl (fun h8 => ?_) (fun h8 => ?_)
              · refine Qco ttGf1 4 [kb hb14] rfl ?_
                refine L_stA (vs := [.slice rk3.A rk3.rs.length rk3.c, .int .i64 rk3.cap, .int .i64 rk3.ops, .bool rk3.dn, .bool rk3.tl, .int .i64 rk3.af]) rfl rfl rfl sz36 rfl hb2 rfl ?_
                intro w27 hb15 hs26 hz19
                replace hB := gb_trg hB hs26 ge2
                replace hb4 := hb4.grown hs26 (ne_gt lt3)
                replace hb1 := hb1.grown hs26 (by intro e; injection e; omega)
                replace hA3 := hA3.other hb2 rfl rfl rfl hs26
                replace hb14 := hb14.grown hs26 (ne_gt lt14)
                refine Qoe ttGf1 7 [] rfl ?_
                refine Rl ?_
                refine Qee ttGf1 2 [] rfl ?_
                refine retC1 (vs := [.slice rk3.A rk3.rs.length rk3.c, .int .i64 rk3.cap, .int .i64 rk3.ops, .bool rk3.dn, .bool rk3.tl, .int .i64 rk3.af]) Try.results39 rfl agg36 (At.pre (hb15.at_ 0) rfl) rfl rfl ?_
                have he_ : r.pd.clean2 = cleanR [fn0 0, fn0 1, fn0 2] r.pd := by unfold PD.clean2; rw [if_neg (rpdn h1)]
                replace hcl := hcl.trans (cleanR_e (by omega) h8)
                rw [he_, hcl]; exact ⟨hB, _, hA3, rfl, hpd3⟩
              · refine Qco ttGf1 4 [kb hb14] rfl ?_
                refine L_stA (vs := [.slice rk3.A rk3.rs.length rk3.c, .int .i64 rk3.cap, .int .i64 rk3.ops, .bool rk3.dn, .bool rk3.tl, .int .i64 rk3.af]) rfl rfl rfl sz36 rfl hb1 rfl ?_
                intro w28 hb16 hs27 hz20
                replace hB := gb_trg hB hs27 ge1
                replace hb2 := hb2.grown hs27 (by intro e; injection e; omega)
                replace hb4 := hb4.grown hs27 (ne_ty hb4 hb1 rfl)
                replace hA3 := hA3.other hb1 rfl rfl rfl hs27
                replace hb14 := hb14.grown hs27 (ne_gt lt16)
                refine Qoe ttGf1 8 [] rfl ?_
                refine Nl ?_
                replace hcl := hcl.trans (show cleanR (fn0 1 :: [fn0 2]) r'.pd = cleanR [fn0 2] rk3.pd from cleanR_ok (by omega) h8 hpd3)
                exact ⟨3 - 2, by omega, _, rk3, 2, Ac_frg ⟨rfl, rfl, rfl, rfl, (agr rfl (by first | rfl | (congr 1; omega) | (congr 1; simp; done) | (congr 1; simp only [IntKind.wrap_u64, IntKind.wrap_i64, IntKind.wrap_u8]; omega) | (congr 1 <;> omega))), trivial⟩, hB, hb2, hb4, hA3, hb16, (by omega), hcl, rfl⟩
            · refine L_alloc (cs := [.slice none 0 0, .int .i64 0, .int .i64 0, .bool false, .bool false, .int .i64 0]) zer36 rfl rfl ?_
              intro g11 w29 eg7 hb17 hs28 hz21
              have ge7 : w.heap.size ≤ g11 := eg_ge hB eg7
              have lt19 : g2 < g11 := lt_of_eg hb2.lt eg7
              have lt20 : g3 < g11 := lt_of_eg hb4.lt eg7
              have lt21 : g1 < g11 := lt_of_eg hb1.lt eg7
              have lt22 : g8 < g11 := lt_of_eg (at_lt ha3) eg7
              have lt23 : g9 < g11 := lt_of_eg (at_lt ha4) eg7
              replace hB := gb_tr hB hs28
              replace hb2 := hb2.gb hs28
              replace hb4 := hb4.gb hs28
              replace hRw := hRw.gb hs28
              replace hb1 := hb1.gb hs28
              replace ha3 := At.gb ha3 hs28 (by simp)
              replace ha4 := At.gb ha4 hs28 (by simp)
              refine L_nil (N_then ⟨fun hN_ => ⟨hb1, ha4, trivial⟩, ?_⟩)
              refine T_all (rs := [5]) (by kernel_rfl) rfl (all1 (O_one rfl ?_))
              have hszhs29_ := hB.size
              have hR9_ := hRw
              refine L_call rfl cb54 (rremove_l hRw fnq1) rfl ?_
              rintro _ w30 ⟨hs29, rk4, hA4, rfl, hpd4⟩
              replace hB := gb_tr hB hs29
              replace hb2 := hb2.gb hs29
              replace hb4 := hb4.gb hs29
              replace hRw := hRw.gb hs29
              replace hb1 := hb1.gb hs29
              replace ha3 := At.gb ha3 hs29 (by simp)
              replace ha4 := At.gb ha4 hs29 (by simp)
              replace hb17 := hb17.gb hs29
              replace hA4 := hA4.up (upU2 hszhs29_)
              refine L_nil (N_then ⟨fun hN_ => ⟨hb1, ha4, trivial⟩, ?_⟩)
              refine Tqs ttGf1 2 [6, 7, 8] [] (fun _ _ => trivial) ⟨hb1, ha4, trivial⟩ rfl ?_
              refine T_all (rs := [10]) (by kernel_rfl) rfl (all1 (O_one rfl ?_))
              refine L_stA (vs := [.slice rk4.A rk4.rs.length rk4.c, .int .i64 rk4.cap, .int .i64 rk4.ops, .bool rk4.dn, .bool rk4.tl, .int .i64 rk4.af]) rfl rfl rfl sz36 rfl hb17 rfl ?_
              intro w31 hb18 hs30 hz22
              replace hB := gb_trg hB hs30 ge7
              replace hb2 := hb2.grown hs30 (ne_lt lt19)
              replace hb4 := hb4.grown hs30 (ne_lt lt20)
              replace hb1 := hb1.grown hs30 (ne_lt lt21)
              replace ha3 := At.gb ha3 hs30 (ne_lt lt22)
              replace ha4 := At.gb ha4 hs30 (ne_lt lt23)
              replace hA4 := hA4.other hb17 rfl rfl rfl hs30
              refine L_nil (N_then ⟨fun hN_ => ⟨hb1, ha4, trivial⟩, ?_⟩)
              refine Tqs ttGf1 0 [11] [] (fun _ _ => trivial) ⟨hb1, ha4, trivial⟩ rfl ?_
              refine T_done (by kernel_rfl) (CalmE.normal ?_)
              refine Qec ttGf1 8 [] rfl ?_
              refine C_if rfl (fun h9 => ?_) (fun h9 => ?_)
              · refine Qco ttGf1 4 [kb hb18] rfl ?_
                refine L_stA (vs := [.slice rk4.A rk4.rs.length rk4.c, .int .i64 rk4.cap, .int .i64 rk4.ops, .bool rk4.dn, .bool rk4.tl, .int .i64 rk4.af]) rfl rfl rfl sz36 rfl hb2 rfl ?_
                intro w32 hb19 hs31 hz23
                replace hB := gb_trg hB hs31 ge2
                replace hb4 := hb4.grown hs31 (ne_gt lt3)
                replace hb1 := hb1.grown hs31 (by intro e; injection e; omega)
                replace hb18 := hb18.grown hs31 (ne_gt lt19)
                replace hA4 := hA4.other hb2 rfl rfl rfl hs31
                refine Qoe ttGf1 7 [] rfl ?_
                refine Rl ?_
                refine Qee ttGf1 2 [] rfl ?_
                refine retC1 (vs := [.slice rk4.A rk4.rs.length rk4.c, .int .i64 rk4.cap, .int .i64 rk4.ops, .bool rk4.dn, .bool rk4.tl, .int .i64 rk4.af]) Try.results39 rfl agg36 (At.pre (hb19.at_ 0) rfl) rfl rfl ?_
                have he_ : r.pd.clean2 = cleanR [fn0 0, fn0 1, fn0 2] r.pd := by unfold PD.clean2; rw [if_neg (rpdn h1)]
                replace hcl := hcl.trans (cleanR_e (by omega) h9)
                rw [he_, hcl]; exact ⟨hB, _, hA4, rfl, hpd4⟩
              · refine Qco ttGf1 4 [kb hb18] rfl ?_
                refine L_stA (vs := [.slice rk4.A rk4.rs.length rk4.c, .int .i64 rk4.cap, .int .i64 rk4.ops, .bool rk4.dn, .bool rk4.tl, .int .i64 rk4.af]) rfl rfl rfl sz36 rfl hb1 rfl ?_
                intro w33 hb20 hs32 hz24
                replace hB := gb_trg hB hs32 ge1
                replace hb2 := hb2.grown hs32 (by intro e; injection e; omega)
                replace hb4 := hb4.grown hs32 (ne_ty hb4 hb1 rfl)
                replace hb18 := hb18.grown hs32 (ne_gt lt21)
                replace hA4 := hA4.other hb1 rfl rfl rfl hs32
                refine Qoe ttGf1 8 [] rfl ?_
                refine Nl ?_
                replace hcl := hcl.trans (show cleanR (fn0 1 :: [fn0 2]) r'.pd = cleanR [fn0 2] rk4.pd from cleanR_ok (by omega) h9 hpd4)
                exact ⟨3 - 2, by omega, _, rk4, 2, Ac_frg ⟨rfl, rfl, rfl, rfl, (agr rfl (by first | rfl | (congr 1; omega) | (congr 1; simp; done) | (congr 1; simp only [IntKind.wrap_u64, IntKind.wrap_i64, IntKind.wrap_u8]; omega) | (congr 1 <;> omega))), trivial⟩, hB, hb2, hb4, hA4, hb20, (by omega), hcl, rfl⟩
          · refine Qce ttGf1 8 [] rfl ?_
            refine Nl ?_
            replace hcl := hcl.trans (show cleanR (fn0 1 :: [fn0 2]) r'.pd = cleanR [fn0 2] r'.pd from cleanR_no (by omega))
            exact ⟨3 - 2, by omega, _, r', 2, Ac_frg ⟨rfl, rfl, rfl, rfl, (agr rfl (by first | rfl | (congr 1; omega) | (congr 1; simp; done) | (congr 1; simp only [IntKind.wrap_u64, IntKind.wrap_i64, IntKind.wrap_u8]; omega) | (congr 1 <;> omega))), trivial⟩, hB, hb2, hb4, hRw, hb1, (by omega), hcl, rfl⟩
        · refine T_takeA (i := 8) rfl (by kernel_rfl) (by kernel_rfl) (by kernel_rfl) (by kernel_rfl) (Y_no rfl rfl rfl (decide_eq_false h6)) ⟨hb1, ha3, trivial⟩ rfl ?_
          refine T_takeA (i := 9) rfl (by kernel_rfl) (by kernel_rfl) (by kernel_rfl) (by kernel_rfl) (Y_no rfl rfl rfl (decide_eq_false h6)) ⟨hb1, ha3, trivial⟩ rfl ?_
          refine T_takeA (i := 10) rfl (by kernel_rfl) (by kernel_rfl) (by kernel_rfl) (by kernel_rfl) (Y_no rfl rfl rfl (decide_eq_false h6)) ⟨hb1, ha3, trivial⟩ rfl ?_
          refine T_takeA (i := 11) rfl (by kernel_rfl) (by kernel_rfl) (by kernel_rfl) (by kernel_rfl) (Y_no rfl rfl rfl (decide_eq_false h6)) ⟨hb1, ha3, trivial⟩ rfl ?_
          refine T_takeA (i := 12) rfl (by kernel_rfl) (by kernel_rfl) (by kernel_rfl) (by kernel_rfl) (Y_no rfl rfl rfl (decide_eq_false h6)) ⟨hb1, ha3, trivial⟩ rfl ?_
          refine T_all (rs := [13]) (by kernel_rfl) rfl (all1 (O_one rfl ?_))
          refine L_no rfl rfl rfl (decide_eq_false h6) rfl ?_
          refine L_nil (N_then ⟨fun hN_ => ⟨hb1, ha3, trivial⟩, ?_⟩)
          refine T_takeA (i := 14) rfl (by kernel_rfl) (by kernel_rfl) (by kernel_rfl) (by kernel_rfl) (Y_no rfl rfl rfl (decide_eq_false h6)) ⟨hb1, ha3, trivial⟩ rfl ?_
          refine T_takeA (i := 15) rfl (by kernel_rfl) (by kernel_rfl) (by kernel_rfl) (by kernel_rfl) (Y_of (fun _ ⟨hb1, ha3, _⟩ => R_pickF rfl (decide_eq_false h6) rfl)) ⟨hb1, ha3, trivial⟩ rfl ?_
          refine T_done (by kernel_rfl) (CalmE.normal ?_)
          refine Qee ttGf1 10 [] rfl ?_
          refine Nl ?_
          replace hcl := hcl.trans (show cleanR (fn0 1 :: [fn0 2]) r'.pd = cleanR [fn0 2] r'.pd from cleanR_no (by omega))
          exact ⟨3 - 2, by omega, _, r', 2, Ac_frg ⟨rfl, rfl, rfl, rfl, (agr rfl (by first | rfl | (congr 1; omega) | (congr 1; simp; done) | (congr 1; simp only [IntKind.wrap_u64, IntKind.wrap_i64, IntKind.wrap_u8]; omega) | (congr 1 <;> omega))), trivial⟩, hB, hb2, hb4, hRw, hb1, (by omega), hcl, rfl⟩
      · refine Qcc ttGf1 13 [] rfl ?_
        refine C_draw2 rfl mix ?_
        intro w34 hs33 hz25
        replace hB := gb_tr hB hs33
        replace hb2 := hb2.gb hs33
        replace hb4 := hb4.gb hs33
        replace hRw := hRw.gb hs33
        replace hb1 := hb1.gb hs33
        have hl5 : 2 < ([(⟨#[102, 114, 101, 101, 45, 48]⟩ : ByteArray), (⟨#[102, 114, 101, 101, 45, 49]⟩ : ByteArray), (⟨#[102, 114, 101, 101, 45, 50]⟩ : ByteArray)]).length := by first | omega | (simp; done) | (simp; omega)
        obtain ⟨g12, o5, r5, eA5, er5, ha5⟩ := Sli.place' (xs := [(⟨#[102, 114, 101, 101, 45, 48]⟩ : ByteArray), (⟨#[102, 114, 101, 101, 45, 49]⟩ : ByteArray), (⟨#[102, 114, 101, 101, 45, 50]⟩ : ByteArray)]) (i := 2) EncT (Blk.sli (m := 0) hb4) hl5 rfl
        refine ⟨fun W_ => Blk W_ g1 36 [.slice r'.A r'.rs.length r'.c, .int .i64 r'.cap, .int .i64 r'.ops, .bool r'.dn, .bool r'.tl, .int .i64 r'.af] ∧ At W_ g12 r5 [.string (([(⟨#[102, 114, 101, 101, 45, 48]⟩ : ByteArray), (⟨#[102, 114, 101, 101, 45, 49]⟩ : ByteArray), (⟨#[102, 114, 101, 101, 45, 50]⟩ : ByteArray)])[2])] ∧ True, [0, 1, 2, 3, 4, 6, 7, 8, 9, 10, 11, 12, 14, 15], ?_⟩
        refine Tqs ttGf1 13 [0, 1, 2] [kd hb1] (fun _ ⟨hb1, ha5, _⟩ => ⟨hb1, trivial⟩) ⟨hb1, ha5, trivial⟩ rfl ?_
        refine T_takeA (i := 3) rfl (by kernel_rfl) (by kernel_rfl) (by kernel_rfl) (by kernel_rfl) (Y_of (fun _ ⟨hb1, ha5, _⟩ => R_indexE rfl rfl (by first | rfl | omega) slc61 hl5 eA5 er5)) ⟨hb1, ha5, trivial⟩ rfl ?_
        refine T_takeA (i := 4) rfl (by kernel_rfl) (by kernel_rfl) (by kernel_rfl) (by kernel_rfl) (Y_of (fun _ ⟨hb1, ha5, _⟩ => R_load1 rfl scl9 (ha5 0 _ rfl))) ⟨hb1, ha5, trivial⟩ rfl ?_
        refine T_all (rs := [5]) (by kernel_rfl) rfl (all1 (O_one rfl ?_))
        refine L_call rfl cb73 (rsize_l hRw fnq2) rfl ?_
        rintro _ w35 ⟨hs34, rfl⟩
        replace hB := gb_tr hB hs34
        replace hb2 := hb2.gb hs34
        replace hb4 := hb4.gb hs34
        replace hRw := hRw.gb hs34
        replace hb1 := hb1.gb hs34
        replace ha5 := At.gb ha5 hs34 (by simp)
        refine L_nil (N_then ⟨fun hN_ => ⟨hb1, ha5, trivial⟩, ?_⟩)
        refine Tqs ttGf1 8 [6, 7] [] (fun _ _ => trivial) ⟨hb1, ha5, trivial⟩ rfl ?_
        by_cases h10 : 0 < (sizeP r'.pd.fs (fn0 2) : Int)
        · refine T_takeA (i := 8) rfl (by kernel_rfl) (by kernel_rfl) (by kernel_rfl) (by kernel_rfl) (Y_yes rfl rfl rfl (decide_eq_true h10) (fun _ ⟨hb1, ha5, _⟩ => R_loadA (vs := [.slice r'.A r'.rs.length r'.c, .int .i64 r'.cap, .int .i64 r'.ops, .bool r'.dn, .bool r'.tl, .int .i64 r'.af]) rfl agg36 (At.pre (hb1.at_ 0) rfl) rfl)) ⟨hb1, ha5, trivial⟩ rfl ?_
          refine T_takeA (i := 9) rfl (by kernel_rfl) (by kernel_rfl) (by kernel_rfl) (by kernel_rfl) (Y_yes rfl rfl rfl (decide_eq_true h10) (fun _ ⟨hb1, ha5, _⟩ => R_move rfl)) ⟨hb1, ha5, trivial⟩ rfl ?_
          refine T_takeA (i := 10) rfl (by kernel_rfl) (by kernel_rfl) (by kernel_rfl) (by kernel_rfl) (Y_yes rfl rfl rfl (decide_eq_true h10) (fun _ ⟨hb1, ha5, _⟩ => R_move rfl)) ⟨hb1, ha5, trivial⟩ rfl ?_
          refine T_takeA (i := 11) rfl (by kernel_rfl) (by kernel_rfl) (by kernel_rfl) (by kernel_rfl) (Y_yes rfl rfl rfl (decide_eq_true h10) (fun _ ⟨hb1, ha5, _⟩ => R_indexE rfl rfl (by first | rfl | omega) slc61 hl5 eA5 er5)) ⟨hb1, ha5, trivial⟩ rfl ?_
          refine T_takeA (i := 12) rfl (by kernel_rfl) (by kernel_rfl) (by kernel_rfl) (by kernel_rfl) (Y_yes rfl rfl rfl (decide_eq_true h10) (fun _ ⟨hb1, ha5, _⟩ => R_load1 rfl scl9 (ha5 0 _ rfl))) ⟨hb1, ha5, trivial⟩ rfl ?_
          refine T_all (rs := [13]) (by kernel_rfl) rfl (all1 (O_one rfl ?_))
          refine L_yes rfl rfl rfl (decide_eq_true h10) ?_
          refine L_call rfl cb73 (rsize_l hRw fnq2) rfl ?_
          rintro _ w36 ⟨hs35, rfl⟩
          replace hB := gb_tr hB hs35
          replace hb2 := hb2.gb hs35
          replace hb4 := hb4.gb hs35
          replace hRw := hRw.gb hs35
          replace hb1 := hb1.gb hs35
          replace ha5 := At.gb ha5 hs35 (by simp)
          refine L_nil (N_then ⟨fun hN_ => ⟨hb1, ha5, trivial⟩, ?_⟩)
          refine T_takeA (i := 14) rfl (by kernel_rfl) (by kernel_rfl) (by kernel_rfl) (by kernel_rfl) (Y_yes rfl rfl rfl (decide_eq_true h10) (fun _ ⟨hb1, ha5, _⟩ => R_neq rfl rfl)) ⟨hb1, ha5, trivial⟩ rfl ?_
          refine T_takeA (i := 15) rfl (by kernel_rfl) (by kernel_rfl) (by kernel_rfl) (by kernel_rfl) (Y_of (fun _ ⟨hb1, ha5, _⟩ => R_pickT rfl (decide_eq_true h10) rfl)) ⟨hb1, ha5, trivial⟩ rfl ?_
          refine T_done (by kernel_rfl) (CalmE.normal ?_)
          refine Qec ttGf1 1 [] rfl ?_
          refine C_if rfl (fun h11 => ?_) (fun h11 => ?_)
          · refine Qcc ttGf1 1 [] rfl ?_
            refine C_draw2 rfl mix ?_
            intro w37 hs36 hz26
            replace hB := gb_tr hB hs36
            replace hb2 := hb2.gb hs36
            replace hb4 := hb4.gb hs36
            replace hRw := hRw.gb hs36
            replace hb1 := hb1.gb hs36
            replace ha5 := At.gb ha5 hs36 (by simp)
            have hl6 : 2 < ([(⟨#[102, 114, 101, 101, 45, 48]⟩ : ByteArray), (⟨#[102, 114, 101, 101, 45, 49]⟩ : ByteArray), (⟨#[102, 114, 101, 101, 45, 50]⟩ : ByteArray)]).length := by first | omega | (simp; done) | (simp; omega)
            obtain ⟨g13, o6, r6, eA6, er6, ha6⟩ := Sli.place' (xs := [(⟨#[102, 114, 101, 101, 45, 48]⟩ : ByteArray), (⟨#[102, 114, 101, 101, 45, 49]⟩ : ByteArray), (⟨#[102, 114, 101, 101, 45, 50]⟩ : ByteArray)]) (i := 2) EncT (Blk.sli (m := 0) hb4) hl6 rfl
            refine ⟨fun W_ => Blk W_ g1 36 [.slice r'.A r'.rs.length r'.c, .int .i64 r'.cap, .int .i64 r'.ops, .bool r'.dn, .bool r'.tl, .int .i64 r'.af] ∧ At W_ g13 r6 [.string (([(⟨#[102, 114, 101, 101, 45, 48]⟩ : ByteArray), (⟨#[102, 114, 101, 101, 45, 49]⟩ : ByteArray), (⟨#[102, 114, 101, 101, 45, 50]⟩ : ByteArray)])[2])] ∧ True, [0, 1, 2, 3, 4, 6, 7, 8, 11], ?_⟩
            refine Tqs ttGf1 9 [0, 1, 2] [kd hb1] (fun _ ⟨hb1, ha6, _⟩ => ⟨hb1, trivial⟩) ⟨hb1, ha6, trivial⟩ rfl ?_
            refine T_takeA (i := 3) rfl (by kernel_rfl) (by kernel_rfl) (by kernel_rfl) (by kernel_rfl) (Y_of (fun _ ⟨hb1, ha6, _⟩ => R_indexE rfl rfl (by first | rfl | omega) slc61 hl6 eA6 er6)) ⟨hb1, ha6, trivial⟩ rfl ?_
            refine T_takeA (i := 4) rfl (by kernel_rfl) (by kernel_rfl) (by kernel_rfl) (by kernel_rfl) (Y_of (fun _ ⟨hb1, ha6, _⟩ => R_load1 rfl scl9 (ha6 0 _ rfl))) ⟨hb1, ha6, trivial⟩ rfl ?_
            refine T_all (rs := [5, 9]) (by kernel_rfl) rfl (all2 (O_one rfl ?_) (O_one rfl ?_))
            · have hszhs37_ := hB.size
              have hR9_ := hRw
              refine L_call rfl cb54 (rremove_l hRw fnq2) rfl ?_
              rintro _ w38 ⟨hs37, rk5, hA5, rfl, hpd5⟩
              replace hB := gb_tr hB hs37
              replace hb2 := hb2.gb hs37
              replace hb4 := hb4.gb hs37
              replace hRw := hRw.gb hs37
              replace hb1 := hb1.gb hs37
              replace ha5 := At.gb ha5 hs37 (by simp)
              replace ha6 := At.gb ha6 hs37 (by simp)
              replace hA5 := hA5.up (upU2 hszhs37_)
              refine L_nil (N_then ⟨fun hN_ => ⟨hb1, ha6, trivial⟩, ?_⟩)
              refine Tqs ttGf1 3 [6, 7, 8] [] (fun _ _ => trivial) ⟨hb1, ha6, trivial⟩ rfl ?_
              refine T_all (rs := [9]) (by kernel_rfl) rfl (all1 (O_one rfl ?_))
              refine L_alloc (cs := [.slice none 0 0, .int .i64 0, .int .i64 0, .bool false, .bool false, .int .i64 0]) zer36 rfl rfl ?_
              intro g14 w39 eg8 hb21 hs38 hz27
              have ge8 : w.heap.size ≤ g14 := eg_ge hB eg8
              have lt24 : g2 < g14 := lt_of_eg hb2.lt eg8
              have lt25 : g3 < g14 := lt_of_eg hb4.lt eg8
              have lt26 : g1 < g14 := lt_of_eg hb1.lt eg8
              have lt27 : g12 < g14 := lt_of_eg (at_lt ha5) eg8
              have lt28 : g13 < g14 := lt_of_eg (at_lt ha6) eg8
              replace hB := gb_tr hB hs38
              replace hb2 := hb2.gb hs38
              replace hb4 := hb4.gb hs38
              replace hb1 := hb1.gb hs38
              replace ha5 := At.gb ha5 hs38 (by simp)
              replace ha6 := At.gb ha6 hs38 (by simp)
              replace hA5 := hA5.gb hs38
              refine L_nil (N_then ⟨fun hN_ => ⟨hb1, ha6, trivial⟩, ?_⟩)
              refine T_all (rs := [10]) (by kernel_rfl) rfl (all1 (O_one rfl ?_))
              refine L_stA (vs := [.slice rk5.A rk5.rs.length rk5.c, .int .i64 rk5.cap, .int .i64 rk5.ops, .bool rk5.dn, .bool rk5.tl, .int .i64 rk5.af]) rfl rfl rfl sz36 rfl hb21 rfl ?_
              intro w40 hb22 hs39 hz28
              replace hB := gb_trg hB hs39 ge8
              replace hb2 := hb2.grown hs39 (ne_lt lt24)
              replace hb4 := hb4.grown hs39 (ne_lt lt25)
              replace hb1 := hb1.grown hs39 (ne_lt lt26)
              replace ha5 := At.gb ha5 hs39 (ne_lt lt27)
              replace ha6 := At.gb ha6 hs39 (ne_lt lt28)
              replace hA5 := hA5.other hb21 rfl rfl rfl hs39
              refine L_nil (N_then ⟨fun hN_ => ⟨hb1, ha6, trivial⟩, ?_⟩)
              refine Tqs ttGf1 0 [11] [] (fun _ _ => trivial) ⟨hb1, ha6, trivial⟩ rfl ?_
              refine T_done (by kernel_rfl) (CalmE.normal ?_)
              refine Qec ttGf1 8 [] rfl ?_
              refine C_if rfl (fun h12 => ?_) (fun h12 => ?_)
              · refine Qco ttGf1 4 [kb hb22] rfl ?_
                refine L_stA (vs := [.slice rk5.A rk5.rs.length rk5.c, .int .i64 rk5.cap, .int .i64 rk5.ops, .bool rk5.dn, .bool rk5.tl, .int .i64 rk5.af]) rfl rfl rfl sz36 rfl hb2 rfl ?_
                intro w41 hb23 hs40 hz29
                replace hB := gb_trg hB hs40 ge2
                replace hb4 := hb4.grown hs40 (ne_gt lt3)
                replace hb1 := hb1.grown hs40 (by intro e; injection e; omega)
                replace hA5 := hA5.other hb2 rfl rfl rfl hs40
                replace hb22 := hb22.grown hs40 (ne_gt lt24)
                refine Qoe ttGf1 7 [] rfl ?_
                refine Rl ?_
                refine Qee ttGf1 2 [] rfl ?_
                refine retC1 (vs := [.slice rk5.A rk5.rs.length rk5.c, .int .i64 rk5.cap, .int .i64 rk5.ops, .bool rk5.dn, .bool rk5.tl, .int .i64 rk5.af]) Try.results39 rfl agg36 (At.pre (hb23.at_ 0) rfl) rfl rfl ?_
                have he_ : r.pd.clean2 = cleanR [fn0 0, fn0 1, fn0 2] r.pd := by unfold PD.clean2; rw [if_neg (rpdn h1)]
                replace hcl := hcl.trans (cleanR_e (by omega) h12)
                rw [he_, hcl]; exact ⟨hB, _, hA5, rfl, hpd5⟩
              · refine Qco ttGf1 4 [kb hb22] rfl ?_
                refine L_stA (vs := [.slice rk5.A rk5.rs.length rk5.c, .int .i64 rk5.cap, .int .i64 rk5.ops, .bool rk5.dn, .bool rk5.tl, .int .i64 rk5.af]) rfl rfl rfl sz36 rfl hb1 rfl ?_
                intro w42 hb24 hs41 hz30
                replace hB := gb_trg hB hs41 ge1
                replace hb2 := hb2.grown hs41 (by intro e; injection e; omega)
                replace hb4 := hb4.grown hs41 (ne_ty hb4 hb1 rfl)
                replace hA5 := hA5.other hb1 rfl rfl rfl hs41
                replace hb22 := hb22.grown hs41 (ne_gt lt26)
                refine Qoe ttGf1 8 [] rfl ?_
                refine Nl ?_
                replace hcl := hcl.trans (show cleanR (fn0 2 :: []) r'.pd = cleanR [] rk5.pd from cleanR_ok (by omega) h12 hpd5)
                exact ⟨3 - 3, by omega, _, rk5, 3, Ac_frg ⟨rfl, rfl, rfl, rfl, (agr rfl (by first | rfl | (congr 1; omega) | (congr 1; simp; done) | (congr 1; simp only [IntKind.wrap_u64, IntKind.wrap_i64, IntKind.wrap_u8]; omega) | (congr 1 <;> omega))), trivial⟩, hB, hb2, hb4, hA5, hb24, (by omega), hcl, rfl⟩
            · refine L_alloc (cs := [.slice none 0 0, .int .i64 0, .int .i64 0, .bool false, .bool false, .int .i64 0]) zer36 rfl rfl ?_
              intro g15 w43 eg9 hb25 hs42 hz31
              have ge9 : w.heap.size ≤ g15 := eg_ge hB eg9
              have lt29 : g2 < g15 := lt_of_eg hb2.lt eg9
              have lt30 : g3 < g15 := lt_of_eg hb4.lt eg9
              have lt31 : g1 < g15 := lt_of_eg hb1.lt eg9
              have lt32 : g12 < g15 := lt_of_eg (at_lt ha5) eg9
              have lt33 : g13 < g15 := lt_of_eg (at_lt ha6) eg9
              replace hB := gb_tr hB hs42
              replace hb2 := hb2.gb hs42
              replace hb4 := hb4.gb hs42
              replace hRw := hRw.gb hs42
              replace hb1 := hb1.gb hs42
              replace ha5 := At.gb ha5 hs42 (by simp)
              replace ha6 := At.gb ha6 hs42 (by simp)
              refine L_nil (N_then ⟨fun hN_ => ⟨hb1, ha6, trivial⟩, ?_⟩)
              refine T_all (rs := [5]) (by kernel_rfl) rfl (all1 (O_one rfl ?_))
              have hszhs43_ := hB.size
              have hR9_ := hRw
              refine L_call rfl cb54 (rremove_l hRw fnq2) rfl ?_
              rintro _ w44 ⟨hs43, rk6, hA6, rfl, hpd6⟩
              replace hB := gb_tr hB hs43
              replace hb2 := hb2.gb hs43
              replace hb4 := hb4.gb hs43
              replace hRw := hRw.gb hs43
              replace hb1 := hb1.gb hs43
              replace ha5 := At.gb ha5 hs43 (by simp)
              replace ha6 := At.gb ha6 hs43 (by simp)
              replace hb25 := hb25.gb hs43
              replace hA6 := hA6.up (upU2 hszhs43_)
              refine L_nil (N_then ⟨fun hN_ => ⟨hb1, ha6, trivial⟩, ?_⟩)
              refine Tqs ttGf1 2 [6, 7, 8] [] (fun _ _ => trivial) ⟨hb1, ha6, trivial⟩ rfl ?_
              refine T_all (rs := [10]) (by kernel_rfl) rfl (all1 (O_one rfl ?_))
              refine L_stA (vs := [.slice rk6.A rk6.rs.length rk6.c, .int .i64 rk6.cap, .int .i64 rk6.ops, .bool rk6.dn, .bool rk6.tl, .int .i64 rk6.af]) rfl rfl rfl sz36 rfl hb25 rfl ?_
              intro w45 hb26 hs44 hz32
              replace hB := gb_trg hB hs44 ge9
              replace hb2 := hb2.grown hs44 (ne_lt lt29)
              replace hb4 := hb4.grown hs44 (ne_lt lt30)
              replace hb1 := hb1.grown hs44 (ne_lt lt31)
              replace ha5 := At.gb ha5 hs44 (ne_lt lt32)
              replace ha6 := At.gb ha6 hs44 (ne_lt lt33)
              replace hA6 := hA6.other hb25 rfl rfl rfl hs44
              refine L_nil (N_then ⟨fun hN_ => ⟨hb1, ha6, trivial⟩, ?_⟩)
              refine Tqs ttGf1 0 [11] [] (fun _ _ => trivial) ⟨hb1, ha6, trivial⟩ rfl ?_
              refine T_done (by kernel_rfl) (CalmE.normal ?_)
              refine Qec ttGf1 8 [] rfl ?_
              refine C_if rfl (fun h13 => ?_) (fun h13 => ?_)
              · refine Qco ttGf1 4 [kb hb26] rfl ?_
                refine L_stA (vs := [.slice rk6.A rk6.rs.length rk6.c, .int .i64 rk6.cap, .int .i64 rk6.ops, .bool rk6.dn, .bool rk6.tl, .int .i64 rk6.af]) rfl rfl rfl sz36 rfl hb2 rfl ?_
                intro w46 hb27 hs45 hz33
                replace hB := gb_trg hB hs45 ge2
                replace hb4 := hb4.grown hs45 (ne_gt lt3)
                replace hb1 := hb1.grown hs45 (by intro e; injection e; omega)
                replace hb26 := hb26.grown hs45 (ne_gt lt29)
                replace hA6 := hA6.other hb2 rfl rfl rfl hs45
                refine Qoe ttGf1 7 [] rfl ?_
                refine Rl ?_
                refine Qee ttGf1 2 [] rfl ?_
                refine retC1 (vs := [.slice rk6.A rk6.rs.length rk6.c, .int .i64 rk6.cap, .int .i64 rk6.ops, .bool rk6.dn, .bool rk6.tl, .int .i64 rk6.af]) Try.results39 rfl agg36 (At.pre (hb27.at_ 0) rfl) rfl rfl ?_
                have he_ : r.pd.clean2 = cleanR [fn0 0, fn0 1, fn0 2] r.pd := by unfold PD.clean2; rw [if_neg (rpdn h1)]
                replace hcl := hcl.trans (cleanR_e (by omega) h13)
                rw [he_, hcl]; exact ⟨hB, _, hA6, rfl, hpd6⟩
              · refine Qco ttGf1 4 [kb hb26] rfl ?_
                refine L_stA (vs := [.slice rk6.A rk6.rs.length rk6.c, .int .i64 rk6.cap, .int .i64 rk6.ops, .bool rk6.dn, .bool rk6.tl, .int .i64 rk6.af]) rfl rfl rfl sz36 rfl hb1 rfl ?_
                intro w47 hb28 hs46 hz34
                replace hB := gb_trg hB hs46 ge1
                replace hb2 := hb2.grown hs46 (by intro e; injection e; omega)
                replace hb4 := hb4.grown hs46 (ne_ty hb4 hb1 rfl)
                replace hb26 := hb26.grown hs46 (ne_gt lt31)
                replace hA6 := hA6.other hb1 rfl rfl rfl hs46
                refine Qoe ttGf1 8 [] rfl ?_
                refine Nl ?_
                replace hcl := hcl.trans (show cleanR (fn0 2 :: []) r'.pd = cleanR [] rk6.pd from cleanR_ok (by omega) h13 hpd6)
                exact ⟨3 - 3, by omega, _, rk6, 3, Ac_frg ⟨rfl, rfl, rfl, rfl, (agr rfl (by first | rfl | (congr 1; omega) | (congr 1; simp; done) | (congr 1; simp only [IntKind.wrap_u64, IntKind.wrap_i64, IntKind.wrap_u8]; omega) | (congr 1 <;> omega))), trivial⟩, hB, hb2, hb4, hA6, hb28, (by omega), hcl, rfl⟩
          · refine Qce ttGf1 8 [] rfl ?_
            refine Nl ?_
            replace hcl := hcl.trans (show cleanR (fn0 2 :: []) r'.pd = cleanR [] r'.pd from cleanR_no (by omega))
            exact ⟨3 - 3, by omega, _, r', 3, Ac_frg ⟨rfl, rfl, rfl, rfl, (agr rfl (by first | rfl | (congr 1; omega) | (congr 1; simp; done) | (congr 1; simp only [IntKind.wrap_u64, IntKind.wrap_i64, IntKind.wrap_u8]; omega) | (congr 1 <;> omega))), trivial⟩, hB, hb2, hb4, hRw, hb1, (by omega), hcl, rfl⟩
        · refine T_takeA (i := 8) rfl (by kernel_rfl) (by kernel_rfl) (by kernel_rfl) (by kernel_rfl) (Y_no rfl rfl rfl (decide_eq_false h10)) ⟨hb1, ha5, trivial⟩ rfl ?_
          refine T_takeA (i := 9) rfl (by kernel_rfl) (by kernel_rfl) (by kernel_rfl) (by kernel_rfl) (Y_no rfl rfl rfl (decide_eq_false h10)) ⟨hb1, ha5, trivial⟩ rfl ?_
          refine T_takeA (i := 10) rfl (by kernel_rfl) (by kernel_rfl) (by kernel_rfl) (by kernel_rfl) (Y_no rfl rfl rfl (decide_eq_false h10)) ⟨hb1, ha5, trivial⟩ rfl ?_
          refine T_takeA (i := 11) rfl (by kernel_rfl) (by kernel_rfl) (by kernel_rfl) (by kernel_rfl) (Y_no rfl rfl rfl (decide_eq_false h10)) ⟨hb1, ha5, trivial⟩ rfl ?_
          refine T_takeA (i := 12) rfl (by kernel_rfl) (by kernel_rfl) (by kernel_rfl) (by kernel_rfl) (Y_no rfl rfl rfl (decide_eq_false h10)) ⟨hb1, ha5, trivial⟩ rfl ?_
          refine T_all (rs := [13]) (by kernel_rfl) rfl (all1 (O_one rfl ?_))
          refine L_no rfl rfl rfl (decide_eq_false h10) rfl ?_
          refine L_nil (N_then ⟨fun hN_ => ⟨hb1, ha5, trivial⟩, ?_⟩)
          refine T_takeA (i := 14) rfl (by kernel_rfl) (by kernel_rfl) (by kernel_rfl) (by kernel_rfl) (Y_no rfl rfl rfl (decide_eq_false h10)) ⟨hb1, ha5, trivial⟩ rfl ?_
          refine T_takeA (i := 15) rfl (by kernel_rfl) (by kernel_rfl) (by kernel_rfl) (by kernel_rfl) (Y_of (fun _ ⟨hb1, ha5, _⟩ => R_pickF rfl (decide_eq_false h10) rfl)) ⟨hb1, ha5, trivial⟩ rfl ?_
          refine T_done (by kernel_rfl) (CalmE.normal ?_)
          refine Qee ttGf1 10 [] rfl ?_
          refine Nl ?_
          replace hcl := hcl.trans (show cleanR (fn0 2 :: []) r'.pd = cleanR [] r'.pd from cleanR_no (by omega))
          exact ⟨3 - 3, by omega, _, r', 3, Ac_frg ⟨rfl, rfl, rfl, rfl, (agr rfl (by first | rfl | (congr 1; omega) | (congr 1; simp; done) | (congr 1; simp only [IntKind.wrap_u64, IntKind.wrap_i64, IntKind.wrap_u8]; omega) | (congr 1 <;> omega))), trivial⟩, hB, hb2, hb4, hRw, hb1, (by omega), hcl, rfl⟩
      · refine Qce ttGf1 10 [] rfl ?_
        refine Xl ?_
        refine Qeo ttGf1 5 [kb hb1] rfl ?_
        refine L_stA (vs := [.slice r'.A r'.rs.length r'.c, .int .i64 r'.cap, .int .i64 r'.ops, .bool r'.dn, .bool r'.tl, .int .i64 r'.af]) rfl rfl rfl sz36 rfl hb2 rfl ?_
        intro w48 hb29 hs47 hz35
        replace hB := gb_trg hB hs47 ge2
        replace hb4 := hb4.grown hs47 (ne_gt lt3)
        replace hRw := hRw.other hb2 rfl rfl rfl hs47
        replace hb1 := hb1.grown hs47 (by intro e; injection e; omega)
        refine Qoe ttGf1 4 [] rfl ?_
        refine retC1 (vs := [.slice r'.A r'.rs.length r'.c, .int .i64 r'.cap, .int .i64 r'.ops, .bool r'.dn, .bool r'.tl, .int .i64 r'.af]) Try.results39 rfl agg36 (At.pre (hb29.at_ 0) rfl) rfl rfl ?_
        have he_ : r.pd.clean2 = cleanR [fn0 0, fn0 1, fn0 2] r.pd := by unfold PD.clean2; rw [if_neg (rpdn h1)]
        rw [he_, hcl]; exact ⟨hB, _, hRw, rfl, rfl⟩
end Go.Proofs.Ytoipncaopdmicaa
namespace Go.Proofs.Ytoipncaopdmicaa
open Go.RowKit Gw Pl
set_option linter.unusedVariables false
set_option linter.unusedSimpArgs false
theorem rise_ext : ∀ {a b : List ByteArray}, a.Pairwise slt → b.Pairwise slt → (∀ x, x ∈ a ↔ x ∈ b) → a = b
  | [], [], _, _, _ => rfl
  | [], y :: b, _, _, h => by have := (h y).2 (List.mem_cons_self ..); cases this
  | x :: a, [], _, _, h => by have := (h x).1 (List.mem_cons_self ..); cases this
  | x :: a, y :: b, ha, hb, h => by
    rw [List.pairwise_cons] at ha hb
    have e : x = y := by
      rcases List.mem_cons.1 ((h x).1 (List.mem_cons_self ..)) with h1 | h1
      · exact h1
      · rcases List.mem_cons.1 ((h y).2 (List.mem_cons_self ..)) with h2 | h2
        · exact h2.symm
        · exact absurd (hb.1 x h1) (slt_asymm (ha.1 y h2))
    subst e
    refine congrArg (x :: ·) (rise_ext ha.2 hb.2 fun z => ⟨fun hz => ?_, fun hz => ?_⟩)
    · rcases List.mem_cons.1 ((h z).1 (List.mem_cons_of_mem _ hz)) with rfl | h1
      · exact absurd (ha.1 z hz) (slt_irrefl z)
      · exact h1
    · rcases List.mem_cons.1 ((h z).2 (List.mem_cons_of_mem _ hz)) with rfl | h1
      · exact absurd (hb.1 z hz) (slt_irrefl z)
      · exact h1
theorem isFree_iff {s : ByteArray} : isFree s ↔ s ∈ [fn0 0, fn0 1, fn0 2] := by
  constructor
  · intro h
    unfold isFree nparse at h
    split at h
    · exact absurd (show (1 : Int) = 2 from h) (by decide)
    · split at h
      · rename_i h1 h2
        obtain ⟨h2, h3, h4⟩ := h2
        have h5 : nnum (s.data.toList.drop 5) ≤ 2 := by
          refine Int.not_lt.1 fun h6 => ?_
          unfold pname at h4
          rw [if_neg (by omega)] at h4
          rw [← h4] at h2
          cases h2
        have h6 : s = ⟨(pname (nnum (s.data.toList.drop 5))).toArray⟩ := by rw [h4]
        have h7 : nnum (s.data.toList.drop 5) = 0 ∨ nnum (s.data.toList.drop 5) = 1 ∨ nnum (s.data.toList.drop 5) = 2 := by omega
        rcases h7 with h7 | h7 | h7 <;> rw [h7] at h6 <;> rw [h6] <;> unfold fn0 <;> simp
      · exact absurd (show (0 : Int) = 2 from h) (by decide)
  · intro h
    rcases List.mem_cons.1 h with rfl | h
    · exact fn0_free 0 (by decide)
    · rcases List.mem_cons.1 h with rfl | h
      · exact fn0_free 1 (by decide)
      · rcases List.mem_cons.1 h with rfl | h
        · exact fn0_free 2 (by decide)
        · cases h
theorem fn01 : slt (fn0 0) (fn0 1) := by decide +kernel
theorem fn12 : slt (fn0 1) (fn0 2) := by decide +kernel
theorem fn02 : slt (fn0 0) (fn0 2) := slt_trans fn01 fn12
theorem fn_rise : [fn0 0, fn0 1, fn0 2].Pairwise slt := by
  refine .cons (fun x hx => ?_) (.cons (fun x hx => ?_) (.cons (fun x hx => by cases hx) .nil))
  · rcases List.mem_cons.1 hx with rfl | hx
    · exact fn01
    · rw [List.mem_singleton.1 hx]; exact fn02
  · rw [List.mem_singleton.1 hx]; exact fn12
theorem rise_nodup {l : List ByteArray} (h : l.Pairwise slt) : l.Nodup := by
  unfold List.Nodup
  exact h.imp fun {a b} hs e => by subst e; exact slt_irrefl _ hs
theorem getP_mem {fs : List PF} {nm : ByteArray} (h : HasP fs nm) : getP fs nm ∈ fs := by
  obtain ⟨f, hf, e⟩ := h
  unfold getP
  cases q : fs.find? fun f => decide (f.nm = nm) with
  | none => exact absurd (decide_eq_true e) (by simpa using List.find?_eq_none.1 q f hf)
  | some x => exact List.mem_of_find?_eq_some q
theorem size_pos {fs : List PF} {s : ByteArray} (hp : ∀ f ∈ fs, 1 ≤ f.seen.length) : 0 < sizeP fs s ↔ s ∈ fs.map PF.nm := by
  unfold sizeP
  by_cases h : HasP fs s
  · rw [if_pos h]
    exact ⟨fun _ => by obtain ⟨f, hf, e⟩ := h; exact List.mem_map.2 ⟨f, hf, e⟩, fun _ => hp _ (getP_mem h)⟩
  · rw [if_neg h]
    exact ⟨fun q => absurd q (by omega), fun q => absurd (List.mem_map.1 q) h⟩
theorem has_rem {fs : List PF} {s t : ByteArray} (h : t ≠ s) : HasP (remK PF.nm s fs) t ↔ HasP fs t := by
  constructor
  · rintro ⟨f, hf, e⟩; exact ⟨f, (List.mem_filter.1 hf).1, e⟩
  · rintro ⟨f, hf, e⟩; exact ⟨f, List.mem_filter.2 ⟨hf, decide_eq_true (e ▸ h)⟩, e⟩
theorem get_rem {s t : ByteArray} (h : t ≠ s) (fs : List PF) : getP (remK PF.nm s fs) t = getP fs t := by
  unfold getP remK
  rw [List.find?_filter]
  congr 2
  funext f
  by_cases e : f.nm = t <;> simp [e, h]
theorem size_rem {s t : ByteArray} (h : t ≠ s) (fs : List PF) : sizeP (remK PF.nm s fs) t = sizeP fs t := by
  unfold sizeP
  by_cases q : HasP fs t
  · rw [if_pos q, if_pos ((has_rem h).2 q), get_rem h]
  · rw [if_neg q, if_neg (fun q2 => q ((has_rem h).1 q2))]
theorem op_fs {d : PD} : d.op.1.fs = d.fs := by unfold PD.op; split <;> rfl
theorem remove_size {d : PD} {s t : ByteArray} (h : t ≠ s) : sizeP (d.remove s).1.fs t = sizeP d.fs t := by
  unfold PD.remove
  split
  · rfl
  · split
    · rfl
    · unfold PD.then
      split
      · exact size_rem h _
      · rw [op_fs]
theorem cleanL_eq : ∀ {l : List ByteArray} {d : PD}, l.Nodup → (∀ s ∈ l, 0 < sizeP d.fs s) → cleanL l d = cleanR (l.filter fun s => decide (isFree s)) d
  | [], d, _, _ => rfl
  | s :: r, d, hn, hp => by
    rw [List.nodup_cons] at hn
    have hs := hp s (List.mem_cons_self ..)
    have h1 := cleanL_eq hn.2 fun t ht => hp t (List.mem_cons_of_mem _ ht)
    by_cases hf : isFree s
    · rw [List.filter_cons, if_pos (decide_eq_true hf), cleanL, cleanR]
      by_cases h17 : sizeP d.fs s ≠ 17
      · rw [if_pos (show isFree s ∧ sizeP d.fs s ≠ 17 from ⟨hf, h17⟩), if_pos (show 0 < sizeP d.fs s ∧ sizeP d.fs s ≠ 17 from ⟨hs, h17⟩), cleanL_eq hn.2 fun t ht => by rw [remove_size (fun e => hn.1 (by rw [← e]; exact ht))]; exact hp t (List.mem_cons_of_mem _ ht)]
      · rw [if_neg (fun q => h17 q.2), if_neg (fun q => h17 q.2), h1]
    · rw [List.filter_cons, if_neg (by rw [decide_eq_false hf]; decide), cleanL, if_neg (fun q => hf q.1), h1]
theorem cleanR_f : ∀ {l : List ByteArray} {d : PD}, l.Nodup → cleanR l d = cleanR (l.filter fun s => decide (0 < sizeP d.fs s)) d
  | [], d, _ => rfl
  | s :: r, d, hn => by
    rw [List.nodup_cons] at hn
    by_cases hs : 0 < sizeP d.fs s
    · rw [List.filter_cons, if_pos (decide_eq_true hs), cleanR, cleanR]
      by_cases h17 : sizeP d.fs s ≠ 17
      · have hc : 0 < sizeP d.fs s ∧ sizeP d.fs s ≠ 17 := ⟨hs, h17⟩
        rw [if_pos hc, if_pos hc, cleanR_f (d := (d.remove s).1) hn.2]
        congr 2
        exact List.filter_congr fun t ht => by rw [remove_size (fun e => hn.1 (by rw [← e]; exact ht))]
      · rw [if_neg (fun q => h17 q.2), if_neg (fun q => h17 q.2), cleanR_f hn.2]
    · rw [List.filter_cons, if_neg (by rw [decide_eq_false hs]; decide), cleanR, if_neg (fun q => hs q.1), cleanR_f hn.2]
theorem clean_eq {d : PD} (hr : (d.fs.map PF.nm).Pairwise slt) (hp : ∀ f ∈ d.fs, 1 ≤ f.seen.length) : d.clean = d.clean2 := by
  unfold PD.clean PD.clean2
  split
  · rfl
  · rw [cleanL_eq (rise_nodup hr) (fun s hs => (size_pos hp).2 hs), cleanR_f (rise_nodup fn_rise)]
    congr 1
    refine rise_ext (hr.filter _) (fn_rise.filter _) fun x => ?_
    rw [List.mem_filter, List.mem_filter, decide_eq_true_iff, decide_eq_true_iff, size_pos hp, isFree_iff]
    exact ⟨fun h => ⟨h.2, h.1⟩, fun h => ⟨h.2, h.1⟩⟩
theorem cnt_eq {fs : List PF} (hr : (fs.map PF.nm).Pairwise slt) (hp : ∀ f ∈ fs, 1 ≤ f.seen.length) : cntP fs (fs.map PF.nm) = cntR fs := by
  have e : (fs.map PF.nm).filter (fun s => decide ((isFree s ∧ sizeP fs s = 17) ∧ s ≠ fn0 0)) = [fn0 1, fn0 2].filter fun s => decide (sizeP fs s = 17) := by
    refine rise_ext (hr.filter _) ((List.pairwise_cons.1 fn_rise).2.filter _) fun x => ?_
    rw [List.mem_filter, List.mem_filter, decide_eq_true_iff, decide_eq_true_iff, isFree_iff, ← size_pos hp]
    constructor
    · rintro ⟨h1, ⟨h2, h3⟩, h4⟩
      refine ⟨?_, h3⟩
      rcases List.mem_cons.1 h2 with rfl | h2
      · exact absurd rfl h4
      · exact h2
    · rintro ⟨h1, h2⟩
      exact ⟨by omega, ⟨List.mem_cons_of_mem _ h1, h2⟩, fun e => slt_irrefl _ (e ▸ (List.pairwise_cons.1 fn_rise).1 x h1)⟩
  unfold cntP cntR
  rw [e, List.filter_cons, List.filter_cons, List.filter_nil]
  by_cases h1 : sizeP fs (fn0 1) = 17 <;> by_cases h2 : sizeP fs (fn0 2) = 17 <;> simp [h1, h2]
/-- No file is empty, no name is long. -/
def PI (d : PD) : Prop := ∀ f ∈ d.fs, 1 ≤ f.seen.length ∧ f.nm.size ≤ 24
theorem PI.op {d : PD} (h : PI d) : PI d.op.1 := by unfold PI; rw [op_fs]; exact h
theorem PI.then {d : PD} {fs : List PF} (h : PI d) (h2 : ∀ f ∈ fs, 1 ≤ f.seen.length ∧ f.nm.size ≤ 24) : PI (d.then fs).1 := by
  unfold PD.then
  split
  · exact h2
  · exact h.op
theorem ok_size {nm : ByteArray} (h : okName nm.data.toList) : nm.size ≤ 24 := h.2.2
theorem PI.make {d : PD} {nm : ByteArray} {n : Int} (h : PI d) : PI (d.make nm n).1 := by
  unfold PD.make
  split
  · exact h
  split
  · exact h
  rename_i hk
  split
  · exact h
  split
  · exact h
  rename_i hn
  split
  · exact h
  refine h.then fun f hf => ?_
  rcases List.mem_cons.1 ((insK_perm _).mem_iff.1 hf) with rfl | hf
  · refine ⟨?_, ok_size (Decidable.not_not.1 hk)⟩
    show 1 ≤ (List.replicate n.toNat Sx.z).length
    rw [List.length_replicate]; omega
  · exact h f hf
theorem PI.remove {d : PD} {nm : ByteArray} (h : PI d) : PI (d.remove nm).1 := by
  unfold PD.remove
  split
  · exact h
  split
  · exact h
  exact h.then fun f hf => h f (List.mem_filter.1 hf).1
theorem PI.rename {d : PD} {a b : ByteArray} (h : PI d) : PI (d.rename a b).1 := by
  unfold PD.rename
  split
  · exact h
  split
  · exact h
  rename_i ha
  split
  · exact h
  rename_i hb
  split
  · exact h
  refine h.then fun f hf => ?_
  rcases List.mem_cons.1 ((insK_perm _).mem_iff.1 hf) with rfl | hf
  · exact ⟨(h _ (getP_mem (Decidable.not_not.1 ha))).1, ok_size (Decidable.not_not.1 hb)⟩
  · exact h f (List.mem_filter.1 (List.mem_filter.1 hf).1).1
theorem PI.fail {d : PD} {n : Int} (h : PI d) : PI (d.fail n).1 := by
  unfold PD.fail
  split
  · exact h
  split
  · exact h
  exact h
theorem PI.spare {d : PD} (h : PI d) : PI d.spare.1 := by
  unfold PD.spare
  split
  · exact h
  split
  · exact h
  split
  · split
    · exact h.remove
    · exact h.remove.make
  · exact h.make
theorem PI.take {d : PD} (h : PI d) : PI d.take.1 := by
  unfold PD.take
  split
  · exact h
  split
  · exact h
  split
  · exact h
  split
  · exact h
  split
  · exact h.make
  · exact h.make
theorem PI.give {d : PD} {s : ByteArray} (h : PI d) : PI (d.give s).1 := by
  unfold PD.give
  split
  · exact h
  split
  · exact h
  split
  · exact h.remove
  · exact h.rename
theorem PI.cleanR : ∀ {l : List ByteArray} {d : PD}, PI d → PI (Go.Proofs.Ytoipncaopdmicaa.cleanR l d).1
  | [], d, h => h
  | s :: r, d, h => by
    rw [Go.Proofs.Ytoipncaopdmicaa.cleanR]
    split
    · split
      · exact h.remove
      · exact PI.cleanR h.remove
    · exact PI.cleanR h
theorem PI.clean {d : PD} (h : PI d) : PI d.clean2.1 := by
  unfold PD.clean2
  split
  · exact h
  · exact h.cleanR
theorem PI.pos {d : PD} (h : PI d) : ∀ f ∈ d.fs, 1 ≤ f.seen.length := fun f hf => (h f hf).1
theorem PI.nml {d : DK} (h : PI d.pd) : ∀ s ∈ d.fs.map FM.nm, s.size ≤ 9000000000000000000 := fun s hs => by
  obtain ⟨f, hf, rfl⟩ := List.mem_map.1 hs
  exact Nat.le_trans (h f.pf (List.mem_map.2 ⟨f, hf, rfl⟩)).2 (by decide)
end Go.Proofs.Ytoipncaopdmicaa
namespace Go.Proofs.Ytoipncaopdmicaa
open Go.RowKit Gw Pl
set_option linter.unusedVariables false
set_option linter.unusedSimpArgs false
theorem agg81 : aggB Try.prog 81 64 = true := by kernel_rfl
theorem arr81 : arrB Try.prog 81 5 64 1 = true := by kernel_rfl
theorem eqg81 : Try.prog.eqGuardType Try.prog.depth 81 = false := by kernel_rfl
theorem scl5 : sclB Try.prog 5 = true := by kernel_rfl
def tabHa1 : TT := { fld := [], scl := [], agg := [], str := [], slc := [(27, 81, 64, 64)], ptr := [], cv := [] }
theorem ttHa1 : TOk Try.prog tabHa1 := TT.ok_of (by kernel_rfl)
theorem map_nm {ls : List FR} {fs : List FM} (h : ls.map (fun f => (f.nm, f.ss)) = fs.map (fun f => (f.nm, f.las))) {rs : List RF} (e : fs.map FM.pf = rs.map RF.pf) : ls.map (fun f => (f.nm, f.ss)) = rs.map (fun f => (f.nm, f.las)) := by
  have e2 := congrArg (List.map fun f : PF => (f.nm, f.las)) e
  rw [List.map_map, List.map_map] at e2
  exact h.trans e2
theorem map_at {ls : List FR} {rs : List RF} (h : ls.map (fun f => (f.nm, f.ss)) = rs.map (fun f => (f.nm, f.las))) {i : Nat} (h1 : i < ls.length) (h2 : i < rs.length) : ls[i].nm = rs[i].nm ∧ ls[i].ss = rs[i].las := by
  have e := congrArg (fun l => l[i]?) h
  simp only [List.getElem?_map, List.getElem?_eq_getElem h1, List.getElem?_eq_getElem h2, Option.map_some, Option.some.injEq, Prod.mk.injEq] at e
  exact e
theorem same06_ok {w : World} {t1 lo1 hi1 t2 lo2 hi2 : Nat} {A1 A2 : Option Addr} {c1 c2 : Nat} {ss1 ss2 : List Sx} (hS1 : Sli t1 lo1 hi1 w A1 (fl encX ss1)) (hS2 : Sli t2 lo2 hi2 w A2 (fl encX ss2)) (he : ss1 = ss2) (hl : ss1.length ≤ 1000000000) :
    Runs Try.prog 47 #[.slice A1 ss1.length c1, .slice A2 ss2.length c2] w (fun v w' => w.grownBy w' none ∧ v = .bool true) := by
  have hB := gb_refl w none
  have hle := congrArg List.length he
  replace hS1 := hS1.top
  replace hS2 := hS2.top
  refine enterQ Try.func47 Try.ntmps47 rfl rfl ?_
  refine Qcc ttHa1 15 [] rfl ?_
  refine Clit (t := 10) rfl (decide_eq_false (by omega)) ?_
  refine Qcc ttHa1 10 [] rfl ?_
  refine C_loop (fun m_ a_ w_ => ∃ (σ_ : Nat → Value) (i : Nat), a_ = Ac 26 σ_ [] [(0, .slice A1 ss1.length c1), (1, .slice A2 ss2.length c2), (4, .bool false), (5, .int .i64 (i : Int))] ∧ w.grownBy w_ none ∧ Sli t1 lo1 w.heap.size w_ A1 (fl encX ss1) ∧ Sli t2 lo2 w.heap.size w_ A2 (fl encX ss2) ∧ (i ≤ ss1.length) ∧ ss1.length - i = m_) (ss1.length - 0) ?_ ?_
  · exact ⟨_, 0, Ac_frg ⟨rfl, rfl, rfl, (agr rfl (by first | rfl | (congr 1; omega) | (congr 1; simp; done) | (congr 1; simp only [IntKind.wrap_u64, IntKind.wrap_i64, IntKind.wrap_u8]; omega) | (congr 1 <;> omega))), trivial⟩, hB, hS1, hS2, (by omega), rfl⟩
  · clear hB
    clear hS1 hS2
    rintro m_ a_ w1 ⟨σ_, i, rfl, hB, hS1, hS2, hi_, rfl⟩
    refine Q0c ?_
    refine Qcc ttHa1 9 [] rfl ?_
    refine C_if rfl (fun h1 => ?_) (fun h1 => ?_)
    · refine Qcc ttHa1 5 [] rfl ?_
      refine C_draw2 rfl mix ?_
      intro w2 hs1 hz1
      replace hB := gb_tr hB hs1
      replace hS1 := hS1.gb hs1
      replace hS2 := hS2.gb hs1
      have hl1 : i < ss1.length := by first | omega | (simp; done) | (simp; omega)
      obtain ⟨g1, o1, r1, eA1, er1, ha1⟩ := Sli.place' (xs := ss1) (i := i) EncX hS1 hl1 rfl
      replace ha1 : At w2 g1 r1 (fl encB ss1[i].b) := ha1
      have hl2 : i < ss2.length := by first | omega | (simp; done) | (simp; omega)
      obtain ⟨g2, o2, r2, eA2, er2, ha2⟩ := Sli.place' (xs := ss2) (i := i) EncX hS2 hl2 rfl
      replace ha2 : At w2 g2 r2 (fl encB ss2[i].b) := ha2
      refine ⟨fun W_ => At W_ g1 r1 (fl encB ss1[i].b) ∧ At W_ g2 r2 (fl encB ss2[i].b) ∧ True, [0, 1, 2, 3, 4, 5, 6, 7, 8], ?_⟩
      refine Tqs ttHa1 7 [0, 1] [] (fun _ _ => trivial) ⟨ha1, ha2, trivial⟩ rfl ?_
      refine T_takeA (i := 2) rfl (by kernel_rfl) (by kernel_rfl) (by kernel_rfl) (by kernel_rfl) (Y_of (fun _ ⟨ha1, ha2, _⟩ => R_indexE rfl rfl (by first | rfl | omega) slc27 hl1 eA1 er1)) ⟨ha1, ha2, trivial⟩ rfl ?_
      refine T_takeA (i := 3) rfl (by kernel_rfl) (by kernel_rfl) (by kernel_rfl) (by kernel_rfl) (Y_of (fun _ ⟨ha1, ha2, _⟩ => R_loadA (vs := fl encB (ss1[i].b)) rfl agg81 ha1 (flB_lenE ss1[i].h))) ⟨ha1, ha2, trivial⟩ rfl ?_
      refine Tqs ttHa1 3 [4, 5] [] (fun _ _ => trivial) ⟨ha1, ha2, trivial⟩ rfl ?_
      refine T_takeA (i := 6) rfl (by kernel_rfl) (by kernel_rfl) (by kernel_rfl) (by kernel_rfl) (Y_of (fun _ ⟨ha1, ha2, _⟩ => R_indexE rfl rfl (by first | rfl | omega) slc27 hl2 eA2 er2)) ⟨ha1, ha2, trivial⟩ rfl ?_
      refine T_takeA (i := 7) rfl (by kernel_rfl) (by kernel_rfl) (by kernel_rfl) (by kernel_rfl) (Y_of (fun _ ⟨ha1, ha2, _⟩ => R_loadA (vs := fl encB (ss2[i].b)) rfl agg81 ha2 (flB_lenE ss2[i].h))) ⟨ha1, ha2, trivial⟩ rfl ?_
      refine T_takeA (i := 8) rfl (by kernel_rfl) (by kernel_rfl) (by kernel_rfl) (by kernel_rfl) (Y_of (fun _ ⟨ha1, ha2, _⟩ => R_neqA rfl rfl eqg81 (eqs_bytes arr81 int5 scl5 ss1[i].h ss2[i].h))) ⟨ha1, ha2, trivial⟩ rfl ?_
      refine T_done (by kernel_rfl) (CalmE.normal ?_)
      refine Qec ttHa1 1 [] rfl ?_
      refine Clit (t := 25) rfl (decide_eq_false (fun h_ => h_ (by subst he; rfl))) ?_
      refine Qce ttHa1 9 [] rfl ?_
      refine Nl ?_
      exact ⟨ss1.length - (i + 1), by omega, _, (i + 1), Ac_frg ⟨rfl, rfl, rfl, (agr rfl (by first | rfl | (congr 1; omega) | (congr 1; simp; done) | (congr 1; simp only [IntKind.wrap_u64, IntKind.wrap_i64, IntKind.wrap_u8]; omega) | (congr 1 <;> omega))), trivial⟩, hB, hS1, hS2, (by omega), rfl⟩
    · refine Qce ttHa1 2 [] rfl ?_
      refine Xl ?_
      refine Qee ttHa1 8 [] rfl ?_
      refine ret1 Try.results47 rfl ?_
      exact ⟨hB, rfl⟩
end Go.Proofs.Ytoipncaopdmicaa
namespace Go.Proofs.Ytoipncaopdmicaa
open Go.RowKit Gw Pl
set_option linter.unusedVariables false
set_option linter.unusedSimpArgs false
theorem boo4 : Try.prog.underlying 4 = some .bool := by kernel_rfl
theorem cb26 : callB Try.prog 26 = true := by kernel_rfl
theorem cb29 : callB Try.prog 29 = true := by kernel_rfl
theorem cb47 : callB Try.prog 47 = true := by kernel_rfl
theorem cb68 : callB Try.prog 68 = true := by kernel_rfl
theorem cb79 : callB Try.prog 79 = true := by kernel_rfl
theorem fld29_1 : fldB Try.prog 29 1 1 = true := by kernel_rfl
theorem fld92_1 : fldB Try.prog 92 1 1 = true := by kernel_rfl
def tabHb1 : TT := { fld := [(29, 0, 0), (36, 0, 0), (36, 2, 2), (92, 0, 0)], scl := [3, 34], agg := [(36, 6)], str := [], slc := [(22, 29, 2, 40)], ptr := [], cv := [] }
theorem ttHb1 : TOk Try.prog tabHb1 := TT.ok_of (by kernel_rfl)
theorem files_dk {S : Nat → Prop} {w : World} {d : DK} (hD : DiskAt S w d) : Runs Try.prog 26 #[.pointer (some ⟨d.gd, 0, none⟩)] w (fun v w' => w.grownBy w' none ∧ ∃ A' c' ls, v = .slice A' ls.length c' ∧ ls.map (fun f => (f.nm, f.ss)) = d.fs.map (fun f => (f.nm, f.las)) ∧ World.ownsRow w' w.heap.size 29 2 (.slice A' ls.length c') ls.length (fl encFR ls) ∧ DeepFR w' ls) := files_ok hD
theorem same_ok {U S : Nat → Prop} {w : World} {d : DK} {r : RK} (hD : DiskAt S w d) (hR : RAt U w r) (he : d.pd = r.pd) (hI : PI d.pd) :
    Runs Try.prog 42 #[.pointer (some ⟨d.gd, 0, none⟩), .agg #[.slice r.A r.rs.length r.c, .int .i64 r.cap, .int .i64 r.ops, .bool r.dn, .bool r.tl, .int .i64 r.af]] w (fun v w' => w.grownBy w' none ∧ v = .bool true) := by
  have hB := gb_refl w none
  have hDk := hD
  have hSl := hD.hSl
  have hR0 := hR
  have hS := hR.hS
  have hd := hR.hd
  have hl_ := hR.hl
  have hu_ := hR.hu
  have hc_ := hR.hc
  have hRc := hR.low
  have ho_ : d.ops = r.ops := congrArg PD.ops he
  have hd_ : d.dn = r.dn := congrArg PD.dn he
  refine enterQ Try.func42 Try.ntmps42 rfl rfl ?_
  refine Qco ttHb1 2 [] rfl ?_
  refine L_box (cs := [.slice r.A r.rs.length r.c, .int .i64 r.cap, .int .i64 r.ops, .bool r.dn, .bool r.tl, .int .i64 r.af]) rfl rfl rfl ?_
  intro g1 w1 eg1 hb1 hs1 hz1
  have ge1 : w.heap.size ≤ g1 := eg_ge hB eg1
  replace hB := gb_tr hB hs1
  replace hDk := hDk.gb hs1
  replace hRc := hRc.gb hs1
  replace hS := hS.gb hs1
  replace hd := hd.gb hs1
  refine Qoo ttHb1 6 [] rfl ?_
  have ge2 : w.heap.size ≤ w1.heap.size := hB.size
  refine L_call rfl cb26 (files_dk hDk) rfl ?_
  rintro _ w2 ⟨hs2, A_1, c_1, ls1, rfl, hml1, ho1, hdp1⟩
  replace hB := gb_tr hB hs2
  replace hDk := hDk.gb hs2
  replace hRc := hRc.gb hs2
  replace hS := hS.gb hs2
  replace hd := hd.gb hs2
  replace hb1 := hb1.gb hs2
  have hme_ := map_nm hml1 (show d.fs.map FM.pf = r.rs.map RF.pf from congrArg PD.fs he)
  have hle_ : ls1.length = r.rs.length := by have h_ := congrArg List.length hme_; rwa [List.length_map, List.length_map] at h_
  refine Qoc ttHb1 5 [] rfl ?_
  refine C_draw2 rfl mix ?_
  intro w3 hs3 hz2
  replace hB := gb_tr hB hs3
  replace hDk := hDk.gb hs3
  replace hRc := hRc.gb hs3
  replace hS := hS.gb hs3
  replace hd := hd.gb hs3
  replace hb1 := hb1.gb hs3
  replace ho1 := own_gb ho1 hs3
  replace hdp1 := hdp1.gb hs3
  refine ⟨fun W_ => Blk W_ g1 36 [.slice r.A r.rs.length r.c, .int .i64 r.cap, .int .i64 r.ops, .bool r.dn, .bool r.tl, .int .i64 r.af] ∧ True, [0, 2, 3, 4, 5, 6, 8, 9, 10, 11, 12, 13, 14, 15, 16, 17, 18, 19], ?_⟩
  refine Tqs ttHb1 17 [0, 2, 3] [kd hb1] (fun _ ⟨hb1, _⟩ => ⟨hb1, trivial⟩) ⟨hb1, trivial⟩ rfl ?_
  refine T_all (rs := [1]) (by kernel_rfl) rfl (all1 (O_one rfl ?_))
  refine L_call rfl cb29 (opsn_ok hDk) rfl ?_
  rintro _ w4 ⟨hs4, rfl⟩
  replace hB := gb_tr hB hs4
  replace hDk := hDk.gb hs4
  replace hRc := hRc.gb hs4
  replace hS := hS.gb hs4
  replace hd := hd.gb hs4
  replace hb1 := hb1.gb hs4
  replace ho1 := own_gb ho1 hs4
  replace hdp1 := hdp1.gb hs4
  refine L_nil (N_then ⟨fun hN_ => ⟨hb1, trivial⟩, ?_⟩)
  refine Tqs ttHb1 14 [4, 5] [] (fun _ _ => trivial) ⟨hb1, trivial⟩ rfl ?_
  refine T_takeA (i := 6) rfl (by kernel_rfl) (by kernel_rfl) (by kernel_rfl) (by kernel_rfl) (Y_yes rfl rfl rfl (decide_eq_false (fun h_ => h_ ho_)) (fun _ ⟨hb1, _⟩ => R_move rfl)) ⟨hb1, trivial⟩ rfl ?_
  refine T_takeA (i := 8) rfl (by kernel_rfl) (by kernel_rfl) (by kernel_rfl) (by kernel_rfl) (Y_yes rfl rfl rfl (decide_eq_false (fun h_ => h_ ho_)) (fun _ ⟨hb1, _⟩ => R_field (r := 3) rfl fld36_3 rfl)) ⟨hb1, trivial⟩ rfl ?_
  refine T_takeA (i := 9) rfl (by kernel_rfl) (by kernel_rfl) (by kernel_rfl) (by kernel_rfl) (Y_yes rfl rfl rfl (decide_eq_false (fun h_ => h_ ho_)) (fun _ ⟨hb1, _⟩ => R_load1 rfl scl4 (hb1.cell (i := 3) rfl))) ⟨hb1, trivial⟩ rfl ?_
  refine T_all (rs := [7]) (by kernel_rfl) rfl (all1 (O_one rfl ?_))
  refine L_yes rfl rfl rfl (decide_eq_false (fun h_ => h_ ho_)) ?_
  refine L_call rfl cb30 (dn_ok hDk) rfl ?_
  rintro _ w5 ⟨hs5, rfl⟩
  replace hB := gb_tr hB hs5
  replace hDk := hDk.gb hs5
  replace hRc := hRc.gb hs5
  replace hS := hS.gb hs5
  replace hd := hd.gb hs5
  replace hb1 := hb1.gb hs5
  replace ho1 := own_gb ho1 hs5
  replace hdp1 := hdp1.gb hs5
  refine L_nil (N_then ⟨fun hN_ => ⟨hb1, trivial⟩, ?_⟩)
  refine T_takeA (i := 10) rfl (by kernel_rfl) (by kernel_rfl) (by kernel_rfl) (by kernel_rfl) (Y_yes rfl rfl rfl (decide_eq_false (fun h_ => h_ ho_)) (fun _ ⟨hb1, _⟩ => R_neqB rfl rfl boo4)) ⟨hb1, trivial⟩ rfl ?_
  refine T_takeA (i := 11) rfl (by kernel_rfl) (by kernel_rfl) (by kernel_rfl) (by kernel_rfl) (Y_of (fun _ ⟨hb1, _⟩ => R_pickF rfl (decide_eq_false (fun h_ => h_ ho_)) rfl)) ⟨hb1, trivial⟩ rfl ?_
  refine Tqs ttHb1 7 [12] [] (fun _ _ => trivial) ⟨hb1, trivial⟩ rfl ?_
  refine T_takeA (i := 13) rfl (by kernel_rfl) (by kernel_rfl) (by kernel_rfl) (by kernel_rfl) (Y_yes rfl rfl rfl (by rw [hd_]; simp) (fun _ ⟨hb1, _⟩ => R_move rfl)) ⟨hb1, trivial⟩ rfl ?_
  refine T_takeA (i := 14) rfl (by kernel_rfl) (by kernel_rfl) (by kernel_rfl) (by kernel_rfl) (Y_yes rfl rfl rfl (by rw [hd_]; simp) (fun _ ⟨hb1, _⟩ => R_lenSl rfl slc22)) ⟨hb1, trivial⟩ rfl ?_
  refine T_takeA (i := 15) rfl (by kernel_rfl) (by kernel_rfl) (by kernel_rfl) (by kernel_rfl) (Y_yes rfl rfl rfl (by rw [hd_]; simp) (fun _ ⟨hb1, _⟩ => R_field (r := 0) rfl fld36_0 rfl)) ⟨hb1, trivial⟩ rfl ?_
  refine T_takeA (i := 16) rfl (by kernel_rfl) (by kernel_rfl) (by kernel_rfl) (by kernel_rfl) (Y_yes rfl rfl rfl (by rw [hd_]; simp) (fun _ ⟨hb1, _⟩ => R_load1 rfl scl34 (hb1.cell (i := 0) rfl))) ⟨hb1, trivial⟩ rfl ?_
  refine T_takeA (i := 17) rfl (by kernel_rfl) (by kernel_rfl) (by kernel_rfl) (by kernel_rfl) (Y_yes rfl rfl rfl (by rw [hd_]; simp) (fun _ ⟨hb1, _⟩ => R_lenSl rfl slc34)) ⟨hb1, trivial⟩ rfl ?_
  refine T_takeA (i := 18) rfl (by kernel_rfl) (by kernel_rfl) (by kernel_rfl) (by kernel_rfl) (Y_yes rfl rfl rfl (by rw [hd_]; simp) (fun _ ⟨hb1, _⟩ => R_neq rfl rfl)) ⟨hb1, trivial⟩ rfl ?_
  refine T_takeA (i := 19) rfl (by kernel_rfl) (by kernel_rfl) (by kernel_rfl) (by kernel_rfl) (Y_of (fun _ ⟨hb1, _⟩ => R_pickF rfl (by rw [hd_]; simp) rfl)) ⟨hb1, trivial⟩ rfl ?_
  refine T_done (by kernel_rfl) (CalmE.normal ?_)
  refine Qec ttHb1 1 [] rfl ?_
  refine Clit (t := 28) rfl (decide_eq_false (by omega)) ?_
  refine Qcc ttHb1 10 [] rfl ?_
  refine C_loop (fun m_ a_ w_ => ∃ (σ_ : Nat → Value) (i : Nat), a_ = Ac 67 σ_ [] [(0, .pointer (some ⟨d.gd, 0, none⟩)), (3, .pointer (some ⟨g1, 0, none⟩)), (4, .bool false), (5, .slice A_1 ls1.length c_1), (6, .int .i64 (i : Int))] ∧ w.grownBy w_ none ∧ DiskAt S w_ d ∧ RAt (lowU U w) w_ r ∧ Sli 92 0 w.heap.size w_ r.A (fl encRF r.rs) ∧ DeepRF w_ r.rs ∧ Blk w_ g1 36 [.slice r.A r.rs.length r.c, .int .i64 r.cap, .int .i64 r.ops, .bool r.dn, .bool r.tl, .int .i64 r.af] ∧ World.ownsRow w_ w1.heap.size 29 2 (.slice A_1 ls1.length c_1) ls1.length (fl encFR ls1) ∧ DeepFR w_ ls1 ∧ (i ≤ ls1.length) ∧ ls1.length - i = m_) (ls1.length - 0) ?_ ?_
  · exact ⟨_, 0, Ac_frg ⟨rfl, rfl, rfl, rfl, (agr rfl (by first | rfl | (congr 1; omega) | (congr 1; simp; done) | (congr 1; simp only [IntKind.wrap_u64, IntKind.wrap_i64, IntKind.wrap_u8]; omega) | (congr 1 <;> omega))), trivial⟩, hB, hDk, hRc, hS, hd, hb1, ho1, hdp1, (by omega), rfl⟩
  · clear hB
    clear hDk hRc hS hd hb1 ho1 hdp1
    rintro m_ a_ w6 ⟨σ_, i, rfl, hB, hDk, hRc, hS, hd, hb1, ho1, hdp1, hi_, rfl⟩
    refine Q0c ?_
    have hat_ := fun (h1_ : i < ls1.length) (h2_ : i < r.rs.length) => map_at hme_ h1_ h2_
    refine Qcc ttHb1 9 [] rfl ?_
    refine C_if rfl (fun h1 => ?_) (fun h1 => ?_)
    · refine Qcc ttHb1 5 [] rfl ?_
      refine C_draw2 rfl mix ?_
      intro w7 hs6 hz3
      replace hB := gb_tr hB hs6
      replace hDk := hDk.gb hs6
      replace hRc := hRc.gb hs6
      replace hS := hS.gb hs6
      replace hd := hd.gb hs6
      replace hb1 := hb1.gb hs6
      replace ho1 := own_gb ho1 hs6
      replace hdp1 := hdp1.gb hs6
      have hl1 : i < ls1.length := by first | omega | (simp; done) | (simp; omega)
      obtain ⟨g2, o1, r1, eA1, er1, ha1⟩ := Sli.place' (xs := ls1) (i := i) EncFR (own_of ho1).2.2 hl1 rfl
      have hl2 : i < r.rs.length := by first | omega | (simp; done) | (simp; omega)
      obtain ⟨g3, o2, r2, eA2, er2, ha2⟩ := Sli.place' (xs := r.rs) (i := i) EncRF hS hl2 rfl
      refine ⟨fun W_ => Blk W_ g1 36 [.slice r.A r.rs.length r.c, .int .i64 r.cap, .int .i64 r.ops, .bool r.dn, .bool r.tl, .int .i64 r.af] ∧ At W_ g2 r1 [.string ((ls1[i]).nm), .slice ((ls1[i]).a) ((ls1[i]).ss.length) ((ls1[i]).c)] ∧ At W_ g3 r2 [.string ((r.rs[i]).nm), .slice ((r.rs[i]).la) ((r.rs[i]).las.length) ((r.rs[i]).lc), .slice ((r.rs[i]).sa) ((r.rs[i]).seen.length) ((r.rs[i]).sc), .slice ((r.rs[i]).wa) ((r.rs[i]).wts.length) ((r.rs[i]).wc)] ∧ True, [0, 1, 2, 3, 4, 5, 6, 7, 8, 9, 10, 11, 12, 13, 14, 15, 16, 17, 18, 19, 20, 21, 22, 23, 25, 26], ?_⟩
      refine Tqs ttHb1 25 [0, 1] [] (fun _ _ => trivial) ⟨hb1, ha1, ha2, trivial⟩ rfl ?_
      refine T_takeA (i := 2) rfl (by kernel_rfl) (by kernel_rfl) (by kernel_rfl) (by kernel_rfl) (Y_of (fun _ ⟨hb1, ha1, ha2, _⟩ => R_indexE rfl rfl (by first | rfl | omega) slc22 hl1 eA1 er1)) ⟨hb1, ha1, ha2, trivial⟩ rfl ?_
      refine Tqs ttHb1 23 [3] [] (fun _ _ => trivial) ⟨hb1, ha1, ha2, trivial⟩ rfl ?_
      refine T_takeA (i := 4) rfl (by kernel_rfl) (by kernel_rfl) (by kernel_rfl) (by kernel_rfl) (Y_of (fun _ ⟨hb1, ha1, ha2, _⟩ => R_load1 rfl scl9 (ha1 0 _ rfl))) ⟨hb1, ha1, ha2, trivial⟩ rfl ?_
      refine Tqs ttHb1 19 [5, 6, 7] [kd hb1] (fun _ ⟨hb1, ha1, ha2, _⟩ => ⟨hb1, trivial⟩) ⟨hb1, ha1, ha2, trivial⟩ rfl ?_
      refine T_takeA (i := 8) rfl (by kernel_rfl) (by kernel_rfl) (by kernel_rfl) (by kernel_rfl) (Y_of (fun _ ⟨hb1, ha1, ha2, _⟩ => R_indexE rfl rfl (by first | rfl | omega) slc34 hl2 eA2 er2)) ⟨hb1, ha1, ha2, trivial⟩ rfl ?_
      refine Tqs ttHb1 17 [9] [] (fun _ _ => trivial) ⟨hb1, ha1, ha2, trivial⟩ rfl ?_
      refine T_takeA (i := 10) rfl (by kernel_rfl) (by kernel_rfl) (by kernel_rfl) (by kernel_rfl) (Y_of (fun _ ⟨hb1, ha1, ha2, _⟩ => R_load1 rfl scl9 (ha2 0 _ rfl))) ⟨hb1, ha1, ha2, trivial⟩ rfl ?_
      refine Tqs ttHb1 14 [11, 12] [] (fun _ _ => trivial) ⟨hb1, ha1, ha2, trivial⟩ rfl ?_
      refine T_takeA (i := 13) rfl (by kernel_rfl) (by kernel_rfl) (by kernel_rfl) (by kernel_rfl) (Y_yes rfl rfl rfl (decide_eq_false (fun hn => hn (hat_ (by omega) (by omega)).1)) (fun _ ⟨hb1, ha1, ha2, _⟩ => R_move rfl)) ⟨hb1, ha1, ha2, trivial⟩ rfl ?_
      refine T_takeA (i := 14) rfl (by kernel_rfl) (by kernel_rfl) (by kernel_rfl) (by kernel_rfl) (Y_yes rfl rfl rfl (decide_eq_false (fun hn => hn (hat_ (by omega) (by omega)).1)) (fun _ ⟨hb1, ha1, ha2, _⟩ => R_move rfl)) ⟨hb1, ha1, ha2, trivial⟩ rfl ?_
      refine T_takeA (i := 15) rfl (by kernel_rfl) (by kernel_rfl) (by kernel_rfl) (by kernel_rfl) (Y_yes rfl rfl rfl (decide_eq_false (fun hn => hn (hat_ (by omega) (by omega)).1)) (fun _ ⟨hb1, ha1, ha2, _⟩ => R_indexE rfl rfl (by first | rfl | omega) slc22 hl1 eA1 er1)) ⟨hb1, ha1, ha2, trivial⟩ rfl ?_
      refine T_takeA (i := 16) rfl (by kernel_rfl) (by kernel_rfl) (by kernel_rfl) (by kernel_rfl) (Y_yes rfl rfl rfl (decide_eq_false (fun hn => hn (hat_ (by omega) (by omega)).1)) (fun _ ⟨hb1, ha1, ha2, _⟩ => R_field rfl fld29_1 rfl)) ⟨hb1, ha1, ha2, trivial⟩ rfl ?_
      refine T_takeA (i := 17) rfl (by kernel_rfl) (by kernel_rfl) (by kernel_rfl) (by kernel_rfl) (Y_yes rfl rfl rfl (decide_eq_false (fun hn => hn (hat_ (by omega) (by omega)).1)) (fun _ ⟨hb1, ha1, ha2, _⟩ => R_load1 rfl scl27 (ha1 1 _ rfl))) ⟨hb1, ha1, ha2, trivial⟩ rfl ?_
      refine T_takeA (i := 18) rfl (by kernel_rfl) (by kernel_rfl) (by kernel_rfl) (by kernel_rfl) (Y_yes rfl rfl rfl (decide_eq_false (fun hn => hn (hat_ (by omega) (by omega)).1)) (fun _ ⟨hb1, ha1, ha2, _⟩ => R_field (r := 0) rfl fld36_0 rfl)) ⟨hb1, ha1, ha2, trivial⟩ rfl ?_
      refine T_takeA (i := 19) rfl (by kernel_rfl) (by kernel_rfl) (by kernel_rfl) (by kernel_rfl) (Y_yes rfl rfl rfl (decide_eq_false (fun hn => hn (hat_ (by omega) (by omega)).1)) (fun _ ⟨hb1, ha1, ha2, _⟩ => R_load1 rfl scl34 (hb1.cell (i := 0) rfl))) ⟨hb1, ha1, ha2, trivial⟩ rfl ?_
      refine T_takeA (i := 20) rfl (by kernel_rfl) (by kernel_rfl) (by kernel_rfl) (by kernel_rfl) (Y_yes rfl rfl rfl (decide_eq_false (fun hn => hn (hat_ (by omega) (by omega)).1)) (fun _ ⟨hb1, ha1, ha2, _⟩ => R_move rfl)) ⟨hb1, ha1, ha2, trivial⟩ rfl ?_
      refine T_takeA (i := 21) rfl (by kernel_rfl) (by kernel_rfl) (by kernel_rfl) (by kernel_rfl) (Y_yes rfl rfl rfl (decide_eq_false (fun hn => hn (hat_ (by omega) (by omega)).1)) (fun _ ⟨hb1, ha1, ha2, _⟩ => R_indexE rfl rfl (by first | rfl | omega) slc34 hl2 eA2 er2)) ⟨hb1, ha1, ha2, trivial⟩ rfl ?_
      refine T_takeA (i := 22) rfl (by kernel_rfl) (by kernel_rfl) (by kernel_rfl) (by kernel_rfl) (Y_yes rfl rfl rfl (decide_eq_false (fun hn => hn (hat_ (by omega) (by omega)).1)) (fun _ ⟨hb1, ha1, ha2, _⟩ => R_field rfl fld92_1 rfl)) ⟨hb1, ha1, ha2, trivial⟩ rfl ?_
      refine T_takeA (i := 23) rfl (by kernel_rfl) (by kernel_rfl) (by kernel_rfl) (by kernel_rfl) (Y_yes rfl rfl rfl (decide_eq_false (fun hn => hn (hat_ (by omega) (by omega)).1)) (fun _ ⟨hb1, ha1, ha2, _⟩ => R_load1 rfl scl27 (ha2 1 _ rfl))) ⟨hb1, ha1, ha2, trivial⟩ rfl ?_
      refine T_all (rs := [24]) (by kernel_rfl) rfl (all1 (O_one rfl ?_))
      refine L_yes rfl rfl rfl (decide_eq_false (fun hn => hn (hat_ (by omega) (by omega)).1)) ?_
      have hir_ : i < r.rs.length := by omega
      have hse_ := (hat_ (by omega) hir_).2
      refine L_call rfl cb47 (same06_ok (ss1 := (ls1[i]).ss) (ss2 := (r.rs[i]).las) (hdp1.get (i := i) (by first | assumption | omega | (simp; omega))) (hd.getL (i := i) (by first | assumption | omega | (simp; omega))) hse_ (by have h_ := seenR_le (List.getElem_mem hir_); have h2_ := (hR0.hd _ (List.getElem_mem hir_)).le; have h3_ := hR0.hu; rw [hse_]; omega)) rfl ?_
      rintro _ w8 ⟨hs7, rfl⟩
      replace hB := gb_tr hB hs7
      replace hDk := hDk.gb hs7
      replace hRc := hRc.gb hs7
      replace hS := hS.gb hs7
      replace hd := hd.gb hs7
      replace hb1 := hb1.gb hs7
      replace ho1 := own_gb ho1 hs7
      replace hdp1 := hdp1.gb hs7
      replace ha1 := At.gb ha1 hs7 (by simp)
      replace ha2 := At.gb ha2 hs7 (by simp)
      refine L_nil (N_then ⟨fun hN_ => ⟨hb1, ha1, ha2, trivial⟩, ?_⟩)
      refine T_takeA (i := 25) rfl (by kernel_rfl) (by kernel_rfl) (by kernel_rfl) (by kernel_rfl) (Y_yes rfl rfl rfl (decide_eq_false (fun hn => hn (hat_ (by omega) (by omega)).1)) (fun _ ⟨hb1, ha1, ha2, _⟩ => R_not rfl)) ⟨hb1, ha1, ha2, trivial⟩ rfl ?_
      refine T_takeA (i := 26) rfl (by kernel_rfl) (by kernel_rfl) (by kernel_rfl) (by kernel_rfl) (Y_of (fun _ ⟨hb1, ha1, ha2, _⟩ => R_pickF rfl (decide_eq_false (fun hn => hn (hat_ (by omega) (by omega)).1)) rfl)) ⟨hb1, ha1, ha2, trivial⟩ rfl ?_
      refine T_done (by kernel_rfl) (CalmE.normal ?_)
      refine Qee ttHb1 10 [] rfl ?_
      refine Nl ?_
      exact ⟨ls1.length - (i + 1), by omega, _, (i + 1), Ac_frg ⟨rfl, rfl, rfl, rfl, (agr rfl (by first | rfl | (congr 1; omega) | (congr 1; simp; done) | (congr 1; simp only [IntKind.wrap_u64, IntKind.wrap_i64, IntKind.wrap_u8]; omega) | (congr 1 <;> omega))), trivial⟩, hB, hDk, hRc, hS, hd, hb1, ho1, hdp1, (by omega), rfl⟩
    · refine Qce ttHb1 2 [] rfl ?_
      refine Xl ?_
      refine Qec ttHb1 3 [] rfl ?_
      refine C_draw2 rfl mix ?_
      intro w9 hs8 hz4
      replace hB := gb_tr hB hs8
      replace hDk := hDk.gb hs8
      replace hRc := hRc.gb hs8
      replace hS := hS.gb hs8
      replace hd := hd.gb hs8
      replace hb1 := hb1.gb hs8
      replace ho1 := own_gb ho1 hs8
      replace hdp1 := hdp1.gb hs8
      refine ⟨fun W_ => Blk W_ g1 36 [.slice r.A r.rs.length r.c, .int .i64 r.cap, .int .i64 r.ops, .bool r.dn, .bool r.tl, .int .i64 r.af] ∧ True, [0, 2, 4, 5], ?_⟩
      refine Tqs ttHb1 4 [0, 2] [kd hb1] (fun _ ⟨hb1, _⟩ => ⟨hb1, trivial⟩) ⟨hb1, trivial⟩ rfl ?_
      refine T_all (rs := [1]) (by kernel_rfl) rfl (all1 (O_one rfl ?_))
      refine L_call rfl cb68 (count_ok hDk (PI.nml hI)) rfl ?_
      rintro _ w10 ⟨hs9, rfl⟩
      replace hB := gb_tr hB hs9
      replace hDk := hDk.gb hs9
      replace hRc := hRc.gb hs9
      replace hS := hS.gb hs9
      replace hd := hd.gb hs9
      replace hb1 := hb1.gb hs9
      replace ho1 := own_gb ho1 hs9
      replace hdp1 := hdp1.gb hs9
      refine L_nil (N_then ⟨fun hN_ => ⟨hb1, trivial⟩, ?_⟩)
      refine T_all (rs := [3]) (by kernel_rfl) rfl (all1 (O_one rfl ?_))
      refine L_call rfl cb79 (rcount_ok hRc) rfl ?_
      rintro _ w11 ⟨hs10, rfl⟩
      replace hB := gb_tr hB hs10
      replace hDk := hDk.gb hs10
      replace hRc := hRc.gb hs10
      replace hS := hS.gb hs10
      replace hd := hd.gb hs10
      replace hb1 := hb1.gb hs10
      replace ho1 := own_gb ho1 hs10
      replace hdp1 := hdp1.gb hs10
      refine L_nil (N_then ⟨fun hN_ => ⟨hb1, trivial⟩, ?_⟩)
      refine Tqs ttHb1 0 [4, 5] [] (fun _ _ => trivial) ⟨hb1, trivial⟩ rfl ?_
      refine T_done (by kernel_rfl) (CalmE.normal ?_)
      refine Qee ttHb1 2 [] rfl ?_
      refine ret1 Try.results42 rfl ?_
      exact ⟨hB, bT' (by have h_ := cnt_eq (fs := d.pd.fs) (by rw [show d.pd.fs.map PF.nm = d.fs.map FM.nm from nms_pf]; exact hD.hR) hI.pos; rw [show d.pd.fs.map PF.nm = d.fs.map FM.nm from nms_pf] at h_; rw [h_, he])⟩
end Go.Proofs.Ytoipncaopdmicaa
namespace Go.Proofs.Ytoipncaopdmicaa
open Go.RowKit Gw Pl
set_option linter.unusedVariables false
set_option linter.unusedSimpArgs false
theorem cb13 : callB Try.prog 13 = true := by kernel_rfl
theorem cb32 : callB Try.prog 32 = true := by kernel_rfl
def tabHc1 : TT := { fld := [], scl := [], agg := [], str := [], slc := [], ptr := [], cv := [] }
theorem ttHc1 : TOk Try.prog tabHc1 := TT.ok_of (by kernel_rfl)
structure ActD where
  k : Int
  nm : ByteArray
  n : Int
def encAct (x : ActD) : List Value := [.int .u64 x.k, .string x.nm, .int .i64 x.n]
theorem EncAct : Enc encAct 3 := ⟨fun _ => rfl, fun _ => rfl⟩
def GoodAct (x : ActD) : Prop := (Lit.int .u64 x.k).wf = true ∧ x.nm.size ≤ 140737488351232 ∧ (Lit.int .i64 x.n).wf = true
theorem gb_out {S : Nat → Prop} {w w1 w2 : World} (hB : w.grownBy w1 none) (hO : Out S w1 w2) (hge : ∀ k, S k → w.heap.size ≤ k) : w.grownBy w2 none := ((Out.of_gb (S := fun _ => False) hB).trans hO fun k hk => .inr (hge k hk)).no
theorem take_g {S : Nat → Prop} {w : World} {d : DK} {g0 : Nat} (hD : DiskAt S w d) (hg : d.gd = g0) : Runs Try.prog 32 #[.pointer (some ⟨g0, 0, none⟩)] w (fun v w' => ∃ d', Did S w w' d d' ∧ d'.pd = d.pd.take.1 ∧ v = .tuple #[.string d.pd.take.2.1, .int .i64 d.pd.take.2.2]) := by subst hg; exact take_ok hD
theorem give_g {S : Nat → Prop} {w : World} {d : DK} {g0 : Nat} (hD : DiskAt S w d) (hg : d.gd = g0) {nm : ByteArray} : Runs Try.prog 34 #[.pointer (some ⟨g0, 0, none⟩), .string nm] w (fun v w' => ∃ d', Did S w w' d d' ∧ d'.pd = (d.pd.give nm).1 ∧ v = .int .i64 (d.pd.give nm).2) := by subst hg; exact give_ok hD
theorem spare_g {S : Nat → Prop} {w : World} {d : DK} {g0 : Nat} (hD : DiskAt S w d) (hg : d.gd = g0) : Runs Try.prog 36 #[.pointer (some ⟨g0, 0, none⟩)] w (fun v w' => ∃ d', Did S w w' d d' ∧ d'.pd = d.pd.spare.1 ∧ v = .int .i64 d.pd.spare.2) := by subst hg; exact spare_ok hD
theorem fail_g {S : Nat → Prop} {w : World} {d : DK} {g0 : Nat} (hD : DiskAt S w d) (hg : d.gd = g0) {n : Int} (hnr : i64r n) : Runs Try.prog 23 #[.pointer (some ⟨g0, 0, none⟩), .int .i64 n] w (fun v w' => ∃ d', Did S w w' d d' ∧ d'.pd = (d.pd.fail n).1 ∧ v = .int .i64 (d.pd.fail n).2) := by subst hg; exact fail_ok hD hnr
def After1 (w : World) (g0 : Nat) (w2 : World) (q : PD) : Prop := ∃ S2 d2, DiskAt S2 w2 d2 ∧ d2.gd = g0 ∧ w.grownBy w2 none ∧ (∀ k, S2 k → w.heap.size ≤ k) ∧ d2.pd = q
def After (w : World) (g0 : Nat) (r : RK) (g t : Nat) (cs : List Value) (w2 : World) (q : PD) : Prop := ∃ S2 d2, DiskAt S2 w2 d2 ∧ d2.gd = g0 ∧ w.grownBy w2 none ∧ (∀ k, S2 k → w.heap.size ≤ k) ∧ RAt (fun k => ¬ S2 k) w2 r ∧ Blk w2 g t cs ∧ ¬ S2 g ∧ d2.pd = q ∧ PI q
section
variable {S : Nat → Prop} {w w1 w2 : World} {d : DK} {r : RK} {g0 g t : Nat} {cs : List Value} {p q : PD} {nm : ByteArray} {n : Int}
theorem play_1 {d' : DK} (hB : w.grownBy w1 none) (hge : ∀ k, S k → w.heap.size ≤ k) (hg : d.gd = g0) (h : Did S w1 w2 d d') (e : d'.pd = q) : After1 w g0 w2 q := by
  obtain ⟨S2, hA, e1, hO, hE⟩ := h
  exact ⟨S2, d', hA, e1.trans hg, gb_out hB hO hge, fun k hk => (hE k hk).elim (hge k) (fun h => Nat.le_trans hB.size h), e⟩
theorem play_d {d' : DK} (hB : w.grownBy w1 none) (hge : ∀ k, S k → w.heap.size ≤ k) (hg : d.gd = g0) (hR : RAt (fun k => ¬ S k) w1 r) (hb : Blk w1 g t cs) (hn : ¬ S g) (h : Did S w1 w2 d d') (e : d'.pd = q) (hI : PI q) : After w g0 r g t cs w2 q := by
  obtain ⟨S2, hA, e1, hO, hE⟩ := h
  have hlt := hb.lt
  exact ⟨S2, d', hA, e1.trans hg, gb_out hB hO hge, fun k hk => (hE k hk).elim (hge k) (fun h => Nat.le_trans hB.size h),
    (hR.low.out (fun k hk => hk.1) hO).up (fun k hk h => (hE k h).elim hk.1 (fun h => by have := hk.2; omega)), Blk.out hb hO hn, fun h => (hE g h).elim hn (fun h => by omega), e, hI⟩
variable (hB : w.grownBy w1 none) (hge : ∀ k, S k → w.heap.size ≤ k) (hD : DiskAt S w1 d) (hg : d.gd = g0) (hR : RAt (fun k => ¬ S k) w1 r) (hb : Blk w1 g t cs) (hn : ¬ S g) (hp : d.pd = p) (hI : PI p)
include hB hge hD hg hR hb hn hp hI
theorem take_p : Runs Try.prog 32 #[.pointer (some ⟨g0, 0, none⟩)] w1 (fun v w2 => After w g0 r g t cs w2 p.take.1 ∧ v = .tuple #[.string p.take.2.1, .int .i64 p.take.2.2]) := by
  subst hp; refine (take_g hD hg).mono fun v w2 ⟨d', h, e, hv⟩ => ⟨play_d hB hge hg hR hb hn h e hI.take, hv⟩
theorem give_p : Runs Try.prog 34 #[.pointer (some ⟨g0, 0, none⟩), .string nm] w1 (fun v w2 => After w g0 r g t cs w2 (p.give nm).1 ∧ v = .int .i64 (p.give nm).2) := by
  subst hp; refine (give_g hD hg).mono fun v w2 ⟨d', h, e, hv⟩ => ⟨play_d hB hge hg hR hb hn h e hI.give, hv⟩
theorem spare_p : Runs Try.prog 36 #[.pointer (some ⟨g0, 0, none⟩)] w1 (fun v w2 => After w g0 r g t cs w2 p.spare.1 ∧ v = .int .i64 p.spare.2) := by
  subst hp; refine (spare_g hD hg).mono fun v w2 ⟨d', h, e, hv⟩ => ⟨play_d hB hge hg hR hb hn h e hI.spare, hv⟩
theorem clean_p : Runs Try.prog 38 #[.pointer (some ⟨g0, 0, none⟩)] w1 (fun v w2 => After w g0 r g t cs w2 p.clean2.1 ∧ v = .int .i64 p.clean2.2) := by
  subst hp
  have he : d.pd.clean = d.pd.clean2 := clean_eq (by rw [show d.pd.fs.map PF.nm = d.fs.map FM.nm from nms_pf]; exact hD.hR) hI.pos
  refine (by subst hg; rw [← he]; exact clean_ok hD hI.nml : Runs Try.prog 38 #[.pointer (some ⟨g0, 0, none⟩)] w1 (fun v w' => ∃ d', Did S w1 w' d d' ∧ d'.pd = d.pd.clean2.1 ∧ v = .int .i64 d.pd.clean2.2)).mono fun v w2 ⟨d', h, e, hv⟩ => ⟨play_d hB hge hg hR hb hn h e hI.clean, hv⟩
theorem make_p (hl : nm.size ≤ 9000000000000000000) : Runs Try.prog 18 #[.pointer (some ⟨g0, 0, none⟩), .string nm, .int .i64 n] w1 (fun v w2 => After w g0 r g t cs w2 (p.make nm n).1 ∧ v = .int .i64 (p.make nm n).2) := by
  subst hp; refine (make_g hD hg hl).mono fun v w2 ⟨d', h, e, hv⟩ => ⟨play_d hB hge hg hR hb hn h e hI.make, hv⟩
theorem fail_p (hnr : i64r n) : Runs Try.prog 23 #[.pointer (some ⟨g0, 0, none⟩), .int .i64 n] w1 (fun v w2 => After w g0 r g t cs w2 (p.fail n).1 ∧ v = .int .i64 (p.fail n).2) := by
  subst hp; refine (fail_g hD hg hnr).mono fun v w2 ⟨d', h, e, hv⟩ => ⟨play_d hB hge hg hR hb hn h e hI.fail, hv⟩
end
theorem same_g {U S : Nat → Prop} {w : World} {d : DK} {r : RK} {g0 : Nat} (hD : DiskAt S w d) (hg : d.gd = g0) (hR : RAt U w r) (he : d.pd = r.pd) (hI : PI d.pd) : Runs Try.prog 42 #[.pointer (some ⟨g0, 0, none⟩), .agg r.cs.toArray] w (fun v w' => w.grownBy w' none ∧ v = .bool true) := by subst hg; exact same_ok hD hR he hI
theorem take_1 {S : Nat → Prop} {w w1 : World} {d : DK} {p : PD} (hB : w.grownBy w1 none) (hge : ∀ k, S k → w.heap.size ≤ k) (hD : DiskAt S w1 d) (hp : d.pd = p) : Runs Try.prog 32 #[.pointer (some ⟨d.gd, 0, none⟩)] w1 (fun v w2 => After1 w d.gd w2 p.take.1 ∧ v = .tuple #[.string p.take.2.1, .int .i64 p.take.2.2]) := by
  subst hp; exact (take_ok hD).mono fun v w2 ⟨d', h, e, hv⟩ => ⟨play_1 hB hge rfl h e, hv⟩
def p40 : PD := ⟨[], 40, 0, 0, false, false⟩
theorem p40_0 : (⟨[], max 0 (min 40 1048576), 0, 0, false, false⟩ : PD) = p40 := rfl
theorem p40_1 : p40.take.2.2 = 0 := by decide +kernel
theorem p40_2 : p40.take.2.1 = ⟨#[102, 114, 101, 101, 45, 49]⟩ := by decide +kernel
theorem p40_3 : sizeP p40.take.1.fs p40.take.2.1 = 17 := by decide +kernel
theorem p40_4 : cntP p40.take.1.fs (p40.take.1.fs.map PF.nm) = 1 := by decide +kernel
theorem p40_5 : PI p40.take.1 := (show PI p40 from fun f hf => by cases hf).take
theorem size_g {S : Nat → Prop} {w : World} {d : DK} {g0 : Nat} {p : PD} {nm : ByteArray} (hD : DiskAt S w d) (hg : d.gd = g0) (hp : d.pd = p) : Runs Try.prog 24 #[.pointer (some ⟨g0, 0, none⟩), .string nm] w (fun v w' => w.grownBy w' none ∧ v = .int .i64 (sizeP p.fs nm : Int)) := by subst hg; subst hp; exact size_ok hD
theorem count_g {S : Nat → Prop} {w : World} {d : DK} {g0 : Nat} {p : PD} (hD : DiskAt S w d) (hg : d.gd = g0) (hp : d.pd = p) (hI : PI p) : Runs Try.prog 68 #[.pointer (some ⟨g0, 0, none⟩)] w (fun v w' => w.grownBy w' none ∧ v = .int .i64 ((cntP p.fs (p.fs.map PF.nm) : Nat) : Int)) := by
  subst hg; subst hp
  rw [show d.pd.fs.map PF.nm = d.fs.map FM.nm from nms_pf]
  exact count_ok hD hI.nml
theorem awake_ok {w : World} :
    Runs Try.prog 31 #[] w (fun v w' => w.grownBy w' none ∧ v = .bool true) := by
  have hB := gb_refl w none
  refine enterQ Try.func31 Try.ntmps31 rfl rfl ?_
  refine Qco ttHc1 7 [] rfl ?_
  have hsz0_ := hB.size
  refine L_call rfl cb13 (new_ok (c := 40)) rfl ?_
  rintro _ w1 ⟨hs1, S1, dk1, hD1, hge1, rfl, hpd1⟩
  replace hB := gb_tr hB hs1
  refine Qoo ttHc1 6 [] rfl ?_
  refine L_call rfl cb32 (take_1 hB (fun k_ hk_ => Nat.le_trans hsz0_ (hge1 k_ hk_)) hD1 (hpd1.trans p40_0)) rfl ?_
  rintro _ w2 ⟨⟨S2, dk2, hD2, hgd1, hB1, hge2, hpd2⟩, rfl⟩
  replace hB := hB1
  refine Qoo ttHc1 12 [] rfl ?_
  refine Llit (t := 12) rfl (decide_eq_true p40_1) ?_
  refine Qoo ttHc1 4 [] rfl ?_
  refine Llit (t := 16) rfl (decide_eq_true p40_2) ?_
  refine Qoo ttHc1 2 [] rfl ?_
  refine L_yes rfl rfl rfl rfl ?_
  refine L_call rfl cb24 (size_g (nm := p40.take.2.1) hD2 hgd1 hpd2) rfl ?_
  rintro _ w3 ⟨hs2, rfl⟩
  replace hB := gb_tr hB hs2
  replace hD2 := hD2.gb hs2
  refine Qoo ttHc1 3 [] rfl ?_
  refine Llit (t := 22) rfl (decide_eq_true (congrArg Int.ofNat p40_3)) ?_
  refine Qoo ttHc1 1 [] rfl ?_
  refine L_yes rfl rfl rfl rfl ?_
  refine L_call rfl cb68 (count_g hD2 hgd1 hpd2 p40_5) rfl ?_
  rintro _ w4 ⟨hs3, rfl⟩
  replace hB := gb_tr hB hs3
  replace hD2 := hD2.gb hs3
  refine Qoe ttHc1 6 [] rfl ?_
  refine ret1 Try.results31 rfl ?_
  exact ⟨hB, bT' (by rw [p40_4]; rfl)⟩
end Go.Proofs.Ytoipncaopdmicaa
