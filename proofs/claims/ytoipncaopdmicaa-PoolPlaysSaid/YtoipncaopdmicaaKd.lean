import Derived.Test.YtoipncaopdmicaaKc
/-
  What the law's proof stands on, part 4.
-/
namespace Go.Proofs.Ytoipncaopdmicaa
open Go.RowKit Gw Pl
set_option linter.unusedVariables false
set_option linter.unusedSimpArgs false
theorem cb44 : callB Try.prog 44 = true := by kernel_rfl
theorem cb45 : callB Try.prog 45 = true := by kernel_rfl
theorem cb76 : callB Try.prog 76 = true := by kernel_rfl
theorem cb90 : callB Try.prog 90 = true := by kernel_rfl
theorem sz9 : szB Try.prog 9 1 = true := by kernel_rfl
theorem sz92 : szB Try.prog 92 4 = true := by kernel_rfl
def tabFd : TT := { fld := [(36, 0, 0), (36, 1, 1), (36, 3, 3), (92, 0, 0)], scl := [3, 4, 34], agg := [(36, 6), (92, 4)], str := [], slc := [], ptr := [], cv := [] }
theorem ttFd : TOk Try.prog tabFd := TT.ok_of (by kernel_rfl)
theorem ref05_in {w : World} {cs : List UInt8} {c : UInt8} (hl : cs.length ≤ 9000000000000000000) :
    Runs Try.prog 90 #[.string (⟨cs.toArray⟩), .int .u8 (c.toNat : Int)] w (fun v w' => w.grownBy w' none ∧ v = .bool (decide (c ∈ cs))) := by
  have hB := gb_refl w none
  refine enterQ Try.func90 Try.ntmps90 rfl rfl ?_
  refine Qcc ttFd 12 [] rfl ?_
  refine C_loop (fun m_ a_ w_ => ∃ (σ_ : Nat → Value) (k : Nat), a_ = Ac 17 σ_ [] [(0, .string (⟨cs.toArray⟩)), (1, .int .u8 (c.toNat : Int)), (4, .bool false), (5, .int .i64 (k : Int))] ∧ w.grownBy w_ none ∧ (k ≤ cs.length) ∧ (¬ c ∈ cs.take k) ∧ cs.length - k = m_) (cs.length - 0) ?_ ?_
  · exact ⟨_, 0, Ac_frg ⟨rfl, rfl, rfl, (agr rfl (by first | rfl | (congr 1; omega) | (congr 1; simp; done) | (congr 1; simp only [IntKind.wrap_u64, IntKind.wrap_i64, IntKind.wrap_u8]; omega) | (congr 1 <;> omega))), trivial⟩, hB, (by omega), (by simp), rfl⟩
  · clear hB
    rintro m_ a_ w1 ⟨σ_, k, rfl, hB, hk, hall, rfl⟩
    refine Q0c ?_
    refine Qco ttFd 5 [] rfl ?_
    refine L_run (R_eqv (R_lenS rfl str9) (v' := .int .i64 (cs.length : Int)) (by rw [ba_size])) rfl ?_
    refine Qoc ttFd 3 [] rfl ?_
    refine C_if rfl (fun h1 => ?_) (fun h1 => ?_)
    · refine Qco ttFd 8 [] rfl ?_
      have hk1 : k < cs.length := by first | omega | (simp; omega)
      refine L_run (R_indexS (cs := cs) (a := (k : Int)) (i := k) rfl rfl (by first | rfl | omega) str9 hk1) rfl ?_
      refine Qoc ttFd 4 [] rfl ?_
      refine C_if rfl (fun h2 => ?_) (fun h2 => ?_)
      · refine Qce ttFd 8 [] rfl ?_
        refine Rl ?_
        refine Qee ttFd 2 [] rfl ?_
        refine ret1 Try.results90 rfl ?_
        exact ⟨hB, bT (in_here hk1 (by assumption))⟩
      · refine Qce ttFd 8 [] rfl ?_
        refine Nl ?_
        exact ⟨cs.length - (k + 1), by omega, _, (k + 1), Ac_frg ⟨rfl, rfl, rfl, (agr rfl (by first | rfl | (congr 1; omega) | (congr 1; simp; done) | (congr 1; simp only [IntKind.wrap_u64, IntKind.wrap_i64, IntKind.wrap_u8]; omega) | (congr 1 <;> omega))), trivial⟩, hB, (by omega), (notin_succ hall hk1 (by assumption)), rfl⟩
    · refine Qce ttFd 2 [] rfl ?_
      refine Xl ?_
      refine Qee ttFd 8 [] rfl ?_
      refine ret1 Try.results90 rfl ?_
      rw [List.take_of_length_le (by omega)] at hall; exact ⟨hB, bF hall⟩
theorem ref05_Right {w : World} {cs : List UInt8} (hl : cs.length ≤ 9000000000000000000) :
    Runs Try.prog 76 #[.string (⟨cs.toArray⟩)] w (fun v w' => w.grownBy w' none ∧ v = .bool (decide (okName cs))) := by
  have hB := gb_refl w none
  refine enterQ Try.func76 Try.ntmps76 rfl rfl ?_
  refine Qcc ttFd 12 [] rfl ?_
  refine C_loop (fun m_ a_ w_ => ∃ (σ_ : Nat → Value) (k : Nat), a_ = Ac 23 σ_ [] [(0, .string (⟨cs.toArray⟩)), (2, .bool false), (3, .int .i64 (k : Int))] ∧ w.grownBy w_ none ∧ (k ≤ cs.length) ∧ (∀ c ∈ cs.take k, isn c) ∧ cs.length - k = m_) (cs.length - 0) ?_ ?_
  · exact ⟨_, 0, Ac_frg ⟨rfl, rfl, (agr rfl (by first | rfl | (congr 1; omega) | (congr 1; simp; done) | (congr 1; simp only [IntKind.wrap_u64, IntKind.wrap_i64, IntKind.wrap_u8]; omega) | (congr 1 <;> omega))), trivial⟩, hB, (by omega), (by intro c hc; simp at hc), rfl⟩
  · clear hB
    rintro m_ a_ w1 ⟨σ_, k, rfl, hB, hk, hall, rfl⟩
    refine Q0c ?_
    refine Qco ttFd 5 [] rfl ?_
    refine L_run (R_eqv (R_lenS rfl str9) (v' := .int .i64 (cs.length : Int)) (by rw [ba_size])) rfl ?_
    refine Qoc ttFd 3 [] rfl ?_
    refine C_if rfl (fun h1 => ?_) (fun h1 => ?_)
    · refine Qco ttFd 8 [] rfl ?_
      have hk1 : k < cs.length := by first | omega | (simp; omega)
      refine L_run (R_indexS (cs := cs) (a := (k : Int)) (i := k) rfl rfl (by first | rfl | omega) str9 hk1) rfl ?_
      refine L_call rfl cb90 (ref05_in (cs := ([97, 98, 99, 100, 101, 102, 103, 104, 105, 106, 107, 108, 109, 110, 111, 112, 113, 114, 115, 116, 117, 118, 119, 120, 121, 122, 48, 49, 50, 51, 52, 53, 54, 55, 56, 57, 45] : List UInt8)) (c := cs[k]) (by first | omega | (simp; done) | (simp; omega))) rfl ?_
      rintro _ w2 ⟨hs1, rfl⟩
      replace hB := gb_tr hB hs1
      refine L_run (R_notD rfl) rfl ?_
      refine Qoc ttFd 2 [] rfl ?_
      refine C_ifN rfl (fun h2 => ?_) (fun h2 => ?_)
      · refine Qce ttFd 8 [] rfl ?_
        refine Rl ?_
        refine Qee ttFd 2 [] rfl ?_
        refine ret1 Try.results76 rfl ?_
        exact ⟨hB, bF (fun h => absurd (h.1 _ (List.getElem_mem hk1)) (by first | exact fun hn => absurd ((isn_iff _).2 hn) (by assumption)))⟩
      · refine Qce ttFd 8 [] rfl ?_
        refine Nl ?_
        exact ⟨cs.length - (k + 1), by omega, _, (k + 1), Ac_frg ⟨rfl, rfl, (agr rfl (by first | rfl | (congr 1; omega) | (congr 1; simp; done) | (congr 1; simp only [IntKind.wrap_u64, IntKind.wrap_i64, IntKind.wrap_u8]; omega) | (congr 1 <;> omega))), trivial⟩, hB, (by omega), (isn_take hall hk1 (by first | exact (isn_iff _).1 (by assumption))), rfl⟩
    · refine Qce ttFd 2 [] rfl ?_
      refine Xl ?_
      refine Qeo ttFd 5 [] rfl ?_
      refine L_run (R_eqv (R_lenS rfl str9) (v' := .int .i64 (cs.length : Int)) (by rw [ba_size])) rfl ?_
      refine Qoo ttFd 2 [] rfl ?_
      refine Lsp 18 rfl (fun h3 => ?_) (fun h3 => ?_)
      · refine Qoo ttFd 1 [] rfl ?_
        refine L_yes rfl rfl rfl rfl ?_
        refine L_run (R_eqv (R_lenS rfl str9) (v' := .int .i64 (cs.length : Int)) (by rw [ba_size])) rfl ?_
        refine Qoe ttFd 6 [] rfl ?_
        refine ret1 Try.results76 rfl ?_
        rw [List.take_of_length_le (by omega)] at hall
        exact ⟨hB, bD ⟨fun h => ⟨hall, by omega, by omega⟩, fun h => by have := h.2; omega⟩⟩
      · refine Qoe ttFd 8 [] rfl ?_
        refine ret1 Try.results76 rfl ?_
        rw [List.take_of_length_le (by omega)] at hall
        exact ⟨hB, bF (fun h => by have := h.2; omega)⟩
theorem getP_ix {fs : List RF} {nm : ByteArray} (hr : (fs.map RF.nm).Pairwise slt) {i : Nat} (hi : i < fs.length) (e : fs[i].nm = nm) : getP (fs.map RF.pf) nm = fs[i].pf := by
  induction fs generalizing i with
  | nil => cases hi
  | cons x r ih =>
    rw [List.map_cons, List.pairwise_cons] at hr
    unfold getP at ih ⊢
    rw [List.map_cons, List.find?_cons]
    cases i with
    | zero =>
      have e' : x.nm = nm := e
      show (match decide (x.nm = nm) with | true => some x.pf | false => _).getD _ = _
      rw [decide_eq_true e']
      rfl
    | succ i =>
      have hi' : i < r.length := by simpa using hi
      have e' : r[i].nm = nm := e
      have hne : ¬ x.nm = nm := fun h => by
        have := hr.1 _ (List.mem_map.2 ⟨r[i], List.getElem_mem hi', rfl⟩)
        rw [h, e'] at this
        exact slt_irrefl _ this
      show (match decide (x.nm = nm) with | true => some x.pf | false => _).getD _ = _
      rw [decide_eq_false hne]
      exact ih hr.2 hi' e'
theorem RFAt.ren {w : World} {f : RF} (h : RFAt w f) (to : ByteArray) : RFAt w ⟨to, f.la, f.lc, f.las, f.sa, f.sc, f.seen, f.wa, f.wc, f.wts⟩ := ⟨h.l, h.s, h.b, h.lc, h.sc, h.wc, h.le, h.we⟩
/-- A list with one file put in: what is to be shown of it. -/
theorem put_all {U : Nat → Prop} {w w' : World} {r : RK} {F : RF} {X : List RF} (hX : ∀ f ∈ X, f ∈ r.rs) (hd : DeepRF w' r.rs) (hF : RFAt w' F) (hu : ∀ f ∈ r.rs, okRF U f) (hFu : okRF (upU U w) F) : DeepRF w' (insK RF.nm F (remK RF.nm F.nm X)) ∧ ∀ f ∈ insK RF.nm F (remK RF.nm F.nm X), okRF (upU U w) f := by
  refine ⟨fun f hf => ?_, fun f hf => ?_⟩
  · rcases ins_sub f hf with rfl | h
    · exact hF
    · exact hd f (hX f (rem_sub f h))
  · rcases ins_sub f hf with rfl | h
    · exact hFu
    · exact (hu f (hX f (rem_sub f h))).mono up_l
theorem put_len {F : RF} {X : List RF} : (insK RF.nm F (remK RF.nm F.nm X)).length ≤ X.length + 1 ∧ usedR (insK RF.nm F (remK RF.nm F.nm X)) ≤ F.seen.length + usedR X := by
  have h1 := rem_len' (nm := F.nm) (fs := X)
  have h2 := rem_used (nm := F.nm) (fs := X)
  rw [(insK_perm _).length_eq, List.length_cons, ins_used]
  omega
theorem rrename_ok {U : Nat → Prop} {w : World} {r : RK} (hR : RAt U w r) {nm to : ByteArray} (hl : to.size ≤ 9000000000000000000) :
    Runs Try.prog 53 #[.agg #[.slice r.A r.rs.length r.c, .int .i64 r.cap, .int .i64 r.ops, .bool r.dn, .bool r.tl, .int .i64 r.af], .string nm, .string to] w (fun v w' => w.grownBy w' none ∧ RDid U w w' (r.pd.rename nm to) v) := by
  have hB := gb_refl w none
  have hR0 := hR
  replace hR := hR.low
  refine enterQ Try.func53 Try.ntmps53 rfl rfl ?_
  refine Qco ttFd 2 [] rfl ?_
  refine L_box (cs := [.slice r.A r.rs.length r.c, .int .i64 r.cap, .int .i64 r.ops, .bool r.dn, .bool r.tl, .int .i64 r.af]) rfl rfl rfl ?_
  intro g1 w1 eg1 hb1 hs1 hz1
  have ge1 : w.heap.size ≤ g1 := eg_ge hB eg1
  replace hB := gb_tr hB hs1
  replace hR := hR.gb hs1
  refine L_alloc (cs := [.slice none 0 0, .int .i64 0, .int .i64 0, .bool false, .bool false, .int .i64 0]) zer36 rfl rfl ?_
  intro g2 w2 eg2 hb2 hs2 hz2
  have ge2 : w.heap.size ≤ g2 := eg_ge hB eg2
  have lt1 : g1 < g2 := lt_of_eg hb1.lt eg2
  replace hB := gb_tr hB hs2
  replace hR := hR.gb hs2
  replace hb1 := hb1.gb hs2
  refine Qoc ttFd 10 [kb hb1] rfl ?_
  refine C_cond rfl (fun h1 => ?_) (fun h1 => ?_)
  · refine Qco ttFd 3 [kb hb1] rfl ?_
    refine L_stA (vs := [.slice r.A r.rs.length r.c, .int .i64 r.cap, .int .i64 r.ops, .bool r.dn, .bool r.tl, .int .i64 r.af]) rfl rfl rfl sz36 rfl hb2 rfl ?_
    intro w3 hb3 hs3 hz3
    replace hB := gb_trg hB hs3 ge2
    replace hR := hR.other hb2 rfl rfl rfl hs3
    replace hb1 := hb1.grown hs3 (ne_lt lt1)
    refine Qoe ttFd 5 [] rfl ?_
    refine retC1 (vs := [.slice r.A r.rs.length r.c, .int .i64 r.cap, .int .i64 r.ops, .bool r.dn, .bool r.tl, .int .i64 r.af]) Try.results53 rfl agg36 (At.pre (hb3.at_ 0) rfl) rfl rfl ?_
    exact ⟨hB, rfin_e hR (if_pos h1)⟩
  · refine Qco ttFd 6 [kb hb1] rfl ?_
    refine L_call rfl cb77 (rfind (nm := nm) hR) rfl ?_
    rintro _ w4 ⟨hs4, ⟨hq1, rfl⟩ | ⟨ix1, hix1, rfl, hnm1⟩⟩
    · replace hB := gb_tr hB hs4
      replace hR := hR.gb hs4
      replace hb1 := hb1.gb hs4
      replace hb2 := hb2.gb hs4
      refine Qoo ttFd 14 [kb hb1] rfl ?_
      refine L_stA (vs := [.slice r.A r.rs.length r.c, .int .i64 r.cap, .int .i64 r.ops, .bool r.dn, .bool r.tl, .int .i64 r.af]) rfl rfl rfl sz36 rfl hb2 rfl ?_
      intro w5 hb4 hs5 hz4
      replace hB := gb_trg hB hs5 ge2
      replace hR := hR.other hb2 rfl rfl rfl hs5
      replace hb1 := hb1.grown hs5 (ne_lt lt1)
      refine Qoe ttFd 5 [] rfl ?_
      refine retC1 (vs := [.slice r.A r.rs.length r.c, .int .i64 r.cap, .int .i64 r.ops, .bool r.dn, .bool r.tl, .int .i64 r.af]) Try.results53 rfl agg36 (At.pre (hb4.at_ 0) rfl) rfl rfl ?_
      exact ⟨hB, rfin_e hR (by unfold PD.rename; rw [if_neg (rpdn h1), if_pos (rhn hq1)])⟩
    · replace hB := gb_tr hB hs4
      replace hR := hR.gb hs4
      replace hb1 := hb1.gb hs4
      replace hb2 := hb2.gb hs4
      have hneg1 : ¬ (ix1 : Int) < 0 := by omega
      refine Qoc ttFd 10 [] rfl ?_
      refine Clit (t := 19) rfl (decide_eq_false hneg1) ?_
      refine Qco ttFd 7 [] rfl ?_
      refine L_call rfl cb76 (ref05_Right (cs := to.data.toList) hl) rfl ?_
      rintro _ w6 ⟨hs6, rfl⟩
      replace hB := gb_tr hB hs6
      replace hR := hR.gb hs6
      replace hb1 := hb1.gb hs6
      replace hb2 := hb2.gb hs6
      refine L_run (R_notD rfl) rfl ?_
      refine Qoc ttFd 2 [] rfl ?_
      refine C_ifN rfl (fun h2 => ?_) (fun h2 => ?_)
      · refine Qco ttFd 3 [kb hb1] rfl ?_
        refine L_stA (vs := [.slice r.A r.rs.length r.c, .int .i64 r.cap, .int .i64 r.ops, .bool r.dn, .bool r.tl, .int .i64 r.af]) rfl rfl rfl sz36 rfl hb2 rfl ?_
        intro w7 hb5 hs7 hz5
        replace hB := gb_trg hB hs7 ge2
        replace hR := hR.other hb2 rfl rfl rfl hs7
        replace hb1 := hb1.grown hs7 (ne_lt lt1)
        refine Qoe ttFd 5 [] rfl ?_
        refine retC1 (vs := [.slice r.A r.rs.length r.c, .int .i64 r.cap, .int .i64 r.ops, .bool r.dn, .bool r.tl, .int .i64 r.af]) Try.results53 rfl agg36 (At.pre (hb5.at_ 0) rfl) rfl rfl ?_
        exact ⟨hB, rfin_e hR (by unfold PD.rename; rw [if_neg (rpdn h1), if_neg (rhy ⟨_, List.getElem_mem hix1, hnm1⟩), if_pos h2])⟩
      · refine Qcc ttFd 10 [] rfl ?_
        refine C_if rfl (fun h3 => ?_) (fun h3 => ?_)
        · refine Qco ttFd 3 [kb hb1] rfl ?_
          refine L_stA (vs := [.slice r.A r.rs.length r.c, .int .i64 r.cap, .int .i64 r.ops, .bool r.dn, .bool r.tl, .int .i64 r.af]) rfl rfl rfl sz36 rfl hb2 rfl ?_
          intro w8 hb6 hs8 hz6
          replace hB := gb_trg hB hs8 ge2
          replace hR := hR.other hb2 rfl rfl rfl hs8
          replace hb1 := hb1.grown hs8 (ne_lt lt1)
          refine Qoe ttFd 5 [] rfl ?_
          refine retC1 (vs := [.slice r.A r.rs.length r.c, .int .i64 r.cap, .int .i64 r.ops, .bool r.dn, .bool r.tl, .int .i64 r.af]) Try.results53 rfl agg36 (At.pre (hb6.at_ 0) rfl) rfl rfl ?_
          exact ⟨hB, rfin_e hR (by unfold PD.rename; rw [if_neg (rpdn h1), if_neg (rhy ⟨_, List.getElem_mem hix1, hnm1⟩), if_neg (not_not_intro h2), if_pos h3])⟩
        · refine Qco ttFd 5 [kb hb1] rfl ?_
          refine L_call rfl cb78 (rop_ok hR) rfl ?_
          rintro _ w9 ⟨hs9, ⟨hq2, rfl⟩ | ⟨hq2, rfl⟩⟩
          · replace hB := gb_tr hB hs9
            replace hR := hR.gb hs9
            replace hb1 := hb1.gb hs9
            replace hb2 := hb2.gb hs9
            refine Qoo ttFd 3 [] rfl ?_
            refine L_alloc (cs := [.slice none 0 0, .int .i64 0, .int .i64 0, .bool false, .bool false, .int .i64 0]) zer36 rfl rfl ?_
            intro g3 w10 eg3 hb7 hs10 hz7
            have ge3 : w.heap.size ≤ g3 := eg_ge hB eg3
            have lt2 : g1 < g3 := lt_of_eg hb1.lt eg3
            have lt3 : g2 < g3 := lt_of_eg hb2.lt eg3
            replace hB := gb_tr hB hs10
            replace hR := hR.gb hs10
            replace hb1 := hb1.gb hs10
            replace hb2 := hb2.gb hs10
            refine L_stA (vs := [.slice r.A r.rs.length r.c, .int .i64 r.cap, .int .i64 r.ops, .bool true, .bool false, .int .i64 r.af]) rfl rfl rfl sz36 rfl hb7 rfl ?_
            intro w11 hb8 hs11 hz8
            replace hB := gb_trg hB hs11 ge3
            replace hR := hR.other hb7 rfl rfl rfl hs11
            replace hb1 := hb1.grown hs11 (ne_lt lt2)
            replace hb2 := hb2.grown hs11 (ne_lt lt3)
            refine Qoo ttFd 15 [kb hb8] rfl ?_
            refine L_stA (vs := [.slice r.A r.rs.length r.c, .int .i64 r.cap, .int .i64 r.ops, .bool true, .bool false, .int .i64 r.af]) rfl rfl rfl sz36 rfl hb2 rfl ?_
            intro w12 hb9 hs12 hz9
            replace hB := gb_trg hB hs12 ge2
            replace hR := hR.other hb2 rfl rfl rfl hs12
            replace hb1 := hb1.grown hs12 (ne_lt lt1)
            replace hb8 := hb8.grown hs12 (ne_gt lt3)
            refine Qoe ttFd 5 [] rfl ?_
            refine retC1 (vs := [.slice r.A r.rs.length r.c, .int .i64 r.cap, .int .i64 r.ops, .bool true, .bool false, .int .i64 r.af]) Try.results53 rfl agg36 (At.pre (hb9.at_ 0) rfl) rfl rfl ?_
            exact ⟨hB, rfin_d hR hq2 (by unfold PD.rename; rw [if_neg (rpdn h1), if_neg (rhy ⟨_, List.getElem_mem hix1, hnm1⟩), if_neg (not_not_intro h2), if_neg h3, show getP r.pd.fs nm = r.rs[ix1].pf from getP_ix hR0.hr hix1 hnm1])⟩
          · replace hB := gb_tr hB hs9
            replace hR := hR.gb hs9
            replace hb1 := hb1.gb hs9
            replace hb2 := hb2.gb hs9
            refine Qoo ttFd 3 [] rfl ?_
            refine L_alloc (cs := [.slice none 0 0, .int .i64 0, .int .i64 0, .bool false, .bool false, .int .i64 0]) zer36 rfl rfl ?_
            intro g4 w13 eg4 hb10 hs13 hz10
            have ge4 : w.heap.size ≤ g4 := eg_ge hB eg4
            have lt4 : g1 < g4 := lt_of_eg hb1.lt eg4
            have lt5 : g2 < g4 := lt_of_eg hb2.lt eg4
            replace hB := gb_tr hB hs13
            replace hR := hR.gb hs13
            replace hb1 := hb1.gb hs13
            replace hb2 := hb2.gb hs13
            refine L_stA (vs := [.slice r.A r.rs.length r.c, .int .i64 r.cap, .int .i64 (IntKind.i64.wrap (r.ops + 1)), .bool r.dn, .bool r.tl, .int .i64 (if r.tl then IntKind.i64.wrap (r.af - 1) else r.af)]) rfl rfl rfl sz36 rfl hb10 rfl ?_
            intro w14 hb11 hs14 hz11
            replace hB := gb_trg hB hs14 ge4
            replace hR := hR.other hb10 rfl rfl rfl hs14
            replace hb1 := hb1.grown hs14 (ne_lt lt4)
            replace hb2 := hb2.grown hs14 (ne_lt lt5)
            refine Qoo ttFd 18 [kb hb1] rfl ?_
            have hl1 : ix1 < r.rs.length := by first | omega | (simp; omega)
            refine T_index (xs := r.rs) (i := ix1) EncRF rfl rfl (by first | rfl | omega) slc34 hl1 hR.hS rfl ?_
            intro g5 o1 ha1
            refine L_run (R_loadA (vs := [.string ((r.rs[ix1]).nm), .slice ((r.rs[ix1]).la) ((r.rs[ix1]).las.length) ((r.rs[ix1]).lc), .slice ((r.rs[ix1]).sa) ((r.rs[ix1]).seen.length) ((r.rs[ix1]).sc), .slice ((r.rs[ix1]).wa) ((r.rs[ix1]).wts.length) ((r.rs[ix1]).wc)]) rfl agg92 (At.pre ha1 rfl) rfl) rfl ?_
            refine L_alloc (cs := [.string (⟨#[]⟩), .slice none 0 0, .slice none 0 0, .slice none 0 0]) zer92 rfl rfl ?_
            intro g6 w15 eg5 hb12 hs15 hz12
            have ge5 : w.heap.size ≤ g6 := eg_ge hB eg5
            have lt6 : g1 < g6 := lt_of_eg hb1.lt eg5
            have lt7 : g2 < g6 := lt_of_eg hb2.lt eg5
            have lt8 : g4 < g6 := lt_of_eg hb11.lt eg5
            replace hB := gb_tr hB hs15
            replace hR := hR.gb hs15
            replace hb1 := hb1.gb hs15
            replace hb2 := hb2.gb hs15
            replace hb11 := hb11.gb hs15
            replace ha1 := At.gb ha1 hs15 (by simp)
            refine L_stA (vs := [.string ((r.rs[ix1]).nm), .slice ((r.rs[ix1]).la) ((r.rs[ix1]).las.length) ((r.rs[ix1]).lc), .slice ((r.rs[ix1]).sa) ((r.rs[ix1]).seen.length) ((r.rs[ix1]).sc), .slice ((r.rs[ix1]).wa) ((r.rs[ix1]).wts.length) ((r.rs[ix1]).wc)]) rfl rfl rfl sz92 rfl hb12 rfl ?_
            intro w16 hb13 hs16 hz13
            replace hB := gb_trg hB hs16 ge5
            replace hR := hR.ns (fun h_ => absurd h_.2 (by have q_ := ge5; omega)) hs16
            replace hb1 := hb1.grown hs16 (ne_lt lt6)
            replace hb2 := hb2.grown hs16 (ne_lt lt7)
            replace hb11 := hb11.grown hs16 (ne_lt lt8)
            refine Qoo ttFd 6 [] rfl ?_
            refine L_st1 rfl rfl rfl sz9 hb13 rfl ?_
            intro w17 hb14 hs17 hz14
            replace hB := gb_trg hB hs17 ge5
            replace hR := hR.ns (fun h_ => absurd h_.2 (by have q_ := ge5; omega)) hs17
            replace hb1 := hb1.grown hs17 (ne_lt lt6)
            replace hb2 := hb2.grown hs17 (ne_lt lt7)
            replace hb11 := hb11.grown hs17 (ne_lt lt8)
            refine Qoc ttFd 3 [] rfl ?_
            refine C_draw2 rfl mix ?_
            intro w18 hs18 hz15
            replace hB := gb_tr hB hs18
            replace hR := hR.gb hs18
            replace hb1 := hb1.gb hs18
            replace hb2 := hb2.gb hs18
            replace hb11 := hb11.gb hs18
            replace hb14 := hb14.gb hs18
            refine ⟨fun W_ => Blk W_ g4 36 [.slice r.A r.rs.length r.c, .int .i64 r.cap, .int .i64 (IntKind.i64.wrap (r.ops + 1)), .bool r.dn, .bool r.tl, .int .i64 (if r.tl then IntKind.i64.wrap (r.af - 1) else r.af)] ∧ Blk W_ g6 92 [.string to, .slice ((r.rs[ix1]).la) ((r.rs[ix1]).las.length) ((r.rs[ix1]).lc), .slice ((r.rs[ix1]).sa) ((r.rs[ix1]).seen.length) ((r.rs[ix1]).sc), .slice ((r.rs[ix1]).wa) ((r.rs[ix1]).wts.length) ((r.rs[ix1]).wc)] ∧ True, [0, 1, 3, 6], ?_⟩
            refine Tqs ttFd 4 [0, 1, 3] [kd hb11, kd hb14] (fun _ ⟨hb11, hb14, _⟩ => ⟨hb11, hb14, trivial⟩) ⟨hb11, hb14, trivial⟩ rfl ?_
            refine T_all (rs := [2]) (by kernel_rfl) rfl (all1 (O_one rfl ?_))
            have ge6 : w.heap.size ≤ w18.heap.size := hB.size
            refine L_call rfl cb80 (rwithout (r := r.opk) (nm := nm) (hR.opk hq2)) rfl ?_
            rintro _ w19 ⟨hs19, A_1, c_1, rfl, ho1⟩
            replace hB := gb_tr hB hs19
            replace hR := hR.gb hs19
            replace hb1 := hb1.gb hs19
            replace hb2 := hb2.gb hs19
            replace hb11 := hb11.gb hs19
            replace hb14 := hb14.gb hs19
            have hlo1 : w18.heap.size ≤ w19.heap.size := hs19.size
            refine L_nil (N_then ⟨fun hN_ => ⟨hb11, hb14, trivial⟩, ?_⟩)
            refine T_all (rs := [4]) (by kernel_rfl) rfl (all1 (O_one rfl ?_))
            have hRx1 : RAt (upU (lowU U w) w) w19 { r.opk with A := A_1, c := c_1, rs := (remK RF.nm nm r.rs) } := (hR.opk hq2).set (own_lo ho1 ge6) up_r (hR.hd.sub rem_sub) (Nat.le_trans rem_len' hR.hl) (Nat.le_trans rem_used hR.hu) (rem_rise hR.hr) (fun f hf => (hR.uf f (rem_sub f hf)).mono up_l)
            have ge7 : w.heap.size ≤ w19.heap.size := hB.size
            refine L_call rfl cb44 (rwith (r := { r.opk with A := A_1, c := c_1, rs := (remK RF.nm nm r.rs) }) (f := (⟨to, (r.rs[ix1]).la, (r.rs[ix1]).lc, (r.rs[ix1]).las, (r.rs[ix1]).sa, (r.rs[ix1]).sc, (r.rs[ix1]).seen, (r.rs[ix1]).wa, (r.rs[ix1]).wc, (r.rs[ix1]).wts⟩ : RF)) hRx1) rfl ?_
            rintro _ w20 ⟨hs20, A_2, c_2, rfl, ho2⟩
            replace hB := gb_tr hB hs20
            replace hR := hR.gb hs20
            replace hb1 := hb1.gb hs20
            replace hb2 := hb2.gb hs20
            replace hb11 := hb11.gb hs20
            replace hb14 := hb14.gb hs20
            replace ho1 := own_gb ho1 hs20
            replace hlo1 := Nat.le_trans hlo1 hs20.size
            have hlo2 : w19.heap.size ≤ w20.heap.size := hs20.size
            refine L_nil (N_then ⟨fun hN_ => ⟨hb11, hb14, trivial⟩, ?_⟩)
            refine T_all (rs := [5]) (by kernel_rfl) rfl (all1 (O_one rfl ?_))
            refine L_stA (vs := [.slice A_2 ((insK RF.nm (⟨to, (r.rs[ix1]).la, (r.rs[ix1]).lc, (r.rs[ix1]).las, (r.rs[ix1]).sa, (r.rs[ix1]).sc, (r.rs[ix1]).seen, (r.rs[ix1]).wa, (r.rs[ix1]).wc, (r.rs[ix1]).wts⟩ : RF) (remK RF.nm (⟨to, (r.rs[ix1]).la, (r.rs[ix1]).lc, (r.rs[ix1]).las, (r.rs[ix1]).sa, (r.rs[ix1]).sc, (r.rs[ix1]).seen, (r.rs[ix1]).wa, (r.rs[ix1]).wc, (r.rs[ix1]).wts⟩ : RF).nm (remK RF.nm nm r.rs))).length) c_2, .int .i64 r.cap, .int .i64 (IntKind.i64.wrap (r.ops + 1)), .bool r.dn, .bool r.tl, .int .i64 (if r.tl then IntKind.i64.wrap (r.af - 1) else r.af)]) rfl rfl rfl sz36 rfl hb2 rfl ?_
            intro w21 hb15 hs21 hz16
            replace hB := gb_trg hB hs21 ge2
            replace hR := hR.other hb2 rfl rfl rfl hs21
            replace hb1 := hb1.grown hs21 (ne_lt lt1)
            replace hb11 := hb11.grown hs21 (ne_gt lt5)
            replace hb14 := hb14.grown hs21 (ne_gt lt7)
            replace ho1 := own_other ho1 hb2 rfl hs21
            replace hlo1 := Nat.le_trans hlo1 hs21.size
            replace ho2 := own_other ho2 hb2 rfl hs21
            replace hlo2 := Nat.le_trans hlo2 hs21.size
            refine L_nil (N_then ⟨fun hN_ => ⟨hb11, hb14, trivial⟩, ?_⟩)
            refine Tqs ttFd 0 [6] [] (fun _ _ => trivial) ⟨hb11, hb14, trivial⟩ rfl ?_
            refine T_done (by kernel_rfl) (CalmE.normal ?_)
            refine Qee ttFd 2 [] rfl ?_
            refine retC1 (vs := [.slice A_2 ((insK RF.nm (⟨to, (r.rs[ix1]).la, (r.rs[ix1]).lc, (r.rs[ix1]).las, (r.rs[ix1]).sa, (r.rs[ix1]).sc, (r.rs[ix1]).seen, (r.rs[ix1]).wa, (r.rs[ix1]).wc, (r.rs[ix1]).wts⟩ : RF) (remK RF.nm (⟨to, (r.rs[ix1]).la, (r.rs[ix1]).lc, (r.rs[ix1]).las, (r.rs[ix1]).sa, (r.rs[ix1]).sc, (r.rs[ix1]).seen, (r.rs[ix1]).wa, (r.rs[ix1]).wc, (r.rs[ix1]).wts⟩ : RF).nm (remK RF.nm nm r.rs))).length) c_2, .int .i64 r.cap, .int .i64 (IntKind.i64.wrap (r.ops + 1)), .bool r.dn, .bool r.tl, .int .i64 (if r.tl then IntKind.i64.wrap (r.af - 1) else r.af)]) Try.results53 rfl agg36 (At.pre (hb15.at_ 0) rfl) rfl rfl ?_
            obtain ⟨hp1_, hp2_⟩ := put_all (w := w) (F := (⟨to, r.rs[ix1].la, r.rs[ix1].lc, r.rs[ix1].las, r.rs[ix1].sa, r.rs[ix1].sc, r.rs[ix1].seen, r.rs[ix1].wa, r.rs[ix1].wc, r.rs[ix1].wts⟩ : RF)) (X := remK RF.nm nm r.rs) rem_sub hR.hd ((hR.hd _ (List.getElem_mem hix1)).ren to) hR0.uf ((hR0.uf _ (List.getElem_mem hix1)).mono up_l)
            have hd_ := rem_drop (List.getElem_mem hix1)
            rw [hnm1] at hd_
            have hp3_ := put_len (F := (⟨to, r.rs[ix1].la, r.rs[ix1].lc, r.rs[ix1].las, r.rs[ix1].sa, r.rs[ix1].sc, r.rs[ix1].seen, r.rs[ix1].wa, r.rs[ix1].wc, r.rs[ix1].wts⟩ : RF)) (X := remK RF.nm nm r.rs)
            have hl0_ := hR0.hl; have hu0_ := hR0.hu
            have hsq_ : (⟨to, r.rs[ix1].la, r.rs[ix1].lc, r.rs[ix1].las, r.rs[ix1].sa, r.rs[ix1].sc, r.rs[ix1].seen, r.rs[ix1].wa, r.rs[ix1].wc, r.rs[ix1].wts⟩ : RF).seen.length = r.rs[ix1].seen.length := rfl
            refine ⟨hB, rfin_t hR0 hq2 (own_lo ho2 ge7) hp1_ (by omega) (by omega) (ins_rise (rem_rise hR0.hr)) hp2_ ?_⟩
            unfold PD.rename; rw [if_neg (rpdn h1), if_neg (rhy ⟨_, List.getElem_mem hix1, hnm1⟩), if_neg (not_not_intro h2), if_neg h3, show getP r.pd.fs nm = r.rs[ix1].pf from getP_ix hR0.hr hix1 hnm1, rins_pf, rrem_pf, rrem_pf]; rfl
theorem rmake_ok {U : Nat → Prop} {w : World} {r : RK} (hR : RAt U w r) {nm : ByteArray} {n : Int} (hl : nm.size ≤ 9000000000000000000) :
    Runs Try.prog 40 #[.agg #[.slice r.A r.rs.length r.c, .int .i64 r.cap, .int .i64 r.ops, .bool r.dn, .bool r.tl, .int .i64 r.af], .string nm, .int .i64 n] w (fun v w' => w.grownBy w' none ∧ RDid U w w' (r.pd.make nm n) v) := by
  have hB := gb_refl w none
  have hR0 := hR
  replace hR := hR.low
  refine enterQ Try.func40 Try.ntmps40 rfl rfl ?_
  refine Qco ttFd 2 [] rfl ?_
  refine L_box (cs := [.slice r.A r.rs.length r.c, .int .i64 r.cap, .int .i64 r.ops, .bool r.dn, .bool r.tl, .int .i64 r.af]) rfl rfl rfl ?_
  intro g1 w1 eg1 hb1 hs1 hz1
  have ge1 : w.heap.size ≤ g1 := eg_ge hB eg1
  replace hB := gb_tr hB hs1
  replace hR := hR.gb hs1
  refine L_alloc (cs := [.slice none 0 0, .int .i64 0, .int .i64 0, .bool false, .bool false, .int .i64 0]) zer36 rfl rfl ?_
  intro g2 w2 eg2 hb2 hs2 hz2
  have ge2 : w.heap.size ≤ g2 := eg_ge hB eg2
  have lt1 : g1 < g2 := lt_of_eg hb1.lt eg2
  replace hB := gb_tr hB hs2
  replace hR := hR.gb hs2
  replace hb1 := hb1.gb hs2
  refine Qoc ttFd 10 [kb hb1] rfl ?_
  refine C_cond rfl (fun h1 => ?_) (fun h1 => ?_)
  · refine Qco ttFd 3 [kb hb1] rfl ?_
    refine L_stA (vs := [.slice r.A r.rs.length r.c, .int .i64 r.cap, .int .i64 r.ops, .bool r.dn, .bool r.tl, .int .i64 r.af]) rfl rfl rfl sz36 rfl hb2 rfl ?_
    intro w3 hb3 hs3 hz3
    replace hB := gb_trg hB hs3 ge2
    replace hR := hR.other hb2 rfl rfl rfl hs3
    replace hb1 := hb1.grown hs3 (ne_lt lt1)
    refine Qoe ttFd 5 [] rfl ?_
    refine retC1 (vs := [.slice r.A r.rs.length r.c, .int .i64 r.cap, .int .i64 r.ops, .bool r.dn, .bool r.tl, .int .i64 r.af]) Try.results40 rfl agg36 (At.pre (hb3.at_ 0) rfl) rfl rfl ?_
    exact ⟨hB, rfin_e hR (if_pos h1)⟩
  · refine Qco ttFd 6 [] rfl ?_
    refine L_call rfl cb76 (ref05_Right (cs := nm.data.toList) hl) rfl ?_
    rintro _ w4 ⟨hs4, rfl⟩
    replace hB := gb_tr hB hs4
    replace hR := hR.gb hs4
    replace hb1 := hb1.gb hs4
    replace hb2 := hb2.gb hs4
    refine L_run (R_notD rfl) rfl ?_
    refine Qoc ttFd 2 [] rfl ?_
    refine C_ifN rfl (fun h2 => ?_) (fun h2 => ?_)
    · refine Qco ttFd 3 [kb hb1] rfl ?_
      refine L_stA (vs := [.slice r.A r.rs.length r.c, .int .i64 r.cap, .int .i64 r.ops, .bool r.dn, .bool r.tl, .int .i64 r.af]) rfl rfl rfl sz36 rfl hb2 rfl ?_
      intro w5 hb4 hs5 hz4
      replace hB := gb_trg hB hs5 ge2
      replace hR := hR.other hb2 rfl rfl rfl hs5
      replace hb1 := hb1.grown hs5 (ne_lt lt1)
      refine Qoe ttFd 5 [] rfl ?_
      refine retC1 (vs := [.slice r.A r.rs.length r.c, .int .i64 r.cap, .int .i64 r.ops, .bool r.dn, .bool r.tl, .int .i64 r.af]) Try.results40 rfl agg36 (At.pre (hb4.at_ 0) rfl) rfl rfl ?_
      exact ⟨hB, rfin_e hR (by unfold PD.make; rw [if_neg (rpdn h1), if_pos h2])⟩
    · refine Qco ttFd 7 [kb hb1] rfl ?_
      refine L_call rfl cb77 (rfind (nm := nm) hR) rfl ?_
      rintro _ w6 ⟨hs6, ⟨hq1, rfl⟩ | ⟨ix1, hix1, rfl, hnm1⟩⟩
      · replace hB := gb_tr hB hs6
        replace hR := hR.gb hs6
        replace hb1 := hb1.gb hs6
        replace hb2 := hb2.gb hs6
        refine Qoo ttFd 12 [] rfl ?_
        refine Qg ttFd 2 [] rfl (fun σ => ?_)
        refine Ldec 27 ((n < 1) ∨ (64 < n)) rfl ?_
        refine Qoc ttFd 2 [] rfl ?_
        refine C_if rfl (fun h3 => ?_) (fun h3 => ?_)
        · refine Qco ttFd 3 [kb hb1] rfl ?_
          refine L_stA (vs := [.slice r.A r.rs.length r.c, .int .i64 r.cap, .int .i64 r.ops, .bool r.dn, .bool r.tl, .int .i64 r.af]) rfl rfl rfl sz36 rfl hb2 rfl ?_
          intro w7 hb5 hs7 hz5
          replace hB := gb_trg hB hs7 ge2
          replace hR := hR.other hb2 rfl rfl rfl hs7
          replace hb1 := hb1.grown hs7 (ne_lt lt1)
          refine Qoe ttFd 5 [] rfl ?_
          refine retC1 (vs := [.slice r.A r.rs.length r.c, .int .i64 r.cap, .int .i64 r.ops, .bool r.dn, .bool r.tl, .int .i64 r.af]) Try.results40 rfl agg36 (At.pre (hb5.at_ 0) rfl) rfl rfl ?_
          exact ⟨hB, rfin_e hR (by unfold PD.make; rw [if_neg (rpdn h1), if_neg (not_not_intro h2), if_neg (rhn hq1), if_pos (by omega)])⟩
        · refine Qcc ttFd 4 [] rfl ?_
          refine C_draw2 rfl mix ?_
          intro w8 hs8 hz6
          replace hB := gb_tr hB hs8
          replace hR := hR.gb hs8
          replace hb1 := hb1.gb hs8
          replace hb2 := hb2.gb hs8
          refine ⟨fun W_ => Blk W_ g1 36 [.slice r.A r.rs.length r.c, .int .i64 r.cap, .int .i64 r.ops, .bool r.dn, .bool r.tl, .int .i64 r.af] ∧ True, [0, 2, 3, 4, 5, 6, 7, 8, 9, 10, 11, 12], ?_⟩
          refine Tqs ttFd 9 [0, 2, 4, 5] [kd hb1, kd hb1] (fun _ ⟨hb1, _⟩ => ⟨hb1, hb1, trivial⟩) ⟨hb1, trivial⟩ rfl ?_
          refine T_all (rs := [1]) (by kernel_rfl) rfl (all1 (O_one rfl ?_))
          refine L_call rfl cb45 (rused hR) rfl ?_
          rintro _ w9 ⟨hs9, rfl⟩
          replace hB := gb_tr hB hs9
          replace hR := hR.gb hs9
          replace hb1 := hb1.gb hs9
          replace hb2 := hb2.gb hs9
          refine L_nil (N_then ⟨fun hN_ => ⟨hb1, trivial⟩, ?_⟩)
          refine T_takeA (i := 3) rfl (by kernel_rfl) (by kernel_rfl) (by kernel_rfl) (by kernel_rfl) (Y_of (fun _ ⟨hb1, _⟩ => R_add64 (a := ((usedR r.rs : Nat) : Int)) (b := n) rfl rfl (by have h1_ := hR0.hu; omega))) ⟨hb1, trivial⟩ rfl ?_
          refine Tqs ttFd 5 [6, 7] [] (fun _ _ => trivial) ⟨hb1, trivial⟩ rfl ?_
          by_cases h4 : r.cap < (((usedR r.rs : Nat) : Int) + n)
          · refine T_takeA (i := 8) rfl (by kernel_rfl) (by kernel_rfl) (by kernel_rfl) (by kernel_rfl) (Y_no rfl rfl rfl (decide_eq_true h4)) ⟨hb1, trivial⟩ rfl ?_
            refine T_takeA (i := 9) rfl (by kernel_rfl) (by kernel_rfl) (by kernel_rfl) (by kernel_rfl) (Y_no rfl rfl rfl (decide_eq_true h4)) ⟨hb1, trivial⟩ rfl ?_
            refine T_takeA (i := 10) rfl (by kernel_rfl) (by kernel_rfl) (by kernel_rfl) (by kernel_rfl) (Y_no rfl rfl rfl (decide_eq_true h4)) ⟨hb1, trivial⟩ rfl ?_
            refine T_takeA (i := 11) rfl (by kernel_rfl) (by kernel_rfl) (by kernel_rfl) (by kernel_rfl) (Y_no rfl rfl rfl (decide_eq_true h4)) ⟨hb1, trivial⟩ rfl ?_
            refine T_takeA (i := 12) rfl (by kernel_rfl) (by kernel_rfl) (by kernel_rfl) (by kernel_rfl) (Y_of (fun _ ⟨hb1, _⟩ => R_pickT rfl (decide_eq_true h4) rfl)) ⟨hb1, trivial⟩ rfl ?_
            refine T_done (by kernel_rfl) (CalmE.normal ?_)
            refine Qeo ttFd 5 [kb hb1] rfl ?_
            refine L_stA (vs := [.slice r.A r.rs.length r.c, .int .i64 r.cap, .int .i64 r.ops, .bool r.dn, .bool r.tl, .int .i64 r.af]) rfl rfl rfl sz36 rfl hb2 rfl ?_
            intro w10 hb6 hs10 hz7
            replace hB := gb_trg hB hs10 ge2
            replace hR := hR.other hb2 rfl rfl rfl hs10
            replace hb1 := hb1.grown hs10 (ne_lt lt1)
            refine Qoe ttFd 5 [] rfl ?_
            refine retC1 (vs := [.slice r.A r.rs.length r.c, .int .i64 r.cap, .int .i64 r.ops, .bool r.dn, .bool r.tl, .int .i64 r.af]) Try.results40 rfl agg36 (At.pre (hb6.at_ 0) rfl) rfl rfl ?_
            exact ⟨hB, rfin_e hR (by unfold PD.make; rw [if_neg (rpdn h1), if_neg (not_not_intro h2), if_neg (rhn hq1), if_neg (by omega), if_pos (show r.pd.cap - (usedP r.pd.fs : Int) < n ∨ 64 ≤ (r.pd.fs.length : Int) by show r.cap - (usedP (r.rs.map RF.pf) : Int) < n ∨ 64 ≤ ((r.rs.map RF.pf).length : Int); rw [usedR_pf, List.length_map]; omega)])⟩
          · refine T_takeA (i := 8) rfl (by kernel_rfl) (by kernel_rfl) (by kernel_rfl) (by kernel_rfl) (Y_yes rfl rfl rfl (decide_eq_false h4) (fun _ ⟨hb1, _⟩ => R_field (r := 0) rfl fld36_0 rfl)) ⟨hb1, trivial⟩ rfl ?_
            refine T_takeA (i := 9) rfl (by kernel_rfl) (by kernel_rfl) (by kernel_rfl) (by kernel_rfl) (Y_yes rfl rfl rfl (decide_eq_false h4) (fun _ ⟨hb1, _⟩ => R_load1 rfl scl34 (hb1.cell (i := 0) rfl))) ⟨hb1, trivial⟩ rfl ?_
            refine T_takeA (i := 10) rfl (by kernel_rfl) (by kernel_rfl) (by kernel_rfl) (by kernel_rfl) (Y_yes rfl rfl rfl (decide_eq_false h4) (fun _ ⟨hb1, _⟩ => R_lenSl rfl slc34)) ⟨hb1, trivial⟩ rfl ?_
            refine T_takeA (i := 11) rfl (by kernel_rfl) (by kernel_rfl) (by kernel_rfl) (by kernel_rfl) (Y_yes rfl rfl rfl (decide_eq_false h4) (fun _ ⟨hb1, _⟩ => R_geq rfl rfl)) ⟨hb1, trivial⟩ rfl ?_
            refine T_takeA (i := 12) rfl (by kernel_rfl) (by kernel_rfl) (by kernel_rfl) (by kernel_rfl) (Y_of (fun _ ⟨hb1, _⟩ => R_pickF rfl (decide_eq_false h4) rfl)) ⟨hb1, trivial⟩ rfl ?_
            refine T_done (by kernel_rfl) (CalmE.normal ?_)
            refine Qec ttFd 1 [] rfl ?_
            refine C_if rfl (fun h5 => ?_) (fun h5 => ?_)
            · refine Qco ttFd 3 [kb hb1] rfl ?_
              refine L_stA (vs := [.slice r.A r.rs.length r.c, .int .i64 r.cap, .int .i64 r.ops, .bool r.dn, .bool r.tl, .int .i64 r.af]) rfl rfl rfl sz36 rfl hb2 rfl ?_
              intro w11 hb7 hs11 hz8
              replace hB := gb_trg hB hs11 ge2
              replace hR := hR.other hb2 rfl rfl rfl hs11
              replace hb1 := hb1.grown hs11 (ne_lt lt1)
              refine Qoe ttFd 5 [] rfl ?_
              refine retC1 (vs := [.slice r.A r.rs.length r.c, .int .i64 r.cap, .int .i64 r.ops, .bool r.dn, .bool r.tl, .int .i64 r.af]) Try.results40 rfl agg36 (At.pre (hb7.at_ 0) rfl) rfl rfl ?_
              exact ⟨hB, rfin_e hR (by unfold PD.make; rw [if_neg (rpdn h1), if_neg (not_not_intro h2), if_neg (rhn hq1), if_neg (by omega), if_pos (show r.pd.cap - (usedP r.pd.fs : Int) < n ∨ 64 ≤ (r.pd.fs.length : Int) by show r.cap - (usedP (r.rs.map RF.pf) : Int) < n ∨ 64 ≤ ((r.rs.map RF.pf).length : Int); rw [usedR_pf, List.length_map]; omega)])⟩
            · refine Qco ttFd 5 [kb hb1] rfl ?_
              refine L_call rfl cb78 (rop_ok hR) rfl ?_
              rintro _ w12 ⟨hs12, ⟨hq2, rfl⟩ | ⟨hq2, rfl⟩⟩
              · replace hB := gb_tr hB hs12
                replace hR := hR.gb hs12
                replace hb1 := hb1.gb hs12
                replace hb2 := hb2.gb hs12
                refine Qoo ttFd 3 [] rfl ?_
                refine L_alloc (cs := [.slice none 0 0, .int .i64 0, .int .i64 0, .bool false, .bool false, .int .i64 0]) zer36 rfl rfl ?_
                intro g3 w13 eg3 hb8 hs13 hz9
                have ge3 : w.heap.size ≤ g3 := eg_ge hB eg3
                have lt2 : g1 < g3 := lt_of_eg hb1.lt eg3
                have lt3 : g2 < g3 := lt_of_eg hb2.lt eg3
                replace hB := gb_tr hB hs13
                replace hR := hR.gb hs13
                replace hb1 := hb1.gb hs13
                replace hb2 := hb2.gb hs13
                refine L_stA (vs := [.slice r.A r.rs.length r.c, .int .i64 r.cap, .int .i64 r.ops, .bool true, .bool false, .int .i64 r.af]) rfl rfl rfl sz36 rfl hb8 rfl ?_
                intro w14 hb9 hs14 hz10
                replace hB := gb_trg hB hs14 ge3
                replace hR := hR.other hb8 rfl rfl rfl hs14
                replace hb1 := hb1.grown hs14 (ne_lt lt2)
                replace hb2 := hb2.grown hs14 (ne_lt lt3)
                refine Qoo ttFd 15 [kb hb9] rfl ?_
                refine L_stA (vs := [.slice r.A r.rs.length r.c, .int .i64 r.cap, .int .i64 r.ops, .bool true, .bool false, .int .i64 r.af]) rfl rfl rfl sz36 rfl hb2 rfl ?_
                intro w15 hb10 hs15 hz11
                replace hB := gb_trg hB hs15 ge2
                replace hR := hR.other hb2 rfl rfl rfl hs15
                replace hb1 := hb1.grown hs15 (ne_lt lt1)
                replace hb9 := hb9.grown hs15 (ne_gt lt3)
                refine Qoe ttFd 5 [] rfl ?_
                refine retC1 (vs := [.slice r.A r.rs.length r.c, .int .i64 r.cap, .int .i64 r.ops, .bool true, .bool false, .int .i64 r.af]) Try.results40 rfl agg36 (At.pre (hb10.at_ 0) rfl) rfl rfl ?_
                exact ⟨hB, rfin_d hR hq2 (by unfold PD.make; rw [if_neg (rpdn h1), if_neg (not_not_intro h2), if_neg (rhn hq1), if_neg (by omega), if_neg (show ¬ (r.pd.cap - (usedP r.pd.fs : Int) < n ∨ 64 ≤ (r.pd.fs.length : Int)) by show ¬ (r.cap - (usedP (r.rs.map RF.pf) : Int) < n ∨ 64 ≤ ((r.rs.map RF.pf).length : Int)); rw [usedR_pf, List.length_map]; omega)])⟩
              · replace hB := gb_tr hB hs12
                replace hR := hR.gb hs12
                replace hb1 := hb1.gb hs12
                replace hb2 := hb2.gb hs12
                refine Qoo ttFd 3 [] rfl ?_
                refine L_alloc (cs := [.slice none 0 0, .int .i64 0, .int .i64 0, .bool false, .bool false, .int .i64 0]) zer36 rfl rfl ?_
                intro g4 w16 eg4 hb11 hs16 hz12
                have ge4 : w.heap.size ≤ g4 := eg_ge hB eg4
                have lt4 : g1 < g4 := lt_of_eg hb1.lt eg4
                have lt5 : g2 < g4 := lt_of_eg hb2.lt eg4
                replace hB := gb_tr hB hs16
                replace hR := hR.gb hs16
                replace hb1 := hb1.gb hs16
                replace hb2 := hb2.gb hs16
                refine L_stA (vs := [.slice r.A r.rs.length r.c, .int .i64 r.cap, .int .i64 (IntKind.i64.wrap (r.ops + 1)), .bool r.dn, .bool r.tl, .int .i64 (if r.tl then IntKind.i64.wrap (r.af - 1) else r.af)]) rfl rfl rfl sz36 rfl hb11 rfl ?_
                intro w17 hb12 hs17 hz13
                replace hB := gb_trg hB hs17 ge4
                replace hR := hR.other hb11 rfl rfl rfl hs17
                replace hb1 := hb1.grown hs17 (ne_lt lt4)
                replace hb2 := hb2.grown hs17 (ne_lt lt5)
                refine Qoc ttFd 14 [] rfl ?_
                refine C_join (fun a_ w_ => (∃ (σ_ : Nat → Value) (A_1 : Option Addr) (g5 : Nat) (g6 : Nat) (g7 : Nat) (c_1 : Nat), a_ = Ac 62 σ_ [] [(0, .agg #[.slice r.A r.rs.length r.c, .int .i64 r.cap, .int .i64 r.ops, .bool r.dn, .bool r.tl, .int .i64 r.af]), (1, .string nm), (2, .int .i64 n), (3, .pointer (some ⟨g1, 0, none⟩)), (6, .pointer (some ⟨g2, 0, none⟩)), (7, .int .i64 0), (8, .pointer (some ⟨g4, 0, none⟩)), (9, .int .i64 0), (11, .bool r.dn), (15, .bool (decide (¬ (okName nm.data.toList)))), (20, .bool false), (27, .bool (decide ((n < 1) ∨ (64 < n)))), (41, .bool (decide (64 ≤ (r.rs.length : Int)))), (49, .bool false)] ∧ w.grownBy w_ none ∧ RAt (lowU U w) w_ r ∧ Blk w_ g1 36 [.slice r.A r.rs.length r.c, .int .i64 r.cap, .int .i64 r.ops, .bool r.dn, .bool r.tl, .int .i64 r.af] ∧ Blk w_ g2 36 [.slice A_1 ((insK RF.nm (⟨nm, some ⟨g5, 0, none⟩, n.toNat, (List.replicate n.toNat Sx.z), some ⟨g6, 0, none⟩, n.toNat, (List.replicate n.toNat Sx.z), some ⟨g7, 0, none⟩, n.toNat, (List.replicate n.toNat false)⟩ : RF) (remK RF.nm (⟨nm, some ⟨g5, 0, none⟩, n.toNat, (List.replicate n.toNat Sx.z), some ⟨g6, 0, none⟩, n.toNat, (List.replicate n.toNat Sx.z), some ⟨g7, 0, none⟩, n.toNat, (List.replicate n.toNat false)⟩ : RF).nm r.rs)).length) c_1, .int .i64 r.cap, .int .i64 (IntKind.i64.wrap (r.ops + 1)), .bool r.dn, .bool r.tl, .int .i64 (if r.tl then IntKind.i64.wrap (r.af - 1) else r.af)] ∧ Blk w_ g4 36 [.slice r.A r.rs.length r.c, .int .i64 r.cap, .int .i64 (IntKind.i64.wrap (r.ops + 1)), .bool r.dn, .bool r.tl, .int .i64 (if r.tl then IntKind.i64.wrap (r.af - 1) else r.af)] ∧ Blk w_ g5 81 (fl encX (List.replicate n.toNat Sx.z)) ∧ Blk w_ g6 81 (fl encX (List.replicate n.toNat Sx.z)) ∧ Blk w_ g7 4 (fl encO (List.replicate n.toNat false)) ∧ World.ownsRow w_ w.heap.size 92 4 (.slice A_1 (insK RF.nm (⟨nm, some ⟨g5, 0, none⟩, n.toNat, (List.replicate n.toNat Sx.z), some ⟨g6, 0, none⟩, n.toNat, (List.replicate n.toNat Sx.z), some ⟨g7, 0, none⟩, n.toNat, (List.replicate n.toNat false)⟩ : RF) (remK RF.nm (⟨nm, some ⟨g5, 0, none⟩, n.toNat, (List.replicate n.toNat Sx.z), some ⟨g6, 0, none⟩, n.toNat, (List.replicate n.toNat Sx.z), some ⟨g7, 0, none⟩, n.toNat, (List.replicate n.toNat false)⟩ : RF).nm r.rs)).length c_1) (insK RF.nm (⟨nm, some ⟨g5, 0, none⟩, n.toNat, (List.replicate n.toNat Sx.z), some ⟨g6, 0, none⟩, n.toNat, (List.replicate n.toNat Sx.z), some ⟨g7, 0, none⟩, n.toNat, (List.replicate n.toNat false)⟩ : RF) (remK RF.nm (⟨nm, some ⟨g5, 0, none⟩, n.toNat, (List.replicate n.toNat Sx.z), some ⟨g6, 0, none⟩, n.toNat, (List.replicate n.toNat Sx.z), some ⟨g7, 0, none⟩, n.toNat, (List.replicate n.toNat false)⟩ : RF).nm r.rs)).length (fl encRF (insK RF.nm (⟨nm, some ⟨g5, 0, none⟩, n.toNat, (List.replicate n.toNat Sx.z), some ⟨g6, 0, none⟩, n.toNat, (List.replicate n.toNat Sx.z), some ⟨g7, 0, none⟩, n.toNat, (List.replicate n.toNat false)⟩ : RF) (remK RF.nm (⟨nm, some ⟨g5, 0, none⟩, n.toNat, (List.replicate n.toNat Sx.z), some ⟨g6, 0, none⟩, n.toNat, (List.replicate n.toNat Sx.z), some ⟨g7, 0, none⟩, n.toNat, (List.replicate n.toNat false)⟩ : RF).nm r.rs))) ∧ w.heap.size ≤ g5 ∧ w.heap.size ≤ g6 ∧ w.heap.size ≤ g7 ∧ g1 < g5 ∧ g1 < g6 ∧ g1 < g7 ∧ g2 < g5 ∧ g2 < g6 ∧ g2 < g7 ∧ g4 < g5 ∧ g4 < g6 ∧ g4 < g7)) ?_ ?_
                · refine C_draw2 rfl mix ?_
                  intro w18 hs18 hz14
                  replace hB := gb_tr hB hs18
                  replace hR := hR.gb hs18
                  replace hb1 := hb1.gb hs18
                  replace hb2 := hb2.gb hs18
                  replace hb12 := hb12.gb hs18
                  refine ⟨fun W_ => Blk W_ g4 36 [.slice r.A r.rs.length r.c, .int .i64 r.cap, .int .i64 (IntKind.i64.wrap (r.ops + 1)), .bool r.dn, .bool r.tl, .int .i64 (if r.tl then IntKind.i64.wrap (r.af - 1) else r.af)] ∧ True, [0, 1, 2, 4, 6, 8, 11], ?_⟩
                  refine Tqs ttFd 10 [0, 1] [kd hb12] (fun _ ⟨hb12, _⟩ => ⟨hb12, trivial⟩) ⟨hb12, trivial⟩ rfl ?_
                  refine T_takeA (i := 2) rfl (by kernel_rfl) (by kernel_rfl) (by kernel_rfl) (by kernel_rfl) (Y_of (fun _ ⟨hb12, _⟩ => R_eqv (R_move rfl) (v' := .int .i64 ((n.toNat : Nat) : Int)) (congrArg _ (by omega)))) ⟨hb12, trivial⟩ rfl ?_
                  refine T_takeA (i := 4) rfl (by kernel_rfl) (by kernel_rfl) (by kernel_rfl) (by kernel_rfl) (Y_of (fun _ ⟨hb12, _⟩ => R_eqv (R_move rfl) (v' := .int .i64 ((n.toNat : Nat) : Int)) (congrArg _ (by omega)))) ⟨hb12, trivial⟩ rfl ?_
                  refine T_takeA (i := 6) rfl (by kernel_rfl) (by kernel_rfl) (by kernel_rfl) (by kernel_rfl) (Y_of (fun _ ⟨hb12, _⟩ => R_eqv (R_move rfl) (v' := .int .i64 ((n.toNat : Nat) : Int)) (congrArg _ (by omega)))) ⟨hb12, trivial⟩ rfl ?_
                  refine T_all (rs := [3, 5, 7]) (by kernel_rfl) rfl (all3 (O_one rfl ?_) (O_one rfl ?_) (O_one rfl ?_))
                  · refine L_make (enc := encX) (m := n.toNat) (x0 := Sx.z) slc27 zer81 rfl rfl rfl EncX (by omega) (by omega) rfl ?_
                    intro g5 w19 eg5 hb13 hs19 hz15
                    have ge5 : w.heap.size ≤ g5 := eg_ge hB eg5
                    have lt6 : g1 < g5 := lt_of_eg hb1.lt eg5
                    have lt7 : g2 < g5 := lt_of_eg hb2.lt eg5
                    have lt8 : g4 < g5 := lt_of_eg hb12.lt eg5
                    replace hB := gb_tr hB hs19
                    replace hR := hR.gb hs19
                    replace hb1 := hb1.gb hs19
                    replace hb2 := hb2.gb hs19
                    replace hb12 := hb12.gb hs19
                    refine L_nil (N_then ⟨fun hN_ => ⟨hb12, trivial⟩, ?_⟩)
                    refine T_all (rs := [5, 7]) (by kernel_rfl) rfl (all2 (O_one rfl ?_) (O_one rfl ?_))
                    · refine L_make (enc := encX) (m := n.toNat) (x0 := Sx.z) slc27 zer81 rfl rfl rfl EncX (by omega) (by omega) rfl ?_
                      intro g6 w20 eg6 hb14 hs20 hz16
                      have ge6 : w.heap.size ≤ g6 := eg_ge hB eg6
                      have lt9 : g1 < g6 := lt_of_eg hb1.lt eg6
                      have lt10 : g2 < g6 := lt_of_eg hb2.lt eg6
                      have lt11 : g4 < g6 := lt_of_eg hb12.lt eg6
                      have lt12 : g5 < g6 := lt_of_eg hb13.lt eg6
                      replace hB := gb_tr hB hs20
                      replace hR := hR.gb hs20
                      replace hb1 := hb1.gb hs20
                      replace hb2 := hb2.gb hs20
                      replace hb12 := hb12.gb hs20
                      replace hb13 := hb13.gb hs20
                      refine L_nil (N_then ⟨fun hN_ => ⟨hb12, trivial⟩, ?_⟩)
                      refine T_all (rs := [7]) (by kernel_rfl) rfl (all1 (O_one rfl ?_))
                      refine L_make (enc := encO) (m := n.toNat) (x0 := false) slc87 zer4 rfl rfl rfl EncO (by omega) (by omega) rfl ?_
                      intro g7 w21 eg7 hb15 hs21 hz17
                      have ge7 : w.heap.size ≤ g7 := eg_ge hB eg7
                      have lt13 : g1 < g7 := lt_of_eg hb1.lt eg7
                      have lt14 : g2 < g7 := lt_of_eg hb2.lt eg7
                      have lt15 : g4 < g7 := lt_of_eg hb12.lt eg7
                      have lt16 : g5 < g7 := lt_of_eg hb13.lt eg7
                      have lt17 : g6 < g7 := lt_of_eg hb14.lt eg7
                      replace hB := gb_tr hB hs21
                      replace hR := hR.gb hs21
                      replace hb1 := hb1.gb hs21
                      replace hb2 := hb2.gb hs21
                      replace hb12 := hb12.gb hs21
                      replace hb13 := hb13.gb hs21
                      replace hb14 := hb14.gb hs21
                      refine L_nil (N_then ⟨fun hN_ => ⟨hb12, trivial⟩, ?_⟩)
                      refine T_takeA (i := 8) rfl (by kernel_rfl) (by kernel_rfl) (by kernel_rfl) (by kernel_rfl) (Y_of (fun _ ⟨hb12, _⟩ => R_eqv (R_build (pv := [(0, .string nm), (1, .slice (some ⟨g5, 0, none⟩) n.toNat n.toNat), (2, .slice (some ⟨g6, 0, none⟩) n.toNat n.toNat), (3, .slice (some ⟨g7, 0, none⟩) n.toNat n.toNat)]) (cs := [.string nm, .slice (some ⟨g5, 0, none⟩) n.toNat n.toNat, .slice (some ⟨g6, 0, none⟩) n.toNat n.toNat, .slice (some ⟨g7, 0, none⟩) n.toNat n.toNat]) rfl (by kernel_rfl)) (v' := .agg #[.string nm, .slice (some ⟨g5, 0, none⟩) ((List.replicate n.toNat Sx.z).length) n.toNat, .slice (some ⟨g6, 0, none⟩) ((List.replicate n.toNat Sx.z).length) n.toNat, .slice (some ⟨g7, 0, none⟩) ((List.replicate n.toNat false).length) n.toNat]) (by simp only [List.length_replicate]))) ⟨hb12, trivial⟩ rfl ?_
                      refine T_all (rs := [9]) (by kernel_rfl) rfl (all1 (O_one rfl ?_))
                      have ge8 : w.heap.size ≤ w21.heap.size := hB.size
                      refine L_call rfl cb44 (rwith (r := r.opk) (f := (⟨nm, some ⟨g5, 0, none⟩, n.toNat, (List.replicate n.toNat Sx.z), some ⟨g6, 0, none⟩, n.toNat, (List.replicate n.toNat Sx.z), some ⟨g7, 0, none⟩, n.toNat, (List.replicate n.toNat false)⟩ : RF)) (hR.opk hq2)) rfl ?_
                      rintro _ w22 ⟨hs22, A_1, c_1, rfl, ho1⟩
                      have lb1 : g5 < w21.heap.size := hb13.lt
                      have lb2 : g6 < w21.heap.size := hb14.lt
                      have lb3 : g7 < w21.heap.size := hb15.lt
                      replace hB := gb_tr hB hs22
                      replace hR := hR.gb hs22
                      replace hb1 := hb1.gb hs22
                      replace hb2 := hb2.gb hs22
                      replace hb12 := hb12.gb hs22
                      replace hb13 := hb13.gb hs22
                      replace hb14 := hb14.gb hs22
                      replace hb15 := hb15.gb hs22
                      have hlo1 : w21.heap.size ≤ w22.heap.size := hs22.size
                      refine L_nil (N_then ⟨fun hN_ => ⟨hb12, trivial⟩, ?_⟩)
                      refine T_all (rs := [10]) (by kernel_rfl) rfl (all1 (O_one rfl ?_))
                      refine L_stA (vs := [.slice A_1 ((insK RF.nm (⟨nm, some ⟨g5, 0, none⟩, n.toNat, (List.replicate n.toNat Sx.z), some ⟨g6, 0, none⟩, n.toNat, (List.replicate n.toNat Sx.z), some ⟨g7, 0, none⟩, n.toNat, (List.replicate n.toNat false)⟩ : RF) (remK RF.nm (⟨nm, some ⟨g5, 0, none⟩, n.toNat, (List.replicate n.toNat Sx.z), some ⟨g6, 0, none⟩, n.toNat, (List.replicate n.toNat Sx.z), some ⟨g7, 0, none⟩, n.toNat, (List.replicate n.toNat false)⟩ : RF).nm r.rs)).length) c_1, .int .i64 r.cap, .int .i64 (IntKind.i64.wrap (r.ops + 1)), .bool r.dn, .bool r.tl, .int .i64 (if r.tl then IntKind.i64.wrap (r.af - 1) else r.af)]) rfl rfl rfl sz36 rfl hb2 rfl ?_
                      intro w23 hb16 hs23 hz18
                      replace hB := gb_trg hB hs23 ge2
                      replace hR := hR.other hb2 rfl rfl rfl hs23
                      replace hb1 := hb1.grown hs23 (ne_lt lt1)
                      replace hb12 := hb12.grown hs23 (ne_gt lt5)
                      replace hb13 := hb13.grown hs23 (ne_gt lt7)
                      replace hb14 := hb14.grown hs23 (ne_gt lt10)
                      replace hb15 := hb15.grown hs23 (ne_gt lt14)
                      replace ho1 := own_other ho1 hb2 rfl hs23
                      replace hlo1 := Nat.le_trans hlo1 hs23.size
                      refine L_nil (N_then ⟨fun hN_ => ⟨hb12, trivial⟩, ?_⟩)
                      refine Tqs ttFd 0 [11] [] (fun _ _ => trivial) ⟨hb12, trivial⟩ rfl ?_
                      refine T_done (by kernel_rfl) (CalmE.normal ?_)
                      exact ⟨rfl, ⟨_, A_1, g5, g6, g7, c_1, Ac_frg ⟨rfl, rfl, rfl, rfl, rfl, rfl, rfl, rfl, rfl, rfl, rfl, rfl, rfl, rfl, trivial⟩, hB, hR, hb1, hb16, hb12, hb13, hb14, hb15, (own_lo ho1 ge8), ge5, ge6, ge7, lt6, lt9, lt13, lt7, lt10, lt14, lt8, lt11, lt15⟩⟩
                    · refine L_make (enc := encO) (m := n.toNat) (x0 := false) slc87 zer4 rfl rfl rfl EncO (by omega) (by omega) rfl ?_
                      intro g8 w24 eg8 hb17 hs24 hz19
                      have ge9 : w.heap.size ≤ g8 := eg_ge hB eg8
                      have lt18 : g1 < g8 := lt_of_eg hb1.lt eg8
                      have lt19 : g2 < g8 := lt_of_eg hb2.lt eg8
                      have lt20 : g4 < g8 := lt_of_eg hb12.lt eg8
                      have lt21 : g5 < g8 := lt_of_eg hb13.lt eg8
                      replace hB := gb_tr hB hs24
                      replace hR := hR.gb hs24
                      replace hb1 := hb1.gb hs24
                      replace hb2 := hb2.gb hs24
                      replace hb12 := hb12.gb hs24
                      replace hb13 := hb13.gb hs24
                      refine L_nil (N_then ⟨fun hN_ => ⟨hb12, trivial⟩, ?_⟩)
                      refine T_all (rs := [5]) (by kernel_rfl) rfl (all1 (O_one rfl ?_))
                      refine L_make (enc := encX) (m := n.toNat) (x0 := Sx.z) slc27 zer81 rfl rfl rfl EncX (by omega) (by omega) rfl ?_
                      intro g9 w25 eg9 hb18 hs25 hz20
                      have ge10 : w.heap.size ≤ g9 := eg_ge hB eg9
                      have lt22 : g1 < g9 := lt_of_eg hb1.lt eg9
                      have lt23 : g2 < g9 := lt_of_eg hb2.lt eg9
                      have lt24 : g4 < g9 := lt_of_eg hb12.lt eg9
                      have lt25 : g5 < g9 := lt_of_eg hb13.lt eg9
                      have lt26 : g8 < g9 := lt_of_eg hb17.lt eg9
                      replace hB := gb_tr hB hs25
                      replace hR := hR.gb hs25
                      replace hb1 := hb1.gb hs25
                      replace hb2 := hb2.gb hs25
                      replace hb12 := hb12.gb hs25
                      replace hb13 := hb13.gb hs25
                      replace hb17 := hb17.gb hs25
                      refine L_nil (N_then ⟨fun hN_ => ⟨hb12, trivial⟩, ?_⟩)
                      refine T_takeA (i := 8) rfl (by kernel_rfl) (by kernel_rfl) (by kernel_rfl) (by kernel_rfl) (Y_of (fun _ ⟨hb12, _⟩ => R_eqv (R_build (pv := [(0, .string nm), (1, .slice (some ⟨g5, 0, none⟩) n.toNat n.toNat), (2, .slice (some ⟨g9, 0, none⟩) n.toNat n.toNat), (3, .slice (some ⟨g8, 0, none⟩) n.toNat n.toNat)]) (cs := [.string nm, .slice (some ⟨g5, 0, none⟩) n.toNat n.toNat, .slice (some ⟨g9, 0, none⟩) n.toNat n.toNat, .slice (some ⟨g8, 0, none⟩) n.toNat n.toNat]) rfl (by kernel_rfl)) (v' := .agg #[.string nm, .slice (some ⟨g5, 0, none⟩) ((List.replicate n.toNat Sx.z).length) n.toNat, .slice (some ⟨g9, 0, none⟩) ((List.replicate n.toNat Sx.z).length) n.toNat, .slice (some ⟨g8, 0, none⟩) ((List.replicate n.toNat false).length) n.toNat]) (by simp only [List.length_replicate]))) ⟨hb12, trivial⟩ rfl ?_
                      refine T_all (rs := [9]) (by kernel_rfl) rfl (all1 (O_one rfl ?_))
                      have ge11 : w.heap.size ≤ w25.heap.size := hB.size
                      refine L_call rfl cb44 (rwith (r := r.opk) (f := (⟨nm, some ⟨g5, 0, none⟩, n.toNat, (List.replicate n.toNat Sx.z), some ⟨g9, 0, none⟩, n.toNat, (List.replicate n.toNat Sx.z), some ⟨g8, 0, none⟩, n.toNat, (List.replicate n.toNat false)⟩ : RF)) (hR.opk hq2)) rfl ?_
                      rintro _ w26 ⟨hs26, A_2, c_2, rfl, ho2⟩
                      have lb4 : g5 < w25.heap.size := hb13.lt
                      have lb5 : g8 < w25.heap.size := hb17.lt
                      have lb6 : g9 < w25.heap.size := hb18.lt
                      replace hB := gb_tr hB hs26
                      replace hR := hR.gb hs26
                      replace hb1 := hb1.gb hs26
                      replace hb2 := hb2.gb hs26
                      replace hb12 := hb12.gb hs26
                      replace hb13 := hb13.gb hs26
                      replace hb17 := hb17.gb hs26
                      replace hb18 := hb18.gb hs26
                      have hlo2 : w25.heap.size ≤ w26.heap.size := hs26.size
                      refine L_nil (N_then ⟨fun hN_ => ⟨hb12, trivial⟩, ?_⟩)
                      refine T_all (rs := [10]) (by kernel_rfl) rfl (all1 (O_one rfl ?_))
                      refine L_stA (vs := [.slice A_2 ((insK RF.nm (⟨nm, some ⟨g5, 0, none⟩, n.toNat, (List.replicate n.toNat Sx.z), some ⟨g9, 0, none⟩, n.toNat, (List.replicate n.toNat Sx.z), some ⟨g8, 0, none⟩, n.toNat, (List.replicate n.toNat false)⟩ : RF) (remK RF.nm (⟨nm, some ⟨g5, 0, none⟩, n.toNat, (List.replicate n.toNat Sx.z), some ⟨g9, 0, none⟩, n.toNat, (List.replicate n.toNat Sx.z), some ⟨g8, 0, none⟩, n.toNat, (List.replicate n.toNat false)⟩ : RF).nm r.rs)).length) c_2, .int .i64 r.cap, .int .i64 (IntKind.i64.wrap (r.ops + 1)), .bool r.dn, .bool r.tl, .int .i64 (if r.tl then IntKind.i64.wrap (r.af - 1) else r.af)]) rfl rfl rfl sz36 rfl hb2 rfl ?_
                      intro w27 hb19 hs27 hz21
                      replace hB := gb_trg hB hs27 ge2
                      replace hR := hR.other hb2 rfl rfl rfl hs27
                      replace hb1 := hb1.grown hs27 (ne_lt lt1)
                      replace hb12 := hb12.grown hs27 (ne_gt lt5)
                      replace hb13 := hb13.grown hs27 (ne_gt lt7)
                      replace hb17 := hb17.grown hs27 (ne_gt lt19)
                      replace hb18 := hb18.grown hs27 (ne_gt lt23)
                      replace ho2 := own_other ho2 hb2 rfl hs27
                      replace hlo2 := Nat.le_trans hlo2 hs27.size
                      refine L_nil (N_then ⟨fun hN_ => ⟨hb12, trivial⟩, ?_⟩)
                      refine Tqs ttFd 0 [11] [] (fun _ _ => trivial) ⟨hb12, trivial⟩ rfl ?_
                      refine T_done (by kernel_rfl) (CalmE.normal ?_)
                      exact ⟨rfl, ⟨_, A_2, g5, g9, g8, c_2, Ac_frg ⟨rfl, rfl, rfl, rfl, rfl, rfl, rfl, rfl, rfl, rfl, rfl, rfl, rfl, rfl, trivial⟩, hB, hR, hb1, hb19, hb12, hb13, hb18, hb17, (own_lo ho2 ge11), ge5, ge10, ge9, lt6, lt22, lt18, lt7, lt23, lt19, lt8, lt24, lt20⟩⟩
                  · refine L_make (enc := encX) (m := n.toNat) (x0 := Sx.z) slc27 zer81 rfl rfl rfl EncX (by omega) (by omega) rfl ?_
                    intro g10 w28 eg10 hb20 hs28 hz22
                    have ge12 : w.heap.size ≤ g10 := eg_ge hB eg10
                    have lt27 : g1 < g10 := lt_of_eg hb1.lt eg10
                    have lt28 : g2 < g10 := lt_of_eg hb2.lt eg10
                    have lt29 : g4 < g10 := lt_of_eg hb12.lt eg10
                    replace hB := gb_tr hB hs28
                    replace hR := hR.gb hs28
                    replace hb1 := hb1.gb hs28
                    replace hb2 := hb2.gb hs28
                    replace hb12 := hb12.gb hs28
                    refine L_nil (N_then ⟨fun hN_ => ⟨hb12, trivial⟩, ?_⟩)
                    refine T_all (rs := [3, 7]) (by kernel_rfl) rfl (all2 (O_one rfl ?_) (O_one rfl ?_))
                    · refine L_make (enc := encX) (m := n.toNat) (x0 := Sx.z) slc27 zer81 rfl rfl rfl EncX (by omega) (by omega) rfl ?_
                      intro g11 w29 eg11 hb21 hs29 hz23
                      have ge13 : w.heap.size ≤ g11 := eg_ge hB eg11
                      have lt30 : g1 < g11 := lt_of_eg hb1.lt eg11
                      have lt31 : g2 < g11 := lt_of_eg hb2.lt eg11
                      have lt32 : g4 < g11 := lt_of_eg hb12.lt eg11
                      have lt33 : g10 < g11 := lt_of_eg hb20.lt eg11
                      replace hB := gb_tr hB hs29
                      replace hR := hR.gb hs29
                      replace hb1 := hb1.gb hs29
                      replace hb2 := hb2.gb hs29
                      replace hb12 := hb12.gb hs29
                      replace hb20 := hb20.gb hs29
                      refine L_nil (N_then ⟨fun hN_ => ⟨hb12, trivial⟩, ?_⟩)
                      refine T_all (rs := [7]) (by kernel_rfl) rfl (all1 (O_one rfl ?_))
                      refine L_make (enc := encO) (m := n.toNat) (x0 := false) slc87 zer4 rfl rfl rfl EncO (by omega) (by omega) rfl ?_
                      intro g12 w30 eg12 hb22 hs30 hz24
                      have ge14 : w.heap.size ≤ g12 := eg_ge hB eg12
                      have lt34 : g1 < g12 := lt_of_eg hb1.lt eg12
                      have lt35 : g2 < g12 := lt_of_eg hb2.lt eg12
                      have lt36 : g4 < g12 := lt_of_eg hb12.lt eg12
                      have lt37 : g10 < g12 := lt_of_eg hb20.lt eg12
                      have lt38 : g11 < g12 := lt_of_eg hb21.lt eg12
                      replace hB := gb_tr hB hs30
                      replace hR := hR.gb hs30
                      replace hb1 := hb1.gb hs30
                      replace hb2 := hb2.gb hs30
                      replace hb12 := hb12.gb hs30
                      replace hb20 := hb20.gb hs30
                      replace hb21 := hb21.gb hs30
                      refine L_nil (N_then ⟨fun hN_ => ⟨hb12, trivial⟩, ?_⟩)
                      refine T_takeA (i := 8) rfl (by kernel_rfl) (by kernel_rfl) (by kernel_rfl) (by kernel_rfl) (Y_of (fun _ ⟨hb12, _⟩ => R_eqv (R_build (pv := [(0, .string nm), (1, .slice (some ⟨g11, 0, none⟩) n.toNat n.toNat), (2, .slice (some ⟨g10, 0, none⟩) n.toNat n.toNat), (3, .slice (some ⟨g12, 0, none⟩) n.toNat n.toNat)]) (cs := [.string nm, .slice (some ⟨g11, 0, none⟩) n.toNat n.toNat, .slice (some ⟨g10, 0, none⟩) n.toNat n.toNat, .slice (some ⟨g12, 0, none⟩) n.toNat n.toNat]) rfl (by kernel_rfl)) (v' := .agg #[.string nm, .slice (some ⟨g11, 0, none⟩) ((List.replicate n.toNat Sx.z).length) n.toNat, .slice (some ⟨g10, 0, none⟩) ((List.replicate n.toNat Sx.z).length) n.toNat, .slice (some ⟨g12, 0, none⟩) ((List.replicate n.toNat false).length) n.toNat]) (by simp only [List.length_replicate]))) ⟨hb12, trivial⟩ rfl ?_
                      refine T_all (rs := [9]) (by kernel_rfl) rfl (all1 (O_one rfl ?_))
                      have ge15 : w.heap.size ≤ w30.heap.size := hB.size
                      refine L_call rfl cb44 (rwith (r := r.opk) (f := (⟨nm, some ⟨g11, 0, none⟩, n.toNat, (List.replicate n.toNat Sx.z), some ⟨g10, 0, none⟩, n.toNat, (List.replicate n.toNat Sx.z), some ⟨g12, 0, none⟩, n.toNat, (List.replicate n.toNat false)⟩ : RF)) (hR.opk hq2)) rfl ?_
                      rintro _ w31 ⟨hs31, A_3, c_3, rfl, ho3⟩
                      have lb7 : g10 < w30.heap.size := hb20.lt
                      have lb8 : g11 < w30.heap.size := hb21.lt
                      have lb9 : g12 < w30.heap.size := hb22.lt
                      replace hB := gb_tr hB hs31
                      replace hR := hR.gb hs31
                      replace hb1 := hb1.gb hs31
                      replace hb2 := hb2.gb hs31
                      replace hb12 := hb12.gb hs31
                      replace hb20 := hb20.gb hs31
                      replace hb21 := hb21.gb hs31
                      replace hb22 := hb22.gb hs31
                      have hlo3 : w30.heap.size ≤ w31.heap.size := hs31.size
                      refine L_nil (N_then ⟨fun hN_ => ⟨hb12, trivial⟩, ?_⟩)
                      refine T_all (rs := [10]) (by kernel_rfl) rfl (all1 (O_one rfl ?_))
                      refine L_stA (vs := [.slice A_3 ((insK RF.nm (⟨nm, some ⟨g11, 0, none⟩, n.toNat, (List.replicate n.toNat Sx.z), some ⟨g10, 0, none⟩, n.toNat, (List.replicate n.toNat Sx.z), some ⟨g12, 0, none⟩, n.toNat, (List.replicate n.toNat false)⟩ : RF) (remK RF.nm (⟨nm, some ⟨g11, 0, none⟩, n.toNat, (List.replicate n.toNat Sx.z), some ⟨g10, 0, none⟩, n.toNat, (List.replicate n.toNat Sx.z), some ⟨g12, 0, none⟩, n.toNat, (List.replicate n.toNat false)⟩ : RF).nm r.rs)).length) c_3, .int .i64 r.cap, .int .i64 (IntKind.i64.wrap (r.ops + 1)), .bool r.dn, .bool r.tl, .int .i64 (if r.tl then IntKind.i64.wrap (r.af - 1) else r.af)]) rfl rfl rfl sz36 rfl hb2 rfl ?_
                      intro w32 hb23 hs32 hz25
                      replace hB := gb_trg hB hs32 ge2
                      replace hR := hR.other hb2 rfl rfl rfl hs32
                      replace hb1 := hb1.grown hs32 (ne_lt lt1)
                      replace hb12 := hb12.grown hs32 (ne_gt lt5)
                      replace hb20 := hb20.grown hs32 (ne_gt lt28)
                      replace hb21 := hb21.grown hs32 (ne_gt lt31)
                      replace hb22 := hb22.grown hs32 (ne_gt lt35)
                      replace ho3 := own_other ho3 hb2 rfl hs32
                      replace hlo3 := Nat.le_trans hlo3 hs32.size
                      refine L_nil (N_then ⟨fun hN_ => ⟨hb12, trivial⟩, ?_⟩)
                      refine Tqs ttFd 0 [11] [] (fun _ _ => trivial) ⟨hb12, trivial⟩ rfl ?_
                      refine T_done (by kernel_rfl) (CalmE.normal ?_)
                      exact ⟨rfl, ⟨_, A_3, g11, g10, g12, c_3, Ac_frg ⟨rfl, rfl, rfl, rfl, rfl, rfl, rfl, rfl, rfl, rfl, rfl, rfl, rfl, rfl, trivial⟩, hB, hR, hb1, hb23, hb12, hb21, hb20, hb22, (own_lo ho3 ge15), ge13, ge12, ge14, lt30, lt27, lt34, lt31, lt28, lt35, lt32, lt29, lt36⟩⟩
                    · refine L_make (enc := encO) (m := n.toNat) (x0 := false) slc87 zer4 rfl rfl rfl EncO (by omega) (by omega) rfl ?_
                      intro g13 w33 eg13 hb24 hs33 hz26
                      have ge16 : w.heap.size ≤ g13 := eg_ge hB eg13
                      have lt39 : g1 < g13 := lt_of_eg hb1.lt eg13
                      have lt40 : g2 < g13 := lt_of_eg hb2.lt eg13
                      have lt41 : g4 < g13 := lt_of_eg hb12.lt eg13
                      have lt42 : g10 < g13 := lt_of_eg hb20.lt eg13
                      replace hB := gb_tr hB hs33
                      replace hR := hR.gb hs33
                      replace hb1 := hb1.gb hs33
                      replace hb2 := hb2.gb hs33
                      replace hb12 := hb12.gb hs33
                      replace hb20 := hb20.gb hs33
                      refine L_nil (N_then ⟨fun hN_ => ⟨hb12, trivial⟩, ?_⟩)
                      refine T_all (rs := [3]) (by kernel_rfl) rfl (all1 (O_one rfl ?_))
                      refine L_make (enc := encX) (m := n.toNat) (x0 := Sx.z) slc27 zer81 rfl rfl rfl EncX (by omega) (by omega) rfl ?_
                      intro g14 w34 eg14 hb25 hs34 hz27
                      have ge17 : w.heap.size ≤ g14 := eg_ge hB eg14
                      have lt43 : g1 < g14 := lt_of_eg hb1.lt eg14
                      have lt44 : g2 < g14 := lt_of_eg hb2.lt eg14
                      have lt45 : g4 < g14 := lt_of_eg hb12.lt eg14
                      have lt46 : g10 < g14 := lt_of_eg hb20.lt eg14
                      have lt47 : g13 < g14 := lt_of_eg hb24.lt eg14
                      replace hB := gb_tr hB hs34
                      replace hR := hR.gb hs34
                      replace hb1 := hb1.gb hs34
                      replace hb2 := hb2.gb hs34
                      replace hb12 := hb12.gb hs34
                      replace hb20 := hb20.gb hs34
                      replace hb24 := hb24.gb hs34
                      refine L_nil (N_then ⟨fun hN_ => ⟨hb12, trivial⟩, ?_⟩)
                      refine T_takeA (i := 8) rfl (by kernel_rfl) (by kernel_rfl) (by kernel_rfl) (by kernel_rfl) (Y_of (fun _ ⟨hb12, _⟩ => R_eqv (R_build (pv := [(0, .string nm), (1, .slice (some ⟨g14, 0, none⟩) n.toNat n.toNat), (2, .slice (some ⟨g10, 0, none⟩) n.toNat n.toNat), (3, .slice (some ⟨g13, 0, none⟩) n.toNat n.toNat)]) (cs := [.string nm, .slice (some ⟨g14, 0, none⟩) n.toNat n.toNat, .slice (some ⟨g10, 0, none⟩) n.toNat n.toNat, .slice (some ⟨g13, 0, none⟩) n.toNat n.toNat]) rfl (by kernel_rfl)) (v' := .agg #[.string nm, .slice (some ⟨g14, 0, none⟩) ((List.replicate n.toNat Sx.z).length) n.toNat, .slice (some ⟨g10, 0, none⟩) ((List.replicate n.toNat Sx.z).length) n.toNat, .slice (some ⟨g13, 0, none⟩) ((List.replicate n.toNat false).length) n.toNat]) (by simp only [List.length_replicate]))) ⟨hb12, trivial⟩ rfl ?_
                      refine T_all (rs := [9]) (by kernel_rfl) rfl (all1 (O_one rfl ?_))
                      have ge18 : w.heap.size ≤ w34.heap.size := hB.size
                      refine L_call rfl cb44 (rwith (r := r.opk) (f := (⟨nm, some ⟨g14, 0, none⟩, n.toNat, (List.replicate n.toNat Sx.z), some ⟨g10, 0, none⟩, n.toNat, (List.replicate n.toNat Sx.z), some ⟨g13, 0, none⟩, n.toNat, (List.replicate n.toNat false)⟩ : RF)) (hR.opk hq2)) rfl ?_
                      rintro _ w35 ⟨hs35, A_4, c_4, rfl, ho4⟩
                      have lb10 : g10 < w34.heap.size := hb20.lt
                      have lb11 : g13 < w34.heap.size := hb24.lt
                      have lb12 : g14 < w34.heap.size := hb25.lt
                      replace hB := gb_tr hB hs35
                      replace hR := hR.gb hs35
                      replace hb1 := hb1.gb hs35
                      replace hb2 := hb2.gb hs35
                      replace hb12 := hb12.gb hs35
                      replace hb20 := hb20.gb hs35
                      replace hb24 := hb24.gb hs35
                      replace hb25 := hb25.gb hs35
                      have hlo4 : w34.heap.size ≤ w35.heap.size := hs35.size
                      refine L_nil (N_then ⟨fun hN_ => ⟨hb12, trivial⟩, ?_⟩)
                      refine T_all (rs := [10]) (by kernel_rfl) rfl (all1 (O_one rfl ?_))
                      refine L_stA (vs := [.slice A_4 ((insK RF.nm (⟨nm, some ⟨g14, 0, none⟩, n.toNat, (List.replicate n.toNat Sx.z), some ⟨g10, 0, none⟩, n.toNat, (List.replicate n.toNat Sx.z), some ⟨g13, 0, none⟩, n.toNat, (List.replicate n.toNat false)⟩ : RF) (remK RF.nm (⟨nm, some ⟨g14, 0, none⟩, n.toNat, (List.replicate n.toNat Sx.z), some ⟨g10, 0, none⟩, n.toNat, (List.replicate n.toNat Sx.z), some ⟨g13, 0, none⟩, n.toNat, (List.replicate n.toNat false)⟩ : RF).nm r.rs)).length) c_4, .int .i64 r.cap, .int .i64 (IntKind.i64.wrap (r.ops + 1)), .bool r.dn, .bool r.tl, .int .i64 (if r.tl then IntKind.i64.wrap (r.af - 1) else r.af)]) rfl rfl rfl sz36 rfl hb2 rfl ?_
                      intro w36 hb26 hs36 hz28
                      replace hB := gb_trg hB hs36 ge2
                      replace hR := hR.other hb2 rfl rfl rfl hs36
                      replace hb1 := hb1.grown hs36 (ne_lt lt1)
                      replace hb12 := hb12.grown hs36 (ne_gt lt5)
                      replace hb20 := hb20.grown hs36 (ne_gt lt28)
                      replace hb24 := hb24.grown hs36 (ne_gt lt40)
                      replace hb25 := hb25.grown hs36 (ne_gt lt44)
                      replace ho4 := own_other ho4 hb2 rfl hs36
                      replace hlo4 := Nat.le_trans hlo4 hs36.size
                      refine L_nil (N_then ⟨fun hN_ => ⟨hb12, trivial⟩, ?_⟩)
                      refine Tqs ttFd 0 [11] [] (fun _ _ => trivial) ⟨hb12, trivial⟩ rfl ?_
                      refine T_done (by kernel_rfl) (CalmE.normal ?_)
                      exact ⟨rfl, ⟨_, A_4, g14, g10, g13, c_4, Ac_frg ⟨rfl, rfl, rfl, rfl, rfl, rfl, rfl, rfl, rfl, rfl, rfl, rfl, rfl, rfl, trivial⟩, hB, hR, hb1, hb26, hb12, hb25, hb20, hb24, (own_lo ho4 ge18), ge17, ge12, ge16, lt43, lt27, lt39, lt44, lt28, lt40, lt45, lt29, lt41⟩⟩
                  · refine L_make (enc := encO) (m := n.toNat) (x0 := false) slc87 zer4 rfl rfl rfl EncO (by omega) (by omega) rfl ?_
                    intro g15 w37 eg15 hb27 hs37 hz29
                    have ge19 : w.heap.size ≤ g15 := eg_ge hB eg15
                    have lt48 : g1 < g15 := lt_of_eg hb1.lt eg15
                    have lt49 : g2 < g15 := lt_of_eg hb2.lt eg15
                    have lt50 : g4 < g15 := lt_of_eg hb12.lt eg15
                    replace hB := gb_tr hB hs37
                    replace hR := hR.gb hs37
                    replace hb1 := hb1.gb hs37
                    replace hb2 := hb2.gb hs37
                    replace hb12 := hb12.gb hs37
                    refine L_nil (N_then ⟨fun hN_ => ⟨hb12, trivial⟩, ?_⟩)
                    refine T_all (rs := [3, 5]) (by kernel_rfl) rfl (all2 (O_one rfl ?_) (O_one rfl ?_))
                    · refine L_make (enc := encX) (m := n.toNat) (x0 := Sx.z) slc27 zer81 rfl rfl rfl EncX (by omega) (by omega) rfl ?_
                      intro g16 w38 eg16 hb28 hs38 hz30
                      have ge20 : w.heap.size ≤ g16 := eg_ge hB eg16
                      have lt51 : g1 < g16 := lt_of_eg hb1.lt eg16
                      have lt52 : g2 < g16 := lt_of_eg hb2.lt eg16
                      have lt53 : g4 < g16 := lt_of_eg hb12.lt eg16
                      have lt54 : g15 < g16 := lt_of_eg hb27.lt eg16
                      replace hB := gb_tr hB hs38
                      replace hR := hR.gb hs38
                      replace hb1 := hb1.gb hs38
                      replace hb2 := hb2.gb hs38
                      replace hb12 := hb12.gb hs38
                      replace hb27 := hb27.gb hs38
                      refine L_nil (N_then ⟨fun hN_ => ⟨hb12, trivial⟩, ?_⟩)
                      refine T_all (rs := [5]) (by kernel_rfl) rfl (all1 (O_one rfl ?_))
                      refine L_make (enc := encX) (m := n.toNat) (x0 := Sx.z) slc27 zer81 rfl rfl rfl EncX (by omega) (by omega) rfl ?_
                      intro g17 w39 eg17 hb29 hs39 hz31
                      have ge21 : w.heap.size ≤ g17 := eg_ge hB eg17
                      have lt55 : g1 < g17 := lt_of_eg hb1.lt eg17
                      have lt56 : g2 < g17 := lt_of_eg hb2.lt eg17
                      have lt57 : g4 < g17 := lt_of_eg hb12.lt eg17
                      have lt58 : g15 < g17 := lt_of_eg hb27.lt eg17
                      have lt59 : g16 < g17 := lt_of_eg hb28.lt eg17
                      replace hB := gb_tr hB hs39
                      replace hR := hR.gb hs39
                      replace hb1 := hb1.gb hs39
                      replace hb2 := hb2.gb hs39
                      replace hb12 := hb12.gb hs39
                      replace hb27 := hb27.gb hs39
                      replace hb28 := hb28.gb hs39
                      refine L_nil (N_then ⟨fun hN_ => ⟨hb12, trivial⟩, ?_⟩)
                      refine T_takeA (i := 8) rfl (by kernel_rfl) (by kernel_rfl) (by kernel_rfl) (by kernel_rfl) (Y_of (fun _ ⟨hb12, _⟩ => R_eqv (R_build (pv := [(0, .string nm), (1, .slice (some ⟨g16, 0, none⟩) n.toNat n.toNat), (2, .slice (some ⟨g17, 0, none⟩) n.toNat n.toNat), (3, .slice (some ⟨g15, 0, none⟩) n.toNat n.toNat)]) (cs := [.string nm, .slice (some ⟨g16, 0, none⟩) n.toNat n.toNat, .slice (some ⟨g17, 0, none⟩) n.toNat n.toNat, .slice (some ⟨g15, 0, none⟩) n.toNat n.toNat]) rfl (by kernel_rfl)) (v' := .agg #[.string nm, .slice (some ⟨g16, 0, none⟩) ((List.replicate n.toNat Sx.z).length) n.toNat, .slice (some ⟨g17, 0, none⟩) ((List.replicate n.toNat Sx.z).length) n.toNat, .slice (some ⟨g15, 0, none⟩) ((List.replicate n.toNat false).length) n.toNat]) (by simp only [List.length_replicate]))) ⟨hb12, trivial⟩ rfl ?_
                      refine T_all (rs := [9]) (by kernel_rfl) rfl (all1 (O_one rfl ?_))
                      have ge22 : w.heap.size ≤ w39.heap.size := hB.size
                      refine L_call rfl cb44 (rwith (r := r.opk) (f := (⟨nm, some ⟨g16, 0, none⟩, n.toNat, (List.replicate n.toNat Sx.z), some ⟨g17, 0, none⟩, n.toNat, (List.replicate n.toNat Sx.z), some ⟨g15, 0, none⟩, n.toNat, (List.replicate n.toNat false)⟩ : RF)) (hR.opk hq2)) rfl ?_
                      rintro _ w40 ⟨hs40, A_5, c_5, rfl, ho5⟩
                      have lb13 : g15 < w39.heap.size := hb27.lt
                      have lb14 : g16 < w39.heap.size := hb28.lt
                      have lb15 : g17 < w39.heap.size := hb29.lt
                      replace hB := gb_tr hB hs40
                      replace hR := hR.gb hs40
                      replace hb1 := hb1.gb hs40
                      replace hb2 := hb2.gb hs40
                      replace hb12 := hb12.gb hs40
                      replace hb27 := hb27.gb hs40
                      replace hb28 := hb28.gb hs40
                      replace hb29 := hb29.gb hs40
                      have hlo5 : w39.heap.size ≤ w40.heap.size := hs40.size
                      refine L_nil (N_then ⟨fun hN_ => ⟨hb12, trivial⟩, ?_⟩)
                      refine T_all (rs := [10]) (by kernel_rfl) rfl (all1 (O_one rfl ?_))
                      refine L_stA (vs := [.slice A_5 ((insK RF.nm (⟨nm, some ⟨g16, 0, none⟩, n.toNat, (List.replicate n.toNat Sx.z), some ⟨g17, 0, none⟩, n.toNat, (List.replicate n.toNat Sx.z), some ⟨g15, 0, none⟩, n.toNat, (List.replicate n.toNat false)⟩ : RF) (remK RF.nm (⟨nm, some ⟨g16, 0, none⟩, n.toNat, (List.replicate n.toNat Sx.z), some ⟨g17, 0, none⟩, n.toNat, (List.replicate n.toNat Sx.z), some ⟨g15, 0, none⟩, n.toNat, (List.replicate n.toNat false)⟩ : RF).nm r.rs)).length) c_5, .int .i64 r.cap, .int .i64 (IntKind.i64.wrap (r.ops + 1)), .bool r.dn, .bool r.tl, .int .i64 (if r.tl then IntKind.i64.wrap (r.af - 1) else r.af)]) rfl rfl rfl sz36 rfl hb2 rfl ?_
                      intro w41 hb30 hs41 hz32
                      replace hB := gb_trg hB hs41 ge2
                      replace hR := hR.other hb2 rfl rfl rfl hs41
                      replace hb1 := hb1.grown hs41 (ne_lt lt1)
                      replace hb12 := hb12.grown hs41 (ne_gt lt5)
                      replace hb27 := hb27.grown hs41 (ne_gt lt49)
                      replace hb28 := hb28.grown hs41 (ne_gt lt52)
                      replace hb29 := hb29.grown hs41 (ne_gt lt56)
                      replace ho5 := own_other ho5 hb2 rfl hs41
                      replace hlo5 := Nat.le_trans hlo5 hs41.size
                      refine L_nil (N_then ⟨fun hN_ => ⟨hb12, trivial⟩, ?_⟩)
                      refine Tqs ttFd 0 [11] [] (fun _ _ => trivial) ⟨hb12, trivial⟩ rfl ?_
                      refine T_done (by kernel_rfl) (CalmE.normal ?_)
                      exact ⟨rfl, ⟨_, A_5, g16, g17, g15, c_5, Ac_frg ⟨rfl, rfl, rfl, rfl, rfl, rfl, rfl, rfl, rfl, rfl, rfl, rfl, rfl, rfl, trivial⟩, hB, hR, hb1, hb30, hb12, hb28, hb29, hb27, (own_lo ho5 ge22), ge20, ge21, ge19, lt51, lt55, lt48, lt52, lt56, lt49, lt53, lt57, lt50⟩⟩
                    · refine L_make (enc := encX) (m := n.toNat) (x0 := Sx.z) slc27 zer81 rfl rfl rfl EncX (by omega) (by omega) rfl ?_
                      intro g18 w42 eg18 hb31 hs42 hz33
                      have ge23 : w.heap.size ≤ g18 := eg_ge hB eg18
                      have lt60 : g1 < g18 := lt_of_eg hb1.lt eg18
                      have lt61 : g2 < g18 := lt_of_eg hb2.lt eg18
                      have lt62 : g4 < g18 := lt_of_eg hb12.lt eg18
                      have lt63 : g15 < g18 := lt_of_eg hb27.lt eg18
                      replace hB := gb_tr hB hs42
                      replace hR := hR.gb hs42
                      replace hb1 := hb1.gb hs42
                      replace hb2 := hb2.gb hs42
                      replace hb12 := hb12.gb hs42
                      replace hb27 := hb27.gb hs42
                      refine L_nil (N_then ⟨fun hN_ => ⟨hb12, trivial⟩, ?_⟩)
                      refine T_all (rs := [3]) (by kernel_rfl) rfl (all1 (O_one rfl ?_))
                      refine L_make (enc := encX) (m := n.toNat) (x0 := Sx.z) slc27 zer81 rfl rfl rfl EncX (by omega) (by omega) rfl ?_
                      intro g19 w43 eg19 hb32 hs43 hz34
                      have ge24 : w.heap.size ≤ g19 := eg_ge hB eg19
                      have lt64 : g1 < g19 := lt_of_eg hb1.lt eg19
                      have lt65 : g2 < g19 := lt_of_eg hb2.lt eg19
                      have lt66 : g4 < g19 := lt_of_eg hb12.lt eg19
                      have lt67 : g15 < g19 := lt_of_eg hb27.lt eg19
                      have lt68 : g18 < g19 := lt_of_eg hb31.lt eg19
                      replace hB := gb_tr hB hs43
                      replace hR := hR.gb hs43
                      replace hb1 := hb1.gb hs43
                      replace hb2 := hb2.gb hs43
                      replace hb12 := hb12.gb hs43
                      replace hb27 := hb27.gb hs43
                      replace hb31 := hb31.gb hs43
                      refine L_nil (N_then ⟨fun hN_ => ⟨hb12, trivial⟩, ?_⟩)
                      refine T_takeA (i := 8) rfl (by kernel_rfl) (by kernel_rfl) (by kernel_rfl) (by kernel_rfl) (Y_of (fun _ ⟨hb12, _⟩ => R_eqv (R_build (pv := [(0, .string nm), (1, .slice (some ⟨g19, 0, none⟩) n.toNat n.toNat), (2, .slice (some ⟨g18, 0, none⟩) n.toNat n.toNat), (3, .slice (some ⟨g15, 0, none⟩) n.toNat n.toNat)]) (cs := [.string nm, .slice (some ⟨g19, 0, none⟩) n.toNat n.toNat, .slice (some ⟨g18, 0, none⟩) n.toNat n.toNat, .slice (some ⟨g15, 0, none⟩) n.toNat n.toNat]) rfl (by kernel_rfl)) (v' := .agg #[.string nm, .slice (some ⟨g19, 0, none⟩) ((List.replicate n.toNat Sx.z).length) n.toNat, .slice (some ⟨g18, 0, none⟩) ((List.replicate n.toNat Sx.z).length) n.toNat, .slice (some ⟨g15, 0, none⟩) ((List.replicate n.toNat false).length) n.toNat]) (by simp only [List.length_replicate]))) ⟨hb12, trivial⟩ rfl ?_
                      refine T_all (rs := [9]) (by kernel_rfl) rfl (all1 (O_one rfl ?_))
                      have ge25 : w.heap.size ≤ w43.heap.size := hB.size
                      refine L_call rfl cb44 (rwith (r := r.opk) (f := (⟨nm, some ⟨g19, 0, none⟩, n.toNat, (List.replicate n.toNat Sx.z), some ⟨g18, 0, none⟩, n.toNat, (List.replicate n.toNat Sx.z), some ⟨g15, 0, none⟩, n.toNat, (List.replicate n.toNat false)⟩ : RF)) (hR.opk hq2)) rfl ?_
                      rintro _ w44 ⟨hs44, A_6, c_6, rfl, ho6⟩
                      have lb16 : g15 < w43.heap.size := hb27.lt
                      have lb17 : g18 < w43.heap.size := hb31.lt
                      have lb18 : g19 < w43.heap.size := hb32.lt
                      replace hB := gb_tr hB hs44
                      replace hR := hR.gb hs44
                      replace hb1 := hb1.gb hs44
                      replace hb2 := hb2.gb hs44
                      replace hb12 := hb12.gb hs44
                      replace hb27 := hb27.gb hs44
                      replace hb31 := hb31.gb hs44
                      replace hb32 := hb32.gb hs44
                      have hlo6 : w43.heap.size ≤ w44.heap.size := hs44.size
                      refine L_nil (N_then ⟨fun hN_ => ⟨hb12, trivial⟩, ?_⟩)
                      refine T_all (rs := [10]) (by kernel_rfl) rfl (all1 (O_one rfl ?_))
                      refine L_stA (vs := [.slice A_6 ((insK RF.nm (⟨nm, some ⟨g19, 0, none⟩, n.toNat, (List.replicate n.toNat Sx.z), some ⟨g18, 0, none⟩, n.toNat, (List.replicate n.toNat Sx.z), some ⟨g15, 0, none⟩, n.toNat, (List.replicate n.toNat false)⟩ : RF) (remK RF.nm (⟨nm, some ⟨g19, 0, none⟩, n.toNat, (List.replicate n.toNat Sx.z), some ⟨g18, 0, none⟩, n.toNat, (List.replicate n.toNat Sx.z), some ⟨g15, 0, none⟩, n.toNat, (List.replicate n.toNat false)⟩ : RF).nm r.rs)).length) c_6, .int .i64 r.cap, .int .i64 (IntKind.i64.wrap (r.ops + 1)), .bool r.dn, .bool r.tl, .int .i64 (if r.tl then IntKind.i64.wrap (r.af - 1) else r.af)]) rfl rfl rfl sz36 rfl hb2 rfl ?_
                      intro w45 hb33 hs45 hz35
                      replace hB := gb_trg hB hs45 ge2
                      replace hR := hR.other hb2 rfl rfl rfl hs45
                      replace hb1 := hb1.grown hs45 (ne_lt lt1)
                      replace hb12 := hb12.grown hs45 (ne_gt lt5)
                      replace hb27 := hb27.grown hs45 (ne_gt lt49)
                      replace hb31 := hb31.grown hs45 (ne_gt lt61)
                      replace hb32 := hb32.grown hs45 (ne_gt lt65)
                      replace ho6 := own_other ho6 hb2 rfl hs45
                      replace hlo6 := Nat.le_trans hlo6 hs45.size
                      refine L_nil (N_then ⟨fun hN_ => ⟨hb12, trivial⟩, ?_⟩)
                      refine Tqs ttFd 0 [11] [] (fun _ _ => trivial) ⟨hb12, trivial⟩ rfl ?_
                      refine T_done (by kernel_rfl) (CalmE.normal ?_)
                      exact ⟨rfl, ⟨_, A_6, g19, g18, g15, c_6, Ac_frg ⟨rfl, rfl, rfl, rfl, rfl, rfl, rfl, rfl, rfl, rfl, rfl, rfl, rfl, rfl, trivial⟩, hB, hR, hb1, hb33, hb12, hb32, hb31, hb27, (own_lo ho6 ge25), ge24, ge23, ge19, lt64, lt60, lt48, lt65, lt61, lt49, lt66, lt62, lt50⟩⟩
                · clear hB
                  clear hR hb1 hb2 hb12
                  rintro a_ w46 ⟨σ_, A_1, g5, g6, g7, c_1, rfl, hB, hR, hb1, hj1, hb12, hj2, hj3, hj4, hj5, ge26, ge27, ge28, lt69, lt70, lt71, lt72, lt73, lt74, lt75, lt76, lt77⟩
                  refine Qee ttFd 2 [] rfl ?_
                  refine retC1 (vs := [.slice A_1 ((insK RF.nm (⟨nm, some ⟨g5, 0, none⟩, n.toNat, (List.replicate n.toNat Sx.z), some ⟨g6, 0, none⟩, n.toNat, (List.replicate n.toNat Sx.z), some ⟨g7, 0, none⟩, n.toNat, (List.replicate n.toNat false)⟩ : RF) (remK RF.nm (⟨nm, some ⟨g5, 0, none⟩, n.toNat, (List.replicate n.toNat Sx.z), some ⟨g6, 0, none⟩, n.toNat, (List.replicate n.toNat Sx.z), some ⟨g7, 0, none⟩, n.toNat, (List.replicate n.toNat false)⟩ : RF).nm r.rs)).length) c_1, .int .i64 r.cap, .int .i64 (IntKind.i64.wrap (r.ops + 1)), .bool r.dn, .bool r.tl, .int .i64 (if r.tl then IntKind.i64.wrap (r.af - 1) else r.af)]) Try.results40 rfl agg36 (At.pre (hj1.at_ 0) rfl) rfl rfl ?_
                  have hFA_ : RFAt w46 (⟨nm, some ⟨g5, 0, none⟩, n.toNat, (List.replicate n.toNat Sx.z), some ⟨g6, 0, none⟩, n.toNat, (List.replicate n.toNat Sx.z), some ⟨g7, 0, none⟩, n.toNat, (List.replicate n.toNat false)⟩ : RF) := ⟨((Blk.sli (m := 0) hj2).wide (Nat.zero_le _) (by have q_ := hj2.lt; omega)), ((Blk.sli (m := 0) hj3).wide (Nat.zero_le _) (by have q_ := hj3.lt; omega)), ((Blk.sli (m := 0) hj4).wide (Nat.zero_le _) (by have q_ := hj4.lt; omega)), by simp, by simp, by simp, by simp, by simp⟩
                  obtain ⟨hp1_, hp2_⟩ := put_all (w := w) (X := r.rs) (fun _ h_ => h_) hR.hd hFA_ hR0.uf ⟨fun _ a_ e_ => by cases e_; exact .inr ge26, fun _ a_ e_ => by cases e_; exact .inr ge27, fun _ a_ e_ => by cases e_; exact .inr ge28⟩
                  have hp3_ := put_len (F := (⟨nm, some ⟨g5, 0, none⟩, n.toNat, (List.replicate n.toNat Sx.z), some ⟨g6, 0, none⟩, n.toNat, (List.replicate n.toNat Sx.z), some ⟨g7, 0, none⟩, n.toNat, (List.replicate n.toNat false)⟩ : RF)) (X := r.rs)
                  have hl0_ := hR0.hl; have hu0_ := hR0.hu; have hcp_ := hR0.hcap
                  have hsq_ : (⟨nm, some ⟨g5, 0, none⟩, n.toNat, (List.replicate n.toNat Sx.z), some ⟨g6, 0, none⟩, n.toNat, (List.replicate n.toNat Sx.z), some ⟨g7, 0, none⟩, n.toNat, (List.replicate n.toNat false)⟩ : RF).seen.length = n.toNat := List.length_replicate
                  refine ⟨hB, rfin_t hR0 hq2 (own_lo hj5 (Nat.le_refl _)) hp1_ (by omega) (by omega) (ins_rise hR0.hr) hp2_ ?_⟩
                  unfold PD.make; rw [if_neg (rpdn h1), if_neg (not_not_intro h2), if_neg (rhn hq1), if_neg (by omega), if_neg (show ¬ (r.pd.cap - (usedP r.pd.fs : Int) < n ∨ 64 ≤ (r.pd.fs.length : Int)) by show ¬ (r.cap - (usedP (r.rs.map RF.pf) : Int) < n ∨ 64 ≤ ((r.rs.map RF.pf).length : Int)); rw [usedR_pf, List.length_map]; omega), rins_pf, remK_noR hq1]; rfl
      · replace hB := gb_tr hB hs6
        replace hR := hR.gb hs6
        replace hb1 := hb1.gb hs6
        replace hb2 := hb2.gb hs6
        have hneg1 : ¬ (ix1 : Int) < 0 := by omega
        refine Qoc ttFd 3 [] rfl ?_
        refine Clit (t := 20) rfl (decide_eq_true (Int.not_lt.1 hneg1)) ?_
        refine Qco ttFd 4 [kb hb1] rfl ?_
        refine L_stA (vs := [.slice r.A r.rs.length r.c, .int .i64 r.cap, .int .i64 r.ops, .bool r.dn, .bool r.tl, .int .i64 r.af]) rfl rfl rfl sz36 rfl hb2 rfl ?_
        intro w47 hb34 hs46 hz36
        replace hB := gb_trg hB hs46 ge2
        replace hR := hR.other hb2 rfl rfl rfl hs46
        replace hb1 := hb1.grown hs46 (ne_lt lt1)
        refine Qoe ttFd 5 [] rfl ?_
        refine retC1 (vs := [.slice r.A r.rs.length r.c, .int .i64 r.cap, .int .i64 r.ops, .bool r.dn, .bool r.tl, .int .i64 r.af]) Try.results40 rfl agg36 (At.pre (hb34.at_ 0) rfl) rfl rfl ?_
        exact ⟨hB, rfin_e hR (by unfold PD.make; rw [if_neg (rpdn h1), if_neg (not_not_intro h2), if_pos (Decidable.not_not.1 (rhy ⟨_, List.getElem_mem hix1, hnm1⟩))])⟩
end Go.Proofs.Ytoipncaopdmicaa
namespace Go.Proofs.Ytoipncaopdmicaa
open Go.RowKit Gw Pl
set_option linter.unusedVariables false
set_option linter.unusedSimpArgs false
theorem arr140 : arrB Try.prog 140 5 20 1 = true := by kernel_rfl
theorem cb103 : callB Try.prog 103 = true := by kernel_rfl
theorem cb110 : callB Try.prog 110 = true := by kernel_rfl
theorem cb70 : callB Try.prog 70 = true := by kernel_rfl
theorem cb86 : callB Try.prog 86 = true := by kernel_rfl
theorem cb87 : callB Try.prog 87 = true := by kernel_rfl
theorem cb88 : callB Try.prog 88 = true := by kernel_rfl
theorem cb89 : callB Try.prog 89 = true := by kernel_rfl
theorem slc23 : slcB Try.prog 23 5 1 1 = true := by kernel_rfl
theorem sz5 : szB Try.prog 5 1 = true := by kernel_rfl
theorem zer140 : (Try.prog.info? 140).bind (·.zero) = some (.agg #[.int .u8 0, .int .u8 0, .int .u8 0, .int .u8 0, .int .u8 0, .int .u8 0, .int .u8 0, .int .u8 0, .int .u8 0, .int .u8 0, .int .u8 0, .int .u8 0, .int .u8 0, .int .u8 0, .int .u8 0, .int .u8 0, .int .u8 0, .int .u8 0, .int .u8 0, .int .u8 0]) := by kernel_rfl
def tabGa1 : TT := { fld := [], scl := [], agg := [], str := [], slc := [], ptr := [], cv := [(3, .i64), (126, .u64)] }
theorem ttGa1 : TOk Try.prog tabGa1 := TT.ok_of (by kernel_rfl)
theorem name_Digits {w : World} {n : Int} (hn : -9223372036854775808 ≤ n ∧ n ≤ 9223372036854775807) :
    Runs Try.prog 86 #[.int .i64 n] w (fun v w' => w.grownBy w' none ∧ v = .string ⟨(digI n).toArray⟩) := by
  have hB := gb_refl w none
  have hD : (dig n.natAbs).length ≤ 19 := dig_len 19 _ (by omega) (by omega)
  refine enterQ Try.func86 Try.ntmps86 rfl rfl ?_
  refine Qcc ttGa1 19 [] rfl ?_
  refine C_if rfl (fun h1 => ?_) (fun h1 => ?_)
  · refine Qco ttGa1 2 [] rfl ?_
    refine L_run (R_eqv (R_neg rfl) (v' := .int .u64 (n.natAbs : Int)) (congrArg _ (by rw [IntKind.wrap_u64, IntKind.wrap_u64]; omega))) rfl ?_
    refine Qoo ttGa1 5 [] rfl ?_
    refine L_alloc (cs := [.int .u8 0, .int .u8 0, .int .u8 0, .int .u8 0, .int .u8 0, .int .u8 0, .int .u8 0, .int .u8 0, .int .u8 0, .int .u8 0, .int .u8 0, .int .u8 0, .int .u8 0, .int .u8 0, .int .u8 0, .int .u8 0, .int .u8 0, .int .u8 0, .int .u8 0, .int .u8 0]) zer140 rfl rfl ?_
    intro g1 w1 eg1 hb1 hs1 hz1
    have ge1 : w.heap.size ≤ g1 := eg_ge hB eg1
    replace hB := gb_tr hB hs1
    replace hb1 : Blk w1 g1 140 (fl encB (List.replicate 20 (0 : UInt8))) := hb1
    refine Qoc ttGa1 9 [] rfl ?_
    refine C_loop (fun m_ a_ w_ => ∃ (σ_ : Nat → Value) (k : Nat) (u : Nat) (bs : List UInt8), a_ = Ac 33 σ_ [] [(0, .int .i64 n), (2, .string (⟨#[]⟩)), (3, .int .u64 (u : Int)), (4, .pointer (some ⟨g1, 0, none⟩)), (5, .int .i64 (k : Int))] ∧ w.grownBy w_ none ∧ Blk w_ g1 140 (fl encB bs) ∧ (bs.length = 20) ∧ (dig u ++ bs.drop k = dig n.natAbs) ∧ (1 ≤ k) ∧ (k ≤ 20) ∧ (u < 18446744073709551616) ∧ k = m_) (20) ?_ ?_
    · exact ⟨_, 20, n.natAbs, (List.replicate 20 (0 : UInt8)), Ac_frg ⟨rfl, rfl, (agr rfl (by first | rfl | (congr 1; omega) | (congr 1; simp; done) | (congr 1; simp only [IntKind.wrap_u64, IntKind.wrap_i64, IntKind.wrap_u8]; omega) | (congr 1 <;> omega))), rfl, (agr rfl (by first | rfl | (congr 1; omega) | (congr 1; simp; done) | (congr 1; simp only [IntKind.wrap_u64, IntKind.wrap_i64, IntKind.wrap_u8]; omega) | (congr 1 <;> omega))), trivial⟩, hB, hb1, rfl, (by rw [show List.drop 20 (List.replicate 20 (0 : UInt8)) = [] from rfl, List.append_nil]), (by omega), (by omega), (by omega), rfl⟩
    · clear hB
      clear hb1
      rintro m_ a_ w2 ⟨σ_, k, u, bs, rfl, hB, hbk, hbl, hd, h1k, h2k, hu, rfl⟩
      refine Q0c ?_
      refine Qco ttGa1 4 [] rfl ?_
      refine L_run (R_eqv (R_sub64 rfl rfl (by omega)) (v' := .int .i64 ((k - 1 : Nat) : Int)) (congrArg _ (by omega))) rfl ?_
      refine Qoo ttGa1 7 [] rfl ?_
      refine L_run (R_eqv (R_rem rfl rfl (by first | decide | omega)) (v' := .int .u64 ((u % 10 : Nat) : Int)) (congrArg _ (by rw [Int.tmod_eq_emod_of_nonneg (by omega)]; omega))) rfl ?_
      refine L_run (R_eqv (R_add rfl rfl) (v' := .int .u64 ((48 + u % 10 : Nat) : Int)) (congrArg _ (by rw [IntKind.wrap_u64]; omega))) rfl ?_
      refine L_run (R_eqv (R_conv rfl any126 int5) (v' := .int .u8 ((UInt8.ofNat (48 + u % 10)).toNat : Int)) (u8_of _ (by omega))) rfl ?_
      refine L_run (R_indexArr (i := (k - 1)) (r := (k - 1)) rfl rfl (by first | rfl | omega) arr140 (by omega) (by omega)) rfl ?_
      refine L_st1v (v := .int .u8 ((UInt8.ofNat (48 + u % 10)).toNat : Int)) rfl rfl rfl sz5 hbk (by rw [fl_len EncB, Nat.mul_one]; first | omega | (rw [List.length_set]; omega)) ?_
      intro w3 hb2 hs2 hz2
      rw [fl_setB (by first | omega | (rw [List.length_set]; omega))] at hb2
      replace hB := gb_trg hB hs2 ge1
      refine Qoo ttGa1 5 [] rfl ?_
      refine L_run (R_eqv (R_quo rfl rfl (by first | decide | omega)) (v' := .int .u64 ((u / 10 : Nat) : Int)) (congrArg _ (by rw [Int.tdiv_eq_ediv_of_nonneg (by omega), IntKind.wrap_u64]; omega))) rfl ?_
      refine Qoc ttGa1 9 [] rfl ?_
      refine C_if rfl (fun h2 => ?_) (fun h2 => ?_)
      · refine Qce ttGa1 2 [] rfl ?_
        refine Xl ?_
        refine Qec ttGa1 9 [] rfl ?_
        refine Clit (t := 25) rfl (decide_eq_true h1) ?_
        refine Qco ttGa1 4 [] rfl ?_
        refine L_run (R_eqv (R_sub64 rfl rfl (by omega)) (v' := .int .i64 ((k - 1 - 1 : Nat) : Int)) (congrArg _ (by have := dig_cut hbl hd hD; omega))) rfl ?_
        refine Qoo ttGa1 5 [] rfl ?_
        refine L_run (R_indexArr (i := (k - 1 - 1)) (r := (k - 1 - 1)) rfl rfl (by first | rfl | omega) arr140 (by omega) (by omega)) rfl ?_
        refine L_st1v (v := .int .u8 ((45 : UInt8).toNat : Int)) rfl rfl rfl sz5 hb2 (by rw [fl_len EncB, Nat.mul_one]; first | omega | (rw [List.length_set]; omega)) ?_
        intro w4 hb3 hs3 hz3
        rw [fl_setB (by first | omega | (rw [List.length_set]; omega))] at hb3
        replace hB := gb_trg hB hs3 ge1
        refine Qoo ttGa1 5 [] rfl ?_
        refine T_slArr (bs := ((bs.set (k - 1) (UInt8.ofNat (48 + u % 10))).set (k - 1 - 1) 45)) (i := (k - 1 - 1)) rfl rfl (by first | rfl | omega) arr140 (by omega) hb3 (by first | omega | (simp; omega)) rfl ?_
        intro A_1 hS_1
        refine L_run (R_b2s' (bs := ((bs.set (k - 1) (UInt8.ofNat (48 + u % 10))).set (k - 1 - 1) 45).drop (k - 1 - 1)) rfl slc23 int5 str9 hS_1) rfl ?_
        refine Qoe ttGa1 4 [] rfl ?_
        refine ret1 Try.results86 rfl ?_
        have hf := dig_fin hbl hd (by omega) h1k h2k
        have hc2 := dig_cut hbl hd hD
        have e_ : (((bs.set (k - 1) (UInt8.ofNat (48 + u % 10))).set (k - 1 - 1) 45).drop (k - 1 - 1)) = digI n := by unfold digI; rw [if_pos (by omega), set_drop _ (by rw [List.length_set]; omega), show k - 1 - 1 + 1 = k - 1 by omega, hf]
        rw [e_]; exact ⟨hB, rfl⟩
      · refine Qce ttGa1 2 [] rfl ?_
        refine Nl ?_
        have hd2 := dig_next hbl hd (by omega) h1k h2k
        have hc2 := dig_cut (bs := (bs.set (k - 1) (UInt8.ofNat (48 + u % 10)))) (k := k - 1) (by rw [List.length_set]; exact hbl) hd2 hD
        exact ⟨(k - 1), by omega, _, (k - 1), (u / 10), (bs.set (k - 1) (UInt8.ofNat (48 + u % 10))), Ac_frg ⟨rfl, rfl, (agr rfl (by first | rfl | (congr 1; omega) | (congr 1; simp; done) | (congr 1; simp only [IntKind.wrap_u64, IntKind.wrap_i64, IntKind.wrap_u8]; omega) | (congr 1 <;> omega))), rfl, (agr rfl (by first | rfl | (congr 1; omega) | (congr 1; simp; done) | (congr 1; simp only [IntKind.wrap_u64, IntKind.wrap_i64, IntKind.wrap_u8]; omega) | (congr 1 <;> omega))), trivial⟩, hB, hb2, (by rw [List.length_set]; exact hbl), hd2, (by omega), (by omega), (by omega), rfl⟩
  · refine Qco ttGa1 4 [] rfl ?_
    refine L_alloc (cs := [.int .u8 0, .int .u8 0, .int .u8 0, .int .u8 0, .int .u8 0, .int .u8 0, .int .u8 0, .int .u8 0, .int .u8 0, .int .u8 0, .int .u8 0, .int .u8 0, .int .u8 0, .int .u8 0, .int .u8 0, .int .u8 0, .int .u8 0, .int .u8 0, .int .u8 0, .int .u8 0]) zer140 rfl rfl ?_
    intro g2 w5 eg2 hb4 hs4 hz4
    have ge2 : w.heap.size ≤ g2 := eg_ge hB eg2
    replace hB := gb_tr hB hs4
    replace hb4 : Blk w5 g2 140 (fl encB (List.replicate 20 (0 : UInt8))) := hb4
    refine Qoc ttGa1 9 [] rfl ?_
    refine C_loop (fun m_ a_ w_ => ∃ (σ_ : Nat → Value) (k : Nat) (u : Nat) (bs : List UInt8), a_ = Ac 33 σ_ [] [(0, .int .i64 n), (2, .string (⟨#[]⟩)), (3, .int .u64 (u : Int)), (4, .pointer (some ⟨g2, 0, none⟩)), (5, .int .i64 (k : Int))] ∧ w.grownBy w_ none ∧ Blk w_ g2 140 (fl encB bs) ∧ (bs.length = 20) ∧ (dig u ++ bs.drop k = dig n.natAbs) ∧ (1 ≤ k) ∧ (k ≤ 20) ∧ (u < 18446744073709551616) ∧ k = m_) (20) ?_ ?_
    · exact ⟨_, 20, n.natAbs, (List.replicate 20 (0 : UInt8)), Ac_frg ⟨rfl, rfl, (agr rfl (by first | rfl | (congr 1; omega) | (congr 1; simp; done) | (congr 1; simp only [IntKind.wrap_u64, IntKind.wrap_i64, IntKind.wrap_u8]; omega) | (congr 1 <;> omega))), rfl, (agr rfl (by first | rfl | (congr 1; omega) | (congr 1; simp; done) | (congr 1; simp only [IntKind.wrap_u64, IntKind.wrap_i64, IntKind.wrap_u8]; omega) | (congr 1 <;> omega))), trivial⟩, hB, hb4, rfl, (by rw [show List.drop 20 (List.replicate 20 (0 : UInt8)) = [] from rfl, List.append_nil]), (by omega), (by omega), (by omega), rfl⟩
    · clear hB
      clear hb4
      rintro m_ a_ w6 ⟨σ_, k, u, bs, rfl, hB, hbk, hbl, hd, h1k, h2k, hu, rfl⟩
      refine Q0c ?_
      refine Qco ttGa1 4 [] rfl ?_
      refine L_run (R_eqv (R_sub64 rfl rfl (by omega)) (v' := .int .i64 ((k - 1 : Nat) : Int)) (congrArg _ (by omega))) rfl ?_
      refine Qoo ttGa1 7 [] rfl ?_
      refine L_run (R_eqv (R_rem rfl rfl (by first | decide | omega)) (v' := .int .u64 ((u % 10 : Nat) : Int)) (congrArg _ (by rw [Int.tmod_eq_emod_of_nonneg (by omega)]; omega))) rfl ?_
      refine L_run (R_eqv (R_add rfl rfl) (v' := .int .u64 ((48 + u % 10 : Nat) : Int)) (congrArg _ (by rw [IntKind.wrap_u64]; omega))) rfl ?_
      refine L_run (R_eqv (R_conv rfl any126 int5) (v' := .int .u8 ((UInt8.ofNat (48 + u % 10)).toNat : Int)) (u8_of _ (by omega))) rfl ?_
      refine L_run (R_indexArr (i := (k - 1)) (r := (k - 1)) rfl rfl (by first | rfl | omega) arr140 (by omega) (by omega)) rfl ?_
      refine L_st1v (v := .int .u8 ((UInt8.ofNat (48 + u % 10)).toNat : Int)) rfl rfl rfl sz5 hbk (by rw [fl_len EncB, Nat.mul_one]; first | omega | (rw [List.length_set]; omega)) ?_
      intro w7 hb5 hs5 hz5
      rw [fl_setB (by first | omega | (rw [List.length_set]; omega))] at hb5
      replace hB := gb_trg hB hs5 ge2
      refine Qoo ttGa1 5 [] rfl ?_
      refine L_run (R_eqv (R_quo rfl rfl (by first | decide | omega)) (v' := .int .u64 ((u / 10 : Nat) : Int)) (congrArg _ (by rw [Int.tdiv_eq_ediv_of_nonneg (by omega), IntKind.wrap_u64]; omega))) rfl ?_
      refine Qoc ttGa1 9 [] rfl ?_
      refine C_if rfl (fun h3 => ?_) (fun h3 => ?_)
      · refine Qce ttGa1 2 [] rfl ?_
        refine Xl ?_
        refine Qec ttGa1 9 [] rfl ?_
        refine Clit (t := 25) rfl (decide_eq_false h1) ?_
        refine Qco ttGa1 6 [] rfl ?_
        refine T_slArr (bs := (bs.set (k - 1) (UInt8.ofNat (48 + u % 10)))) (i := (k - 1)) rfl rfl (by first | rfl | omega) arr140 (by omega) hb5 (by first | omega | (simp; omega)) rfl ?_
        intro A_2 hS_2
        refine L_run (R_b2s' (bs := (bs.set (k - 1) (UInt8.ofNat (48 + u % 10))).drop (k - 1)) rfl slc23 int5 str9 hS_2) rfl ?_
        refine Qoe ttGa1 4 [] rfl ?_
        refine ret1 Try.results86 rfl ?_
        have hf := dig_fin hbl hd (by omega) h1k h2k
        have e_ : ((bs.set (k - 1) (UInt8.ofNat (48 + u % 10))).drop (k - 1)) = digI n := by unfold digI; rw [if_neg (by omega), hf]
        rw [e_]; exact ⟨hB, rfl⟩
      · refine Qce ttGa1 2 [] rfl ?_
        refine Nl ?_
        have hd2 := dig_next hbl hd (by omega) h1k h2k
        have hc2 := dig_cut (bs := (bs.set (k - 1) (UInt8.ofNat (48 + u % 10)))) (k := k - 1) (by rw [List.length_set]; exact hbl) hd2 hD
        exact ⟨(k - 1), by omega, _, (k - 1), (u / 10), (bs.set (k - 1) (UInt8.ofNat (48 + u % 10))), Ac_frg ⟨rfl, rfl, (agr rfl (by first | rfl | (congr 1; omega) | (congr 1; simp; done) | (congr 1; simp only [IntKind.wrap_u64, IntKind.wrap_i64, IntKind.wrap_u8]; omega) | (congr 1 <;> omega))), rfl, (agr rfl (by first | rfl | (congr 1; omega) | (congr 1; simp; done) | (congr 1; simp only [IntKind.wrap_u64, IntKind.wrap_i64, IntKind.wrap_u8]; omega) | (congr 1 <;> omega))), trivial⟩, hB, hb5, (by rw [List.length_set]; exact hbl), hd2, (by omega), (by omega), (by omega), rfl⟩
theorem name_Wal {w : World} {n : Int} (hn : -9223372036854775808 ≤ n ∧ n ≤ 9223372036854775807) :
    Runs Try.prog 89 #[.int .i64 n] w (fun v w' => w.grownBy w' none ∧ v = .string ⟨(wname n).toArray⟩) := by
  have hB := gb_refl w none
  refine enterQ Try.func89 Try.ntmps89 rfl rfl ?_
  refine Qco ttGa1 11 [] rfl ?_
  refine Qg ttGa1 2 [] rfl (fun σ => ?_)
  refine Ldec 8 ((n < 1) ∨ (2147483647 < n)) rfl ?_
  refine Qoc ttGa1 2 [] rfl ?_
  refine C_if rfl (fun h1 => ?_) (fun h1 => ?_)
  · refine Qce ttGa1 7 [] rfl ?_
    refine ret1 Try.results89 rfl ?_
    first
      | (exfalso; omega)
      | (have e_ : ([] : List UInt8) = wname n := by
           unfold wname
           first | (rw [if_pos (by omega)]; rfl) | rw [if_neg (by omega)]
         rw [← e_]; exact ⟨hB, rfl⟩)
  · refine Qco ttGa1 5 [] rfl ?_
    refine L_call rfl cb86 (name_Digits (n := n) (by omega)) rfl ?_
    rintro _ w1 ⟨hs1, rfl⟩
    replace hB := gb_tr hB hs1
    refine L_run (R_eqv (R_addS rfl rfl (by rw [ba_size, ba_size]; have h_ := digI_len hn; simp; omega)) (v' := .string ⟨(([119, 97, 108, 45] : List UInt8) ++ (digI n)).toArray⟩) (congrArg _ (ba_app _ _).symm)) rfl ?_
    refine Qoe ttGa1 4 [] rfl ?_
    refine ret1 Try.results89 rfl ?_
    first
      | (exfalso; omega)
      | (have e_ : (([119, 97, 108, 45] : List UInt8) ++ (digI n)) = wname n := by
           unfold wname
           first | (rw [if_pos (by omega)]; rfl) | rw [if_neg (by omega)]
         rw [← e_]; exact ⟨hB, rfl⟩)
theorem name_Pool {w : World} {n : Int} (hn : -9223372036854775808 ≤ n ∧ n ≤ 9223372036854775807) :
    Runs Try.prog 70 #[.int .i64 n] w (fun v w' => w.grownBy w' none ∧ v = .string ⟨(pname n).toArray⟩) := by
  have hB := gb_refl w none
  refine enterQ Try.func70 Try.ntmps70 rfl rfl ?_
  refine Qco ttGa1 11 [] rfl ?_
  refine Qg ttGa1 2 [] rfl (fun σ => ?_)
  refine Ldec 8 ((n < 0) ∨ (2 < n)) rfl ?_
  refine Qoc ttGa1 2 [] rfl ?_
  refine C_if rfl (fun h1 => ?_) (fun h1 => ?_)
  · refine Qce ttGa1 7 [] rfl ?_
    refine ret1 Try.results70 rfl ?_
    first
      | (exfalso; omega)
      | (have e_ : ([] : List UInt8) = pname n := by
           unfold pname
           first | (rw [if_pos (by omega)]; rfl) | rw [if_neg (by omega)]
         rw [← e_]; exact ⟨hB, rfl⟩)
  · refine Qco ttGa1 5 [] rfl ?_
    refine L_call rfl cb86 (name_Digits (n := n) (by omega)) rfl ?_
    rintro _ w1 ⟨hs1, rfl⟩
    replace hB := gb_tr hB hs1
    refine L_run (R_eqv (R_addS rfl rfl (by rw [ba_size, ba_size]; have h_ := digI_len hn; simp; omega)) (v' := .string ⟨(([102, 114, 101, 101, 45] : List UInt8) ++ (digI n)).toArray⟩) (congrArg _ (ba_app _ _).symm)) rfl ?_
    refine Qoe ttGa1 4 [] rfl ?_
    refine ret1 Try.results70 rfl ?_
    first
      | (exfalso; omega)
      | (have e_ : (([102, 114, 101, 101, 45] : List UInt8) ++ (digI n)) = pname n := by
           unfold pname
           first | (rw [if_pos (by omega)]; rfl) | rw [if_neg (by omega)]
         rw [← e_]; exact ⟨hB, rfl⟩)
theorem hasPrefix {w : World} {cs ps : List UInt8} :
    Runs Try.prog 110 #[.string (⟨cs.toArray⟩), .string (⟨ps.toArray⟩)] w (fun v w' => w.grownBy w' none ∧ v = .bool (decide (cs.take ps.length = ps))) := by
  have hB := gb_refl w none
  refine enterQ Try.func110 Try.ntmps110 rfl rfl ?_
  refine Qco ttGa1 8 [] rfl ?_
  refine L_run (R_eqv (R_lenS rfl str9) (v' := .int .i64 (cs.length : Int)) (by rw [ba_size])) rfl ?_
  refine Qoo ttGa1 1 [] rfl ?_
  refine L_run (R_eqv (R_lenS rfl str9) (v' := .int .i64 (ps.length : Int)) (by rw [ba_size])) rfl ?_
  refine Qoo ttGa1 2 [] rfl ?_
  refine Lsp 10 rfl (fun h1 => ?_) (fun h1 => ?_)
  · refine Qoo ttGa1 2 [] rfl ?_
    refine L_yes rfl rfl rfl rfl ?_
    refine L_run (R_eqv (R_lenS rfl str9) (v' := .int .i64 (ps.length : Int)) (by rw [ba_size])) rfl ?_
    refine L_yes rfl rfl rfl rfl ?_
    refine L_run (R_slSH (cs := cs) (i := ps.length) rfl rfl (by first | rfl | omega) str9 (by first | omega | (simp; done) | (simp; omega))) rfl ?_
    refine Qoo ttGa1 1 [] rfl ?_
    refine L_yes rfl rfl rfl rfl ?_
    refine L_run (R_eqv (R_eqlS rfl rfl) (v' := .bool (decide ((cs.take ps.length) = ps))) (bD ba_inj)) rfl ?_
    refine Qoe ttGa1 5 [] rfl ?_
    refine ret1 Try.results110 rfl ?_
    exact ⟨hB, bD (by rw [pre_iff (by omega)])⟩
  · refine Qoe ttGa1 11 [] rfl ?_
    refine ret1 Try.results110 rfl ?_
    exact ⟨hB, bF (fun h => by have := congrArg List.length h; rw [List.length_take] at this; omega)⟩
theorem cutPrefix0 {w : World} {cs ps : List UInt8} :
    Runs Try.prog 103 #[.string (⟨cs.toArray⟩), .string (⟨ps.toArray⟩)] w (fun v w' => w.grownBy w' none ∧ v = if cs.take ps.length = ps then .tuple #[.string ⟨(cs.drop ps.length).toArray⟩, .bool true] else .tuple #[.string ⟨cs.toArray⟩, .bool false]) := by
  have hB := gb_refl w none
  refine enterQ Try.func103 Try.ntmps103 rfl rfl ?_
  refine Qco ttGa1 11 [] rfl ?_
  refine L_call rfl cb110 (hasPrefix (cs := cs) (ps := ps)) rfl ?_
  rintro _ w1 ⟨hs1, rfl⟩
  replace hB := gb_tr hB hs1
  refine L_run (R_notD rfl) rfl ?_
  refine Qoc ttGa1 2 [] rfl ?_
  refine C_ifN rfl (fun h1 => ?_) (fun h1 => ?_)
  · refine Qce ttGa1 9 [] rfl ?_
    refine ret2 Try.results103 rfl rfl ?_
    exact ⟨hB, by rw [if_neg (by assumption)]⟩
  · refine Qco ttGa1 6 [] rfl ?_
    refine L_run (R_eqv (R_lenS rfl str9) (v' := .int .i64 (ps.length : Int)) (by rw [ba_size])) rfl ?_
    refine L_run (R_slSL (cs := cs) (i := ps.length) rfl rfl (by first | rfl | omega) str9 (pre_le (by assumption))) rfl ?_
    refine Qoe ttGa1 5 [] rfl ?_
    refine ret2 Try.results103 rfl rfl ?_
    exact ⟨hB, by rw [if_pos (by assumption)]⟩
theorem cutPrefix0_y {w : World} {cs ps : List UInt8} (h : cs.take ps.length = ps) : Runs Try.prog 103 #[.string ⟨cs.toArray⟩, .string ⟨ps.toArray⟩] w (fun v w' => w.grownBy w' none ∧ v = .tuple #[.string ⟨(cs.drop ps.length).toArray⟩, .bool true]) :=
  cutPrefix0.mono fun v w' hh => by rw [if_pos h] at hh; exact hh
theorem cutPrefix0_n {w : World} {cs ps : List UInt8} (h : ¬ cs.take ps.length = ps) : Runs Try.prog 103 #[.string ⟨cs.toArray⟩, .string ⟨ps.toArray⟩] w (fun v w' => w.grownBy w' none ∧ v = .tuple #[.string ⟨cs.toArray⟩, .bool false]) :=
  cutPrefix0.mono fun v w' hh => by rw [if_neg h] at hh; exact hh
theorem cutPrefix_y {w : World} {cs ps : List UInt8} (h : cs.take ps.length = ps) :
    Runs Try.prog 87 #[.string (⟨cs.toArray⟩), .string (⟨ps.toArray⟩)] w (fun v w' => w.grownBy w' none ∧ v = .tuple #[.string ⟨(cs.drop ps.length).toArray⟩, .bool true]) := by
  have hB := gb_refl w none
  refine enterQ Try.func87 Try.ntmps87 rfl rfl ?_
  refine Qco ttGa1 10 [] rfl ?_
  refine L_call rfl cb103 (cutPrefix0_y (cs := cs) (ps := ps) h) rfl ?_
  rintro _ w1 ⟨hs1, rfl⟩
  replace hB := gb_tr hB hs1
  refine Qoe ttGa1 7 [] rfl ?_
  refine ret2 Try.results87 rfl rfl ?_
  exact ⟨hB, rfl⟩
theorem cutPrefix_n {w : World} {cs ps : List UInt8} (h : ¬ cs.take ps.length = ps) :
    Runs Try.prog 87 #[.string (⟨cs.toArray⟩), .string (⟨ps.toArray⟩)] w (fun v w' => w.grownBy w' none ∧ v = .tuple #[.string ⟨cs.toArray⟩, .bool false]) := by
  have hB := gb_refl w none
  refine enterQ Try.func87 Try.ntmps87 rfl rfl ?_
  refine Qco ttGa1 10 [] rfl ?_
  refine L_call rfl cb103 (cutPrefix0_n (cs := cs) (ps := ps) h) rfl ?_
  rintro _ w1 ⟨hs1, rfl⟩
  replace hB := gb_tr hB hs1
  refine Qoe ttGa1 7 [] rfl ?_
  refine ret2 Try.results87 rfl rfl ?_
  exact ⟨hB, rfl⟩
theorem name_number {w : World} {cs : List UInt8} (hl : cs.length ≤ 9000000000000000000) :
    Runs Try.prog 88 #[.string (⟨cs.toArray⟩)] w (fun v w' => w.grownBy w' none ∧ v = .int .i64 (nnum cs)) := by
  have hB := gb_refl w none
  refine enterQ Try.func88 Try.ntmps88 rfl rfl ?_
  refine Qco ttGa1 14 [] rfl ?_
  refine L_run (R_eqv (R_lenS rfl str9) (v' := .int .i64 (cs.length : Int)) (by rw [ba_size])) rfl ?_
  refine Qoc ttGa1 4 [] rfl ?_
  refine C_loop (fun m_ a_ w_ => ∃ (σ_ : Nat → Value) (k : Nat), a_ = Ac 40 σ_ [] [(0, .string (⟨cs.toArray⟩)), (2, .int .i64 0), (3, .int .i64 (dval (cs.take k) : Int)), (6, .string (⟨cs.toArray⟩)), (7, .int .i64 (cs.length : Int)), (8, .int .i64 (k : Int))] ∧ w.grownBy w_ none ∧ (k ≤ cs.length) ∧ (k ≤ 10) ∧ (∀ c ∈ cs.take k, isd c) ∧ cs.length - k = m_) (cs.length - 0) ?_ ?_
  · exact ⟨_, 0, Ac_frg ⟨rfl, rfl, (agr rfl (by first | rfl | (congr 1; omega) | (congr 1; simp; done) | (congr 1; simp only [IntKind.wrap_u64, IntKind.wrap_i64, IntKind.wrap_u8]; omega) | (congr 1 <;> omega))), rfl, rfl, (agr rfl (by first | rfl | (congr 1; omega) | (congr 1; simp; done) | (congr 1; simp only [IntKind.wrap_u64, IntKind.wrap_i64, IntKind.wrap_u8]; omega) | (congr 1 <;> omega))), trivial⟩, hB, (by omega), (by omega), (by intro c hc; simp at hc), rfl⟩
  · clear hB
    rintro m_ a_ w1 ⟨σ_, k, rfl, hB, hk, h10, hall, rfl⟩
    refine Q0c ?_
    refine Qcc ttGa1 6 [] rfl ?_
    refine C_if rfl (fun h1 => ?_) (fun h1 => ?_)
    · refine Qco ttGa1 14 [] rfl ?_
      have hk1 : k < cs.length := by first | omega | (simp; omega)
      refine L_run (R_indexS (cs := cs) (a := (k : Int)) (i := k) rfl rfl (by first | rfl | omega) str9 hk1) rfl ?_
      refine L_run (R_eqv (R_conv rfl any5 int3) (v' := .int .i64 (cs[k].toNat : Int)) (congrArg _ (i64_fit (by have := cs[k].toNat_lt; omega)))) rfl ?_
      refine L_run (R_sub64 rfl rfl (by first | omega | (have h2_ := cs[k].toNat_lt; first | omega | (have h_ := dval_lt 10 _ hall (by rw [List.length_take]; omega); omega)))) rfl ?_
      refine Qoo ttGa1 9 [] rfl ?_
      refine Lsp 18 rfl (fun h2 => ?_) (fun h2 => ?_)
      · refine Qoe ttGa1 19 [] rfl ?_
        refine Rl ?_
        refine Qee ttGa1 2 [] rfl ?_
        refine ret1 Try.results88 rfl ?_
        first
          | (exfalso; omega)
          | (have e_ : nnum cs = -1 := by
               first
                 | exact nnum_bad1 hk1 (by omega)
                 | exact nnum_bad2 hk1 (by omega)
                 | (rw [List.take_of_length_le (by omega)] at *; first | exact nnum_nil (by assumption) | exact nnum_ne (by assumption) | exact nnum_yes (by assumption) hall (by omega) (by assumption))
             rw [e_]; exact ⟨hB, rfl⟩)
      · refine Qoo ttGa1 4 [] rfl ?_
        refine Lsp 22 rfl (fun h3 => ?_) (fun h3 => ?_)
        · refine Qoe ttGa1 15 [] rfl ?_
          refine Rl ?_
          refine Qee ttGa1 2 [] rfl ?_
          refine ret1 Try.results88 rfl ?_
          first
            | (exfalso; omega)
            | (have e_ : nnum cs = -1 := by
                 first
                   | exact nnum_bad1 hk1 (by omega)
                   | exact nnum_bad2 hk1 (by omega)
                   | (rw [List.take_of_length_le (by omega)] at *; first | exact nnum_nil (by assumption) | exact nnum_ne (by assumption) | exact nnum_yes (by assumption) hall (by omega) (by assumption))
               rw [e_]; exact ⟨hB, rfl⟩)
        · refine Qoc ttGa1 5 [] rfl ?_
          refine C_if rfl (fun h4 => ?_) (fun h4 => ?_)
          · refine Qce ttGa1 9 [] rfl ?_
            refine Rl ?_
            refine Qee ttGa1 2 [] rfl ?_
            refine ret1 Try.results88 rfl ?_
            first
              | (exfalso; omega)
              | (have e_ : nnum cs = -1 := by
                   first
                     | exact nnum_bad1 hk1 (by omega)
                     | exact nnum_bad2 hk1 (by omega)
                     | (rw [List.take_of_length_le (by omega)] at *; first | exact nnum_nil (by assumption) | exact nnum_ne (by assumption) | exact nnum_yes (by assumption) hall (by omega) (by assumption))
                 rw [e_]; exact ⟨hB, rfl⟩)
          · refine Qco ttGa1 4 [] rfl ?_
            refine L_run (R_mul64 rfl rfl (by first | omega | (have h2_ := cs[k].toNat_lt; first | omega | (have h_ := dval_lt 10 _ hall (by rw [List.length_take]; omega); omega)))) rfl ?_
            refine Qoo ttGa1 1 [] rfl ?_
            refine L_run (R_eqv (R_add64 rfl rfl (by first | omega | (have h2_ := cs[k].toNat_lt; first | omega | (have h_ := dval_lt 10 _ hall (by rw [List.length_take]; omega); omega)))) (v' := .int .i64 (dval (cs.take (k + 1)) : Int)) (congrArg _ (dval_step hk1 (by omega)))) rfl ?_
            refine Qoo ttGa1 5 [] rfl ?_
            refine L_run (R_add64 rfl rfl (by first | omega | (have h2_ := cs[k].toNat_lt; first | omega | (have h_ := dval_lt 10 _ hall (by rw [List.length_take]; omega); omega)))) rfl ?_
            refine Qoe ttGa1 2 [] rfl ?_
            refine Nl ?_
            exact ⟨cs.length - (k + 1), by omega, _, (k + 1), Ac_frg ⟨rfl, rfl, rfl, rfl, rfl, (agr rfl (by first | rfl | (congr 1; omega) | (congr 1; simp; done) | (congr 1; simp only [IntKind.wrap_u64, IntKind.wrap_i64, IntKind.wrap_u8]; omega) | (congr 1 <;> omega))), trivial⟩, hB, (by omega), (by omega), (isd_take hall hk1 (by omega) (by omega)), rfl⟩
    · refine Qce ttGa1 2 [] rfl ?_
      refine Xl ?_
      refine Qeo ttGa1 6 [] rfl ?_
      refine L_run (R_eqv (R_eqlS rfl rfl) (v' := .bool (decide (cs = []))) (bD ba_inj)) rfl ?_
      refine Qoo ttGa1 1 [] rfl ?_
      refine Lsp 33 rfl (fun h5 => ?_) (fun h5 => ?_)
      · refine Qoe ttGa1 15 [] rfl ?_
        refine ret1 Try.results88 rfl ?_
        first
          | (exfalso; omega)
          | (have e_ : nnum cs = -1 := by
               first
                 | exact nnum_bad1 hk1 (by omega)
                 | exact nnum_bad2 hk1 (by omega)
                 | (rw [List.take_of_length_le (by omega)] at *; first | exact nnum_nil (by assumption) | exact nnum_ne (by assumption) | exact nnum_yes (by assumption) hall (by omega) (by assumption))
             rw [e_]; exact ⟨hB, rfl⟩)
      · refine Qoo ttGa1 1 [] rfl ?_
        refine L_yes rfl rfl rfl rfl ?_
        refine L_call rfl cb86 (name_Digits (n := (dval (cs.take k) : Int)) (by have h_ := dval_lt 10 _ hall (by rw [List.length_take]; omega); omega)) rfl ?_
        rintro _ w2 ⟨hs1, rfl⟩
        replace hB := gb_tr hB hs1
        refine Qoo ttGa1 1 [] rfl ?_
        refine L_yes rfl rfl rfl rfl ?_
        refine L_run (R_eqv (R_neqS rfl rfl) (v' := .bool (decide (¬ ((digI (dval (cs.take k) : Int)) = cs)))) (bD (not_congr ba_inj))) rfl ?_
        refine Qoc ttGa1 3 [] rfl ?_
        refine C_ifN rfl (fun h6 => ?_) (fun h6 => ?_)
        · refine Qce ttGa1 7 [] rfl ?_
          refine ret1 Try.results88 rfl ?_
          first
            | (exfalso; omega)
            | (have e_ : nnum cs = -1 := by
                 first
                   | exact nnum_bad1 hk1 (by omega)
                   | exact nnum_bad2 hk1 (by omega)
                   | (rw [List.take_of_length_le (by omega)] at *; first | exact nnum_nil (by assumption) | exact nnum_ne (by assumption) | exact nnum_yes (by assumption) hall (by omega) (by assumption))
               rw [e_]; exact ⟨hB, rfl⟩)
        · refine Qce ttGa1 9 [] rfl ?_
          refine ret1 Try.results88 rfl ?_
          first
            | (exfalso; omega)
            | (have e_ : nnum cs = (dval (cs.take k) : Int) := by
                 first
                   | exact nnum_bad1 hk1 (by omega)
                   | exact nnum_bad2 hk1 (by omega)
                   | (rw [List.take_of_length_le (by omega)] at *; first | exact nnum_nil (by assumption) | exact nnum_ne (by assumption) | exact nnum_yes (by assumption) hall (by omega) (by assumption))
               rw [e_]; exact ⟨hB, rfl⟩)
theorem name_Parse_yy {w : World} {cs : List UInt8} (hl : cs.length ≤ 9000000000000000000) (hw : cs.take ([119, 97, 108, 45] : List UInt8).length = ([119, 97, 108, 45] : List UInt8)) (hf : cs.take ([102, 114, 101, 101, 45] : List UInt8).length = ([102, 114, 101, 101, 45] : List UInt8)) :
    Runs Try.prog 75 #[.string (⟨cs.toArray⟩)] w (fun v w' => w.grownBy w' none ∧ v = .tuple #[.int .i64 (nparse cs).1, .int .i64 (nparse cs).2]) := by
  have hB := gb_refl w none
  refine enterQ Try.func75 Try.ntmps75 rfl rfl ?_
  refine Qco ttGa1 10 [] rfl ?_
  refine L_call rfl cb87 (cutPrefix_y (cs := cs) (ps := ([119, 97, 108, 45] : List UInt8)) hw) rfl ?_
  rintro _ w1 ⟨hs1, rfl⟩
  replace hB := gb_tr hB hs1
  refine Qoo ttGa1 16 [] rfl ?_
  refine L_call rfl cb88 (name_number (cs := (cs.drop ([119, 97, 108, 45] : List UInt8).length)) (by first | omega | (simp; omega))) rfl ?_
  rintro _ w2 ⟨hs2, rfl⟩
  replace hB := gb_tr hB hs2
  refine Qoo ttGa1 8 [] rfl ?_
  refine Lsp 20 rfl (fun h1 => ?_) (fun h1 => ?_)
  · refine Qoo ttGa1 1 [] rfl ?_
    refine L_yes rfl rfl rfl rfl ?_
    refine L_call rfl cb89 (name_Wal (n := (nnum (cs.drop ([119, 97, 108, 45] : List UInt8).length))) (by have h_ := nnum_bound (cs.drop ([119, 97, 108, 45] : List UInt8).length); have h2_ := nnum_bound (cs.drop ([102, 114, 101, 101, 45] : List UInt8).length); omega)) rfl ?_
    rintro _ w3 ⟨hs3, rfl⟩
    replace hB := gb_tr hB hs3
    refine Qoo ttGa1 1 [] rfl ?_
    refine L_yes rfl rfl rfl rfl ?_
    refine L_run (R_eqv (R_eqlS rfl rfl) (v' := .bool (decide ((wname (nnum (cs.drop ([119, 97, 108, 45] : List UInt8).length))) = cs))) (bD ba_inj)) rfl ?_
    refine Qoc ttGa1 3 [] rfl ?_
    refine C_if rfl (fun h2 => ?_) (fun h2 => ?_)
    · refine Qce ttGa1 9 [] rfl ?_
      refine ret2 Try.results75 rfl rfl ?_
      first
        | (exfalso; omega)
        | (have e_ : nparse cs = (1, (nnum (cs.drop ([119, 97, 108, 45] : List UInt8).length))) := by
             first
               | exact npar_w hw (by assumption) (by assumption)
               | exact npar_p hf (by assumption) (by assumption)
               | exact npar_0 (fun h => by first | contradiction | omega | (obtain ⟨h1, h2, h3⟩ := h; contradiction)) (fun h => by first | contradiction | omega | (obtain ⟨h1, h2, h3⟩ := h; contradiction))
           rw [e_]; exact ⟨hB, rfl⟩)
    · refine Qco ttGa1 6 [] rfl ?_
      refine L_call rfl cb87 (cutPrefix_y (cs := cs) (ps := ([102, 114, 101, 101, 45] : List UInt8)) hf) rfl ?_
      rintro _ w4 ⟨hs4, rfl⟩
      replace hB := gb_tr hB hs4
      refine Qoo ttGa1 16 [] rfl ?_
      refine L_call rfl cb88 (name_number (cs := (cs.drop ([102, 114, 101, 101, 45] : List UInt8).length)) (by first | omega | (simp; omega))) rfl ?_
      rintro _ w5 ⟨hs5, rfl⟩
      replace hB := gb_tr hB hs5
      refine Qoo ttGa1 8 [] rfl ?_
      refine Lsp 37 rfl (fun h3 => ?_) (fun h3 => ?_)
      · refine Qoo ttGa1 1 [] rfl ?_
        refine L_yes rfl rfl rfl rfl ?_
        refine L_call rfl cb70 (name_Pool (n := (nnum (cs.drop ([102, 114, 101, 101, 45] : List UInt8).length))) (by have h_ := nnum_bound (cs.drop ([119, 97, 108, 45] : List UInt8).length); have h2_ := nnum_bound (cs.drop ([102, 114, 101, 101, 45] : List UInt8).length); omega)) rfl ?_
        rintro _ w6 ⟨hs6, rfl⟩
        replace hB := gb_tr hB hs6
        refine Qoo ttGa1 1 [] rfl ?_
        refine L_yes rfl rfl rfl rfl ?_
        refine L_run (R_eqv (R_eqlS rfl rfl) (v' := .bool (decide ((pname (nnum (cs.drop ([102, 114, 101, 101, 45] : List UInt8).length))) = cs))) (bD ba_inj)) rfl ?_
        refine Qoc ttGa1 3 [] rfl ?_
        refine C_if rfl (fun h4 => ?_) (fun h4 => ?_)
        · refine Qce ttGa1 9 [] rfl ?_
          refine ret2 Try.results75 rfl rfl ?_
          first
            | (exfalso; omega)
            | (have e_ : nparse cs = (2, (nnum (cs.drop ([102, 114, 101, 101, 45] : List UInt8).length))) := by
                 first
                   | exact npar_w hw (by assumption) (by assumption)
                   | exact npar_p hf (by assumption) (by assumption)
                   | exact npar_0 (fun h => by first | contradiction | omega | (obtain ⟨h1, h2, h3⟩ := h; contradiction)) (fun h => by first | contradiction | omega | (obtain ⟨h1, h2, h3⟩ := h; contradiction))
               rw [e_]; exact ⟨hB, rfl⟩)
        · refine Qce ttGa1 9 [] rfl ?_
          refine ret2 Try.results75 rfl rfl ?_
          first
            | (exfalso; omega)
            | (have e_ : nparse cs = (0, 0) := by
                 first
                   | exact npar_w hw (by assumption) (by assumption)
                   | exact npar_p hf (by assumption) (by assumption)
                   | exact npar_0 (fun h => by first | contradiction | omega | (obtain ⟨h1, h2, h3⟩ := h; contradiction)) (fun h => by first | contradiction | omega | (obtain ⟨h1, h2, h3⟩ := h; contradiction))
               rw [e_]; exact ⟨hB, rfl⟩)
      · refine Qoe ttGa1 17 [] rfl ?_
        refine ret2 Try.results75 rfl rfl ?_
        first
          | (exfalso; omega)
          | (have e_ : nparse cs = (0, 0) := by
               first
                 | exact npar_w hw (by assumption) (by assumption)
                 | exact npar_p hf (by assumption) (by assumption)
                 | exact npar_0 (fun h => by first | contradiction | omega | (obtain ⟨h1, h2, h3⟩ := h; contradiction)) (fun h => by first | contradiction | omega | (obtain ⟨h1, h2, h3⟩ := h; contradiction))
             rw [e_]; exact ⟨hB, rfl⟩)
  · refine Qoo ttGa1 14 [] rfl ?_
    refine L_call rfl cb87 (cutPrefix_y (cs := cs) (ps := ([102, 114, 101, 101, 45] : List UInt8)) hf) rfl ?_
    rintro _ w7 ⟨hs7, rfl⟩
    replace hB := gb_tr hB hs7
    refine Qoo ttGa1 16 [] rfl ?_
    refine L_call rfl cb88 (name_number (cs := (cs.drop ([102, 114, 101, 101, 45] : List UInt8).length)) (by first | omega | (simp; omega))) rfl ?_
    rintro _ w8 ⟨hs8, rfl⟩
    replace hB := gb_tr hB hs8
    refine Qoo ttGa1 8 [] rfl ?_
    refine Lsp 37 rfl (fun h5 => ?_) (fun h5 => ?_)
    · refine Qoo ttGa1 1 [] rfl ?_
      refine L_yes rfl rfl rfl rfl ?_
      refine L_call rfl cb70 (name_Pool (n := (nnum (cs.drop ([102, 114, 101, 101, 45] : List UInt8).length))) (by have h_ := nnum_bound (cs.drop ([119, 97, 108, 45] : List UInt8).length); have h2_ := nnum_bound (cs.drop ([102, 114, 101, 101, 45] : List UInt8).length); omega)) rfl ?_
      rintro _ w9 ⟨hs9, rfl⟩
      replace hB := gb_tr hB hs9
      refine Qoo ttGa1 1 [] rfl ?_
      refine L_yes rfl rfl rfl rfl ?_
      refine L_run (R_eqv (R_eqlS rfl rfl) (v' := .bool (decide ((pname (nnum (cs.drop ([102, 114, 101, 101, 45] : List UInt8).length))) = cs))) (bD ba_inj)) rfl ?_
      refine Qoc ttGa1 3 [] rfl ?_
      refine C_if rfl (fun h6 => ?_) (fun h6 => ?_)
      · refine Qce ttGa1 9 [] rfl ?_
        refine ret2 Try.results75 rfl rfl ?_
        first
          | (exfalso; omega)
          | (have e_ : nparse cs = (2, (nnum (cs.drop ([102, 114, 101, 101, 45] : List UInt8).length))) := by
               first
                 | exact npar_w hw (by assumption) (by assumption)
                 | exact npar_p hf (by assumption) (by assumption)
                 | exact npar_0 (fun h => by first | contradiction | omega | (obtain ⟨h1, h2, h3⟩ := h; contradiction)) (fun h => by first | contradiction | omega | (obtain ⟨h1, h2, h3⟩ := h; contradiction))
             rw [e_]; exact ⟨hB, rfl⟩)
      · refine Qce ttGa1 9 [] rfl ?_
        refine ret2 Try.results75 rfl rfl ?_
        first
          | (exfalso; omega)
          | (have e_ : nparse cs = (0, 0) := by
               first
                 | exact npar_w hw (by assumption) (by assumption)
                 | exact npar_p hf (by assumption) (by assumption)
                 | exact npar_0 (fun h => by first | contradiction | omega | (obtain ⟨h1, h2, h3⟩ := h; contradiction)) (fun h => by first | contradiction | omega | (obtain ⟨h1, h2, h3⟩ := h; contradiction))
             rw [e_]; exact ⟨hB, rfl⟩)
    · refine Qoe ttGa1 17 [] rfl ?_
      refine ret2 Try.results75 rfl rfl ?_
      first
        | (exfalso; omega)
        | (have e_ : nparse cs = (0, 0) := by
             first
               | exact npar_w hw (by assumption) (by assumption)
               | exact npar_p hf (by assumption) (by assumption)
               | exact npar_0 (fun h => by first | contradiction | omega | (obtain ⟨h1, h2, h3⟩ := h; contradiction)) (fun h => by first | contradiction | omega | (obtain ⟨h1, h2, h3⟩ := h; contradiction))
           rw [e_]; exact ⟨hB, rfl⟩)
theorem name_Parse_yn {w : World} {cs : List UInt8} (hl : cs.length ≤ 9000000000000000000) (hw : cs.take ([119, 97, 108, 45] : List UInt8).length = ([119, 97, 108, 45] : List UInt8)) (hf : ¬ cs.take ([102, 114, 101, 101, 45] : List UInt8).length = ([102, 114, 101, 101, 45] : List UInt8)) :
    Runs Try.prog 75 #[.string (⟨cs.toArray⟩)] w (fun v w' => w.grownBy w' none ∧ v = .tuple #[.int .i64 (nparse cs).1, .int .i64 (nparse cs).2]) := by
  have hB := gb_refl w none
  refine enterQ Try.func75 Try.ntmps75 rfl rfl ?_
  refine Qco ttGa1 10 [] rfl ?_
  refine L_call rfl cb87 (cutPrefix_y (cs := cs) (ps := ([119, 97, 108, 45] : List UInt8)) hw) rfl ?_
  rintro _ w1 ⟨hs1, rfl⟩
  replace hB := gb_tr hB hs1
  refine Qoo ttGa1 16 [] rfl ?_
  refine L_call rfl cb88 (name_number (cs := (cs.drop ([119, 97, 108, 45] : List UInt8).length)) (by first | omega | (simp; omega))) rfl ?_
  rintro _ w2 ⟨hs2, rfl⟩
  replace hB := gb_tr hB hs2
  refine Qoo ttGa1 8 [] rfl ?_
  refine Lsp 20 rfl (fun h1 => ?_) (fun h1 => ?_)
  · refine Qoo ttGa1 1 [] rfl ?_
    refine L_yes rfl rfl rfl rfl ?_
    refine L_call rfl cb89 (name_Wal (n := (nnum (cs.drop ([119, 97, 108, 45] : List UInt8).length))) (by have h_ := nnum_bound (cs.drop ([119, 97, 108, 45] : List UInt8).length); have h2_ := nnum_bound (cs.drop ([102, 114, 101, 101, 45] : List UInt8).length); omega)) rfl ?_
    rintro _ w3 ⟨hs3, rfl⟩
    replace hB := gb_tr hB hs3
    refine Qoo ttGa1 1 [] rfl ?_
    refine L_yes rfl rfl rfl rfl ?_
    refine L_run (R_eqv (R_eqlS rfl rfl) (v' := .bool (decide ((wname (nnum (cs.drop ([119, 97, 108, 45] : List UInt8).length))) = cs))) (bD ba_inj)) rfl ?_
    refine Qoc ttGa1 3 [] rfl ?_
    refine C_if rfl (fun h2 => ?_) (fun h2 => ?_)
    · refine Qce ttGa1 9 [] rfl ?_
      refine ret2 Try.results75 rfl rfl ?_
      first
        | (exfalso; omega)
        | (have e_ : nparse cs = (1, (nnum (cs.drop ([119, 97, 108, 45] : List UInt8).length))) := by
             first
               | exact npar_w hw (by assumption) (by assumption)
               | exact npar_p hf (by assumption) (by assumption)
               | exact npar_0 (fun h => by first | contradiction | omega | (obtain ⟨h1, h2, h3⟩ := h; contradiction)) (fun h => by first | contradiction | omega | (obtain ⟨h1, h2, h3⟩ := h; contradiction))
           rw [e_]; exact ⟨hB, rfl⟩)
    · refine Qco ttGa1 6 [] rfl ?_
      refine L_call rfl cb87 (cutPrefix_n (cs := cs) (ps := ([102, 114, 101, 101, 45] : List UInt8)) hf) rfl ?_
      rintro _ w4 ⟨hs4, rfl⟩
      replace hB := gb_tr hB hs4
      refine Qoe ttGa1 22 [] rfl ?_
      refine ret2 Try.results75 rfl rfl ?_
      first
        | (exfalso; omega)
        | (have e_ : nparse cs = (0, 0) := by
             first
               | exact npar_w hw (by assumption) (by assumption)
               | exact npar_p hf (by assumption) (by assumption)
               | exact npar_0 (fun h => by first | contradiction | omega | (obtain ⟨h1, h2, h3⟩ := h; contradiction)) (fun h => by first | contradiction | omega | (obtain ⟨h1, h2, h3⟩ := h; contradiction))
           rw [e_]; exact ⟨hB, rfl⟩)
  · refine Qoo ttGa1 14 [] rfl ?_
    refine L_call rfl cb87 (cutPrefix_n (cs := cs) (ps := ([102, 114, 101, 101, 45] : List UInt8)) hf) rfl ?_
    rintro _ w5 ⟨hs5, rfl⟩
    replace hB := gb_tr hB hs5
    refine Qoe ttGa1 22 [] rfl ?_
    refine ret2 Try.results75 rfl rfl ?_
    first
      | (exfalso; omega)
      | (have e_ : nparse cs = (0, 0) := by
           first
             | exact npar_w hw (by assumption) (by assumption)
             | exact npar_p hf (by assumption) (by assumption)
             | exact npar_0 (fun h => by first | contradiction | omega | (obtain ⟨h1, h2, h3⟩ := h; contradiction)) (fun h => by first | contradiction | omega | (obtain ⟨h1, h2, h3⟩ := h; contradiction))
         rw [e_]; exact ⟨hB, rfl⟩)
theorem name_Parse_ny {w : World} {cs : List UInt8} (hl : cs.length ≤ 9000000000000000000) (hw : ¬ cs.take ([119, 97, 108, 45] : List UInt8).length = ([119, 97, 108, 45] : List UInt8)) (hf : cs.take ([102, 114, 101, 101, 45] : List UInt8).length = ([102, 114, 101, 101, 45] : List UInt8)) :
    Runs Try.prog 75 #[.string (⟨cs.toArray⟩)] w (fun v w' => w.grownBy w' none ∧ v = .tuple #[.int .i64 (nparse cs).1, .int .i64 (nparse cs).2]) := by
  have hB := gb_refl w none
  refine enterQ Try.func75 Try.ntmps75 rfl rfl ?_
  refine Qco ttGa1 10 [] rfl ?_
  refine L_call rfl cb87 (cutPrefix_n (cs := cs) (ps := ([119, 97, 108, 45] : List UInt8)) hw) rfl ?_
  rintro _ w1 ⟨hs1, rfl⟩
  replace hB := gb_tr hB hs1
  refine Qoo ttGa1 19 [] rfl ?_
  refine L_call rfl cb87 (cutPrefix_y (cs := cs) (ps := ([102, 114, 101, 101, 45] : List UInt8)) hf) rfl ?_
  rintro _ w2 ⟨hs2, rfl⟩
  replace hB := gb_tr hB hs2
  refine Qoo ttGa1 16 [] rfl ?_
  refine L_call rfl cb88 (name_number (cs := (cs.drop ([102, 114, 101, 101, 45] : List UInt8).length)) (by first | omega | (simp; omega))) rfl ?_
  rintro _ w3 ⟨hs3, rfl⟩
  replace hB := gb_tr hB hs3
  refine Qoo ttGa1 8 [] rfl ?_
  refine Lsp 37 rfl (fun h1 => ?_) (fun h1 => ?_)
  · refine Qoo ttGa1 1 [] rfl ?_
    refine L_yes rfl rfl rfl rfl ?_
    refine L_call rfl cb70 (name_Pool (n := (nnum (cs.drop ([102, 114, 101, 101, 45] : List UInt8).length))) (by have h_ := nnum_bound (cs.drop ([119, 97, 108, 45] : List UInt8).length); have h2_ := nnum_bound (cs.drop ([102, 114, 101, 101, 45] : List UInt8).length); omega)) rfl ?_
    rintro _ w4 ⟨hs4, rfl⟩
    replace hB := gb_tr hB hs4
    refine Qoo ttGa1 1 [] rfl ?_
    refine L_yes rfl rfl rfl rfl ?_
    refine L_run (R_eqv (R_eqlS rfl rfl) (v' := .bool (decide ((pname (nnum (cs.drop ([102, 114, 101, 101, 45] : List UInt8).length))) = cs))) (bD ba_inj)) rfl ?_
    refine Qoc ttGa1 3 [] rfl ?_
    refine C_if rfl (fun h2 => ?_) (fun h2 => ?_)
    · refine Qce ttGa1 9 [] rfl ?_
      refine ret2 Try.results75 rfl rfl ?_
      first
        | (exfalso; omega)
        | (have e_ : nparse cs = (2, (nnum (cs.drop ([102, 114, 101, 101, 45] : List UInt8).length))) := by
             first
               | exact npar_w hw (by assumption) (by assumption)
               | exact npar_p hf (by assumption) (by assumption)
               | exact npar_0 (fun h => by first | contradiction | omega | (obtain ⟨h1, h2, h3⟩ := h; contradiction)) (fun h => by first | contradiction | omega | (obtain ⟨h1, h2, h3⟩ := h; contradiction))
           rw [e_]; exact ⟨hB, rfl⟩)
    · refine Qce ttGa1 9 [] rfl ?_
      refine ret2 Try.results75 rfl rfl ?_
      first
        | (exfalso; omega)
        | (have e_ : nparse cs = (0, 0) := by
             first
               | exact npar_w hw (by assumption) (by assumption)
               | exact npar_p hf (by assumption) (by assumption)
               | exact npar_0 (fun h => by first | contradiction | omega | (obtain ⟨h1, h2, h3⟩ := h; contradiction)) (fun h => by first | contradiction | omega | (obtain ⟨h1, h2, h3⟩ := h; contradiction))
           rw [e_]; exact ⟨hB, rfl⟩)
  · refine Qoe ttGa1 17 [] rfl ?_
    refine ret2 Try.results75 rfl rfl ?_
    first
      | (exfalso; omega)
      | (have e_ : nparse cs = (0, 0) := by
           first
             | exact npar_w hw (by assumption) (by assumption)
             | exact npar_p hf (by assumption) (by assumption)
             | exact npar_0 (fun h => by first | contradiction | omega | (obtain ⟨h1, h2, h3⟩ := h; contradiction)) (fun h => by first | contradiction | omega | (obtain ⟨h1, h2, h3⟩ := h; contradiction))
         rw [e_]; exact ⟨hB, rfl⟩)
theorem name_Parse_nn {w : World} {cs : List UInt8} (hl : cs.length ≤ 9000000000000000000) (hw : ¬ cs.take ([119, 97, 108, 45] : List UInt8).length = ([119, 97, 108, 45] : List UInt8)) (hf : ¬ cs.take ([102, 114, 101, 101, 45] : List UInt8).length = ([102, 114, 101, 101, 45] : List UInt8)) :
    Runs Try.prog 75 #[.string (⟨cs.toArray⟩)] w (fun v w' => w.grownBy w' none ∧ v = .tuple #[.int .i64 (nparse cs).1, .int .i64 (nparse cs).2]) := by
  have hB := gb_refl w none
  refine enterQ Try.func75 Try.ntmps75 rfl rfl ?_
  refine Qco ttGa1 10 [] rfl ?_
  refine L_call rfl cb87 (cutPrefix_n (cs := cs) (ps := ([119, 97, 108, 45] : List UInt8)) hw) rfl ?_
  rintro _ w1 ⟨hs1, rfl⟩
  replace hB := gb_tr hB hs1
  refine Qoo ttGa1 19 [] rfl ?_
  refine L_call rfl cb87 (cutPrefix_n (cs := cs) (ps := ([102, 114, 101, 101, 45] : List UInt8)) hf) rfl ?_
  rintro _ w2 ⟨hs2, rfl⟩
  replace hB := gb_tr hB hs2
  refine Qoe ttGa1 22 [] rfl ?_
  refine ret2 Try.results75 rfl rfl ?_
  first
    | (exfalso; omega)
    | (have e_ : nparse cs = (0, 0) := by
         first
           | exact npar_w hw (by assumption) (by assumption)
           | exact npar_p hf (by assumption) (by assumption)
           | exact npar_0 (fun h => by first | contradiction | omega | (obtain ⟨h1, h2, h3⟩ := h; contradiction)) (fun h => by first | contradiction | omega | (obtain ⟨h1, h2, h3⟩ := h; contradiction))
       rw [e_]; exact ⟨hB, rfl⟩)
theorem name_Parse {w : World} {cs : List UInt8} (hl : cs.length ≤ 9000000000000000000) : Runs Try.prog 75 #[.string ⟨cs.toArray⟩] w (fun v w' => w.grownBy w' none ∧ v = .tuple #[.int .i64 (nparse cs).1, .int .i64 (nparse cs).2]) := by
  by_cases hw : cs.take ([119, 97, 108, 45] : List UInt8).length = ([119, 97, 108, 45] : List UInt8)
  · by_cases hf : cs.take ([102, 114, 101, 101, 45] : List UInt8).length = ([102, 114, 101, 101, 45] : List UInt8)
    · exact name_Parse_yy hl hw hf
    · exact name_Parse_yn hl hw hf
  · by_cases hf : cs.take ([102, 114, 101, 101, 45] : List UInt8).length = ([102, 114, 101, 101, 45] : List UInt8)
    · exact name_Parse_ny hl hw hf
    · exact name_Parse_nn hl hw hf
end Go.Proofs.Ytoipncaopdmicaa
namespace Go.Proofs.Ytoipncaopdmicaa
open Go.RowKit Gw Pl
set_option linter.unusedVariables false
set_option linter.unusedSimpArgs false
theorem cb30 : callB Try.prog 30 = true := by kernel_rfl
theorem cb75 : callB Try.prog 75 = true := by kernel_rfl
def tabGb1 : TT := { fld := [], scl := [], agg := [], str := [], slc := [], ptr := [30], cv := [] }
theorem ttGb1 : TOk Try.prog tabGb1 := TT.ok_of (by kernel_rfl)
/-- A file's length; 0: there is none. -/
def sizeN (fs : List FM) (nm : ByteArray) : Nat := if HasN fs nm then (getF fs nm).seen.length else 0
def sizeP (fs : List PF) (nm : ByteArray) : Nat := if HasP fs nm then (getP fs nm).seen.length else 0
theorem size_pf {fs : List FM} {nm : ByteArray} : sizeP (fs.map FM.pf) nm = sizeN fs nm := by
  unfold sizeP sizeN
  by_cases h : HasN fs nm
  · rw [if_pos h, if_pos (has_pf.2 h), get_pf]; rfl
  · rw [if_neg h, if_neg (fun q => h (has_pf.1 q))]
def fn0 (k : Nat) : ByteArray := ⟨(pname (k : Int)).toArray⟩
theorem fn0_size (k : Nat) (h : k ≤ 2) : (fn0 k).size ≤ 9000000000000000000 := by
  have : k = 0 ∨ k = 1 ∨ k = 2 := by omega
  rcases this with rfl | rfl | rfl <;> decide +kernel
def isFree (nm : ByteArray) : Prop := (nparse nm.data.toList).1 = 2
instance {nm : ByteArray} : Decidable (isFree nm) := by unfold isFree; infer_instance
/-- The first free name but the spare's that no file has. -/
def unusedP (fs : List PF) : ByteArray := if sizeP fs (fn0 1) = 0 then fn0 1 else if sizeP fs (fn0 2) = 0 then fn0 2 else ⟨#[]⟩
section
variable {S : Nat → Prop} {w : World} {d : DK} (hD : DiskAt S w d) {nm : ByteArray}
include hD
theorem size_ok : Runs Try.prog 24 #[.pointer (some ⟨d.gd, 0, none⟩), .string nm] w (fun v w' => w.grownBy w' none ∧ v = .int .i64 (sizeP d.pd.fs nm : Int)) := by
  have e : sizeP d.pd.fs nm = sizeN d.fs nm := size_pf
  rw [e]
  unfold sizeN
  by_cases h : HasN d.fs nm
  · rw [if_pos h]; exact size_y hD.hb hD.hm hD.hF hD.hN h
  · rw [if_neg h]; exact size_n hD.hb hD.hm hD.hF hD.hN h
theorem dn_ok : Runs Try.prog 30 #[.pointer (some ⟨d.gd, 0, none⟩)] w (fun v w' => w.grownBy w' none ∧ v = .bool d.dn) := down_ok hD.hb hD.hm hD.hF hD.hN
theorem opsn_ok : Runs Try.prog 29 #[.pointer (some ⟨d.gd, 0, none⟩)] w (fun v w' => w.grownBy w' none ∧ v = .int .i64 d.ops) := ops_ok hD.hb hD.hm hD.hF hD.hN
end
theorem up_ok {S : Nat → Prop} {w : World} {d : DK} (hD : DiskAt S w d)  :
    Runs Try.prog 69 #[.pointer (some ⟨d.gd, 0, none⟩)] w (fun v w' => w.grownBy w' none ∧ (d.dn = true ∧ v = .int .i64 9 ∨ d.dn = false ∧ v = .int .i64 0)) := by
  have hB := gb_refl w none
  have hDk := hD
  have hSl := hD.hSl
  refine enterQ Try.func69 Try.ntmps69 rfl rfl ?_
  refine Qco ttGb1 18 [] rfl ?_
  refine L_call rfl cb30 (dn_ok hDk) rfl ?_
  rintro _ w1 ⟨hs1, rfl⟩
  replace hB := gb_tr hB hs1
  replace hDk := hDk.gb hs1
  refine Qoc ttGb1 3 [] rfl ?_
  refine C_cond rfl (fun h1 => ?_) (fun h1 => ?_)
  · refine Qce ttGb1 8 [] rfl ?_
    refine ret1 Try.results69 rfl ?_
    exact ⟨hB, .inl ⟨h1, rfl⟩⟩
  · refine Qce ttGb1 9 [] rfl ?_
    refine ret1 Try.results69 rfl ?_
    exact ⟨hB, .inr ⟨h1, rfl⟩⟩
theorem in_ok {S : Nat → Prop} {w : World} {d : DK} (hD : DiskAt S w d) {nm : ByteArray} (hl : nm.size ≤ 9000000000000000000) :
    Runs Try.prog 71 #[.pointer (some ⟨d.gd, 0, none⟩), .string nm] w (fun v w' => w.grownBy w' none ∧ v = .bool (decide (isFree nm ∧ sizeP d.pd.fs nm = 17))) := by
  have hB := gb_refl w none
  have hDk := hD
  have hSl := hD.hSl
  refine enterQ Try.func71 Try.ntmps71 rfl rfl ?_
  refine Qco ttGb1 8 [] rfl ?_
  refine L_call rfl cb75 (name_Parse (cs := nm.data.toList) hl) rfl ?_
  rintro _ w1 ⟨hs1, rfl⟩
  replace hB := gb_tr hB hs1
  replace hDk := hDk.gb hs1
  refine Qoo ttGb1 12 [] rfl ?_
  refine Lsp 14 rfl (fun h1 => ?_) (fun h1 => ?_)
  · refine Qoo ttGb1 2 [] rfl ?_
    refine L_yes rfl rfl rfl rfl ?_
    refine L_call rfl cb24 (size_ok (nm := nm) hDk) rfl ?_
    rintro _ w2 ⟨hs2, rfl⟩
    replace hB := gb_tr hB hs2
    replace hDk := hDk.gb hs2
    refine Qoe ttGb1 6 [] rfl ?_
    refine ret1 Try.results71 rfl ?_
    exact ⟨hB, bD ⟨fun h_ => ⟨by unfold isFree; omega, by omega⟩, fun h_ => by have h1_ := h_.1; have h2_ := h_.2; unfold isFree at h1_; omega⟩⟩
  · refine Qoe ttGb1 9 [] rfl ?_
    refine ret1 Try.results71 rfl ?_
    exact ⟨hB, bF (fun h_ => by have h1_ := h_.1; unfold isFree at h1_; omega)⟩
theorem unused_ok {S : Nat → Prop} {w : World} {d : DK} (hD : DiskAt S w d)  :
    Runs Try.prog 72 #[.pointer (some ⟨d.gd, 0, none⟩)] w (fun v w' => w.grownBy w' none ∧ v = .string (unusedP d.pd.fs)) := by
  have hB := gb_refl w none
  have hDk := hD
  have hSl := hD.hSl
  refine enterQ Try.func72 Try.ntmps72 rfl rfl ?_
  refine Qcc ttGb1 12 [] rfl ?_
  refine C_loop (fun m_ a_ w_ => ∃ (σ_ : Nat → Value) (k : Nat), a_ = Ac 17 σ_ [] [(0, .pointer (some ⟨d.gd, 0, none⟩)), (5, .int .i64 (k : Int))] ∧ w.grownBy w_ none ∧ DiskAt S w_ d ∧ (k ≤ 2) ∧ (∀ j < k, sizeP d.pd.fs (fn0 (j + 1)) ≠ 0) ∧ 2 - k = m_) (2 - 0) ?_ ?_
  · exact ⟨_, 0, Ac_frg ⟨rfl, (agr rfl (by first | rfl | (congr 1; omega) | (congr 1; simp; done) | (congr 1; simp only [IntKind.wrap_u64, IntKind.wrap_i64, IntKind.wrap_u8]; omega) | (congr 1 <;> omega))), trivial⟩, hB, hDk, (by omega), (fun j_ hj_ => by omega), rfl⟩
  · clear hB
    clear hDk
    rintro m_ a_ w1 ⟨σ_, k, rfl, hB, hDk, hk_, hall, rfl⟩
    refine Q0c ?_
    refine Qcc ttGb1 6 [] rfl ?_
    refine C_if rfl (fun h1 => ?_) (fun h1 => ?_)
    · refine Qco ttGb1 14 [] rfl ?_
      refine L_call rfl cb70 (name_Pool (n := ((k : Int) + 1)) (by omega)) rfl ?_
      rintro _ w2 ⟨hs1, rfl⟩
      replace hB := gb_tr hB hs1
      replace hDk := hDk.gb hs1
      refine Qoo ttGb1 7 [] rfl ?_
      refine L_call rfl cb24 (size_ok (nm := (fn0 (k + 1))) hDk) rfl ?_
      rintro _ w3 ⟨hs2, rfl⟩
      replace hB := gb_tr hB hs2
      replace hDk := hDk.gb hs2
      refine Qoc ttGb1 3 [] rfl ?_
      refine C_if rfl (fun h2 => ?_) (fun h2 => ?_)
      · refine Qce ttGb1 9 [] rfl ?_
        refine Rl ?_
        refine Qee ttGb1 2 [] rfl ?_
        refine ret1 Try.results72 rfl ?_
        have hz_ : sizeP d.pd.fs (fn0 (k + 1)) = 0 := by omega
        refine ⟨hB, ?_⟩; unfold unusedP; have hk2_ : k = 0 ∨ k = 1 := by omega
        rcases hk2_ with rfl | rfl
        · rw [if_pos hz_]; rfl
        · rw [if_neg (hall 0 (by omega)), if_pos hz_]; rfl
      · refine Qce ttGb1 7 [] rfl ?_
        refine Nl ?_
        exact ⟨2 - (k + 1), by omega, _, (k + 1), Ac_frg ⟨rfl, (agr rfl (by first | rfl | (congr 1; omega) | (congr 1; simp; done) | (congr 1; simp only [IntKind.wrap_u64, IntKind.wrap_i64, IntKind.wrap_u8]; omega) | (congr 1 <;> omega))), trivial⟩, hB, hDk, (by omega), (fun j_ hj_ => by rcases Nat.lt_or_ge j_ k with h_ | h_; exact hall j_ h_; obtain rfl : j_ = k := (by omega); omega), rfl⟩
    · refine Qce ttGb1 2 [] rfl ?_
      refine Xl ?_
      refine Qee ttGb1 8 [] rfl ?_
      refine ret1 Try.results72 rfl ?_
      have h1_ := hall 0 (by omega); have h2_ := hall 1 (by omega); refine ⟨hB, ?_⟩; unfold unusedP; rw [if_neg h1_, if_neg h2_]
end Go.Proofs.Ytoipncaopdmicaa
namespace Go.Proofs.Ytoipncaopdmicaa
open Go.RowKit Gw Pl
set_option linter.unusedVariables false
set_option linter.unusedSimpArgs false
theorem cb18 : callB Try.prog 18 = true := by kernel_rfl
theorem cb21 : callB Try.prog 21 = true := by kernel_rfl
theorem cb22 : callB Try.prog 22 = true := by kernel_rfl
theorem cb69 : callB Try.prog 69 = true := by kernel_rfl
theorem cb71 : callB Try.prog 71 = true := by kernel_rfl
theorem cb72 : callB Try.prog 72 = true := by kernel_rfl
def tabGc1 : TT := { fld := [], scl := [], agg := [], str := [], slc := [], ptr := [], cv := [] }
theorem ttGc1 : TOk Try.prog tabGc1 := TT.ok_of (by kernel_rfl)
def PD.spare (d : PD) : PD × Int := if d.dn then (d, 9) else if sizeP d.fs (fn0 0) = 17 then (d, 0) else if 0 < sizeP d.fs (fn0 0) then (if (d.remove (fn0 0)).2 ≠ 0 then d.remove (fn0 0) else (d.remove (fn0 0)).1.make (fn0 0) 17) else d.make (fn0 0) 17
def PD.take (d : PD) : PD × ByteArray × Int := if d.dn then (d, ⟨#[]⟩, 9) else if sizeP d.fs (fn0 1) = 17 then (d, fn0 1, 0) else if sizeP d.fs (fn0 2) = 17 then (d, fn0 2, 0) else if unusedP d.fs = ⟨#[]⟩ then (d, ⟨#[]⟩, 6) else if (d.make (unusedP d.fs) 17).2 ≠ 0 then ((d.make (unusedP d.fs) 17).1, ⟨#[]⟩, (d.make (unusedP d.fs) 17).2) else ((d.make (unusedP d.fs) 17).1, unusedP d.fs, 0)
def PD.give (d : PD) (s : ByteArray) : PD × Int := if d.dn then (d, 9) else if sizeP d.fs s = 0 then (d, 7) else if sizeP d.fs s ≠ 17 ∨ unusedP d.fs = ⟨#[]⟩ then d.remove s else d.rename s (unusedP d.fs)
theorem fn0_free (k : Nat) (h : k ≤ 2) : isFree (fn0 k) := by
  unfold isFree fn0
  show (nparse (pname (k : Int))).1 = 2
  rw [nparse_p (by omega)]
theorem unused_size (fs : List PF) : (unusedP fs).size ≤ 9000000000000000000 := by
  unfold unusedP
  split
  · exact fn0_size 1 (by decide)
  · split
    · exact fn0_size 2 (by decide)
    · decide
theorem down_pd {d : DK} (h : d.dn = true) : d.pd.dn = true := h
section
variable {S : Nat → Prop} {w : World} {d : DK} {g : Nat} (hD : DiskAt S w d) (hg : d.gd = g) {nm to : ByteArray} {n : Int}
include hD hg
theorem make_g (hl : nm.size ≤ 9000000000000000000) : Runs Try.prog 18 #[.pointer (some ⟨g, 0, none⟩), .string nm, .int .i64 n] w (fun v w' => ∃ d', Did S w w' d d' ∧ d'.pd = (d.pd.make nm n).1 ∧ v = .int .i64 (d.pd.make nm n).2) := by subst hg; exact make_ok hD hl
theorem remove_g : Runs Try.prog 22 #[.pointer (some ⟨g, 0, none⟩), .string nm] w (fun v w' => ∃ d', Did S w w' d d' ∧ d'.pd = (d.pd.remove nm).1 ∧ v = .int .i64 (d.pd.remove nm).2) := by subst hg; exact remove_ok hD
theorem rename_g (hl : to.size ≤ 9000000000000000000) : Runs Try.prog 21 #[.pointer (some ⟨g, 0, none⟩), .string nm, .string to] w (fun v w' => ∃ d', Did S w w' d d' ∧ d'.pd = (d.pd.rename nm to).1 ∧ v = .int .i64 (d.pd.rename nm to).2) := by subst hg; exact rename_ok hD hl
theorem in_g (hl : nm.size ≤ 9000000000000000000) : Runs Try.prog 71 #[.pointer (some ⟨g, 0, none⟩), .string nm] w (fun v w' => w.grownBy w' none ∧ v = .bool (decide (isFree nm ∧ sizeP d.pd.fs nm = 17))) := by subst hg; exact in_ok hD hl
end
theorem Did.step {S S1 : Nat → Prop} {w w1 w2 : World} {d d1 d2 : DK} (hg : d1.gd = d.gd) (hB : Out S w w1) (hE : ∀ k, S1 k → S k ∨ w.heap.size ≤ k) (h : Did S1 w1 w2 d1 d2) : Did S w w2 d d2 := by
  obtain ⟨S2, hA, e, ho, he⟩ := h
  exact ⟨S2, hA, e.trans hg, hB.trans ho hE, fun k hk => (he k hk).elim (hE k) (fun q => .inr (Nat.le_trans hB.size q))⟩
theorem own_out {S : Nat → Prop} {w w' : World} {lo t sz m : Nat} {v : Value} {vs : List Value} (ho : w.ownsRow lo t sz v m vs) (hn : ∀ k, v.ownBlock = some k → ¬ S k) (h : Out S w w') : w'.ownsRow lo t sz v m vs := by
  refine ⟨ho.1, ?_⟩
  rcases ho.2 with h0 | ⟨g, cap, cur, e, h1, h2, h3⟩
  · exact .inl h0
  · subst e
    exact .inr ⟨g, cap, cur, rfl, h1, (h.block g (Array.getElem?_eq_some_iff.1 h2).1 (hn g rfl)).trans h2, h3⟩
theorem give_ok {S : Nat → Prop} {w : World} {d : DK} (hD : DiskAt S w d) {nm : ByteArray} :
    Runs Try.prog 34 #[.pointer (some ⟨d.gd, 0, none⟩), .string nm] w (fun v w' => ∃ d', Did S w w' d d' ∧ d'.pd = (d.pd.give nm).1 ∧ v = .int .i64 (d.pd.give nm).2) := by
  have hB := Out.refl S w
  have hDk := hD
  have hSl := hD.hSl
  refine enterQ Try.func34 Try.ntmps34 rfl rfl ?_
  refine Qco ttGc1 9 [] rfl ?_
  refine L_call rfl cb69 (up_ok hDk) rfl ?_
  rintro _ w1 ⟨hs1, ⟨hq1, rfl⟩ | ⟨hq1, rfl⟩⟩
  · replace hB := hB.gb hs1
    replace hDk := hDk.gb hs1
    refine Qoe ttGc1 18 [] rfl ?_
    refine ret1 Try.results34 rfl ?_
    exact fin_e hDk hB (if_pos (down_pd hq1))
  · replace hB := hB.gb hs1
    replace hDk := hDk.gb hs1
    refine Qoo ttGc1 15 [] rfl ?_
    refine L_call rfl cb72 (unused_ok hDk) rfl ?_
    rintro _ w2 ⟨hs2, rfl⟩
    replace hB := hB.gb hs2
    replace hDk := hDk.gb hs2
    refine Qoo ttGc1 9 [] rfl ?_
    refine L_call rfl cb24 (size_ok (nm := nm) hDk) rfl ?_
    rintro _ w3 ⟨hs3, rfl⟩
    replace hB := hB.gb hs3
    replace hDk := hDk.gb hs3
    refine Qoc ttGc1 4 [] rfl ?_
    refine C_if rfl (fun h1 => ?_) (fun h1 => ?_)
    · refine Qce ttGc1 8 [] rfl ?_
      refine ret1 Try.results34 rfl ?_
      exact fin_e hDk hB (by unfold PD.give; rw [if_neg (pdn hq1), if_pos (by omega)])
    · refine Qco ttGc1 4 [] rfl ?_
      refine L_call rfl cb24 (size_ok (nm := nm) hDk) rfl ?_
      rintro _ w4 ⟨hs4, rfl⟩
      replace hB := hB.gb hs4
      replace hDk := hDk.gb hs4
      refine Qoo ttGc1 2 [] rfl ?_
      refine Qg ttGc1 2 [] rfl (fun σ => ?_)
      refine Ldec 27 (((sizeP d.pd.fs nm : Int) ≠ 17) ∨ ((unusedP d.pd.fs) = ⟨#[]⟩)) rfl ?_
      refine Qoc ttGc1 3 [] rfl ?_
      refine C_if rfl (fun h2 => ?_) (fun h2 => ?_)
      · refine Qco ttGc1 4 [] rfl ?_
        have hBm_ := hB
        refine L_call rfl cb22 (remove_g (nm := nm) hDk rfl) rfl ?_
        rintro _ w5 ⟨dk1, hdid1, hpd1, rfl⟩
        replace hB := hB.trans' (by obtain ⟨_, _, _, h_, _⟩ := hdid1; exact h_)
        refine Qoe ttGc1 6 [] rfl ?_
        refine ret1 Try.results34 rfl ?_
        have hc_ : sizeP d.pd.fs nm ≠ 17 ∨ unusedP d.pd.fs = ⟨#[]⟩ := by rcases h2 with h_ | h_; exact .inl (by omega); exact .inr h_
        have he_ : d.pd.give nm = d.pd.remove nm := by unfold PD.give; rw [if_neg (pdn hq1), if_neg (by omega), if_pos hc_]
        rw [he_]; exact ⟨_, Did.step rfl hBm_ (fun _ h_ => .inl h_) hdid1, hpd1, rfl⟩
      · refine Qco ttGc1 8 [] rfl ?_
        have hBm_ := hB
        refine L_call rfl cb21 (rename_g (nm := nm) (to := (unusedP d.pd.fs)) hDk rfl (unused_size _)) rfl ?_
        rintro _ w6 ⟨dk2, hdid2, hpd2, rfl⟩
        replace hB := hB.trans' (by obtain ⟨_, _, _, h_, _⟩ := hdid2; exact h_)
        refine Qoe ttGc1 4 [] rfl ?_
        refine ret1 Try.results34 rfl ?_
        have hc_ : ¬ (sizeP d.pd.fs nm ≠ 17 ∨ unusedP d.pd.fs = ⟨#[]⟩) := by rintro (h_ | h_); exact h2 (.inl (by omega)); exact h2 (.inr h_)
        have he_ : d.pd.give nm = d.pd.rename nm (unusedP d.pd.fs) := by unfold PD.give; rw [if_neg (pdn hq1), if_neg (by omega), if_neg hc_]
        rw [he_]; exact ⟨_, Did.step rfl hBm_ (fun _ h_ => .inl h_) hdid2, hpd2, rfl⟩
theorem take_ok {S : Nat → Prop} {w : World} {d : DK} (hD : DiskAt S w d)  :
    Runs Try.prog 32 #[.pointer (some ⟨d.gd, 0, none⟩)] w (fun v w' => ∃ d', Did S w w' d d' ∧ d'.pd = d.pd.take.1 ∧ v = .tuple #[.string d.pd.take.2.1, .int .i64 d.pd.take.2.2]) := by
  have hB := Out.refl S w
  have hDk := hD
  have hSl := hD.hSl
  refine enterQ Try.func32 Try.ntmps32 rfl rfl ?_
  refine Qco ttGc1 10 [] rfl ?_
  refine L_call rfl cb69 (up_ok hDk) rfl ?_
  rintro _ w1 ⟨hs1, ⟨hq1, rfl⟩ | ⟨hq1, rfl⟩⟩
  · replace hB := hB.gb hs1
    replace hDk := hDk.gb hs1
    refine Qoe ttGc1 19 [] rfl ?_
    refine ret2 Try.results32 rfl rfl ?_
    refine ⟨d, .of hDk rfl hB, ?_⟩; rw [show d.pd.take = _ from by exact if_pos (down_pd hq1)]; exact ⟨rfl, rfl⟩
  · replace hB := hB.gb hs1
    replace hDk := hDk.gb hs1
    refine Qoc ttGc1 19 [] rfl ?_
    refine C_loop (fun m_ a_ w_ => ∃ (σ_ : Nat → Value) (k : Nat), a_ = Ac 36 σ_ [] [(0, .pointer (some ⟨d.gd, 0, none⟩)), (14, .int .i64 (k : Int))] ∧ Out S w w_ ∧ DiskAt S w_ d ∧ (k ≤ 2) ∧ (∀ j < k, sizeP d.pd.fs (fn0 (j + 1)) ≠ 17) ∧ 2 - k = m_) (2 - 0) ?_ ?_
    · exact ⟨_, 0, Ac_frg ⟨rfl, (agr rfl (by first | rfl | (congr 1; omega) | (congr 1; simp; done) | (congr 1; simp only [IntKind.wrap_u64, IntKind.wrap_i64, IntKind.wrap_u8]; omega) | (congr 1 <;> omega))), trivial⟩, hB, hDk, (by omega), (fun j_ hj_ => by omega), rfl⟩
    · clear hB
      clear hDk
      rintro m_ a_ w2 ⟨σ_, k, rfl, hB, hDk, hk_, hall, rfl⟩
      refine Q0c ?_
      refine Qcc ttGc1 6 [] rfl ?_
      refine C_if rfl (fun h1 => ?_) (fun h1 => ?_)
      · refine Qco ttGc1 14 [] rfl ?_
        refine L_call rfl cb70 (name_Pool (n := ((k : Int) + 1)) (by omega)) rfl ?_
        rintro _ w3 ⟨hs2, rfl⟩
        replace hB := hB.gb hs2
        replace hDk := hDk.gb hs2
        refine Qoo ttGc1 7 [] rfl ?_
        refine L_call rfl cb71 (in_ok (nm := (fn0 (k + 1))) hDk (fn0_size _ (by omega))) rfl ?_
        rintro _ w4 ⟨hs3, rfl⟩
        replace hB := hB.gb hs3
        replace hDk := hDk.gb hs3
        refine Qoc ttGc1 2 [] rfl ?_
        refine C_if rfl (fun h2 => ?_) (fun h2 => ?_)
        · refine Qce ttGc1 10 [] rfl ?_
          refine Rl ?_
          refine Qee ttGc1 2 [] rfl ?_
          refine ret2 Try.results32 rfl rfl ?_
          have hz_ := h2.2
          refine ⟨d, .of hDk rfl hB, ?_⟩; have hk2_ : k = 0 ∨ k = 1 := by omega
          rcases hk2_ with rfl | rfl
          · rw [show d.pd.take = (d.pd, fn0 1, 0) from by unfold PD.take; rw [if_neg (pdn hq1), if_pos hz_]]; exact ⟨rfl, rfl⟩
          · rw [show d.pd.take = (d.pd, fn0 2, 0) from by unfold PD.take; rw [if_neg (pdn hq1), if_neg (hall 0 (by omega)), if_pos hz_]]; exact ⟨rfl, rfl⟩
        · refine Qce ttGc1 7 [] rfl ?_
          refine Nl ?_
          exact ⟨2 - (k + 1), by omega, _, (k + 1), Ac_frg ⟨rfl, (agr rfl (by first | rfl | (congr 1; omega) | (congr 1; simp; done) | (congr 1; simp only [IntKind.wrap_u64, IntKind.wrap_i64, IntKind.wrap_u8]; omega) | (congr 1 <;> omega))), trivial⟩, hB, hDk, (by omega), (fun j_ hj_ => by rcases Nat.lt_or_ge j_ k with h_ | h_; exact hall j_ h_; obtain rfl : j_ = k := (by omega); exact fun q_ => h2 ⟨fn0_free _ (by omega), q_⟩), rfl⟩
      · refine Qce ttGc1 2 [] rfl ?_
        refine Xl ?_
        refine Qeo ttGc1 5 [] rfl ?_
        refine L_call rfl cb72 (unused_ok hDk) rfl ?_
        rintro _ w5 ⟨hs4, rfl⟩
        replace hB := hB.gb hs4
        replace hDk := hDk.gb hs4
        refine Qoc ttGc1 10 [] rfl ?_
        refine C_if rfl (fun h3 => ?_) (fun h3 => ?_)
        · refine Qce ttGc1 8 [] rfl ?_
          refine ret2 Try.results32 rfl rfl ?_
          have h1_ := hall 0 (by omega); have h2_ := hall 1 (by omega)
          refine ⟨d, .of hDk rfl hB, ?_⟩; rw [show d.pd.take = _ from by unfold PD.take; rw [if_neg (pdn hq1), if_neg h1_, if_neg h2_, if_pos h3]]; exact ⟨rfl, rfl⟩
        · refine Qco ttGc1 7 [] rfl ?_
          have hBm_ := hB
          refine L_call rfl cb18 (make_g (nm := (unusedP d.pd.fs)) (n := 17) hDk rfl (unused_size _)) rfl ?_
          rintro _ w6 ⟨dk1, hdid1, hpd1, rfl⟩
          replace hB := hB.trans' (by obtain ⟨_, _, _, h_, _⟩ := hdid1; exact h_)
          refine Qoc ttGc1 9 [] rfl ?_
          refine C_if rfl (fun h4 => ?_) (fun h4 => ?_)
          · refine Qce ttGc1 9 [] rfl ?_
            refine ret2 Try.results32 rfl rfl ?_
            have h1_ := hall 0 (by omega); have h2_ := hall 1 (by omega)
            refine ⟨_, Did.step rfl hBm_ (fun _ h_ => .inl h_) hdid1, ?_⟩; rw [show d.pd.take = _ from by unfold PD.take; rw [if_neg (pdn hq1), if_neg h1_, if_neg h2_, if_neg h3, if_pos h4]]; exact ⟨hpd1, rfl⟩
          · refine Qce ttGc1 10 [] rfl ?_
            refine ret2 Try.results32 rfl rfl ?_
            have h1_ := hall 0 (by omega); have h2_ := hall 1 (by omega)
            refine ⟨_, Did.step rfl hBm_ (fun _ h_ => .inl h_) hdid1, ?_⟩; rw [show d.pd.take = _ from by unfold PD.take; rw [if_neg (pdn hq1), if_neg h1_, if_neg h2_, if_neg h3, if_neg h4]]; exact ⟨hpd1, rfl⟩
theorem spare_ok {S : Nat → Prop} {w : World} {d : DK} (hD : DiskAt S w d)  :
    Runs Try.prog 36 #[.pointer (some ⟨d.gd, 0, none⟩)] w (fun v w' => ∃ d', Did S w w' d d' ∧ d'.pd = (d.pd.spare).1 ∧ v = .int .i64 (d.pd.spare).2) := by
  have hB := Out.refl S w
  have hDk := hD
  have hSl := hD.hSl
  refine enterQ Try.func36 Try.ntmps36 rfl rfl ?_
  refine Qco ttGc1 9 [] rfl ?_
  refine L_call rfl cb69 (up_ok hDk) rfl ?_
  rintro _ w1 ⟨hs1, ⟨hq1, rfl⟩ | ⟨hq1, rfl⟩⟩
  · replace hB := hB.gb hs1
    replace hDk := hDk.gb hs1
    refine Qoe ttGc1 18 [] rfl ?_
    refine ret1 Try.results36 rfl ?_
    exact fin_e hDk hB (if_pos (down_pd hq1))
  · replace hB := hB.gb hs1
    replace hDk := hDk.gb hs1
    refine Qoo ttGc1 14 [] rfl ?_
    refine L_call rfl cb70 (name_Pool (n := 0) (by omega)) rfl ?_
    rintro _ w2 ⟨hs2, rfl⟩
    replace hB := hB.gb hs2
    replace hDk := hDk.gb hs2
    refine Qoo ttGc1 8 [] rfl ?_
    refine L_call rfl cb71 (in_ok (nm := (fn0 0)) hDk (fn0_size _ (by omega))) rfl ?_
    rintro _ w3 ⟨hs3, rfl⟩
    replace hB := hB.gb hs3
    replace hDk := hDk.gb hs3
    refine Qoc ttGc1 2 [] rfl ?_
    refine C_if rfl (fun h1 => ?_) (fun h1 => ?_)
    · refine Qce ttGc1 7 [] rfl ?_
      refine ret1 Try.results36 rfl ?_
      exact fin_e hDk hB (by unfold PD.spare; rw [if_neg (pdn hq1), if_pos h1.2])
    · refine Qco ttGc1 7 [] rfl ?_
      refine L_call rfl cb24 (size_ok (nm := (fn0 0)) hDk) rfl ?_
      rintro _ w4 ⟨hs4, rfl⟩
      replace hB := hB.gb hs4
      replace hDk := hDk.gb hs4
      refine Qoc ttGc1 3 [] rfl ?_
      refine C_if rfl (fun h2 => ?_) (fun h2 => ?_)
      · refine Qco ttGc1 4 [] rfl ?_
        have hsz_ := hB.size
        refine L_call rfl cb22 (remove_g (nm := (fn0 0)) hDk rfl) rfl ?_
        rintro _ w5 ⟨dk1, ⟨S1, hA1, hgd1, hO1, hE1⟩, hpd1, rfl⟩
        replace hB := hB.trans' hO1
        refine Qoc ttGc1 9 [] rfl ?_
        refine C_if rfl (fun h3 => ?_) (fun h3 => ?_)
        · refine Qce ttGc1 8 [] rfl ?_
          refine ret1 Try.results36 rfl ?_
          have he_ : d.pd.spare = d.pd.remove (fn0 0) := by unfold PD.spare; rw [if_neg (pdn hq1), if_neg (fun q_ => h1 ⟨fn0_free 0 (by decide), q_⟩), if_pos (by omega), if_pos h3]
          rw [he_]; exact ⟨_, ⟨_, hA1, hgd1, hB, fun k_ h_ => (hE1 k_ h_).imp id (Nat.le_trans hsz_)⟩, hpd1, rfl⟩
        · refine Qco ttGc1 6 [] rfl ?_
          have hBm_ := hB
          refine L_call rfl cb18 (make_g (nm := (fn0 0)) (n := 17) hA1 hgd1 (fn0_size _ (by omega))) rfl ?_
          rintro _ w6 ⟨dk2, hdid1, hpd2, rfl⟩
          refine Qoe ttGc1 4 [] rfl ?_
          refine ret1 Try.results36 rfl ?_
          have he_ : d.pd.spare = (d.pd.remove (fn0 0)).1.make (fn0 0) 17 := by unfold PD.spare; rw [if_neg (pdn hq1), if_neg (fun q_ => h1 ⟨fn0_free 0 (by decide), q_⟩), if_pos (by omega), if_neg h3]
          rw [he_, ← hpd1]; exact ⟨_, Did.step hgd1 hBm_ (fun k_ h_ => (hE1 k_ h_).imp id (Nat.le_trans hsz_)) hdid1, hpd2, rfl⟩
      · refine Qco ttGc1 6 [] rfl ?_
        have hBm_ := hB
        refine L_call rfl cb18 (make_g (nm := (fn0 0)) (n := 17) hDk rfl (fn0_size _ (by omega))) rfl ?_
        rintro _ w7 ⟨dk3, hdid2, hpd3, rfl⟩
        replace hB := hB.trans' (by obtain ⟨_, _, _, h_, _⟩ := hdid2; exact h_)
        refine Qoe ttGc1 4 [] rfl ?_
        refine ret1 Try.results36 rfl ?_
        have he_ : d.pd.spare = d.pd.make (fn0 0) 17 := by unfold PD.spare; rw [if_neg (pdn hq1), if_neg (fun q_ => h1 ⟨fn0_free 0 (by decide), q_⟩), if_neg (by omega)]
        rw [he_]; exact ⟨_, Did.step rfl hBm_ (fun _ h_ => .inl h_) hdid2, hpd3, rfl⟩
end Go.Proofs.Ytoipncaopdmicaa
namespace Go.Proofs.Ytoipncaopdmicaa
open Go.RowKit Gw Pl
set_option linter.unusedVariables false
set_option linter.unusedSimpArgs false
def tabGd1 : TT := { fld := [], scl := [], agg := [], str := [], slc := [(61, 9, 1, 16)], ptr := [], cv := [] }
theorem ttGd1 : TOk Try.prog tabGd1 := TT.ok_of (by kernel_rfl)
def cntP (fs : List PF) (l : List ByteArray) : Nat := (l.filter fun s => decide ((isFree s ∧ sizeP fs s = 17) ∧ s ≠ fn0 0)).length
theorem cntP_s {fs : List PF} {l : List ByteArray} {i : Nat} (h : i < l.length) : cntP fs (l.take (i + 1)) = cntP fs (l.take i) + (if (isFree l[i] ∧ sizeP fs l[i] = 17) ∧ l[i] ≠ fn0 0 then 1 else 0) := by
  unfold cntP
  rw [List.take_succ_eq_append_getElem h, List.filter_append, List.length_append]
  congr 1
  rw [List.filter_cons, List.filter_nil]
  by_cases hc : (isFree l[i] ∧ sizeP fs l[i] = 17) ∧ l[i] ≠ fn0 0
  · rw [if_pos (decide_eq_true hc), if_pos hc]; rfl
  · rw [if_neg (by rw [decide_eq_false hc]; decide), if_neg hc]; rfl
theorem cntP_le {fs : List PF} {l : List ByteArray} (i : Nat) : cntP fs (l.take i) ≤ i := by
  unfold cntP
  exact Nat.le_trans (List.length_filter_le ..) (by rw [List.length_take]; omega)
theorem list_dk {S : Nat → Prop} {w : World} {d : DK} {g : Nat} (hD : DiskAt S w d) (hg : d.gd = g) : Runs Try.prog 25 #[.pointer (some ⟨g, 0, none⟩)] w (fun v w' => w.grownBy w' none ∧ ∃ A' c', v = .slice A' (d.fs.map FM.nm).length c' ∧ World.ownsRow w' w.heap.size 9 1 (.slice A' (d.fs.map FM.nm).length c') (d.fs.map FM.nm).length (fl encT (d.fs.map FM.nm))) := by
  subst hg
  exact list_ok hD.hb hD.hm hD.hF hD.hN hD.hR (Nat.le_trans hD.hfl (by decide))
/-- Bad free files taken out, one after the other. -/
def cleanL : List ByteArray → PD → PD × Int
  | [], d => (d, 0)
  | s :: r, d => if isFree s ∧ sizeP d.fs s ≠ 17 then (if (d.remove s).2 ≠ 0 then d.remove s else cleanL r (d.remove s).1) else cleanL r d
def PD.clean (d : PD) : PD × Int := if d.dn then (d, 9) else cleanL (d.fs.map PF.nm) d
theorem nms_pf {fs : List FM} : (fs.map FM.pf).map PF.nm = fs.map FM.nm := by rw [List.map_map]; rfl
theorem count_ok {S : Nat → Prop} {w : World} {d : DK} (hD : DiskAt S w d)  (hnl : ∀ s ∈ d.fs.map FM.nm, s.size ≤ 9000000000000000000) :
    Runs Try.prog 68 #[.pointer (some ⟨d.gd, 0, none⟩)] w (fun v w' => w.grownBy w' none ∧ v = .int .i64 ((cntP d.pd.fs (d.fs.map FM.nm) : Nat) : Int)) := by
  have hB := gb_refl w none
  have hDk := hD
  have hSl := hD.hSl
  have hfl64_ : (d.fs.map FM.nm).length ≤ 64 := by rw [List.length_map]; exact hD.hfl
  refine enterQ Try.func68 Try.ntmps68 rfl rfl ?_
  refine Qco ttGd1 14 [] rfl ?_
  have ge1 : w.heap.size ≤ w.heap.size := hB.size
  refine L_call rfl cb25 (list_dk hDk rfl) rfl ?_
  rintro _ w1 ⟨hs1, A_1, c_1, rfl, ho1⟩
  replace hB := gb_tr hB hs1
  replace hDk := hDk.gb hs1
  have hlo1 : w.heap.size ≤ w1.heap.size := hs1.size
  refine Qoc ttGd1 5 [] rfl ?_
  refine C_loop (fun m_ a_ w_ => ∃ (σ_ : Nat → Value) (i : Nat), a_ = Ac 25 σ_ [] [(0, .pointer (some ⟨d.gd, 0, none⟩)), (3, .int .i64 ((cntP d.pd.fs ((d.fs.map FM.nm).take i) : Nat) : Int)), (7, .slice A_1 ((d.fs.map FM.nm).length) c_1), (8, .int .i64 ((d.fs.map FM.nm).length : Int)), (9, .int .i64 (i : Int))] ∧ w.grownBy w_ none ∧ DiskAt S w_ d ∧ World.ownsRow w_ w.heap.size 9 1 (.slice A_1 (d.fs.map FM.nm).length c_1) (d.fs.map FM.nm).length (fl encT (d.fs.map FM.nm)) ∧ w.heap.size ≤ w_.heap.size ∧ (i ≤ (d.fs.map FM.nm).length) ∧ (d.fs.map FM.nm).length - i = m_) ((d.fs.map FM.nm).length - 0) ?_ ?_
  · exact ⟨_, 0, Ac_frg ⟨rfl, (agr rfl (by first | rfl | (congr 1; omega) | (congr 1; simp; done) | (congr 1; simp only [IntKind.wrap_u64, IntKind.wrap_i64, IntKind.wrap_u8]; omega) | (congr 1 <;> omega))), rfl, rfl, (agr rfl (by first | rfl | (congr 1; omega) | (congr 1; simp; done) | (congr 1; simp only [IntKind.wrap_u64, IntKind.wrap_i64, IntKind.wrap_u8]; omega) | (congr 1 <;> omega))), trivial⟩, hB, hDk, ho1, hlo1, (by omega), rfl⟩
  · clear hB
    clear hDk ho1 hlo1
    rintro m_ a_ w2 ⟨σ_, i, rfl, hB, hDk, ho1, hlo1, hi_, rfl⟩
    refine Q0c ?_
    refine Qcc ttGd1 6 [] rfl ?_
    refine C_if rfl (fun h1 => ?_) (fun h1 => ?_)
    · refine Qco ttGd1 6 [] rfl ?_
      have hlk : i < (d.fs.map FM.nm).length := by first | omega | (simp; omega)
      refine T_index (xs := (d.fs.map FM.nm)) (i := i) EncT rfl rfl (by first | rfl | omega) slc61 hlk (own_of ho1).2.2 rfl ?_
      intro g1 o1 ha1
      refine L_run (R_load1 rfl scl9 (ha1 0 _ rfl)) rfl ?_
      refine Qoo ttGd1 7 [] rfl ?_
      refine L_call rfl cb71 (in_ok (nm := (d.fs.map FM.nm)[i]) hDk (hnl _ (List.getElem_mem hlk))) rfl ?_
      rintro _ w3 ⟨hs2, rfl⟩
      replace hB := gb_tr hB hs2
      replace hDk := hDk.gb hs2
      replace ho1 := own_gb ho1 hs2
      replace hlo1 := Nat.le_trans hlo1 hs2.size
      replace ha1 := At.gb ha1 hs2 (by simp)
      refine Qoo ttGd1 1 [] rfl ?_
      refine Lsp 16 rfl (fun h2 => ?_) (fun h2 => ?_)
      · refine Qoo ttGd1 1 [] rfl ?_
        refine L_yes rfl rfl rfl rfl ?_
        refine L_call rfl cb70 (name_Pool (n := 0) (by omega)) rfl ?_
        rintro _ w4 ⟨hs3, rfl⟩
        replace hB := gb_tr hB hs3
        replace hDk := hDk.gb hs3
        replace ho1 := own_gb ho1 hs3
        replace hlo1 := Nat.le_trans hlo1 hs3.size
        replace ha1 := At.gb ha1 hs3 (by simp)
        refine Qoc ttGd1 4 [] rfl ?_
        refine C_if rfl (fun h3 => ?_) (fun h3 => ?_)
        · refine Qco ttGd1 2 [] rfl ?_
          refine L_run (R_add64 rfl rfl (by have h_ := cntP_le (fs := d.pd.fs) (l := d.fs.map FM.nm) i; omega)) rfl ?_
          refine Qoo ttGd1 5 [] rfl ?_
          refine L_run (R_add64 rfl rfl (by have h_ := cntP_le (fs := d.pd.fs) (l := d.fs.map FM.nm) i; omega)) rfl ?_
          refine Qoe ttGd1 2 [] rfl ?_
          refine Nl ?_
          have hcs_ := cntP_s (fs := d.pd.fs) hlk; rw [if_pos ⟨h2, h3⟩] at hcs_
          exact ⟨(d.fs.map FM.nm).length - (i + 1), by omega, _, (i + 1), Ac_frg ⟨rfl, (agr rfl (congrArg _ (by omega))), rfl, rfl, (agr rfl (by first | rfl | (congr 1; omega) | (congr 1; simp; done) | (congr 1; simp only [IntKind.wrap_u64, IntKind.wrap_i64, IntKind.wrap_u8]; omega) | (congr 1 <;> omega))), trivial⟩, hB, hDk, ho1, hlo1, (by omega), rfl⟩
        · refine Qco ttGd1 4 [] rfl ?_
          refine L_run (R_add64 rfl rfl (by have h_ := cntP_le (fs := d.pd.fs) (l := d.fs.map FM.nm) i; omega)) rfl ?_
          refine Qoe ttGd1 2 [] rfl ?_
          refine Nl ?_
          have hcs_ := cntP_s (fs := d.pd.fs) hlk; rw [if_neg (fun q_ => h3 q_.2)] at hcs_
          exact ⟨(d.fs.map FM.nm).length - (i + 1), by omega, _, (i + 1), Ac_frg ⟨rfl, (agr rfl (congrArg _ (by omega))), rfl, rfl, (agr rfl (by first | rfl | (congr 1; omega) | (congr 1; simp; done) | (congr 1; simp only [IntKind.wrap_u64, IntKind.wrap_i64, IntKind.wrap_u8]; omega) | (congr 1 <;> omega))), trivial⟩, hB, hDk, ho1, hlo1, (by omega), rfl⟩
      · refine Qoo ttGd1 11 [] rfl ?_
        refine L_run (R_add64 rfl rfl (by have h_ := cntP_le (fs := d.pd.fs) (l := d.fs.map FM.nm) i; omega)) rfl ?_
        refine Qoe ttGd1 2 [] rfl ?_
        refine Nl ?_
        have hcs_ := cntP_s (fs := d.pd.fs) hlk; rw [if_neg (fun q_ => h2 q_.1)] at hcs_
        exact ⟨(d.fs.map FM.nm).length - (i + 1), by omega, _, (i + 1), Ac_frg ⟨rfl, (agr rfl (congrArg _ (by omega))), rfl, rfl, (agr rfl (by first | rfl | (congr 1; omega) | (congr 1; simp; done) | (congr 1; simp only [IntKind.wrap_u64, IntKind.wrap_i64, IntKind.wrap_u8]; omega) | (congr 1 <;> omega))), trivial⟩, hB, hDk, ho1, hlo1, (by omega), rfl⟩
    · refine Qce ttGd1 2 [] rfl ?_
      refine Xl ?_
      refine Qee ttGd1 9 [] rfl ?_
      refine ret1 Try.results68 rfl ?_
      rw [List.take_of_length_le (by omega)]; exact ⟨hB, rfl⟩
theorem clean_ok {S : Nat → Prop} {w : World} {d : DK} (hD : DiskAt S w d)  (hnl : ∀ s ∈ d.fs.map FM.nm, s.size ≤ 9000000000000000000) :
    Runs Try.prog 38 #[.pointer (some ⟨d.gd, 0, none⟩)] w (fun v w' => ∃ d', Did S w w' d d' ∧ d'.pd = d.pd.clean.1 ∧ v = .int .i64 d.pd.clean.2) := by
  have hB := Out.refl S w
  have hDk := hD
  have hSl := hD.hSl
  have hfl64_ : (d.fs.map FM.nm).length ≤ 64 := by rw [List.length_map]; exact hD.hfl
  refine enterQ Try.func38 Try.ntmps38 rfl rfl ?_
  refine Qco ttGd1 9 [] rfl ?_
  refine L_call rfl cb69 (up_ok hDk) rfl ?_
  rintro _ w1 ⟨hs1, ⟨hq1, rfl⟩ | ⟨hq1, rfl⟩⟩
  · replace hB := hB.gb hs1
    replace hDk := hDk.gb hs1
    refine Qoe ttGd1 18 [] rfl ?_
    refine ret1 Try.results38 rfl ?_
    exact fin_e hDk hB (if_pos (down_pd hq1))
  · replace hB := hB.gb hs1
    replace hDk := hDk.gb hs1
    refine Qoo ttGd1 16 [] rfl ?_
    have ge1 : w.heap.size ≤ w1.heap.size := hB.size
    refine L_call rfl cb25 (list_dk hDk rfl) rfl ?_
    rintro _ w2 ⟨hs2, A_1, c_1, rfl, ho1⟩
    replace hB := hB.gb hs2
    replace hDk := hDk.gb hs2
    have hlo1 : w1.heap.size ≤ w2.heap.size := hs2.size
    refine Qoc ttGd1 5 [] rfl ?_
    have hno0_ : ∀ k_, (Value.slice A_1 (d.fs.map FM.nm).length c_1).ownBlock = some k_ → ¬ S k_ := fun k_ hk_ h_ => by have q_ := (World.ownsRow.lt ho1 k_ hk_).1; have q2_ := hSl k_ h_; have q3_ := ge1; omega
    refine C_loop (fun m_ a_ w_ => ∃ (σ_ : Nat → Value) (S' : Nat → Prop) (d' : DK) (i : Nat), a_ = Ac 40 σ_ [] [(0, .pointer (some ⟨d.gd, 0, none⟩)), (15, .slice A_1 ((d.fs.map FM.nm).length) c_1), (16, .int .i64 ((d.fs.map FM.nm).length : Int)), (17, .int .i64 (i : Int))] ∧ Out S w w_ ∧ World.ownsRow w_ w1.heap.size 9 1 (.slice A_1 (d.fs.map FM.nm).length c_1) (d.fs.map FM.nm).length (fl encT (d.fs.map FM.nm)) ∧ w1.heap.size ≤ w_.heap.size ∧ DiskAt S' w_ d' ∧ (i ≤ (d.fs.map FM.nm).length) ∧ (d'.gd = d.gd) ∧ (∀ k, S' k → S k ∨ w.heap.size ≤ k) ∧ (∀ k_, (Value.slice A_1 (d.fs.map FM.nm).length c_1).ownBlock = some k_ → ¬ S' k_) ∧ (cleanL (d.fs.map FM.nm) d.pd = cleanL ((d.fs.map FM.nm).drop i) d'.pd) ∧ (d.fs.map FM.nm).length - i = m_) ((d.fs.map FM.nm).length - 0) ?_ ?_
    · exact ⟨_, S, d, 0, Ac_frg ⟨rfl, rfl, rfl, (agr rfl (by first | rfl | (congr 1; omega) | (congr 1; simp; done) | (congr 1; simp only [IntKind.wrap_u64, IntKind.wrap_i64, IntKind.wrap_u8]; omega) | (congr 1 <;> omega))), trivial⟩, hB, ho1, hlo1, hDk, (by omega), rfl, (fun _ h_ => .inl h_), hno0_, rfl, rfl⟩
    · clear hB
      clear hDk ho1 hlo1
      rintro m_ a_ w3 ⟨σ_, S', d', i, rfl, hB, ho1, hlo1, hDw, hi_, hgd', hSE, hno, hcl, rfl⟩
      refine Q0c ?_
      refine Qcc ttGd1 6 [] rfl ?_
      refine C_if rfl (fun h1 => ?_) (fun h1 => ?_)
      · refine Qco ttGd1 6 [] rfl ?_
        have hlk : i < (d.fs.map FM.nm).length := by first | omega | (simp; omega)
        refine T_index (xs := (d.fs.map FM.nm)) (i := i) EncT rfl rfl (by first | rfl | omega) slc61 hlk (own_of ho1).2.2 rfl ?_
        intro g1 o1 ha1
        refine L_run (R_load1 rfl scl9 (ha1 0 _ rfl)) rfl ?_
        refine Qoo ttGd1 7 [] rfl ?_
        refine L_call rfl cb75 (name_Parse (cs := ((d.fs.map FM.nm)[i]).data.toList) (hnl _ (List.getElem_mem hlk))) rfl ?_
        rintro _ w4 ⟨hs3, rfl⟩
        replace hB := hB.gb hs3
        replace ho1 := own_gb ho1 hs3
        replace hlo1 := Nat.le_trans hlo1 hs3.size
        replace hDw := hDw.gb hs3
        replace ha1 := At.gb ha1 hs3 (by simp)
        refine Qoo ttGd1 12 [] rfl ?_
        refine Lsp 28 rfl (fun h2 => ?_) (fun h2 => ?_)
        · refine Qoe ttGd1 15 [] rfl ?_
          refine Nl ?_
          have hdr_ : (d.fs.map FM.nm).drop i = (d.fs.map FM.nm)[i] :: (d.fs.map FM.nm).drop (i + 1) := List.drop_eq_getElem_cons hlk
          rw [hdr_, cleanL] at hcl
          rw [if_neg (fun q_ => absurd q_.1 (by unfold isFree; omega))] at hcl
          exact ⟨(d.fs.map FM.nm).length - (i + 1), by omega, _, S', d', (i + 1), Ac_frg ⟨rfl, rfl, rfl, (agr rfl (by first | rfl | (congr 1; omega) | (congr 1; simp; done) | (congr 1; simp only [IntKind.wrap_u64, IntKind.wrap_i64, IntKind.wrap_u8]; omega) | (congr 1 <;> omega))), trivial⟩, hB, ho1, hlo1, hDw, (by omega), hgd', hSE, hno, hcl, rfl⟩
        · refine Qoo ttGd1 2 [] rfl ?_
          refine L_yes rfl rfl rfl rfl ?_
          refine L_call rfl cb71 (in_g (nm := (d.fs.map FM.nm)[i]) hDw hgd' (hnl _ (List.getElem_mem hlk))) rfl ?_
          rintro _ w5 ⟨hs4, rfl⟩
          replace hB := hB.gb hs4
          replace ho1 := own_gb ho1 hs4
          replace hlo1 := Nat.le_trans hlo1 hs4.size
          replace hDw := hDw.gb hs4
          replace ha1 := At.gb ha1 hs4 (by simp)
          refine Qoc ttGd1 3 [] rfl ?_
          refine C_if rfl (fun h3 => ?_) (fun h3 => ?_)
          · refine Qce ttGd1 8 [] rfl ?_
            refine Nl ?_
            have hdr_ : (d.fs.map FM.nm).drop i = (d.fs.map FM.nm)[i] :: (d.fs.map FM.nm).drop (i + 1) := List.drop_eq_getElem_cons hlk
            rw [hdr_, cleanL] at hcl
            rw [if_neg (fun q_ => q_.2 h3.2)] at hcl
            exact ⟨(d.fs.map FM.nm).length - (i + 1), by omega, _, S', d', (i + 1), Ac_frg ⟨rfl, rfl, rfl, (agr rfl (by first | rfl | (congr 1; omega) | (congr 1; simp; done) | (congr 1; simp only [IntKind.wrap_u64, IntKind.wrap_i64, IntKind.wrap_u8]; omega) | (congr 1 <;> omega))), trivial⟩, hB, ho1, hlo1, hDw, (by omega), hgd', hSE, hno, hcl, rfl⟩
          · refine Qco ttGd1 6 [] rfl ?_
            have hsz_ := hB.size
            have hwz_ : w5.heap.size ≤ w5.heap.size := Nat.le_refl _
            have hol0_ := ho1
            have hDp_ := hDw
            refine L_call rfl cb22 (remove_g (nm := (d.fs.map FM.nm)[i]) hDw hgd') rfl ?_
            rintro _ w6 ⟨dk1, ⟨S1, hA1, hgd1, hO1, hE1⟩, hpd1, rfl⟩
            replace hB := hB.trans hO1 hSE
            replace ho1 := own_out ho1 hno hO1
            replace hlo1 := Nat.le_trans hlo1 hO1.size
            refine Qoc ttGd1 9 [] rfl ?_
            refine C_if rfl (fun h4 => ?_) (fun h4 => ?_)
            · refine Qce ttGd1 9 [] rfl ?_
              refine Rl ?_
              refine Qee ttGd1 2 [] rfl ?_
              refine ret1 Try.results38 rfl ?_
              have he_ : d.pd.clean = cleanL (d.fs.map FM.nm) d.pd := by unfold PD.clean; rw [if_neg (pdn hq1)]; rw [show d.pd.fs.map PF.nm = (d.fs.map FM.nm) from nms_pf]
              have hdr_ : (d.fs.map FM.nm).drop i = (d.fs.map FM.nm)[i] :: (d.fs.map FM.nm).drop (i + 1) := List.drop_eq_getElem_cons hlk
              rw [hdr_, cleanL, if_pos ⟨by unfold isFree; omega, fun q_ => h3 ⟨by unfold isFree; omega, q_⟩⟩, if_pos h4] at hcl
              rw [he_, hcl]; exact ⟨_, ⟨_, hA1, hgd1.trans hgd', hB, fun k_ h_ => (hE1 k_ h_).elim (hSE k_) (fun q_ => .inr (Nat.le_trans hsz_ q_))⟩, hpd1, rfl⟩
            · refine Qce ttGd1 7 [] rfl ?_
              refine Nl ?_
              have hdr_ : (d.fs.map FM.nm).drop i = (d.fs.map FM.nm)[i] :: (d.fs.map FM.nm).drop (i + 1) := List.drop_eq_getElem_cons hlk
              rw [hdr_, cleanL] at hcl
              rw [if_pos ⟨by unfold isFree; omega, fun q_ => h3 ⟨by unfold isFree; omega, q_⟩⟩, if_neg h4, ← hpd1] at hcl
              exact ⟨(d.fs.map FM.nm).length - (i + 1), by omega, _, S1, dk1, (i + 1), Ac_frg ⟨rfl, rfl, rfl, (agr rfl (by first | rfl | (congr 1; omega) | (congr 1; simp; done) | (congr 1; simp only [IntKind.wrap_u64, IntKind.wrap_i64, IntKind.wrap_u8]; omega) | (congr 1 <;> omega))), trivial⟩, hB, ho1, hlo1, hA1, (by omega), (hgd1.trans hgd'), (fun k_ h_ => (hE1 k_ h_).elim (hSE k_) (fun q_ => .inr (Nat.le_trans hsz_ q_))), (fun k_ hk_ h_ => (hE1 k_ h_).elim (hno k_ hk_) (fun q_ => by have q2_ := (World.ownsRow.lt hol0_ k_ hk_).2; omega)), hcl, rfl⟩
      · refine Qce ttGd1 2 [] rfl ?_
        refine Xl ?_
        refine Qee ttGd1 8 [] rfl ?_
        refine ret1 Try.results38 rfl ?_
        have he_ : d.pd.clean = cleanL (d.fs.map FM.nm) d.pd := by unfold PD.clean; rw [if_neg (pdn hq1)]; rw [show d.pd.fs.map PF.nm = (d.fs.map FM.nm) from nms_pf]
        rw [List.drop_of_length_le (by omega)] at hcl; rw [he_, hcl]; exact ⟨d', ⟨S', hDw, hgd', hB, hSE⟩, rfl, rfl⟩
end Go.Proofs.Ytoipncaopdmicaa
