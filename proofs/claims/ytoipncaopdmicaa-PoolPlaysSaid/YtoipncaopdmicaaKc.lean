import Derived.Test.YtoipncaopdmicaaKb
/-
  What the law's proof stands on, part 3.
-/
namespace Go.Proofs.Ytoipncaopdmicaa
open Go.RowKit Gw Pl
set_option linter.unusedVariables false
set_option linter.unusedSimpArgs false
theorem cb60 : callB Try.prog 60 = true := by kernel_rfl
theorem cb61 : callB Try.prog 61 = true := by kernel_rfl
theorem cb65 : callB Try.prog 65 = true := by kernel_rfl
theorem cb66 : callB Try.prog 66 = true := by kernel_rfl
theorem sz82 : szB Try.prog 82 1 = true := by kernel_rfl
def tabDn : TT := { fld := [], scl := [3, 9, 27, 30, 82], agg := [], str := [], slc := [(27, 81, 64, 64)], ptr := [], cv := [] }
theorem ttDn : TOk Try.prog tabDn := TT.ok_of (by kernel_rfl)
theorem name_Right {w : World} {cs : List UInt8} (hl : cs.length ≤ 9000000000000000000) :
    Runs Try.prog 60 #[.string (⟨cs.toArray⟩)] w (fun v w' => w.grownBy w' none ∧ v = .bool (decide (okName cs))) := by
  have hB := gb_refl w none
  refine enterQ Try.func60 Try.ntmps60 rfl rfl ?_
  refine Qco ttDn 9 [] rfl ?_
  refine L_run (R_eqv (R_lenS rfl str9) (v' := .int .i64 (cs.length : Int)) (by rw [ba_size])) rfl ?_
  refine Qoc ttDn 4 [] rfl ?_
  refine C_loop (fun m_ a_ w_ => ∃ (σ_ : Nat → Value) (k : Nat), a_ = Ac 39 σ_ [] [(0, .string (⟨cs.toArray⟩)), (2, .bool false), (5, .string (⟨cs.toArray⟩)), (6, .int .i64 (cs.length : Int)), (7, .int .i64 (k : Int))] ∧ w.grownBy w_ none ∧ (k ≤ cs.length) ∧ (∀ c ∈ cs.take k, isn c) ∧ cs.length - k = m_) (cs.length - 0) ?_ ?_
  · exact ⟨_, 0, Ac_frg ⟨rfl, rfl, rfl, rfl, (agr rfl (by first | rfl | (congr 1; omega) | (congr 1; simp; done) | (congr 1; simp only [IntKind.wrap_u64, IntKind.wrap_i64, IntKind.wrap_u8]; omega) | (congr 1 <;> omega))), trivial⟩, hB, (by omega), (by intro c hc; simp at hc), rfl⟩
  · clear hB
    rintro m_ a_ w1 ⟨σ_, k, rfl, hB, hk, hall, rfl⟩
    refine Q0c ?_
    refine Qcc ttDn 6 [] rfl ?_
    refine C_if rfl (fun h1 => ?_) (fun h1 => ?_)
    · refine Qco ttDn 14 [] rfl ?_
      have hk1 : k < cs.length := by first | omega | (simp; omega)
      refine L_run (R_indexS (cs := cs) (a := (k : Int)) (i := k) rfl rfl (by first | rfl | omega) str9 hk1) rfl ?_
      refine Qoc ttDn 19 [] rfl ?_
      refine C_if rfl (fun h2 => ?_) (fun h2 => ?_)
      · refine Qce ttDn 17 [] rfl ?_
        refine Nl ?_
        exact ⟨cs.length - (k + 1), by omega, _, (k + 1), Ac_frg ⟨rfl, rfl, rfl, rfl, (agr rfl (by first | rfl | (congr 1; omega) | (congr 1; simp; done) | (congr 1; simp only [IntKind.wrap_u64, IntKind.wrap_i64, IntKind.wrap_u8]; omega) | (congr 1 <;> omega))), trivial⟩, hB, (by omega), (isn_take hall hk1 (by unfold isn; omega)), rfl⟩
      · refine Qco ttDn 8 [] rfl ?_
        refine Qg ttDn 2 [] rfl (fun σ => ?_)
        refine Ldec 22 ((48 ≤ (cs[k].toNat : Int)) ∧ ((cs[k].toNat : Int) ≤ 57)) rfl ?_
        refine Qoc ttDn 3 [] rfl ?_
        refine C_if rfl (fun h3 => ?_) (fun h3 => ?_)
        · refine Qce ttDn 17 [] rfl ?_
          refine Nl ?_
          exact ⟨cs.length - (k + 1), by omega, _, (k + 1), Ac_frg ⟨rfl, rfl, rfl, rfl, (agr rfl (by first | rfl | (congr 1; omega) | (congr 1; simp; done) | (congr 1; simp only [IntKind.wrap_u64, IntKind.wrap_i64, IntKind.wrap_u8]; omega) | (congr 1 <;> omega))), trivial⟩, hB, (by omega), (isn_take hall hk1 (by unfold isn; omega)), rfl⟩
        · refine Qco ttDn 7 [] rfl ?_
          refine Qg ttDn 2 [] rfl (fun σ => ?_)
          refine Ldec 29 ((97 ≤ (cs[k].toNat : Int)) ∧ ((cs[k].toNat : Int) ≤ 122)) rfl ?_
          refine Qoc ttDn 3 [] rfl ?_
          refine C_if rfl (fun h4 => ?_) (fun h4 => ?_)
          · refine Qce ttDn 16 [] rfl ?_
            refine Nl ?_
            exact ⟨cs.length - (k + 1), by omega, _, (k + 1), Ac_frg ⟨rfl, rfl, rfl, rfl, (agr rfl (by first | rfl | (congr 1; omega) | (congr 1; simp; done) | (congr 1; simp only [IntKind.wrap_u64, IntKind.wrap_i64, IntKind.wrap_u8]; omega) | (congr 1 <;> omega))), trivial⟩, hB, (by omega), (isn_take hall hk1 (by unfold isn; omega)), rfl⟩
          · refine Qce ttDn 20 [] rfl ?_
            refine Rl ?_
            refine Qee ttDn 2 [] rfl ?_
            refine ret1 Try.results60 rfl ?_
            exact ⟨hB, bF (fun h => absurd (h.1 _ (List.getElem_mem hk1)) (by unfold isn; omega))⟩
    · refine Qce ttDn 2 [] rfl ?_
      refine Xl ?_
      refine Qeo ttDn 5 [] rfl ?_
      refine L_run (R_eqv (R_lenS rfl str9) (v' := .int .i64 (cs.length : Int)) (by rw [ba_size])) rfl ?_
      refine Qoo ttDn 2 [] rfl ?_
      refine Lsp 34 rfl (fun h5 => ?_) (fun h5 => ?_)
      · refine Qoo ttDn 1 [] rfl ?_
        refine L_yes rfl rfl rfl rfl ?_
        refine L_run (R_eqv (R_lenS rfl str9) (v' := .int .i64 (cs.length : Int)) (by rw [ba_size])) rfl ?_
        refine Qoe ttDn 6 [] rfl ?_
        refine ret1 Try.results60 rfl ?_
        rw [List.take_of_length_le (by omega)] at hall
        exact ⟨hB, bD ⟨fun h => ⟨hall, by omega, by omega⟩, fun h => by have := h.2; omega⟩⟩
      · refine Qoe ttDn 8 [] rfl ?_
        refine ret1 Try.results60 rfl ?_
        rw [List.take_of_length_le (by omega)] at hall
        exact ⟨hB, bF (fun h => by have := h.2; omega)⟩
theorem DiskAt.re {S : Nat → Prop} {w w' : World} {d : DK} (hD : DiskAt S w d) (hsz : w.heap.size ≤ w'.heap.size) (hb : Blk w' d.gd 85 d.cs) (hm : MapF w' d.gm .string strK ptrV d.m) (hF : FsP S w' d.fs) : DiskAt S w' d := { hD with hb := hb, hm := hm, hF := hF, hSl := fun k hk => Nat.lt_of_lt_of_le (hD.hSl k hk) hsz }
theorem DiskAt.ns {S : Nat → Prop} {w w' : World} {d : DK} {g : Nat} (hD : DiskAt S w d) (hn : ¬ S g) (hg : w.grownBy w' (some g)) : DiskAt S w' d := hD.re hg.size (hD.hb.grown hg (fun e => hn (Option.some.inj e ▸ hD.hsd))) (hD.hm.grown hg (fun e => hn (Option.some.inj e ▸ hD.hsm))) (hD.hF.ns hn hg)
theorem fin_opd {d : DK} (h : d.tl = true ∧ d.af = 0) (fs : List PF) : d.opd.pd = (d.pd.then fs).1 ∧ Value.int .i64 9 = .int .i64 (d.pd.then fs).2 := by
  obtain ⟨h1, h2⟩ := opd_pd h
  unfold PD.then
  rw [h2, h1]
  exact ⟨rfl, rfl⟩
theorem fin_opk {S : Nat → Prop} {w : World} {d d' : DK} {fs : List PF} (hD : DiskAt S w d) (h : ¬ (d.tl = true ∧ d.af = 0)) (e : d'.fs.map FM.pf = fs) (e2 : d'.cap = d.cap ∧ d'.ops = d.opk.ops ∧ d'.af = d.opk.af ∧ d'.dn = d.dn ∧ d'.tl = d.tl) : d'.pd = (d.pd.then fs).1 ∧ Value.int .i64 0 = .int .i64 (d.pd.then fs).2 := by
  obtain ⟨h1, h2⟩ := opk_pd hD.haf' h hD.haf
  unfold PD.then
  rw [h2, if_pos rfl]
  refine ⟨?_, rfl⟩
  rw [← h1, ← e]
  obtain ⟨a1, a2, a3, a4, a5⟩ := e2
  unfold DK.pd
  rw [a1, a2, a3, a4, a5]
  rfl
section
variable {S : Nat → Prop} {w : World} {d : DK} (hD : DiskAt S w d) {nm : ByteArray}
include hD
theorem find_ok : Runs Try.prog 57 #[.pointer (some ⟨d.gd, 0, none⟩), .string nm] w (fun v w' => w.grownBy w' none ∧ (d.dn = true ∧ v = .tuple #[.pointer none, .int .i64 9] ∨ (d.dn = false ∧ ¬ HasN d.fs nm) ∧ v = .tuple #[.pointer none, .int .i64 7] ∨ (d.dn = false ∧ HasN d.fs nm) ∧ v = .tuple #[.pointer (some ⟨(getF d.fs nm).g, 0, none⟩), .int .i64 0])) := by
  have hb := hD.hb
  unfold DK.cs at hb
  cases hdn : d.dn with
  | true => rw [hdn] at hb; exact (find_d hb hD.hm hD.hF hD.hN).mono fun v w' h => ⟨h.1, .inl ⟨rfl, h.2⟩⟩
  | false =>
    rw [hdn] at hb
    by_cases hq : HasN d.fs nm
    · exact (find_y hb hD.hm hD.hF hD.hN hq).mono fun v w' h => ⟨h.1, .inr (.inr ⟨⟨rfl, hq⟩, h.2⟩)⟩
    · exact (find_n hb hD.hm hD.hF hD.hN hq).mono fun v w' h => ⟨h.1, .inr (.inl ⟨⟨rfl, hq⟩, h.2⟩)⟩
theorem may_ok : Runs Try.prog 59 #[.pointer (some ⟨d.gd, 0, none⟩)] w (fun v w' => w.grownBy w' none ∧ (d.dn = true ∧ v = .int .i64 9 ∨ d.dn = false ∧ v = .int .i64 0)) := by
  have hb := hD.hb
  unfold DK.cs at hb
  cases hdn : d.dn with
  | true => rw [hdn] at hb; exact (may_y hb hD.hm hD.hF hD.hN).mono fun v w' h => ⟨h.1, .inl ⟨rfl, h.2⟩⟩
  | false => rw [hdn] at hb; exact (may_n hb hD.hm hD.hF hD.hN).mono fun v w' h => ⟨h.1, .inr ⟨rfl, h.2⟩⟩
end
section
variable {d : DK} {nm to : ByteArray} {a n : Int} {xs : List Sx}
theorem pdn (h : d.dn = false) : ¬ d.pd.dn = true := by show ¬ d.dn = true; rw [h]; decide
theorem phy (h : HasN d.fs nm) : ¬ ¬ HasP d.pd.fs nm := not_not_intro (has_pf.2 h)
theorem phn (h : ¬ HasN d.fs nm) : ¬ HasP d.pd.fs nm := fun q => h (has_pf.1 q)
theorem phg : getP d.pd.fs nm = (getF d.fs nm).pf := get_pf
theorem remove_d (h : d.dn = true) : d.pd.remove nm = (d.pd, 9) := if_pos h
theorem remove_n (h : d.dn = false ∧ ¬ HasN d.fs nm) : d.pd.remove nm = (d.pd, 7) := by unfold PD.remove; rw [if_neg (pdn h.1), if_pos (phn h.2)]
theorem remove_t (h : d.dn = false ∧ HasN d.fs nm) : d.pd.remove nm = d.pd.then ((remK FM.nm nm d.fs).map FM.pf) := by
  unfold PD.remove
  rw [if_neg (pdn h.1), if_neg (phy h.2), rem_pf]
  rfl
theorem rename_d (h : d.dn = true) : d.pd.rename nm to = (d.pd, 9) := if_pos h
theorem rename_n (h : d.dn = false ∧ ¬ HasN d.fs nm) : d.pd.rename nm to = (d.pd, 7) := by unfold PD.rename; rw [if_neg (pdn h.1), if_pos (phn h.2)]
theorem rename_w (h : d.dn = false ∧ HasN d.fs nm) (h2 : ¬ okName to.data.toList) : d.pd.rename nm to = (d.pd, 10) := by unfold PD.rename; rw [if_neg (pdn h.1), if_neg (phy h.2), if_pos h2]
theorem rename_s (h : d.dn = false ∧ HasN d.fs nm) (h2 : okName to.data.toList) (h3 : nm = to) : d.pd.rename nm to = (d.pd, 0) := by unfold PD.rename; rw [if_neg (pdn h.1), if_neg (phy h.2), if_neg (not_not_intro h2), if_pos h3]
theorem rename_t (h : d.dn = false ∧ HasN d.fs nm) (h2 : okName to.data.toList) (h3 : ¬ nm = to) : d.pd.rename nm to = d.pd.then ((insK FM.nm { getF d.fs nm with nm := to } (remK FM.nm to (remK FM.nm (getF d.fs nm).nm d.fs))).map FM.pf) := by
  unfold PD.rename
  rw [if_neg (pdn h.1), if_neg (phy h.2), if_neg (not_not_intro h2), if_neg h3, ins_pf, rem_pf, rem_pf, (getF_mem h.2).2, phg]
  rfl
theorem make_d (h : d.dn = true) : d.pd.make nm n = (d.pd, 9) := if_pos h
theorem make_w (h : d.dn = false) (h2 : ¬ okName nm.data.toList) : d.pd.make nm n = (d.pd, 10) := by unfold PD.make; rw [if_neg (pdn h), if_pos h2]
theorem make_h (h : d.dn = false) (h2 : okName nm.data.toList) (h3 : HasN d.fs nm) : d.pd.make nm n = (d.pd, 8) := by unfold PD.make; rw [if_neg (pdn h), if_neg (not_not_intro h2), if_pos (Decidable.not_not.1 (phy h3))]
theorem make_r (h : d.dn = false) (h2 : okName nm.data.toList) (h3 : ¬ HasN d.fs nm) (h4 : n < 1 ∨ 64 < n) : d.pd.make nm n = (d.pd, 4) := by unfold PD.make; rw [if_neg (pdn h), if_neg (not_not_intro h2), if_neg (phn h3), if_pos h4]
theorem pd_room : (d.pd.cap - (usedP d.pd.fs : Int) < n ∨ 64 ≤ (d.pd.fs.length : Int)) ↔ (d.cap - (usedN d.fs : Int) < n ∨ 64 ≤ (d.fs.length : Int)) := by
  show (d.cap - (usedP (d.fs.map FM.pf) : Int) < n ∨ 64 ≤ ((d.fs.map FM.pf).length : Int)) ↔ _
  rw [used_pf, List.length_map]
theorem make_f (h : d.dn = false) (h2 : okName nm.data.toList) (h3 : ¬ HasN d.fs nm) (h4 : ¬ (n < 1 ∨ 64 < n)) (h5 : d.cap - (usedN d.fs : Int) < n ∨ 64 ≤ (d.fs.length : Int)) : d.pd.make nm n = (d.pd, 6) := by unfold PD.make; rw [if_neg (pdn h), if_neg (not_not_intro h2), if_neg (phn h3), if_neg h4, if_pos (pd_room.2 h5)]
theorem make_t (h : d.dn = false) (h2 : okName nm.data.toList) (h3 : ¬ HasN d.fs nm) (h4 : ¬ (n < 1 ∨ 64 < n)) (h5 : ¬ (d.cap - (usedN d.fs : Int) < n ∨ 64 ≤ (d.fs.length : Int))) : d.pd.make nm n = d.pd.then (insK PF.nm ⟨nm, secs0 n, secs0 n, List.replicate n.toNat false⟩ (d.fs.map FM.pf)) := by unfold PD.make; rw [if_neg (pdn h), if_neg (not_not_intro h2), if_neg (phn h3), if_neg h4, if_neg (fun q => h5 (pd_room.1 q))]; rfl
theorem fin_e {S : Nat → Prop} {w w' : World} {d : DK} {r : PD × Int} {k : Int} (hD : DiskAt S w' d) (hB : Out S w w') (h : r = (d.pd, k)) : ∃ d', Did S w w' d d' ∧ d'.pd = r.1 ∧ Value.int .i64 k = .int .i64 r.2 := ⟨d, .of hD rfl hB, by rw [h], by rw [h]⟩
theorem fin_d {S : Nat → Prop} {w w' : World} {d : DK} {r : PD × Int} {fs : List PF} (h1 : d.tl = true ∧ d.af = 0) (hD : DiskAt S w' d.opd) (hB : Out S w w') (h : r = d.pd.then fs) : ∃ d', Did S w w' d d' ∧ d'.pd = r.1 ∧ Value.int .i64 9 = .int .i64 r.2 := ⟨d.opd, .of hD rfl hB, by rw [h]; exact (fin_opd h1 fs).1, by rw [h]; exact (fin_opd h1 fs).2⟩
theorem fin_t {S : Nat → Prop} {w w' : World} {d d' : DK} {r : PD × Int} (hD0 : DiskAt S w d) (h1 : ¬ (d.tl = true ∧ d.af = 0)) (hD : DiskAt S w' d') (e0 : d'.gd = d.gd) (e2 : d'.cap = d.cap ∧ d'.ops = d.opk.ops ∧ d'.af = d.opk.af ∧ d'.dn = d.dn ∧ d'.tl = d.tl) (hB : Out S w w') (h : r = d.pd.then (d'.fs.map FM.pf)) : ∃ d', Did S w w' d d' ∧ d'.pd = r.1 ∧ Value.int .i64 0 = .int .i64 r.2 := ⟨d', .of hD e0 hB, by rw [h]; exact (fin_opk hD0 h1 rfl e2).1, by rw [h]; exact (fin_opk hD0 h1 rfl e2).2⟩
theorem fin_m {S S2 : Nat → Prop} {w w' : World} {d d' : DK} {r : PD × Int} (hD0 : DiskAt S w d) (h1 : ¬ (d.tl = true ∧ d.af = 0)) (hD : DiskAt S2 w' d') (e0 : d'.gd = d.gd) (e2 : d'.cap = d.cap ∧ d'.ops = d.opk.ops ∧ d'.af = d.opk.af ∧ d'.dn = d.dn ∧ d'.tl = d.tl) (hB : Out S w w') (hE : ∀ k, S2 k → S k ∨ w.heap.size ≤ k) (h : r = d.pd.then (d'.fs.map FM.pf)) : ∃ d', Did S w w' d d' ∧ d'.pd = r.1 ∧ Value.int .i64 0 = .int .i64 r.2 := ⟨d', ⟨S2, hD, e0, hB, hE⟩, by rw [h]; exact (fin_opk hD0 h1 rfl e2).1, by rw [h]; exact (fin_opk hD0 h1 rfl e2).2⟩
end
theorem remove_ok {S : Nat → Prop} {w : World} {d : DK} (hD : DiskAt S w d) {nm : ByteArray} :
    Runs Try.prog 22 #[.pointer (some ⟨d.gd, 0, none⟩), .string nm] w (fun v w' => ∃ d', Did S w w' d d' ∧ d'.pd = (d.pd.remove nm).1 ∧ v = .int .i64 (d.pd.remove nm).2) := by
  have hB := Out.refl S w
  have hDk := hD
  have hSl := hD.hSl
  refine enterQ Try.func22 Try.ntmps22 rfl rfl ?_
  refine Qco ttDn 2 [] rfl ?_
  refine L_box (cs := [.pointer (some ⟨d.gd, 0, none⟩)]) rfl rfl rfl ?_
  intro g1 w1 eg1 hb1 hs1 hz1
  have ge1 : w.heap.size ≤ g1 := Nat.le_trans hB.size (Nat.le_of_eq (Eq.symm eg1))
  replace hB := hB.gb hs1
  replace hDk := hDk.gb hs1
  refine L_box (cs := [.string nm]) rfl rfl rfl ?_
  intro g2 w2 eg2 hb2 hs2 hz2
  have ge2 : w.heap.size ≤ g2 := Nat.le_trans hB.size (Nat.le_of_eq (Eq.symm eg2))
  have lt1 : g1 < g2 := lt_of_eg hb1.lt eg2
  replace hB := hB.gb hs2
  replace hDk := hDk.gb hs2
  replace hb1 := hb1.gb hs2
  refine Qoo ttDn 8 [kb hb1, kb hb2] rfl ?_
  refine L_call rfl cb57 (find_ok (nm := nm) hDk) rfl ?_
  rintro _ w3 ⟨hs3, ⟨hq1, rfl⟩ | ⟨hq1, rfl⟩ | ⟨hq1, rfl⟩⟩
  · replace hB := hB.gb hs3
    replace hDk := hDk.gb hs3
    replace hb1 := hb1.gb hs3
    replace hb2 := hb2.gb hs3
    refine Qoe ttDn 22 [] rfl ?_
    refine ret1 Try.results22 rfl ?_
    exact fin_e hDk hB (remove_d hq1)
  · replace hB := hB.gb hs3
    replace hDk := hDk.gb hs3
    replace hb1 := hb1.gb hs3
    replace hb2 := hb2.gb hs3
    refine Qoe ttDn 22 [] rfl ?_
    refine ret1 Try.results22 rfl ?_
    exact fin_e hDk hB (remove_n hq1)
  · replace hB := hB.gb hs3
    replace hDk := hDk.gb hs3
    replace hb1 := hb1.gb hs3
    replace hb2 := hb2.gb hs3
    refine Qoo ttDn 20 [kb hb1] rfl ?_
    refine L_call rfl cb61 (then_ok hDk cb66 (R := fun _ w2_ => DiskAt S w2_ { d.opk with m := adel d.m nm, fs := remK FM.nm nm d.fs }) (fun h_ w_ hg_ hD_ => remove1 hD_ (hb1.grown hg_ (ne_ty hb1 hDk.hb rfl)) (hb2.grown hg_ (ne_ty hb2 hDk.hb rfl)))) rfl ?_
    rintro _ w4 ⟨ho1, ⟨hq2, rfl, hD1⟩ | ⟨hq2, rfl, wt1, hg1, hD1, hR1⟩⟩
    · replace hB := hB.trans' ho1
      refine Qoe ttDn 4 [] rfl ?_
      refine ret1 Try.results22 rfl ?_
      exact fin_d hq2 hD1 hB (remove_t hq1)
    · replace hB := hB.trans' ho1
      refine Qoe ttDn 4 [] rfl ?_
      refine ret1 Try.results22 rfl ?_
      exact fin_t hD hq2 hR1 rfl ⟨rfl, rfl, rfl, rfl, rfl⟩ hB (remove_t hq1)
theorem rename_ok {S : Nat → Prop} {w : World} {d : DK} (hD : DiskAt S w d) {nm to : ByteArray} (hl : to.size ≤ 9000000000000000000) :
    Runs Try.prog 21 #[.pointer (some ⟨d.gd, 0, none⟩), .string nm, .string to] w (fun v w' => ∃ d', Did S w w' d d' ∧ d'.pd = (d.pd.rename nm to).1 ∧ v = .int .i64 (d.pd.rename nm to).2) := by
  have hB := Out.refl S w
  have hDk := hD
  have hSl := hD.hSl
  refine enterQ Try.func21 Try.ntmps21 rfl rfl ?_
  refine Qco ttDn 2 [] rfl ?_
  refine L_box (cs := [.pointer (some ⟨d.gd, 0, none⟩)]) rfl rfl rfl ?_
  intro g1 w1 eg1 hb1 hs1 hz1
  have ge1 : w.heap.size ≤ g1 := Nat.le_trans hB.size (Nat.le_of_eq (Eq.symm eg1))
  replace hB := hB.gb hs1
  replace hDk := hDk.gb hs1
  refine L_box (cs := [.string nm]) rfl rfl rfl ?_
  intro g2 w2 eg2 hb2 hs2 hz2
  have ge2 : w.heap.size ≤ g2 := Nat.le_trans hB.size (Nat.le_of_eq (Eq.symm eg2))
  have lt1 : g1 < g2 := lt_of_eg hb1.lt eg2
  replace hB := hB.gb hs2
  replace hDk := hDk.gb hs2
  replace hb1 := hb1.gb hs2
  refine L_box (cs := [.string to]) rfl rfl rfl ?_
  intro g3 w3 eg3 hb3 hs3 hz3
  have ge3 : w.heap.size ≤ g3 := Nat.le_trans hB.size (Nat.le_of_eq (Eq.symm eg3))
  have lt2 : g1 < g3 := lt_of_eg hb1.lt eg3
  have lt3 : g2 < g3 := lt_of_eg hb2.lt eg3
  replace hB := hB.gb hs3
  replace hDk := hDk.gb hs3
  replace hb1 := hb1.gb hs3
  replace hb2 := hb2.gb hs3
  refine Qoo ttDn 7 [kb hb1, kb hb2] rfl ?_
  refine L_call rfl cb57 (find_ok (nm := nm) hDk) rfl ?_
  rintro _ w4 ⟨hs4, ⟨hq1, rfl⟩ | ⟨hq1, rfl⟩ | ⟨hq1, rfl⟩⟩
  · replace hB := hB.gb hs4
    replace hDk := hDk.gb hs4
    replace hb1 := hb1.gb hs4
    replace hb2 := hb2.gb hs4
    replace hb3 := hb3.gb hs4
    refine Qoo ttDn 3 [] rfl ?_
    refine L_alloc (cs := [.pointer none]) zer82 rfl rfl ?_
    intro g4 w5 eg4 hb4 hs5 hz4
    have ge4 : w.heap.size ≤ g4 := Nat.le_trans hB.size (Nat.le_of_eq (Eq.symm eg4))
    have lt4 : g1 < g4 := lt_of_eg hb1.lt eg4
    have lt5 : g2 < g4 := lt_of_eg hb2.lt eg4
    have lt6 : g3 < g4 := lt_of_eg hb3.lt eg4
    replace hB := hB.gb hs5
    replace hDk := hDk.gb hs5
    replace hb1 := hb1.gb hs5
    replace hb2 := hb2.gb hs5
    replace hb3 := hb3.gb hs5
    refine L_st1 rfl rfl rfl sz82 hb4 rfl ?_
    intro w6 hb5 hs6 hz5
    replace hB := hB.new hs6 ge4
    replace hDk := hDk.ns (fun h_ => absurd (hSl _ h_) (by have q_ := ge4; omega)) hs6
    replace hb1 := hb1.grown hs6 (ne_lt lt4)
    replace hb2 := hb2.grown hs6 (ne_lt lt5)
    replace hb3 := hb3.grown hs6 (ne_lt lt6)
    refine Qoe ttDn 22 [] rfl ?_
    refine ret1 Try.results21 rfl ?_
    exact fin_e hDk hB (rename_d hq1)
  · replace hB := hB.gb hs4
    replace hDk := hDk.gb hs4
    replace hb1 := hb1.gb hs4
    replace hb2 := hb2.gb hs4
    replace hb3 := hb3.gb hs4
    refine Qoo ttDn 3 [] rfl ?_
    refine L_alloc (cs := [.pointer none]) zer82 rfl rfl ?_
    intro g5 w7 eg5 hb6 hs7 hz6
    have ge5 : w.heap.size ≤ g5 := Nat.le_trans hB.size (Nat.le_of_eq (Eq.symm eg5))
    have lt7 : g1 < g5 := lt_of_eg hb1.lt eg5
    have lt8 : g2 < g5 := lt_of_eg hb2.lt eg5
    have lt9 : g3 < g5 := lt_of_eg hb3.lt eg5
    replace hB := hB.gb hs7
    replace hDk := hDk.gb hs7
    replace hb1 := hb1.gb hs7
    replace hb2 := hb2.gb hs7
    replace hb3 := hb3.gb hs7
    refine L_st1 rfl rfl rfl sz82 hb6 rfl ?_
    intro w8 hb7 hs8 hz7
    replace hB := hB.new hs8 ge5
    replace hDk := hDk.ns (fun h_ => absurd (hSl _ h_) (by have q_ := ge5; omega)) hs8
    replace hb1 := hb1.grown hs8 (ne_lt lt7)
    replace hb2 := hb2.grown hs8 (ne_lt lt8)
    replace hb3 := hb3.grown hs8 (ne_lt lt9)
    refine Qoe ttDn 22 [] rfl ?_
    refine ret1 Try.results21 rfl ?_
    exact fin_e hDk hB (rename_n hq1)
  · replace hB := hB.gb hs4
    replace hDk := hDk.gb hs4
    replace hb1 := hb1.gb hs4
    replace hb2 := hb2.gb hs4
    replace hb3 := hb3.gb hs4
    refine Qoo ttDn 3 [] rfl ?_
    refine L_alloc (cs := [.pointer none]) zer82 rfl rfl ?_
    intro g6 w9 eg6 hb8 hs9 hz8
    have ge6 : w.heap.size ≤ g6 := Nat.le_trans hB.size (Nat.le_of_eq (Eq.symm eg6))
    have lt10 : g1 < g6 := lt_of_eg hb1.lt eg6
    have lt11 : g2 < g6 := lt_of_eg hb2.lt eg6
    have lt12 : g3 < g6 := lt_of_eg hb3.lt eg6
    replace hB := hB.gb hs9
    replace hDk := hDk.gb hs9
    replace hb1 := hb1.gb hs9
    replace hb2 := hb2.gb hs9
    replace hb3 := hb3.gb hs9
    refine L_st1 rfl rfl rfl sz82 hb8 rfl ?_
    intro w10 hb9 hs10 hz9
    replace hB := hB.new hs10 ge6
    replace hDk := hDk.ns (fun h_ => absurd (hSl _ h_) (by have q_ := ge6; omega)) hs10
    replace hb1 := hb1.grown hs10 (ne_lt lt10)
    replace hb2 := hb2.grown hs10 (ne_lt lt11)
    replace hb3 := hb3.grown hs10 (ne_lt lt12)
    refine Qoo ttDn 16 [kb hb3] rfl ?_
    refine L_call rfl cb60 (name_Right (cs := to.data.toList) hl) rfl ?_
    rintro _ w11 ⟨hs11, rfl⟩
    replace hB := hB.gb hs11
    replace hDk := hDk.gb hs11
    replace hb1 := hb1.gb hs11
    replace hb2 := hb2.gb hs11
    replace hb3 := hb3.gb hs11
    replace hb9 := hb9.gb hs11
    refine L_run (R_notD rfl) rfl ?_
    refine Qoc ttDn 3 [] rfl ?_
    refine C_ifN rfl (fun h1 => ?_) (fun h1 => ?_)
    · refine Qce ttDn 8 [] rfl ?_
      refine ret1 Try.results21 rfl ?_
      exact fin_e hDk hB (rename_w hq1 h1)
    · refine Qcc ttDn 8 [kb hb2, kb hb3] rfl ?_
      refine C_if rfl (fun h2 => ?_) (fun h2 => ?_)
      · refine Qce ttDn 8 [] rfl ?_
        refine ret1 Try.results21 rfl ?_
        exact fin_e hDk hB (rename_s hq1 h1 h2)
      · refine Qco ttDn 7 [kb hb1] rfl ?_
        refine L_call rfl cb61 (then_ok hDk cb65 (R := fun _ w2_ => DiskAt S w2_ { d.opk with m := aput (adel d.m (getF d.fs nm).nm) to (getF d.fs nm).g, fs := insK FM.nm { (getF d.fs nm) with nm := to } (remK FM.nm to (remK FM.nm (getF d.fs nm).nm d.fs)) }) (fun h_ w_ hg_ hD_ => rename1 hD_ (F := (getF d.fs nm)) (getF_mem hq1.2).1 (hb1.grown hg_ (ne_ty hb1 hDk.hb rfl)) (by rw [(getF_mem hq1.2).2]; exact (hb2.grown hg_ (ne_ty hb2 hDk.hb rfl))) (hb9.grown hg_ (ne_ty hb9 hDk.hb rfl)) (hb3.grown hg_ (ne_ty hb3 hDk.hb rfl)))) rfl ?_
        rintro _ w12 ⟨ho1, ⟨hq2, rfl, hD1⟩ | ⟨hq2, rfl, wt1, hg1, hD1, hR1⟩⟩
        · replace hB := hB.trans' ho1
          refine Qoe ttDn 4 [] rfl ?_
          refine ret1 Try.results21 rfl ?_
          exact fin_d hq2 hD1 hB (rename_t hq1 h1 h2)
        · replace hB := hB.trans' ho1
          refine Qoe ttDn 4 [] rfl ?_
          refine ret1 Try.results21 rfl ?_
          exact fin_t hD hq2 hR1 rfl ⟨rfl, rfl, rfl, rfl, rfl⟩ hB (rename_t hq1 h1 h2)
end Go.Proofs.Ytoipncaopdmicaa
namespace Go.Proofs.Ytoipncaopdmicaa
open Go.RowKit Gw Pl
set_option linter.unusedVariables false
set_option linter.unusedSimpArgs false
theorem cb27 : callB Try.prog 27 = true := by kernel_rfl
theorem cb62 : callB Try.prog 62 = true := by kernel_rfl
def tabDo : TT := { fld := [(85, 0, 0), (85, 1, 1), (85, 4, 4), (85, 5, 5)], scl := [3, 9, 30, 83], agg := [], str := [], slc := [], ptr := [82], cv := [] }
theorem ttDo : TOk Try.prog tabDo := TT.ok_of (by kernel_rfl)
theorem make_y0 {S : Nat → Prop} {w : World} {d : DK} (hD : DiskAt S w d) {nm : ByteArray} {n : Int} (hl : nm.size ≤ 9000000000000000000) (hq0 : HasN d.fs nm) :
    Runs Try.prog 18 #[.pointer (some ⟨d.gd, 0, none⟩), .string nm, .int .i64 n] w (fun v w' => ∃ d', Did S w w' d d' ∧ d'.pd = (d.pd.make nm n).1 ∧ v = .int .i64 (d.pd.make nm n).2) := by
  have hB := Out.refl S w
  have hb : Blk w d.gd 85 [.map (some d.gm), .int .i64 d.cap, .int .i64 d.ops, .bool d.dn, .bool d.tl, .int .i64 d.af] := hD.hb
  have hm := hD.hm
  have hF := hD.hF
  have hN := hD.hN
  have hR := hD.hR
  have hfl : d.fs.length ≤ 1000000 := Nat.le_trans hD.hfl (by decide)
  have hU : usedN d.fs ≤ 1000000000 := Nat.le_trans hD.hU (by decide)
  have hU2_ := hD.hU
  have hSl := hD.hSl
  have hsd_ := hSl _ hD.hsd
  have hsm_ := hSl _ hD.hsm
  refine enterQ Try.func18 Try.ntmps18 rfl rfl ?_
  refine Qco ttDo 2 [] rfl ?_
  refine L_box (cs := [.pointer (some ⟨d.gd, 0, none⟩)]) rfl rfl rfl ?_
  intro g1 w1 eg1 hb1 hs1 hz1
  have ge1 : w.heap.size ≤ g1 := Nat.le_trans hB.size (Nat.le_of_eq (Eq.symm eg1))
  have lt1 : d.gd < g1 := lt_of_eg hb.lt eg1
  replace hB := hB.gb hs1
  replace hb := hb.gb hs1
  replace hm := hm.gb hs1
  replace hF := hF.gb hs1
  refine L_box (cs := [.string nm]) rfl rfl rfl ?_
  intro g2 w2 eg2 hb2 hs2 hz2
  have ge2 : w.heap.size ≤ g2 := Nat.le_trans hB.size (Nat.le_of_eq (Eq.symm eg2))
  have lt2 : d.gd < g2 := lt_of_eg hb.lt eg2
  have lt3 : g1 < g2 := lt_of_eg hb1.lt eg2
  replace hB := hB.gb hs2
  replace hb := hb.gb hs2
  replace hm := hm.gb hs2
  replace hF := hF.gb hs2
  replace hb1 := hb1.gb hs2
  refine L_box (cs := [.int .i64 n]) rfl rfl rfl ?_
  intro g3 w3 eg3 hb3 hs3 hz3
  have ge3 : w.heap.size ≤ g3 := Nat.le_trans hB.size (Nat.le_of_eq (Eq.symm eg3))
  have lt4 : d.gd < g3 := lt_of_eg hb.lt eg3
  have lt5 : g1 < g3 := lt_of_eg hb1.lt eg3
  have lt6 : g2 < g3 := lt_of_eg hb2.lt eg3
  replace hB := hB.gb hs3
  replace hb := hb.gb hs3
  replace hm := hm.gb hs3
  replace hF := hF.gb hs3
  replace hb1 := hb1.gb hs3
  replace hb2 := hb2.gb hs3
  refine Qoo ttDo 7 [kb hb1] rfl ?_
  have hDx1 : DiskAt S w3 d := hD.re hB.size hb hm hF
  refine L_call rfl cb59 (may_ok hDx1) rfl ?_
  rintro _ w4 ⟨hs4, ⟨hq1, rfl⟩ | ⟨hq1, rfl⟩⟩
  · replace hB := hB.gb hs4
    replace hb := hb.gb hs4
    replace hm := hm.gb hs4
    replace hF := hF.gb hs4
    replace hb1 := hb1.gb hs4
    replace hb2 := hb2.gb hs4
    replace hb3 := hb3.gb hs4
    refine Qoe ttDo 18 [] rfl ?_
    refine ret1 Try.results18 rfl ?_
    have hDx2 : DiskAt S w4 d := hD.re hB.size hb hm hF
    exact fin_e hDx2 hB (make_d hq1)
  · replace hB := hB.gb hs4
    replace hb := hb.gb hs4
    replace hm := hm.gb hs4
    replace hF := hF.gb hs4
    replace hb1 := hb1.gb hs4
    replace hb2 := hb2.gb hs4
    replace hb3 := hb3.gb hs4
    refine Qoo ttDo 17 [kb hb2] rfl ?_
    refine L_call rfl cb60 (name_Right (cs := nm.data.toList) hl) rfl ?_
    rintro _ w5 ⟨hs5, rfl⟩
    replace hB := hB.gb hs5
    replace hb := hb.gb hs5
    replace hm := hm.gb hs5
    replace hF := hF.gb hs5
    replace hb1 := hb1.gb hs5
    replace hb2 := hb2.gb hs5
    replace hb3 := hb3.gb hs5
    refine L_run (R_notD rfl) rfl ?_
    refine Qoc ttDo 3 [] rfl ?_
    refine C_ifN rfl (fun h1 => ?_) (fun h1 => ?_)
    · refine Qce ttDo 8 [] rfl ?_
      refine ret1 Try.results18 rfl ?_
      have hDx3 : DiskAt S w5 d := hD.re hB.size hb hm hF
      exact fin_e hDx3 hB (make_w hq1 h1)
    · refine Qcc ttDo 1 [] rfl ?_
      refine C_draw2 rfl mix ?_
      intro w6 hs6 hz4
      replace hB := hB.gb hs6
      replace hb := hb.gb hs6
      replace hm := hm.gb hs6
      replace hF := hF.gb hs6
      replace hb1 := hb1.gb hs6
      replace hb2 := hb2.gb hs6
      replace hb3 := hb3.gb hs6
      refine ⟨fun W_ => Blk W_ d.gd 85 [.map (some d.gm), .int .i64 d.cap, .int .i64 d.ops, .bool d.dn, .bool d.tl, .int .i64 d.af] ∧ Blk W_ g1 30 [.pointer (some ⟨d.gd, 0, none⟩)] ∧ Blk W_ g2 9 [.string nm] ∧ True, [0, 1, 2, 3, 4, 6, 7], ?_⟩
      refine Tqs ttDo 3 [0, 1, 2, 3, 4] [kd hb1, kd hb, kd hb2] (fun _ ⟨hb, hb1, hb2, _⟩ => ⟨hb1, hb, hb2, trivial⟩) ⟨hb, hb1, hb2, trivial⟩ rfl ?_
      refine T_all (rs := [5]) (by kernel_rfl) rfl (all1 (O_one rfl ?_))
      refine L_run (R_eqv (R_lookup (eV := ptrV) (m := d.m) (k := nm) (z := .pointer none) rfl rfl Try.underlying83 Try.underlying9 (zero_val zer82) strK_inj trivial hm) (v' := .pointer (some ⟨(getF d.fs nm).g, 0, none⟩)) (by rw [hN.yes hq0]; rfl)) rfl ?_
      refine L_nil (N_then ⟨fun hN_ => ⟨hb, hb1, hb2, trivial⟩, ?_⟩)
      refine Tqs ttDo 0 [6, 7] [] (fun _ _ => trivial) ⟨hb, hb1, hb2, trivial⟩ rfl ?_
      refine T_done (by kernel_rfl) (CalmE.normal ?_)
      refine Qee ttDo 10 [] rfl ?_
      refine ret1 Try.results18 rfl ?_
      have hDx4 : DiskAt S w6 d := hD.re hB.size hb hm hF
      exact fin_e hDx4 hB (make_h hq1 h1 hq0)
theorem make_n0 {S : Nat → Prop} {w : World} {d : DK} (hD : DiskAt S w d) {nm : ByteArray} {n : Int} (hl : nm.size ≤ 9000000000000000000) (hq0 : ¬ HasN d.fs nm) :
    Runs Try.prog 18 #[.pointer (some ⟨d.gd, 0, none⟩), .string nm, .int .i64 n] w (fun v w' => ∃ d', Did S w w' d d' ∧ d'.pd = (d.pd.make nm n).1 ∧ v = .int .i64 (d.pd.make nm n).2) := by
  have hB := Out.refl S w
  have hb : Blk w d.gd 85 [.map (some d.gm), .int .i64 d.cap, .int .i64 d.ops, .bool d.dn, .bool d.tl, .int .i64 d.af] := hD.hb
  have hm := hD.hm
  have hF := hD.hF
  have hN := hD.hN
  have hR := hD.hR
  have hfl : d.fs.length ≤ 1000000 := Nat.le_trans hD.hfl (by decide)
  have hU : usedN d.fs ≤ 1000000000 := Nat.le_trans hD.hU (by decide)
  have hU2_ := hD.hU
  have hSl := hD.hSl
  have hsd_ := hSl _ hD.hsd
  have hsm_ := hSl _ hD.hsm
  refine enterQ Try.func18 Try.ntmps18 rfl rfl ?_
  refine Qco ttDo 2 [] rfl ?_
  refine L_box (cs := [.pointer (some ⟨d.gd, 0, none⟩)]) rfl rfl rfl ?_
  intro g1 w1 eg1 hb1 hs1 hz1
  have ge1 : w.heap.size ≤ g1 := Nat.le_trans hB.size (Nat.le_of_eq (Eq.symm eg1))
  have lt1 : d.gd < g1 := lt_of_eg hb.lt eg1
  replace hB := hB.gb hs1
  replace hb := hb.gb hs1
  replace hm := hm.gb hs1
  replace hF := hF.gb hs1
  refine L_box (cs := [.string nm]) rfl rfl rfl ?_
  intro g2 w2 eg2 hb2 hs2 hz2
  have ge2 : w.heap.size ≤ g2 := Nat.le_trans hB.size (Nat.le_of_eq (Eq.symm eg2))
  have lt2 : d.gd < g2 := lt_of_eg hb.lt eg2
  have lt3 : g1 < g2 := lt_of_eg hb1.lt eg2
  replace hB := hB.gb hs2
  replace hb := hb.gb hs2
  replace hm := hm.gb hs2
  replace hF := hF.gb hs2
  replace hb1 := hb1.gb hs2
  refine L_box (cs := [.int .i64 n]) rfl rfl rfl ?_
  intro g3 w3 eg3 hb3 hs3 hz3
  have ge3 : w.heap.size ≤ g3 := Nat.le_trans hB.size (Nat.le_of_eq (Eq.symm eg3))
  have lt4 : d.gd < g3 := lt_of_eg hb.lt eg3
  have lt5 : g1 < g3 := lt_of_eg hb1.lt eg3
  have lt6 : g2 < g3 := lt_of_eg hb2.lt eg3
  replace hB := hB.gb hs3
  replace hb := hb.gb hs3
  replace hm := hm.gb hs3
  replace hF := hF.gb hs3
  replace hb1 := hb1.gb hs3
  replace hb2 := hb2.gb hs3
  refine Qoo ttDo 7 [kb hb1] rfl ?_
  have hDx1 : DiskAt S w3 d := hD.re hB.size hb hm hF
  refine L_call rfl cb59 (may_ok hDx1) rfl ?_
  rintro _ w4 ⟨hs4, ⟨hq1, rfl⟩ | ⟨hq1, rfl⟩⟩
  · replace hB := hB.gb hs4
    replace hb := hb.gb hs4
    replace hm := hm.gb hs4
    replace hF := hF.gb hs4
    replace hb1 := hb1.gb hs4
    replace hb2 := hb2.gb hs4
    replace hb3 := hb3.gb hs4
    refine Qoe ttDo 18 [] rfl ?_
    refine ret1 Try.results18 rfl ?_
    have hDx2 : DiskAt S w4 d := hD.re hB.size hb hm hF
    exact fin_e hDx2 hB (make_d hq1)
  · replace hB := hB.gb hs4
    replace hb := hb.gb hs4
    replace hm := hm.gb hs4
    replace hF := hF.gb hs4
    replace hb1 := hb1.gb hs4
    replace hb2 := hb2.gb hs4
    replace hb3 := hb3.gb hs4
    refine Qoo ttDo 17 [kb hb2] rfl ?_
    refine L_call rfl cb60 (name_Right (cs := nm.data.toList) hl) rfl ?_
    rintro _ w5 ⟨hs5, rfl⟩
    replace hB := hB.gb hs5
    replace hb := hb.gb hs5
    replace hm := hm.gb hs5
    replace hF := hF.gb hs5
    replace hb1 := hb1.gb hs5
    replace hb2 := hb2.gb hs5
    replace hb3 := hb3.gb hs5
    refine L_run (R_notD rfl) rfl ?_
    refine Qoc ttDo 3 [] rfl ?_
    refine C_ifN rfl (fun h1 => ?_) (fun h1 => ?_)
    · refine Qce ttDo 8 [] rfl ?_
      refine ret1 Try.results18 rfl ?_
      have hDx3 : DiskAt S w5 d := hD.re hB.size hb hm hF
      exact fin_e hDx3 hB (make_w hq1 h1)
    · refine Qcc ttDo 1 [] rfl ?_
      refine C_draw2 rfl mix ?_
      intro w6 hs6 hz4
      replace hB := hB.gb hs6
      replace hb := hb.gb hs6
      replace hm := hm.gb hs6
      replace hF := hF.gb hs6
      replace hb1 := hb1.gb hs6
      replace hb2 := hb2.gb hs6
      replace hb3 := hb3.gb hs6
      refine ⟨fun W_ => Blk W_ d.gd 85 [.map (some d.gm), .int .i64 d.cap, .int .i64 d.ops, .bool d.dn, .bool d.tl, .int .i64 d.af] ∧ Blk W_ g1 30 [.pointer (some ⟨d.gd, 0, none⟩)] ∧ Blk W_ g2 9 [.string nm] ∧ True, [0, 1, 2, 3, 4, 6, 7], ?_⟩
      refine Tqs ttDo 3 [0, 1, 2, 3, 4] [kd hb1, kd hb, kd hb2] (fun _ ⟨hb, hb1, hb2, _⟩ => ⟨hb1, hb, hb2, trivial⟩) ⟨hb, hb1, hb2, trivial⟩ rfl ?_
      refine T_all (rs := [5]) (by kernel_rfl) rfl (all1 (O_one rfl ?_))
      refine L_run (R_eqv (R_lookup (eV := ptrV) (m := d.m) (k := nm) (z := .pointer none) rfl rfl Try.underlying83 Try.underlying9 (zero_val zer82) strK_inj trivial hm) (v' := .pointer none) (by rw [hN.no hq0]; rfl)) rfl ?_
      refine L_nil (N_then ⟨fun hN_ => ⟨hb, hb1, hb2, trivial⟩, ?_⟩)
      refine Tqs ttDo 0 [6, 7] [] (fun _ _ => trivial) ⟨hb, hb1, hb2, trivial⟩ rfl ?_
      refine T_done (by kernel_rfl) (CalmE.normal ?_)
      refine Qeo ttDo 7 [kb hb3] rfl ?_
      refine Qg ttDo 2 [kb hb3] rfl (fun σ => ?_)
      refine Ldec 31 ((n < 1) ∨ (64 < n)) rfl ?_
      refine Qoc ttDo 3 [] rfl ?_
      refine C_if rfl (fun h2 => ?_) (fun h2 => ?_)
      · refine Qce ttDo 8 [] rfl ?_
        refine ret1 Try.results18 rfl ?_
        have hDx4 : DiskAt S w6 d := hD.re hB.size hb hm hF
        exact fin_e hDx4 hB (make_r hq1 h1 hq0 (by omega))
      · refine Qcc ttDo 1 [] rfl ?_
        refine C_draw2 rfl mix ?_
        intro w7 hs7 hz5
        replace hB := hB.gb hs7
        replace hb := hb.gb hs7
        replace hm := hm.gb hs7
        replace hF := hF.gb hs7
        replace hb1 := hb1.gb hs7
        replace hb2 := hb2.gb hs7
        replace hb3 := hb3.gb hs7
        refine ⟨fun W_ => Blk W_ d.gd 85 [.map (some d.gm), .int .i64 d.cap, .int .i64 d.ops, .bool d.dn, .bool d.tl, .int .i64 d.af] ∧ MapF W_ d.gm .string strK ptrV d.m ∧ Blk W_ g1 30 [.pointer (some ⟨d.gd, 0, none⟩)] ∧ Blk W_ g3 3 [.int .i64 n] ∧ True, [0, 1, 2, 3, 4, 5, 7, 8, 9, 10, 11, 12, 13, 14, 15, 16, 17], ?_⟩
        refine Tqs ttDo 12 [0, 1, 2, 3, 4, 5] [kd hb3, kd hb1, kd hb, kd hb1] (fun _ ⟨hb, hm, hb1, hb3, _⟩ => ⟨hb3, hb1, hb, hb1, trivial⟩) ⟨hb, hm, hb1, hb3, trivial⟩ rfl ?_
        refine T_all (rs := [6]) (by kernel_rfl) rfl (all1 (O_one rfl ?_))
        refine L_call rfl cb27 (used_ok hb hm hF hN hR hfl hU) rfl ?_
        rintro _ w8 ⟨hs8, rfl⟩
        replace hB := hB.gb hs8
        replace hb := hb.gb hs8
        replace hm := hm.gb hs8
        replace hF := hF.gb hs8
        replace hb1 := hb1.gb hs8
        replace hb2 := hb2.gb hs8
        replace hb3 := hb3.gb hs8
        refine L_nil (N_then ⟨fun hN_ => ⟨hb, hm, hb1, hb3, trivial⟩, ?_⟩)
        refine T_takeA (i := 7) rfl (by kernel_rfl) (by kernel_rfl) (by kernel_rfl) (by kernel_rfl) (Y_of (fun _ ⟨hb, hm, hb1, hb3, _⟩ => R_sub64 (a := d.cap) (b := ((usedN d.fs : Nat) : Int)) rfl rfl (by have hc_ := hD.hc; have hU_ := hD.hU; omega))) ⟨hb, hm, hb1, hb3, trivial⟩ rfl ?_
        refine Tqs ttDo 8 [8, 9] [] (fun _ _ => trivial) ⟨hb, hm, hb1, hb3, trivial⟩ rfl ?_
        by_cases h3 : (d.cap - ((usedN d.fs : Nat) : Int)) < n
        · refine T_takeA (i := 10) rfl (by kernel_rfl) (by kernel_rfl) (by kernel_rfl) (by kernel_rfl) (Y_no rfl rfl rfl (decide_eq_true h3)) ⟨hb, hm, hb1, hb3, trivial⟩ rfl ?_
          refine T_takeA (i := 11) rfl (by kernel_rfl) (by kernel_rfl) (by kernel_rfl) (by kernel_rfl) (Y_no rfl rfl rfl (decide_eq_true h3)) ⟨hb, hm, hb1, hb3, trivial⟩ rfl ?_
          refine T_takeA (i := 12) rfl (by kernel_rfl) (by kernel_rfl) (by kernel_rfl) (by kernel_rfl) (Y_no rfl rfl rfl (decide_eq_true h3)) ⟨hb, hm, hb1, hb3, trivial⟩ rfl ?_
          refine T_takeA (i := 13) rfl (by kernel_rfl) (by kernel_rfl) (by kernel_rfl) (by kernel_rfl) (Y_no rfl rfl rfl (decide_eq_true h3)) ⟨hb, hm, hb1, hb3, trivial⟩ rfl ?_
          refine T_takeA (i := 14) rfl (by kernel_rfl) (by kernel_rfl) (by kernel_rfl) (by kernel_rfl) (Y_no rfl rfl rfl (decide_eq_true h3)) ⟨hb, hm, hb1, hb3, trivial⟩ rfl ?_
          refine T_takeA (i := 15) rfl (by kernel_rfl) (by kernel_rfl) (by kernel_rfl) (by kernel_rfl) (Y_no rfl rfl rfl (decide_eq_true h3)) ⟨hb, hm, hb1, hb3, trivial⟩ rfl ?_
          refine T_takeA (i := 16) rfl (by kernel_rfl) (by kernel_rfl) (by kernel_rfl) (by kernel_rfl) (Y_of (fun _ ⟨hb, hm, hb1, hb3, _⟩ => R_pickT rfl (decide_eq_true h3) rfl)) ⟨hb, hm, hb1, hb3, trivial⟩ rfl ?_
          refine Tqs ttDo 0 [17] [] (fun _ _ => trivial) ⟨hb, hm, hb1, hb3, trivial⟩ rfl ?_
          refine T_done (by kernel_rfl) (CalmE.normal ?_)
          refine Qee ttDo 10 [] rfl ?_
          refine ret1 Try.results18 rfl ?_
          have hDx5 : DiskAt S w8 d := hD.re hB.size hb hm hF
          exact fin_e hDx5 hB (make_f hq1 h1 hq0 (by omega) (by have hl_ := hN.len; omega))
        · refine T_takeA (i := 10) rfl (by kernel_rfl) (by kernel_rfl) (by kernel_rfl) (by kernel_rfl) (Y_yes rfl rfl rfl (decide_eq_false h3) (fun _ ⟨hb, hm, hb1, hb3, _⟩ => R_load1 rfl scl30 (hb1.cell (i := 0) rfl))) ⟨hb, hm, hb1, hb3, trivial⟩ rfl ?_
          refine T_takeA (i := 11) rfl (by kernel_rfl) (by kernel_rfl) (by kernel_rfl) (by kernel_rfl) (Y_yes rfl rfl rfl (decide_eq_false h3) (fun _ ⟨hb, hm, hb1, hb3, _⟩ => R_nilck rfl)) ⟨hb, hm, hb1, hb3, trivial⟩ rfl ?_
          refine T_takeA (i := 12) rfl (by kernel_rfl) (by kernel_rfl) (by kernel_rfl) (by kernel_rfl) (Y_yes rfl rfl rfl (decide_eq_false h3) (fun _ ⟨hb, hm, hb1, hb3, _⟩ => R_field (r := 0) rfl fld85_0 rfl)) ⟨hb, hm, hb1, hb3, trivial⟩ rfl ?_
          refine T_takeA (i := 13) rfl (by kernel_rfl) (by kernel_rfl) (by kernel_rfl) (by kernel_rfl) (Y_yes rfl rfl rfl (decide_eq_false h3) (fun _ ⟨hb, hm, hb1, hb3, _⟩ => R_load1 rfl scl83 (hb.cell (i := 0) rfl))) ⟨hb, hm, hb1, hb3, trivial⟩ rfl ?_
          refine T_takeA (i := 14) rfl (by kernel_rfl) (by kernel_rfl) (by kernel_rfl) (by kernel_rfl) (Y_yes rfl rfl rfl (decide_eq_false h3) (fun _ ⟨hb, hm, hb1, hb3, _⟩ => R_lenMap rfl Try.underlying83 hm)) ⟨hb, hm, hb1, hb3, trivial⟩ rfl ?_
          refine T_takeA (i := 15) rfl (by kernel_rfl) (by kernel_rfl) (by kernel_rfl) (by kernel_rfl) (Y_yes rfl rfl rfl (decide_eq_false h3) (fun _ ⟨hb, hm, hb1, hb3, _⟩ => R_geq rfl rfl)) ⟨hb, hm, hb1, hb3, trivial⟩ rfl ?_
          refine T_takeA (i := 16) rfl (by kernel_rfl) (by kernel_rfl) (by kernel_rfl) (by kernel_rfl) (Y_of (fun _ ⟨hb, hm, hb1, hb3, _⟩ => R_pickF rfl (decide_eq_false h3) rfl)) ⟨hb, hm, hb1, hb3, trivial⟩ rfl ?_
          refine Tqs ttDo 0 [17] [] (fun _ _ => trivial) ⟨hb, hm, hb1, hb3, trivial⟩ rfl ?_
          refine T_done (by kernel_rfl) (CalmE.normal ?_)
          refine Qec ttDo 1 [] rfl ?_
          refine C_if rfl (fun h4 => ?_) (fun h4 => ?_)
          · refine Qce ttDo 8 [] rfl ?_
            refine ret1 Try.results18 rfl ?_
            have hDx6 : DiskAt S w8 d := hD.re hB.size hb hm hF
            exact fin_e hDx6 hB (make_f hq1 h1 hq0 (by omega) (by have hl_ := hN.len; omega))
          · refine Qco ttDo 7 [kb hb1] rfl ?_
            have hDx7 : DiskAt S w8 d := hD.re hB.size hb hm hF
            have hsz0_ := hB.size
            have hln_ := hN.len
            have hnn_ : n = (n.toNat : Int) := by omega
            have hb5_ : Blk w8 g3 3 [.int .i64 (n.toNat : Int)] := by rw [← hnn_]; exact hb3
            refine L_call rfl cb61 (then_ok hDx7 cb62 (R := fun w1_ w2_ => ∃ F, F.pf = ⟨nm, List.replicate n.toNat Sx.z, List.replicate n.toNat Sx.z, List.replicate n.toNat false⟩ ∧ Did S w1_ w2_ d.opk { d.opk with m := aput d.m nm F.g, fs := insK FM.nm F d.fs }) (fun h_ w_ hg_ hD_ => make1 hD_ (hb5_.grown hg_ (ne_ty hb5_ hDx7.hb rfl)) (hb1.grown hg_ (ne_ty hb1 hDx7.hb rfl)) (hb2.grown hg_ (ne_ty hb2 hDx7.hb rfl)) hq0 (by omega) (show d.fs.length < 64 by omega) (show usedN d.fs + n.toNat ≤ 1048576 by have hc_ := hD.hc; omega))) rfl ?_
            rintro _ w9 ⟨ho1, ⟨hq2, rfl, hD1⟩ | ⟨hq2, rfl, wt1, hg1, hD1, F1, hpf1, hR1⟩⟩
            · replace hB := hB.trans' ho1
              refine Qoe ttDo 4 [] rfl ?_
              refine ret1 Try.results18 rfl ?_
              exact fin_d hq2 hD1 hB (make_t hq1 h1 hq0 (by omega) (by have hl_ := hN.len; omega))
            · replace hB := hB.trans' ho1
              refine Qoe ttDo 4 [] rfl ?_
              refine ret1 Try.results18 rfl ?_
              obtain ⟨S2_, hA_, hB_, hC_, hE_⟩ := hR1
              exact fin_m hD hq2 hA_ rfl ⟨rfl, rfl, rfl, rfl, rfl⟩ hB (fun k_ h_ => (hE_ k_ h_).imp id (fun q_ => Nat.le_trans (Nat.le_trans hsz0_ hg1.size) q_)) ((make_t hq1 h1 hq0 (by omega) (by have hl_ := hN.len; omega)).trans (by show _ = d.pd.then ((insK FM.nm _ d.fs).map FM.pf); rw [ins_pf, hpf1]; rfl))
theorem make_ok {S : Nat → Prop} {w : World} {d : DK} (hD : DiskAt S w d) {nm : ByteArray} {n : Int} (hl : nm.size ≤ 9000000000000000000) :
    Runs Try.prog 18 #[.pointer (some ⟨d.gd, 0, none⟩), .string nm, .int .i64 n] w (fun v w' => ∃ d', Did S w w' d d' ∧ d'.pd = (d.pd.make nm n).1 ∧ v = .int .i64 (d.pd.make nm n).2) := by
  by_cases hq0 : HasN d.fs nm
  · exact make_y0 hD hl hq0
  · exact make_n0 hD hl hq0
theorem fail_ok {S : Nat → Prop} {w : World} {d : DK} (hD : DiskAt S w d) {n : Int} (hnr : i64r n) :
    Runs Try.prog 23 #[.pointer (some ⟨d.gd, 0, none⟩), .int .i64 n] w (fun v w' => ∃ d', Did S w w' d d' ∧ d'.pd = (d.pd.fail n).1 ∧ v = .int .i64 (d.pd.fail n).2) := by
  have hB := Out.refl S w
  have hb : Blk w d.gd 85 [.map (some d.gm), .int .i64 d.cap, .int .i64 d.ops, .bool d.dn, .bool d.tl, .int .i64 d.af] := hD.hb
  have hm := hD.hm
  have hF := hD.hF
  have hN := hD.hN
  have hR := hD.hR
  have hfl : d.fs.length ≤ 1000000 := Nat.le_trans hD.hfl (by decide)
  have hU : usedN d.fs ≤ 1000000000 := Nat.le_trans hD.hU (by decide)
  have hU2_ := hD.hU
  have hSl := hD.hSl
  have hsd_ := hSl _ hD.hsd
  have hsm_ := hSl _ hD.hsm
  refine enterQ Try.func23 Try.ntmps23 rfl rfl ?_
  refine Qco ttDo 9 [] rfl ?_
  have hDx1 : DiskAt S w d := hD.re hB.size hb hm hF
  refine L_call rfl cb59 (may_ok hDx1) rfl ?_
  rintro _ w1 ⟨hs1, ⟨hq1, rfl⟩ | ⟨hq1, rfl⟩⟩
  · replace hB := hB.gb hs1
    replace hb := hb.gb hs1
    replace hm := hm.gb hs1
    replace hF := hF.gb hs1
    refine Qoe ttDo 18 [] rfl ?_
    refine ret1 Try.results23 rfl ?_
    have hDx2 : DiskAt S w1 d := hD.re hB.size hb hm hF
    exact fin_e hDx2 hB (if_pos hq1)
  · replace hB := hB.gb hs1
    replace hb := hb.gb hs1
    replace hm := hm.gb hs1
    replace hF := hF.gb hs1
    refine Qoc ttDo 19 [] rfl ?_
    refine C_if rfl (fun h1 => ?_) (fun h1 => ?_)
    · refine Qce ttDo 7 [] rfl ?_
      refine ret1 Try.results23 rfl ?_
      have hDx3 : DiskAt S w1 d := hD.re hB.size hb hm hF
      exact fin_e hDx3 hB (by unfold PD.fail; rw [if_neg (pdn hq1), if_pos (by omega)])
    · refine Qco ttDo 9 [] rfl ?_
      refine L_st1 rfl rfl rfl sz4 hb rfl ?_
      intro w2 hb1 hs2 hz1
      replace hB := hB.ins hs2 hD.hsd
      replace hm := hm.blk hb hs2
      replace hF := hF.other hb rfl rfl rfl hs2
      refine Qoo ttDo 2 [] rfl ?_
      refine L_st1 rfl rfl rfl sz3 hb1 rfl ?_
      intro w3 hb2 hs3 hz2
      replace hB := hB.ins hs3 hD.hsd
      replace hm := hm.blk hb1 hs3
      replace hF := hF.other hb1 rfl rfl rfl hs3
      refine Qoe ttDo 8 [] rfl ?_
      refine ret1 Try.results23 rfl ?_
      refine ⟨{ d with tl := true, af := n }, .of { hD with hb := hb2, hm := hm, hF := hF, hSl := fun k_ h_ => Nat.lt_of_lt_of_le (hD.hSl k_ h_) hB.size, haf := fun _ => by show 0 ≤ n; omega, haf' := hnr } rfl hB, ?_⟩
      unfold PD.fail; rw [if_neg (pdn hq1), if_neg (by omega)]; exact ⟨rfl, rfl⟩
end Go.Proofs.Ytoipncaopdmicaa
namespace Go.Proofs.Ytoipncaopdmicaa
open Go.RowKit Gw Pl
set_option linter.unusedVariables false
set_option linter.unusedSimpArgs false
theorem cb43 : callB Try.prog 43 = true := by kernel_rfl
theorem slc22 : slcB Try.prog 22 29 2 40 = true := by kernel_rfl
theorem zer29 : (Try.prog.info? 29).bind (·.zero) = some (.agg #[.string (⟨#[]⟩), .slice none 0 0]) := by kernel_rfl
def tabDp : TT := { fld := [(85, 0, 0), (89, 0, 0)], scl := [27, 83], agg := [], str := [], slc := [(61, 9, 1, 16)], ptr := [], cv := [] }
theorem ttDp : TOk Try.prog tabDp := TT.ok_of (by kernel_rfl)
/-- A file as it is told: its name, its sectors. -/
structure FR where
  nm : ByteArray
  a : Option Addr
  c : Nat
  ss : List Sx
def encFR (f : FR) : List Value := [.string f.nm, .slice f.a f.ss.length f.c]
theorem EncFR : Enc encFR 2 := ⟨fun _ => rfl, fun _ => rfl⟩
/-- Files' sectors lie in the memory. -/
def DeepFR (w : World) (ls : List FR) : Prop := ∀ f ∈ ls, Sli 81 0 w.heap.size w f.a (fl encX f.ss) ∧ f.ss.length ≤ f.c
section
variable {w w' : World} {ls : List FR}
theorem DeepFR.nil : DeepFR w [] := fun _ h => by cases h
theorem DeepFR.gb (h : DeepFR w ls) (hg : w.grownBy w' none) : DeepFR w' ls := fun f hf => ⟨((h f hf).1.gb hg).wide (Nat.le_refl _) hg.size, (h f hf).2⟩
theorem DeepFR.other {g t : Nat} {cs : List Value} (h : DeepFR w ls) (hb : Blk w g t cs) (h1 : Nat.beq 81 t = false) (hg : w.grownBy w' (some g)) : DeepFR w' ls := fun f hf => ⟨((h f hf).1.other hb rfl h1 hg).wide (Nat.le_refl _) hg.size, (h f hf).2⟩
theorem DeepFR.otherO {base t sz m : Nat} {v : Value} {us : List Value} (h : DeepFR w ls) (ho : w.ownsRow base t sz v m us) (h1 : Nat.beq 81 t = false) (hg : w.grownBy w' v.ownBlock) : DeepFR w' ls := fun f hf => ⟨((h f hf).1.otherO ho rfl h1 hg).wide (Nat.le_refl _) hg.size, (h f hf).2⟩
theorem DeepFR.get (h : DeepFR w ls) {i : Nat} (hi : i < ls.length) : Sli 81 0 w.heap.size w ls[i].a (fl encX ls[i].ss) := (h _ (List.getElem_mem hi)).1
theorem DeepFR.snoc {f : FR} (h : DeepFR w ls) (h1 : Sli 81 0 w.heap.size w f.a (fl encX f.ss)) (h2 : f.ss.length ≤ f.c) : DeepFR w (ls ++ [f]) := fun x hx => by
  rcases List.mem_append.1 hx with hx | hx
  · exact h x hx
  · obtain rfl := List.mem_singleton.1 hx
    exact ⟨h1, h2⟩
end
theorem sli_bare {w : World} {lo t sz c m : Nat} {A : Option Addr} {vs : List Value} (ho : w.ownsRow lo t sz (.slice A m c) m vs) : Sli t 0 w.heap.size w A vs := (own_of ho).2.2.wide (Nat.zero_le _) (Nat.le_refl _)
theorem new_disk {w w' : World} {gd gm : Nat} {cap c : Int} (hg : w.grownBy w' none) (hc : max 0 (min c 1048576) = cap) (h1 : w.heap.size ≤ gd) (h2 : w.heap.size ≤ gm) (hb : Blk w' gd 85 [.map (some gm), .int .i64 cap, .int .i64 0, .bool false, .bool false, .int .i64 0]) (hm : MapF w' gm .string strK ptrV []) (hlt : gm < w'.heap.size) :
    ∃ (S : Nat → Prop) (d : DK), DiskAt S w' d ∧ (∀ k, S k → w.heap.size ≤ k) ∧ Value.pointer (some ⟨gd, 0, none⟩) = .pointer (some ⟨d.gd, 0, none⟩) ∧ d.pd = ⟨[], cap, 0, 0, false, false⟩ :=
  ⟨fun k => k = gd ∨ k = gm, ⟨gd, gm, cap, 0, 0, false, false, [], []⟩, { hb := hb, hm := hm, hF := FsP.nil, hN := Names.nil, hR := (by unfold RiseF; simp), hsd := .inl rfl, hsm := .inr rfl, hSl := fun k h => h.elim (fun e => e ▸ hb.lt) (fun e => e ▸ hlt), hfl := (by simp), hU := (by simp [usedN]), hc := (show 0 ≤ cap ∧ cap ≤ 1048576 by omega), hop := (show i64r 0 by unfold i64r; omega), haf := fun h => (by cases h), haf' := (show i64r 0 by unfold i64r; omega) }, by rintro k (rfl | rfl) <;> assumption, rfl, rfl⟩
theorem new_ok {w : World} {c : Int} :
    Runs Try.prog 13 #[.int .i64 c] w (fun v w' => w.grownBy w' none ∧ ∃ (S : Nat → Prop) (d : DK), DiskAt S w' d ∧ (∀ k, S k → w.heap.size ≤ k) ∧ v = .pointer (some ⟨d.gd, 0, none⟩) ∧ d.pd = ⟨[], max 0 (min c 1048576), 0, 0, false, false⟩) := by
  have hB := gb_refl w none
  refine enterQ Try.func13 Try.ntmps13 rfl rfl ?_
  refine Qco ttDp 7 [] rfl ?_
  refine L_makeMap .string strK ptrV rfl ?_
  intro g1 w1 eg1 hm1 hs1 hz1
  have ge1 : w.heap.size ≤ g1 := eg_ge hB eg1
  replace hB := gb_tr hB hs1
  refine Qoo ttDp 3 [] rfl ?_
  refine L_run (R_build (pv := [(0, .map (some g1)), (1, .int .i64 (max 0 (min c 1048576)))]) (cs := [.map (some g1), .int .i64 (max 0 (min c 1048576)), .int .i64 0, .bool false, .bool false, .int .i64 0]) rfl (by kernel_rfl)) rfl ?_
  refine L_box (cs := [.map (some g1), .int .i64 (max 0 (min c 1048576)), .int .i64 0, .bool false, .bool false, .int .i64 0]) rfl rfl rfl ?_
  intro g2 w2 eg2 hb1 hs2 hz2
  have ge2 : w.heap.size ≤ g2 := eg_ge hB eg2
  replace hB := gb_tr hB hs2
  replace hm1 := hm1.gb hs2
  refine Qoe ttDp 4 [] rfl ?_
  refine ret1 Try.results13 rfl ?_
  exact ⟨hB, new_disk hB rfl ge2 ge1 hb1 hm1 (by first | omega | (have q_ := lt_of_eg; omega))⟩
theorem files_ok {S : Nat → Prop} {w : World} {d : DK} (hD : DiskAt S w d)  :
    Runs Try.prog 26 #[.pointer (some ⟨d.gd, 0, none⟩)] w (fun v w' => w.grownBy w' none ∧ ∃ A' c' ls, v = .slice A' ls.length c' ∧ ls.map (fun f => (f.nm, f.ss)) = d.fs.map (fun f => (f.nm, f.las)) ∧ World.ownsRow w' w.heap.size 29 2 (.slice A' ls.length c') ls.length (fl encFR ls) ∧ DeepFR w' ls) := by
  have hB := gb_refl w none
  have hb : Blk w d.gd 85 [.map (some d.gm), .int .i64 d.cap, .int .i64 d.ops, .bool d.dn, .bool d.tl, .int .i64 d.af] := hD.hb
  have hm := hD.hm
  have hF := hD.hF
  have hN := hD.hN
  have hR := hD.hR
  have hfl : d.fs.length ≤ 1000000 := Nat.le_trans hD.hfl (by decide)
  have hU : usedN d.fs ≤ 1000000000 := Nat.le_trans hD.hU (by decide)
  have hU2_ := hD.hU
  have hSl := hD.hSl
  have hsd_ := hSl _ hD.hsd
  have hsm_ := hSl _ hD.hsm
  refine enterQ Try.func26 Try.ntmps26 rfl rfl ?_
  refine Qco ttDp 14 [] rfl ?_
  have ge1 : w.heap.size ≤ w.heap.size := hB.size
  refine L_call rfl cb25 (list_ok hb hm hF hN hR hfl) rfl ?_
  rintro _ w1 ⟨hs1, A_1, c_1, rfl, ho1⟩
  replace hB := gb_tr hB hs1
  replace hb := hb.gb hs1
  replace hm := hm.gb hs1
  replace hF := hF.gb hs1
  have hlo1 : w.heap.size ≤ w1.heap.size := hs1.size
  refine Qoc ttDp 5 [] rfl ?_
  refine C_loop (fun m_ a_ w_ => ∃ (σ_ : Nat → Value) (A' : Option Addr) (c' : Nat) (ls : List FR) (i : Nat), a_ = Ac 30 σ_ [] [(0, .pointer (some ⟨d.gd, 0, none⟩)), (3, .slice A' ls.length c'), (7, .slice A_1 ((d.fs.map FM.nm).length) c_1), (8, .int .i64 ((d.fs.map FM.nm).length : Int)), (9, .int .i64 (i : Int))] ∧ w.grownBy w_ none ∧ Blk w_ d.gd 85 [.map (some d.gm), .int .i64 d.cap, .int .i64 d.ops, .bool d.dn, .bool d.tl, .int .i64 d.af] ∧ MapF w_ d.gm .string strK ptrV d.m ∧ FsP S w_ d.fs ∧ World.ownsRow w_ w.heap.size 9 1 (.slice A_1 (d.fs.map FM.nm).length c_1) (d.fs.map FM.nm).length (fl encT (d.fs.map FM.nm)) ∧ w.heap.size ≤ w_.heap.size ∧ World.ownsRow w_ w.heap.size 29 2 (.slice A' ls.length c') ls.length (fl encFR ls) ∧ DeepFR w_ ls ∧ (i ≤ (d.fs.map FM.nm).length) ∧ (ls.map (fun f => (f.nm, f.ss)) = (d.fs.take i).map (fun f => (f.nm, f.las))) ∧ (d.fs.map FM.nm).length - i = m_) ((d.fs.map FM.nm).length - 0) ?_ ?_
  · exact ⟨_, none, 0, ([] : List FR), 0, Ac_frg ⟨rfl, (agr rfl (by first | rfl | (congr 1; omega) | (congr 1; simp; done) | (congr 1; simp only [IntKind.wrap_u64, IntKind.wrap_i64, IntKind.wrap_u8]; omega) | (congr 1 <;> omega))), rfl, rfl, (agr rfl (by first | rfl | (congr 1; omega) | (congr 1; simp; done) | (congr 1; simp only [IntKind.wrap_u64, IntKind.wrap_i64, IntKind.wrap_u8]; omega) | (congr 1 <;> omega))), trivial⟩, hB, hb, hm, hF, ho1, hlo1, (own_nil w.heap.size 29 2 _), DeepFR.nil, (by omega), rfl, rfl⟩
  · clear hB
    clear hb hm hF ho1 hlo1
    rintro m_ a_ w2 ⟨σ_, A', c', ls, i, rfl, hB, hb, hm, hF, ho1, hlo1, hol, hdp, hi_, hml, rfl⟩
    refine Q0c ?_
    refine Qcc ttDp 6 [] rfl ?_
    refine C_if rfl (fun h1 => ?_) (fun h1 => ?_)
    · refine Qco ttDp 6 [] rfl ?_
      have hlk : i < (d.fs.map FM.nm).length := by first | omega | (simp; omega)
      refine T_index (xs := (d.fs.map FM.nm)) (i := i) EncT rfl rfl (by first | rfl | omega) slc61 hlk (own_of ho1).2.2 rfl ?_
      intro g1 o1 ha1
      refine L_run (R_load1 rfl scl9 (ha1 0 _ rfl)) rfl ?_
      refine Qoo ttDp 11 [kb hb] rfl ?_
      obtain ⟨hhas_, hix_, hget_⟩ := getF_ix hN hlk
      obtain ⟨hfb1, hfl1, hfs1, hfw1, hfe1, hfe2⟩ := hF.at_ _ (getF_mem hhas_).1
      have hsl_ := seen_le (List.getElem_mem hix_)
      have hgl_ : (getF d.fs ((d.fs.map FM.nm)[i])).seen.length = d.fs[i].seen.length := by rw [hget_]
      have hgl2_ : (getF d.fs ((d.fs.map FM.nm)[i])).las.length = (getF d.fs ((d.fs.map FM.nm)[i])).seen.length := hfe1
      refine L_run (R_eqv (R_lookup (eV := ptrV) (m := d.m) (k := (d.fs.map FM.nm)[i]) (z := .pointer none) rfl rfl Try.underlying83 Try.underlying9 (zero_val zer82) strK_inj trivial hm) (v' := .pointer (some ⟨(getF d.fs ((d.fs.map FM.nm)[i])).g, 0, none⟩)) (by rw [hN.yes hhas_]; rfl)) rfl ?_
      refine Qoo ttDp 3 [kb hfb1] rfl ?_
      have ge2 : w.heap.size ≤ w2.heap.size := hB.size
      refine L_call rfl cb43 (clone_ok (xs := (getF d.fs ((d.fs.map FM.nm)[i])).las) (own_of hfl1).2.2 (by omega)) rfl ?_
      rintro _ w3 ⟨hs2, A_2, c_2, rfl, ho2⟩
      replace hB := gb_tr hB hs2
      replace hb := hb.gb hs2
      replace hm := hm.gb hs2
      replace hF := hF.gb hs2
      replace ho1 := own_gb ho1 hs2
      replace hlo1 := Nat.le_trans hlo1 hs2.size
      replace hol := own_gb hol hs2
      replace hdp := hdp.gb hs2
      replace ha1 := At.gb ha1 hs2 (by simp)
      replace hfb1 := hfb1.gb hs2
      replace hfl1 := own_gb hfl1 hs2
      replace hfs1 := own_gb hfs1 hs2
      replace hfw1 := own_gb hfw1 hs2
      have hlo2 : w2.heap.size ≤ w3.heap.size := hs2.size
      refine L_run (R_build (pv := [(0, .string ((d.fs.map FM.nm)[i])), (1, .slice A_2 (((getF d.fs ((d.fs.map FM.nm)[i])).las).length) c_2)]) (cs := [.string ((d.fs.map FM.nm)[i]), .slice A_2 (((getF d.fs ((d.fs.map FM.nm)[i])).las).length) c_2]) rfl (by kernel_rfl)) rfl ?_
      refine L_buildSlice (pv := [(0, .agg #[.string ((d.fs.map FM.nm)[i]), .slice A_2 (((getF d.fs ((d.fs.map FM.nm)[i])).las).length) c_2])]) (cs := [.string ((d.fs.map FM.nm)[i]), .slice A_2 (((getF d.fs ((d.fs.map FM.nm)[i])).las).length) c_2]) slc22 zer29 rfl rfl (by kernel_rfl) rfl ?_
      intro g2 w4 eg1 hb1 hs3 hz1
      have ge3 : w.heap.size ≤ g2 := eg_ge hB eg1
      have lt1 : d.gd < g2 := lt_of_eg hb.lt eg1
      have lt2 : (getF d.fs ((d.fs.map FM.nm)[i])).g < g2 := lt_of_eg hfb1.lt eg1
      have hap1 : ∀ k_, (Value.slice A' ls.length c').ownBlock = some k_ → k_ ≠ g2 := fun k_ hk => by have h_ := (World.ownsRow.lt hol k_ hk).2; omega
      replace hB := gb_tr hB hs3
      replace hb := hb.gb hs3
      replace hm := hm.gb hs3
      replace hF := hF.gb hs3
      replace ho1 := own_gb ho1 hs3
      replace hlo1 := Nat.le_trans hlo1 hs3.size
      replace hol := own_gb hol hs3
      replace hdp := hdp.gb hs3
      replace ha1 := At.gb ha1 hs3 (by simp)
      replace hfb1 := hfb1.gb hs3
      replace hfl1 := own_gb hfl1 hs3
      replace hfs1 := own_gb hfs1 hs3
      replace hfw1 := own_gb hfw1 hs3
      replace ho2 := own_gb ho2 hs3
      replace hlo2 := Nat.le_trans hlo2 hs3.size
      refine T_append (xs := ls) (ys := [(⟨(d.fs.map FM.nm)[i], A_2, c_2, ((getF d.fs ((d.fs.map FM.nm)[i])).las)⟩ : FR)]) EncFR slc22 rfl rfl hol (Blk.sli (m := 0) hb1) (by have h_ := congrArg List.length hml; simp only [List.length_map, List.length_take] at h_ hi_; have hfl2_ := hD.hfl; simp; omega) (by have := hB.size; omega) rfl ?_
      intro A_3 c_3 w5 ho3 hs4 hat1
      replace hB := gb_tro hB hol hs4 (Nat.le_refl _)
      replace hb := blk_own hb hol rfl hs4
      replace hm := hm.own hol hs4
      replace hF := hF.otherO hol rfl rfl rfl hs4
      replace ho1 := ho1.kept hs4 (own_type_ne' ho1 hol rfl)
      replace hlo1 := Nat.le_trans hlo1 hs4.size
      replace hdp := hdp.otherO hol rfl hs4
      replace hfb1 := blk_own hfb1 hol rfl hs4
      replace hfl1 := hfl1.kept hs4 (own_type_ne' hfl1 hol rfl)
      replace hfs1 := hfs1.kept hs4 (own_type_ne' hfs1 hol rfl)
      replace hfw1 := hfw1.kept hs4 (own_type_ne' hfw1 hol rfl)
      replace ho2 := ho2.kept hs4 (own_type_ne' ho2 hol rfl)
      replace hlo2 := Nat.le_trans hlo2 hs4.size
      refine Qoe ttDp 8 [] rfl ?_
      refine Nl ?_
      have hmp_ : (ls ++ ([(⟨(d.fs.map FM.nm)[i], A_2, c_2, ((getF d.fs ((d.fs.map FM.nm)[i])).las)⟩ : FR)])).map (fun f => (f.nm, f.ss)) = (d.fs.take (i + 1)).map (fun f => (f.nm, f.las)) := by rw [List.map_append, hml, List.take_succ_eq_append_getElem hix_, List.map_append]; refine congrArg _ ?_; show [(_, (getF d.fs (d.fs.map FM.nm)[i]).las)] = [(_, _)]; rw [hget_, List.getElem_map]
      exact ⟨(d.fs.map FM.nm).length - (i + 1), by omega, _, A_3, c_3, (ls ++ ([(⟨(d.fs.map FM.nm)[i], A_2, c_2, ((getF d.fs ((d.fs.map FM.nm)[i])).las)⟩ : FR)])), (i + 1), Ac_frg ⟨rfl, rfl, rfl, rfl, (agr rfl (by first | rfl | (congr 1; omega) | (congr 1; simp; done) | (congr 1; simp only [IntKind.wrap_u64, IntKind.wrap_i64, IntKind.wrap_u8]; omega) | (congr 1 <;> omega))), trivial⟩, hB, hb, hm, hF, ho1, hlo1, (own_lo ho3 (Nat.le_refl _)), (hdp.snoc (sli_bare ho2) (own_of ho2).1), (by omega), hmp_, rfl⟩
    · refine Qce ttDp 2 [] rfl ?_
      refine Xl ?_
      refine Qee ttDp 9 [] rfl ?_
      refine ret1 Try.results26 rfl ?_
      rw [List.take_of_length_le (by rw [List.length_map] at *; omega)] at hml
      exact ⟨hB, _, _, _, rfl, hml, (own_lo hol (Nat.le_refl _)), hdp⟩
end Go.Proofs.Ytoipncaopdmicaa
namespace Go.Proofs.Ytoipncaopdmicaa
open Go.RowKit Gw Pl
set_option linter.unusedVariables false
set_option linter.unusedSimpArgs false
theorem fld36_0 : fldB Try.prog 36 0 0 = true := by kernel_rfl
theorem fld92_0 : fldB Try.prog 92 0 0 = true := by kernel_rfl
theorem scl34 : sclB Try.prog 34 = true := by kernel_rfl
theorem slc34 : slcB Try.prog 34 92 4 88 = true := by kernel_rfl
def tabFa : TT := { fld := [(36, 0, 0), (92, 0, 0), (92, 2, 2)], scl := [34], agg := [], str := [], slc := [(27, 81, 64, 64), (34, 92, 4, 88)], ptr := [], cv := [] }
theorem ttFa : TOk Try.prog tabFa := TT.ok_of (by kernel_rfl)
/-- A file of the reference: its name, its three rows and where they lie. -/
structure RF where
  nm : ByteArray
  la : Option Addr
  lc : Nat
  las : List Sx
  sa : Option Addr
  sc : Nat
  seen : List Sx
  wa : Option Addr
  wc : Nat
  wts : List Bool
def encRF (f : RF) : List Value := [.string f.nm, .slice f.la f.las.length f.lc, .slice f.sa f.seen.length f.sc, .slice f.wa f.wts.length f.wc]
theorem EncRF : Enc encRF 4 := ⟨fun _ => rfl, fun _ => rfl⟩
def RF.pf (f : RF) : PF := ⟨f.nm, f.las, f.seen, f.wts⟩
/-- A file's rows lie in the memory. -/
structure RFAt (w : World) (f : RF) : Prop where
  l : Sli 81 0 w.heap.size w f.la (fl encX f.las)
  s : Sli 81 0 w.heap.size w f.sa (fl encX f.seen)
  b : Sli 4 0 w.heap.size w f.wa (fl encO f.wts)
  lc : f.las.length ≤ f.lc
  sc : f.seen.length ≤ f.sc
  wc : f.wts.length ≤ f.wc
  le : f.las.length = f.seen.length
  we : f.wts.length = f.seen.length
def DeepRF (w : World) (ls : List RF) : Prop := ∀ f ∈ ls, RFAt w f
section
variable {w w' : World} {ls : List RF} {f : RF}
theorem RFAt.gb (h : RFAt w f) (hg : w.grownBy w' none) : RFAt w' f := { h with l := (h.l.gb hg).wide (Nat.le_refl _) hg.size, s := (h.s.gb hg).wide (Nat.le_refl _) hg.size, b := (h.b.gb hg).wide (Nat.le_refl _) hg.size }
theorem RFAt.other {g t : Nat} {cs : List Value} (h : RFAt w f) (hb : Blk w g t cs) (h1 : Nat.beq 81 t = false) (h2 : Nat.beq 4 t = false) (hg : w.grownBy w' (some g)) : RFAt w' f := { h with l := (h.l.other hb rfl h1 hg).wide (Nat.le_refl _) hg.size, s := (h.s.other hb rfl h1 hg).wide (Nat.le_refl _) hg.size, b := (h.b.other hb rfl h2 hg).wide (Nat.le_refl _) hg.size }
theorem RFAt.otherO {base t sz m : Nat} {v : Value} {us : List Value} (h : RFAt w f) (ho : w.ownsRow base t sz v m us) (h1 : Nat.beq 81 t = false) (h2 : Nat.beq 4 t = false) (hg : w.grownBy w' v.ownBlock) : RFAt w' f := { h with l := (h.l.otherO ho rfl h1 hg).wide (Nat.le_refl _) hg.size, s := (h.s.otherO ho rfl h1 hg).wide (Nat.le_refl _) hg.size, b := (h.b.otherO ho rfl h2 hg).wide (Nat.le_refl _) hg.size }
theorem DeepRF.nil : DeepRF w [] := fun _ h => by cases h
theorem DeepRF.gb (h : DeepRF w ls) (hg : w.grownBy w' none) : DeepRF w' ls := fun f hf => (h f hf).gb hg
theorem DeepRF.other {g t : Nat} {cs : List Value} (h : DeepRF w ls) (hb : Blk w g t cs) (h1 : Nat.beq 81 t = false) (h2 : Nat.beq 4 t = false) (hg : w.grownBy w' (some g)) : DeepRF w' ls := fun f hf => (h f hf).other hb h1 h2 hg
theorem DeepRF.otherO {base t sz m : Nat} {v : Value} {us : List Value} (h : DeepRF w ls) (ho : w.ownsRow base t sz v m us) (h1 : Nat.beq 81 t = false) (h2 : Nat.beq 4 t = false) (hg : w.grownBy w' v.ownBlock) : DeepRF w' ls := fun f hf => (h f hf).otherO ho h1 h2 hg
theorem DeepRF.getL (h : DeepRF w ls) {i : Nat} (hi : i < ls.length) : Sli 81 0 w.heap.size w ls[i].la (fl encX ls[i].las) := (h _ (List.getElem_mem hi)).l
end
/-- Where an address may point. -/
def okA {α : Type} (U : Nat → Prop) (A : Option Addr) (xs : List α) : Prop := xs ≠ [] → ∀ a, A = some a → U a.block
def okRF (U : Nat → Prop) (f : RF) : Prop := okA U f.la f.las ∧ okA U f.sa f.seen ∧ okA U f.wa f.wts
theorem sli_ns {α : Type} {enc : α → List Value} {t g : Nat} {A : Option Addr} {xs : List α} {U : Nat → Prop} {w w' : World} (hS : Sli t 0 w.heap.size w A (fl enc xs)) (hu : okA U A xs) (hn : ¬ U g) (hw : w.grownBy w' (some g)) : Sli t 0 w'.heap.size w' A (fl enc xs) := by
  rcases hS with h0 | ⟨g', off, c, fr, hA, h1, h2, ⟨t', h3, ht⟩, h4⟩
  · exact .inl h0
  · cases xs with
    | nil => exact .inl rfl
    | cons x r =>
      have hn' := hu (by simp) _ hA
      exact .inr ⟨g', off, c, fr, hA, h1, Nat.lt_of_lt_of_le h2 hw.size, ⟨t', (hw.block g' (Array.getElem?_eq_some_iff.1 h3).1 (fun e => hn ((Option.some.inj e) ▸ hn'))).trans h3, ht⟩, h4⟩
theorem sli_outU {α : Type} {enc : α → List Value} {t : Nat} {A : Option Addr} {xs : List α} {S U : Nat → Prop} {w w' : World} (hS : Sli t 0 w.heap.size w A (fl enc xs)) (hu : okA U A xs) (hn : ∀ k, U k → ¬ S k) (hw : Out S w w') : Sli t 0 w'.heap.size w' A (fl enc xs) := by
  rcases hS with h0 | ⟨g', off, c, fr, hA, h1, h2, ⟨t', h3, ht⟩, h4⟩
  · exact .inl h0
  · cases xs with
    | nil => exact .inl rfl
    | cons x r =>
      have hn' := hn _ (hu (by simp) _ hA)
      exact .inr ⟨g', off, c, fr, hA, h1, Nat.lt_of_lt_of_le h2 hw.size, ⟨t', (hw.block g' (Array.getElem?_eq_some_iff.1 h3).1 hn').trans h3, ht⟩, h4⟩
theorem sli_low {α : Type} {enc : α → List Value} {sz t : Nat} {A : Option Addr} {xs : List α} {U : Nat → Prop} {w : World} (he : Enc enc sz) (hsz : 0 < sz) (hS : Sli t 0 w.heap.size w A (fl enc xs)) (hu : okA U A xs) : okA (fun k => U k ∧ k < w.heap.size) A xs := by
  intro hne a e
  refine ⟨hu hne a e, ?_⟩
  rcases hS with h0 | ⟨g', off, c, fr, hA, h1, h2, _⟩
  · have := congrArg List.length h0
    rw [fl_len he] at this
    cases xs with
    | nil => exact absurd rfl hne
    | cons x r =>
      have h9 : 0 < (x :: r).length * sz := Nat.mul_pos (by simp) hsz
      rw [this] at h9
      exact absurd h9 (by simp)
  · rw [hA] at e
    obtain rfl := Option.some.inj e
    exact h2
def lowU (U : Nat → Prop) (w : World) : Nat → Prop := fun k => U k ∧ k < w.heap.size
theorem RFAt.ns {w w' : World} {f : RF} {U : Nat → Prop} {g : Nat} (h : RFAt w f) (hu : okRF U f) (hn : ¬ U g) (hw : w.grownBy w' (some g)) : RFAt w' f := { h with l := sli_ns h.l hu.1 hn hw, s := sli_ns h.s hu.2.1 hn hw, b := sli_ns h.b hu.2.2 hn hw }
theorem RFAt.outU {w w' : World} {f : RF} {S U : Nat → Prop} (h : RFAt w f) (hu : okRF U f) (hn : ∀ k, U k → ¬ S k) (hw : Out S w w') : RFAt w' f := { h with l := sli_outU h.l hu.1 hn hw, s := sli_outU h.s hu.2.1 hn hw, b := sli_outU h.b hu.2.2 hn hw }
theorem RFAt.low {w : World} {f : RF} {U : Nat → Prop} (h : RFAt w f) (hu : okRF U f) : okRF (lowU U w) f := ⟨sli_low EncX (by decide) h.l hu.1, sli_low EncX (by decide) h.s hu.2.1, sli_low EncO (by decide) h.b hu.2.2⟩
def HasR (fs : List RF) (nm : ByteArray) : Prop := ∃ f ∈ fs, f.nm = nm
instance {fs : List RF} {nm : ByteArray} : Decidable (HasR fs nm) := by unfold HasR; infer_instance
theorem hasR_take {fs : List RF} {nm : ByteArray} {i : Nat} (hi : i < fs.length) (h : ¬ HasR (fs.take i) nm) (hn : ¬ fs[i].nm = nm) : ¬ HasR (fs.take (i + 1)) nm := by
  rintro ⟨f, hf, e⟩
  rw [List.take_succ_eq_append_getElem hi, List.mem_append, List.mem_singleton] at hf
  rcases hf with hf | rfl
  · exact h ⟨f, hf, e⟩
  · exact hn e
theorem hasR_pf {fs : List RF} {nm : ByteArray} : HasP (fs.map RF.pf) nm ↔ HasR fs nm := by
  constructor
  · rintro ⟨f, hf, e⟩
    obtain ⟨x, hx, rfl⟩ := List.mem_map.1 hf
    exact ⟨x, hx, e⟩
  · rintro ⟨f, hf, e⟩
    exact ⟨f.pf, List.mem_map.2 ⟨f, hf, rfl⟩, e⟩
/-- A disk of the reference, and where it lies. -/
structure RK where
  A : Option Addr
  c : Nat
  rs : List RF
  cap : Int
  ops : Int
  dn : Bool
  tl : Bool
  af : Int
def RK.pd (r : RK) : PD := ⟨r.rs.map RF.pf, r.cap, r.ops, if r.tl then r.af else 0, r.dn, r.tl⟩
def RK.cs (r : RK) : List Value := [.slice r.A r.rs.length r.c, .int .i64 r.cap, .int .i64 r.ops, .bool r.dn, .bool r.tl, .int .i64 r.af]
def usedR (fs : List RF) : Nat := (fs.map fun f => f.seen.length).sum
structure RAt (U : Nat → Prop) (w : World) (r : RK) : Prop where
  hS : Sli 92 0 w.heap.size w r.A (fl encRF r.rs)
  hd : DeepRF w r.rs
  hc : r.rs.length ≤ r.c
  hl : r.rs.length ≤ 64
  hu : usedR r.rs ≤ 1048576
  hr : (r.rs.map RF.nm).Pairwise slt
  uA : okA U r.A r.rs
  uf : ∀ f ∈ r.rs, okRF U f
  hcap : 0 ≤ r.cap ∧ r.cap ≤ 1048576
  hop : i64r r.ops
  haf : r.tl = true → 0 ≤ r.af
  haf' : i64r r.af
section
variable {U : Nat → Prop} {w w' : World} {r : RK}
theorem RAt.other {g t : Nat} {cs : List Value} (h : RAt U w r) (hb : Blk w g t cs) (h0 : Nat.beq 92 t = false) (h1 : Nat.beq 81 t = false) (h2 : Nat.beq 4 t = false) (hg : w.grownBy w' (some g)) : RAt U w' r := { h with hS := (h.hS.other hb rfl h0 hg).wide (Nat.le_refl _) hg.size, hd := h.hd.other hb h1 h2 hg }
theorem RAt.ns {g : Nat} (h : RAt U w r) (hn : ¬ U g) (hw : w.grownBy w' (some g)) : RAt U w' r := { h with hS := sli_ns h.hS h.uA hn hw, hd := fun f hf => (h.hd f hf).ns (h.uf f hf) hn hw }
theorem RAt.out {S : Nat → Prop} (h : RAt U w r) (hn : ∀ k, U k → ¬ S k) (hw : Out S w w') : RAt U w' r := { h with hS := sli_outU h.hS h.uA hn hw, hd := fun f hf => (h.hd f hf).outU (h.uf f hf) hn hw }
theorem RAt.low (h : RAt U w r) : RAt (lowU U w) w r := { h with uA := sli_low EncRF (by decide) h.hS h.uA, uf := fun f hf => (h.hd f hf).low (h.uf f hf) }
theorem RAt.gb (h : RAt U w r) (hg : w.grownBy w' none) : RAt U w' r := { h with hS := (h.hS.gb hg).wide (Nat.le_refl _) hg.size, hd := h.hd.gb hg }
theorem usedR_s {fs : List RF} {i : Nat} (h : i < fs.length) : usedR (fs.take (i + 1)) = usedR (fs.take i) + fs[i].seen.length := by
  unfold usedR
  rw [List.take_succ_eq_append_getElem h, List.map_append, List.sum_append]
  simp
theorem usedR_le {fs : List RF} (i : Nat) : usedR (fs.take i) ≤ usedR fs := by
  have e : usedR fs = usedR (fs.take i) + usedR (fs.drop i) := by
    unfold usedR
    rw [← List.sum_append, ← List.map_append, List.take_append_drop]
  omega
theorem usedR_pf {fs : List RF} : usedP (fs.map RF.pf) = usedR fs := by unfold usedP usedR; rw [List.map_map]; rfl
theorem seenR_le {fs : List RF} {f : RF} (h : f ∈ fs) : f.seen.length ≤ usedR fs := by
  unfold usedR
  induction fs with
  | nil => cases h
  | cons x r ih =>
    rw [List.map_cons, List.sum_cons]
    rcases List.mem_cons.1 h with rfl | h
    · omega
    · have := ih h; omega
end
theorem remK_s {fs : List RF} {nm : ByteArray} {i : Nat} (h : i < fs.length) : remK RF.nm nm (fs.take (i + 1)) = remK RF.nm nm (fs.take i) ++ (if fs[i].nm ≠ nm then [fs[i]] else []) := by
  unfold remK
  rw [List.take_succ_eq_append_getElem h, List.filter_append]
  congr 1
  simp only [List.filter_cons, List.filter_nil]
  split <;> simp_all
/-- What 'with' has told so far: the file is put in, or not yet. -/
def insB (f : RF) (ls : List RF) (p : Bool) : List RF := if p then insK RF.nm f ls else ls
theorem insB_len {f : RF} {ls : List RF} {p : Bool} : (insB f ls p).length ≤ ls.length + 1 := by
  unfold insB
  split
  · rw [(insK_perm _).length_eq, List.length_cons]; omega
  · omega
theorem insK_app {f : RF} : ∀ {a b : List RF}, (∀ x ∈ a, ¬ slt f.nm x.nm) → insK RF.nm f (a ++ b) = a ++ insK RF.nm f b
  | [], b, _ => rfl
  | x :: a, b, h => by
    rw [List.cons_append, insK, if_neg (h x (List.mem_cons_self ..)), insK_app fun y hy => h y (List.mem_cons_of_mem _ hy), List.cons_append]
theorem insK_app2 {f : RF} {b : List RF} : ∀ {a : List RF}, (∃ x ∈ a, slt f.nm x.nm) → insK RF.nm f (a ++ b) = insK RF.nm f a ++ b
  | [], h => by obtain ⟨_, h, _⟩ := h; cases h
  | x :: a, h => by
    rw [List.cons_append, insK, insK]
    split
    · rfl
    · rename_i hx
      rw [List.cons_append, insK_app2 (a := a)]
      obtain ⟨y, hy, hs⟩ := h
      rcases List.mem_cons.1 hy with rfl | hy
      · exact absurd hs hx
      · exact ⟨y, hy, hs⟩
theorem rfind {U : Nat → Prop} {w : World} {r : RK} (hR : RAt U w r) {nm : ByteArray} :
    Runs Try.prog 77 #[.agg #[.slice r.A r.rs.length r.c, .int .i64 r.cap, .int .i64 r.ops, .bool r.dn, .bool r.tl, .int .i64 r.af], .string nm] w (fun v w' => w.grownBy w' none ∧ (¬ HasR r.rs nm ∧ v = .int .i64 (-1) ∨ ∃ (i : Nat) (hi : i < r.rs.length), v = .int .i64 (i : Int) ∧ r.rs[i].nm = nm)) := by
  have hB := gb_refl w none
  have hS := hR.hS
  have hd := hR.hd
  have hl_ := hR.hl
  have hu_ := hR.hu
  have hc_ := hR.hc
  refine enterQ Try.func77 Try.ntmps77 rfl rfl ?_
  refine Qco ttFa 2 [] rfl ?_
  refine L_box (cs := [.slice r.A r.rs.length r.c, .int .i64 r.cap, .int .i64 r.ops, .bool r.dn, .bool r.tl, .int .i64 r.af]) rfl rfl rfl ?_
  intro g1 w1 eg1 hb1 hs1 hz1
  have ge1 : w.heap.size ≤ g1 := eg_ge hB eg1
  replace hB := gb_tr hB hs1
  replace hS := hS.gb hs1
  replace hd := hd.gb hs1
  refine Qoc ttFa 10 [] rfl ?_
  refine C_loop (fun m_ a_ w_ => ∃ (σ_ : Nat → Value) (i : Nat), a_ = Ac 22 σ_ [] [(1, .string nm), (2, .pointer (some ⟨g1, 0, none⟩)), (5, .int .i64 (i : Int))] ∧ w.grownBy w_ none ∧ Sli 92 0 w.heap.size w_ r.A (fl encRF r.rs) ∧ DeepRF w_ r.rs ∧ Blk w_ g1 36 [.slice r.A r.rs.length r.c, .int .i64 r.cap, .int .i64 r.ops, .bool r.dn, .bool r.tl, .int .i64 r.af] ∧ (i ≤ r.rs.length) ∧ (¬ HasR (r.rs.take i) nm) ∧ r.rs.length - i = m_) (r.rs.length - 0) ?_ ?_
  · exact ⟨_, 0, Ac_frg ⟨rfl, rfl, (agr rfl (by first | rfl | (congr 1; omega) | (congr 1; simp; done) | (congr 1; simp only [IntKind.wrap_u64, IntKind.wrap_i64, IntKind.wrap_u8]; omega) | (congr 1 <;> omega))), trivial⟩, hB, hS, hd, hb1, (by omega), (by rintro ⟨_, h_, _⟩; cases h_), rfl⟩
  · clear hB
    clear hS hd hb1
    rintro m_ a_ w2 ⟨σ_, i, rfl, hB, hS, hd, hb1, hi_, hno, rfl⟩
    refine Q0c ?_
    refine Qcc ttFa 10 [kb hb1] rfl ?_
    refine C_if rfl (fun h1 => ?_) (fun h1 => ?_)
    · refine Qco ttFa 9 [kb hb1] rfl ?_
      have hlk : i < r.rs.length := by first | omega | (simp; omega)
      refine T_index (xs := r.rs) (i := i) EncRF rfl rfl (by first | rfl | omega) slc34 hlk hS rfl ?_
      intro g2 o1 ha1
      refine Qoo ttFa 1 [] rfl ?_
      refine L_run (R_load1 rfl scl9 (ha1 0 _ rfl)) rfl ?_
      refine Qoc ttFa 4 [] rfl ?_
      refine C_if rfl (fun h2 => ?_) (fun h2 => ?_)
      · refine Qce ttFa 9 [] rfl ?_
        refine Rl ?_
        refine Qee ttFa 2 [] rfl ?_
        refine ret1 Try.results77 rfl ?_
        exact ⟨hB, .inr ⟨i, hlk, rfl, h2⟩⟩
      · refine Qce ttFa 8 [] rfl ?_
        refine Nl ?_
        exact ⟨r.rs.length - (i + 1), by omega, _, (i + 1), Ac_frg ⟨rfl, rfl, (agr rfl (by first | rfl | (congr 1; omega) | (congr 1; simp; done) | (congr 1; simp only [IntKind.wrap_u64, IntKind.wrap_i64, IntKind.wrap_u8]; omega) | (congr 1 <;> omega))), trivial⟩, hB, hS, hd, hb1, (by omega), (hasR_take hlk hno h2), rfl⟩
    · refine Qce ttFa 2 [] rfl ?_
      refine Xl ?_
      refine Qee ttFa 8 [] rfl ?_
      refine ret1 Try.results77 rfl ?_
      rw [List.take_of_length_le (by omega)] at hno; exact ⟨hB, .inl ⟨hno, rfl⟩⟩
theorem rused {U : Nat → Prop} {w : World} {r : RK} (hR : RAt U w r)  :
    Runs Try.prog 45 #[.agg #[.slice r.A r.rs.length r.c, .int .i64 r.cap, .int .i64 r.ops, .bool r.dn, .bool r.tl, .int .i64 r.af]] w (fun v w' => w.grownBy w' none ∧ v = .int .i64 ((usedR r.rs : Nat) : Int)) := by
  have hB := gb_refl w none
  have hS := hR.hS
  have hd := hR.hd
  have hl_ := hR.hl
  have hu_ := hR.hu
  have hc_ := hR.hc
  refine enterQ Try.func45 Try.ntmps45 rfl rfl ?_
  refine Qco ttFa 2 [] rfl ?_
  refine L_box (cs := [.slice r.A r.rs.length r.c, .int .i64 r.cap, .int .i64 r.ops, .bool r.dn, .bool r.tl, .int .i64 r.af]) rfl rfl rfl ?_
  intro g1 w1 eg1 hb1 hs1 hz1
  have ge1 : w.heap.size ≤ g1 := eg_ge hB eg1
  replace hB := gb_tr hB hs1
  replace hS := hS.gb hs1
  replace hd := hd.gb hs1
  refine Qoc ttFa 15 [] rfl ?_
  refine C_loop (fun m_ a_ w_ => ∃ (σ_ : Nat → Value) (i : Nat), a_ = Ac 22 σ_ [] [(1, .pointer (some ⟨g1, 0, none⟩)), (3, .int .i64 ((usedR (r.rs.take i) : Nat) : Int)), (4, .int .i64 (i : Int))] ∧ w.grownBy w_ none ∧ Sli 92 0 w.heap.size w_ r.A (fl encRF r.rs) ∧ DeepRF w_ r.rs ∧ Blk w_ g1 36 [.slice r.A r.rs.length r.c, .int .i64 r.cap, .int .i64 r.ops, .bool r.dn, .bool r.tl, .int .i64 r.af] ∧ (i ≤ r.rs.length) ∧ r.rs.length - i = m_) (r.rs.length - 0) ?_ ?_
  · exact ⟨_, 0, Ac_frg ⟨rfl, (agr rfl (by first | rfl | (congr 1; omega) | (congr 1; simp; done) | (congr 1; simp only [IntKind.wrap_u64, IntKind.wrap_i64, IntKind.wrap_u8]; omega) | (congr 1 <;> omega))), (agr rfl (by first | rfl | (congr 1; omega) | (congr 1; simp; done) | (congr 1; simp only [IntKind.wrap_u64, IntKind.wrap_i64, IntKind.wrap_u8]; omega) | (congr 1 <;> omega))), trivial⟩, hB, hS, hd, hb1, (by omega), rfl⟩
  · clear hB
    clear hS hd hb1
    rintro m_ a_ w2 ⟨σ_, i, rfl, hB, hS, hd, hb1, hi_, rfl⟩
    refine Q0c ?_
    refine Qcc ttFa 10 [kb hb1] rfl ?_
    refine C_if rfl (fun h1 => ?_) (fun h1 => ?_)
    · refine Qco ttFa 9 [kb hb1] rfl ?_
      have hlk : i < r.rs.length := by first | omega | (simp; omega)
      refine T_index (xs := r.rs) (i := i) EncRF rfl rfl (by first | rfl | omega) slc34 hlk hS rfl ?_
      intro g2 o1 ha1
      refine Qoo ttFa 1 [] rfl ?_
      refine L_run (R_load1 rfl scl27 (ha1 2 _ rfl)) rfl ?_
      refine Qoo ttFa 1 [] rfl ?_
      refine L_run (R_add64 rfl rfl (by have h1_ := usedR_le (fs := r.rs) i; have h2_ := usedR_s hlk; have h3_ := usedR_le (fs := r.rs) (i + 1); omega)) rfl ?_
      refine Qoo ttFa 6 [] rfl ?_
      refine L_run (R_add64 rfl rfl (by have h1_ := usedR_le (fs := r.rs) i; have h2_ := usedR_s hlk; have h3_ := usedR_le (fs := r.rs) (i + 1); omega)) rfl ?_
      refine Qoe ttFa 2 [] rfl ?_
      refine Nl ?_
      have hus_ := usedR_s hlk
      exact ⟨r.rs.length - (i + 1), by omega, _, (i + 1), Ac_frg ⟨rfl, (agr rfl (by rw [hus_]; exact congrArg _ (by omega))), (agr rfl (by first | rfl | (congr 1; omega) | (congr 1; simp; done) | (congr 1; simp only [IntKind.wrap_u64, IntKind.wrap_i64, IntKind.wrap_u8]; omega) | (congr 1 <;> omega))), trivial⟩, hB, hS, hd, hb1, (by omega), rfl⟩
    · refine Qce ttFa 2 [] rfl ?_
      refine Xl ?_
      refine Qee ttFa 9 [] rfl ?_
      refine ret1 Try.results45 rfl ?_
      rw [List.take_of_length_le (by omega)]; exact ⟨hB, rfl⟩
end Go.Proofs.Ytoipncaopdmicaa
namespace Go.Proofs.Ytoipncaopdmicaa
open Go.RowKit Gw Pl
set_option linter.unusedVariables false
set_option linter.unusedSimpArgs false
theorem agg36 : aggB Try.prog 36 6 = true := by kernel_rfl
theorem agg92 : aggB Try.prog 92 4 = true := by kernel_rfl
theorem cb80 : callB Try.prog 80 = true := by kernel_rfl
theorem sz34 : szB Try.prog 34 1 = true := by kernel_rfl
theorem sz36 : szB Try.prog 36 6 = true := by kernel_rfl
theorem zer36 : (Try.prog.info? 36).bind (·.zero) = some (.agg #[.slice none 0 0, .int .i64 0, .int .i64 0, .bool false, .bool false, .int .i64 0]) := by kernel_rfl
theorem zer92 : (Try.prog.info? 92).bind (·.zero) = some (.agg #[.string (⟨#[]⟩), .slice none 0 0, .slice none 0 0, .slice none 0 0]) := by kernel_rfl
def tabFb : TT := { fld := [(36, 0, 0), (92, 0, 0)], scl := [9, 34], agg := [(36, 6), (92, 4)], str := [], slc := [(34, 92, 4, 88)], ptr := [], cv := [] }
theorem ttFb : TOk Try.prog tabFb := TT.ok_of (by kernel_rfl)
theorem okA.mono {α : Type} {U U' : Nat → Prop} {A : Option Addr} {xs : List α} (h : okA U A xs) (hu : ∀ k, U k → U' k) : okA U' A xs := fun hn a e => hu _ (h hn a e)
theorem okRF.mono {U U' : Nat → Prop} {f : RF} (h : okRF U f) (hu : ∀ k, U k → U' k) : okRF U' f := ⟨h.1.mono hu, h.2.1.mono hu, h.2.2.mono hu⟩
theorem okA_own {α : Type} {w : World} {lo t sz m c : Nat} {A : Option Addr} {vs : List Value} (xs : List α) (ho : w.ownsRow lo t sz (.slice A m c) m vs) : okA (fun k => lo ≤ k) A xs := by
  rintro _ a rfl
  rcases ho.2 with ⟨e, _⟩ | ⟨g, cap, cur, e, h1, _⟩
  · cases e
  · injection e with e _ _
    injection e with e
    subst e
    exact h1
def upU (U : Nat → Prop) (w : World) : Nat → Prop := fun k => U k ∨ w.heap.size ≤ k
theorem up_l {U : Nat → Prop} {w : World} : ∀ k, U k → upU U w k := fun _ h => .inl h
theorem up_r {U : Nat → Prop} {w : World} : ∀ k, w.heap.size ≤ k → upU U w k := fun _ h => .inr h
theorem DeepRF.sub {w : World} {ls l2 : List RF} (h : DeepRF w ls) (hs : ∀ f ∈ l2, f ∈ ls) : DeepRF w l2 := fun f hf => h f (hs f hf)
theorem rwithout {U : Nat → Prop} {w : World} {r : RK} (hR : RAt U w r) {nm : ByteArray} :
    Runs Try.prog 80 #[.agg #[.slice r.A r.rs.length r.c, .int .i64 r.cap, .int .i64 r.ops, .bool r.dn, .bool r.tl, .int .i64 r.af], .string nm] w (fun v w' => w.grownBy w' none ∧ ∃ A' c', v = .agg #[.slice A' (remK RF.nm nm r.rs).length c', .int .i64 r.cap, .int .i64 r.ops, .bool r.dn, .bool r.tl, .int .i64 r.af] ∧ World.ownsRow w' w.heap.size 92 4 (.slice A' (remK RF.nm nm r.rs).length c') (remK RF.nm nm r.rs).length (fl encRF (remK RF.nm nm r.rs))) := by
  have hB := gb_refl w none
  have hS := hR.hS
  have hd := hR.hd
  have hl_ := hR.hl
  have hu_ := hR.hu
  have hc_ := hR.hc
  refine enterQ Try.func80 Try.ntmps80 rfl rfl ?_
  refine Qco ttFb 2 [] rfl ?_
  refine L_box (cs := [.slice r.A r.rs.length r.c, .int .i64 r.cap, .int .i64 r.ops, .bool r.dn, .bool r.tl, .int .i64 r.af]) rfl rfl rfl ?_
  intro g1 w1 eg1 hb1 hs1 hz1
  have ge1 : w.heap.size ≤ g1 := eg_ge hB eg1
  replace hB := gb_tr hB hs1
  replace hS := hS.gb hs1
  replace hd := hd.gb hs1
  refine L_alloc (cs := [.slice none 0 0, .int .i64 0, .int .i64 0, .bool false, .bool false, .int .i64 0]) zer36 rfl rfl ?_
  intro g2 w2 eg2 hb2 hs2 hz2
  have ge2 : w.heap.size ≤ g2 := eg_ge hB eg2
  have lt1 : g1 < g2 := lt_of_eg hb1.lt eg2
  replace hB := gb_tr hB hs2
  replace hS := hS.gb hs2
  replace hd := hd.gb hs2
  replace hb1 := hb1.gb hs2
  refine Qoc ttFb 14 [] rfl ?_
  refine C_loop (fun m_ a_ w_ => ∃ (σ_ : Nat → Value) (A' : Option Addr) (c' : Nat) (i : Nat), a_ = Ac 33 σ_ [] [(1, .string nm), (2, .pointer (some ⟨g1, 0, none⟩)), (4, .pointer (some ⟨g2, 0, none⟩)), (5, .slice A' ((remK RF.nm nm (r.rs.take i)).length) c'), (6, .int .i64 (i : Int))] ∧ w.grownBy w_ none ∧ Sli 92 0 w.heap.size w_ r.A (fl encRF r.rs) ∧ DeepRF w_ r.rs ∧ Blk w_ g1 36 [.slice r.A r.rs.length r.c, .int .i64 r.cap, .int .i64 r.ops, .bool r.dn, .bool r.tl, .int .i64 r.af] ∧ Blk w_ g2 36 [.slice none 0 0, .int .i64 0, .int .i64 0, .bool false, .bool false, .int .i64 0] ∧ World.ownsRow w_ w.heap.size 92 4 (.slice A' (remK RF.nm nm (r.rs.take i)).length c') (remK RF.nm nm (r.rs.take i)).length (fl encRF (remK RF.nm nm (r.rs.take i))) ∧ (i ≤ r.rs.length) ∧ r.rs.length - i = m_) (r.rs.length - 0) ?_ ?_
  · exact ⟨_, none, 0, 0, Ac_frg ⟨rfl, rfl, rfl, (agr rfl (by first | rfl | (congr 1; omega) | (congr 1; simp; done) | (congr 1; simp only [IntKind.wrap_u64, IntKind.wrap_i64, IntKind.wrap_u8]; omega) | (congr 1 <;> omega))), (agr rfl (by first | rfl | (congr 1; omega) | (congr 1; simp; done) | (congr 1; simp only [IntKind.wrap_u64, IntKind.wrap_i64, IntKind.wrap_u8]; omega) | (congr 1 <;> omega))), trivial⟩, hB, hS, hd, hb1, hb2, (own_nil w.heap.size 92 4 _), (by omega), rfl⟩
  · clear hB
    clear hS hd hb1 hb2
    rintro m_ a_ w3 ⟨σ_, A', c', i, rfl, hB, hS, hd, hb1, hb2, hol, hi_, rfl⟩
    refine Q0c ?_
    refine Qcc ttFb 10 [kb hb1] rfl ?_
    refine C_if rfl (fun h1 => ?_) (fun h1 => ?_)
    · refine Qco ttFb 9 [kb hb1] rfl ?_
      have hlk : i < r.rs.length := by first | omega | (simp; omega)
      refine T_index (xs := r.rs) (i := i) EncRF rfl rfl (by first | rfl | omega) slc34 hlk hS rfl ?_
      intro g3 o1 ha1
      refine Qoo ttFb 1 [] rfl ?_
      refine L_run (R_load1 rfl scl9 (ha1 0 _ rfl)) rfl ?_
      refine Qoc ttFb 4 [] rfl ?_
      refine C_if rfl (fun h2 => ?_) (fun h2 => ?_)
      · refine Qco ttFb 5 [kb hb1] rfl ?_
        have hl2 : i < r.rs.length := by first | omega | (simp; omega)
        refine T_index (xs := r.rs) (i := i) EncRF rfl rfl (by first | rfl | omega) slc34 hl2 hS rfl ?_
        intro g4 o2 ha2
        refine L_run (R_loadA (vs := [.string ((r.rs[i]).nm), .slice ((r.rs[i]).la) ((r.rs[i]).las.length) ((r.rs[i]).lc), .slice ((r.rs[i]).sa) ((r.rs[i]).seen.length) ((r.rs[i]).sc), .slice ((r.rs[i]).wa) ((r.rs[i]).wts.length) ((r.rs[i]).wc)]) rfl agg92 (At.pre ha2 rfl) rfl) rfl ?_
        refine L_buildSlice (pv := [(0, .agg #[.string ((r.rs[i]).nm), .slice ((r.rs[i]).la) ((r.rs[i]).las.length) ((r.rs[i]).lc), .slice ((r.rs[i]).sa) ((r.rs[i]).seen.length) ((r.rs[i]).sc), .slice ((r.rs[i]).wa) ((r.rs[i]).wts.length) ((r.rs[i]).wc)])]) (cs := [.string ((r.rs[i]).nm), .slice ((r.rs[i]).la) ((r.rs[i]).las.length) ((r.rs[i]).lc), .slice ((r.rs[i]).sa) ((r.rs[i]).seen.length) ((r.rs[i]).sc), .slice ((r.rs[i]).wa) ((r.rs[i]).wts.length) ((r.rs[i]).wc)]) slc34 zer92 rfl rfl (by kernel_rfl) rfl ?_
        intro g5 w4 eg3 hb3 hs3 hz3
        have ge3 : w.heap.size ≤ g5 := eg_ge hB eg3
        have lt2 : g1 < g5 := lt_of_eg hb1.lt eg3
        have lt3 : g2 < g5 := lt_of_eg hb2.lt eg3
        have hap1 : ∀ k_, (Value.slice A' (remK RF.nm nm (r.rs.take i)).length c').ownBlock = some k_ → k_ ≠ g5 := fun k_ hk => by have h_ := (World.ownsRow.lt hol k_ hk).2; omega
        replace hB := gb_tr hB hs3
        replace hS := hS.gb hs3
        replace hd := hd.gb hs3
        replace hb1 := hb1.gb hs3
        replace hb2 := hb2.gb hs3
        replace hol := own_gb hol hs3
        replace ha1 := At.gb ha1 hs3 (by simp)
        replace ha2 := At.gb ha2 hs3 (by simp)
        refine T_append (xs := (remK RF.nm nm (r.rs.take i))) (ys := [(r.rs[i])]) EncRF slc34 rfl rfl hol (Blk.sli (m := 0) hb3) (by have h_ : (remK RF.nm nm (r.rs.take i)).length ≤ (r.rs.take i).length := List.length_filter_le .. ; rw [List.length_take] at h_; simp; omega) (by have := hB.size; omega) rfl ?_
        intro A_1 c_1 w5 ho1 hs4 hat1
        replace hB := gb_tro hB hol hs4 (Nat.le_refl _)
        replace hS := hS.grown hs4 (fun k hk => .inr (Nat.le_trans (Nat.le_refl _) (World.ownsRow.lt hol k hk).1))
        replace hd := hd.otherO hol rfl rfl hs4
        replace hb1 := blk_own hb1 hol rfl hs4
        replace hb2 := blk_own hb2 hol rfl hs4
        refine Qoe ttFb 9 [] rfl ?_
        refine Nl ?_
        have hre_ := remK_s (nm := nm) hlk
        rw [if_pos h2] at hre_
        rw [← hre_] at ho1 ⊢
        exact ⟨r.rs.length - (i + 1), by omega, _, A_1, c_1, (i + 1), Ac_frg ⟨rfl, rfl, rfl, rfl, (agr rfl (by first | rfl | (congr 1; omega) | (congr 1; simp; done) | (congr 1; simp only [IntKind.wrap_u64, IntKind.wrap_i64, IntKind.wrap_u8]; omega) | (congr 1 <;> omega))), trivial⟩, hB, hS, hd, hb1, hb2, (own_lo ho1 (Nat.le_refl _)), (by omega), rfl⟩
      · refine Qce ttFb 8 [] rfl ?_
        refine Nl ?_
        have hre_ := remK_s (nm := nm) hlk
        rw [if_neg h2, List.append_nil] at hre_
        rw [← hre_] at hol ⊢
        exact ⟨r.rs.length - (i + 1), by omega, _, A', c', (i + 1), Ac_frg ⟨rfl, rfl, rfl, rfl, (agr rfl (by first | rfl | (congr 1; omega) | (congr 1; simp; done) | (congr 1; simp only [IntKind.wrap_u64, IntKind.wrap_i64, IntKind.wrap_u8]; omega) | (congr 1 <;> omega))), trivial⟩, hB, hS, hd, hb1, hb2, (own_lo hol (Nat.le_refl _)), (by omega), rfl⟩
    · refine Qce ttFb 2 [] rfl ?_
      refine Xl ?_
      refine Qeo ttFb 6 [] rfl ?_
      refine L_st1 rfl rfl rfl sz34 hb1 rfl ?_
      intro w6 hb4 hs5 hz4
      replace hB := gb_trg hB hs5 ge1
      replace hS := hS.other hb1 rfl rfl hs5
      replace hd := hd.other hb1 rfl rfl hs5
      replace hb2 := hb2.grown hs5 (ne_gt lt1)
      replace hol := own_other hol hb1 rfl hs5
      refine Qoo ttFb 5 [kb hb4] rfl ?_
      refine L_stA (vs := [.slice A' ((remK RF.nm nm (r.rs.take i)).length) c', .int .i64 r.cap, .int .i64 r.ops, .bool r.dn, .bool r.tl, .int .i64 r.af]) rfl rfl rfl sz36 rfl hb2 rfl ?_
      intro w7 hb5 hs6 hz5
      replace hB := gb_trg hB hs6 ge2
      replace hS := hS.other hb2 rfl rfl hs6
      replace hd := hd.other hb2 rfl rfl hs6
      replace hb4 := hb4.grown hs6 (ne_lt lt1)
      replace hol := own_other hol hb2 rfl hs6
      refine Qoe ttFb 3 [] rfl ?_
      refine retC (vs := [.slice A' ((remK RF.nm nm (r.rs.take i)).length) c', .int .i64 r.cap, .int .i64 r.ops, .bool r.dn, .bool r.tl, .int .i64 r.af]) Try.results80 rfl agg36 (At.pre (hb5.at_ 0) rfl) rfl  ?_
      rw [List.take_of_length_le (by omega)] at hol ⊢
      exact ⟨hB, _, _, rfl, (own_lo hol (Nat.le_refl _))⟩
theorem rwith {U : Nat → Prop} {w : World} {r : RK} (hR : RAt U w r) {f : RF} :
    Runs Try.prog 44 #[.agg #[.slice r.A r.rs.length r.c, .int .i64 r.cap, .int .i64 r.ops, .bool r.dn, .bool r.tl, .int .i64 r.af], .agg #[.string f.nm, .slice f.la f.las.length f.lc, .slice f.sa f.seen.length f.sc, .slice f.wa f.wts.length f.wc]] w (fun v w' => w.grownBy w' none ∧ ∃ A' c', v = .agg #[.slice A' (insK RF.nm f (remK RF.nm f.nm r.rs)).length c', .int .i64 r.cap, .int .i64 r.ops, .bool r.dn, .bool r.tl, .int .i64 r.af] ∧ World.ownsRow w' w.heap.size 92 4 (.slice A' (insK RF.nm f (remK RF.nm f.nm r.rs)).length c') (insK RF.nm f (remK RF.nm f.nm r.rs)).length (fl encRF (insK RF.nm f (remK RF.nm f.nm r.rs)))) := by
  have hB := gb_refl w none
  have hS := hR.hS
  have hd := hR.hd
  have hl_ := hR.hl
  have hu_ := hR.hu
  have hc_ := hR.hc
  refine enterQ Try.func44 Try.ntmps44 rfl rfl ?_
  refine Qco ttFb 2 [] rfl ?_
  refine L_box (cs := [.slice r.A r.rs.length r.c, .int .i64 r.cap, .int .i64 r.ops, .bool r.dn, .bool r.tl, .int .i64 r.af]) rfl rfl rfl ?_
  intro g1 w1 eg1 hb1 hs1 hz1
  have ge1 : w.heap.size ≤ g1 := eg_ge hB eg1
  replace hB := gb_tr hB hs1
  replace hS := hS.gb hs1
  replace hd := hd.gb hs1
  refine L_box (cs := [.string f.nm, .slice f.la f.las.length f.lc, .slice f.sa f.seen.length f.sc, .slice f.wa f.wts.length f.wc]) rfl rfl rfl ?_
  intro g2 w2 eg2 hb2 hs2 hz2
  have ge2 : w.heap.size ≤ g2 := eg_ge hB eg2
  have lt1 : g1 < g2 := lt_of_eg hb1.lt eg2
  replace hB := gb_tr hB hs2
  replace hS := hS.gb hs2
  replace hd := hd.gb hs2
  replace hb1 := hb1.gb hs2
  refine L_alloc (cs := [.slice none 0 0, .int .i64 0, .int .i64 0, .bool false, .bool false, .int .i64 0]) zer36 rfl rfl ?_
  intro g3 w3 eg3 hb3 hs3 hz3
  have ge3 : w.heap.size ≤ g3 := eg_ge hB eg3
  have lt2 : g1 < g3 := lt_of_eg hb1.lt eg3
  have lt3 : g2 < g3 := lt_of_eg hb2.lt eg3
  replace hB := gb_tr hB hs3
  replace hS := hS.gb hs3
  replace hd := hd.gb hs3
  replace hb1 := hb1.gb hs3
  replace hb2 := hb2.gb hs3
  refine Qoo ttFb 7 [kb hb1, kb hb2] rfl ?_
  have hRc := hR.gb hB
  have ge4 : w.heap.size ≤ w3.heap.size := hB.size
  refine L_call rfl cb80 (rwithout (nm := f.nm) (hRc)) rfl ?_
  rintro _ w4 ⟨hs4, A_1, c_1, rfl, ho1⟩
  replace hB := gb_tr hB hs4
  replace hS := hS.gb hs4
  replace hd := hd.gb hs4
  replace hb1 := hb1.gb hs4
  replace hb2 := hb2.gb hs4
  replace hb3 := hb3.gb hs4
  have hlo1 : w3.heap.size ≤ w4.heap.size := hs4.size
  refine L_stA (vs := [.slice A_1 ((remK RF.nm f.nm r.rs).length) c_1, .int .i64 r.cap, .int .i64 r.ops, .bool r.dn, .bool r.tl, .int .i64 r.af]) rfl rfl rfl sz36 rfl hb1 rfl ?_
  intro w5 hb4 hs5 hz4
  replace hB := gb_trg hB hs5 ge1
  replace hS := hS.other hb1 rfl rfl hs5
  replace hd := hd.other hb1 rfl rfl hs5
  replace hb2 := hb2.grown hs5 (ne_gt lt1)
  replace hb3 := hb3.grown hs5 (ne_gt lt2)
  replace ho1 := own_other ho1 hb1 rfl hs5
  replace hlo1 := Nat.le_trans hlo1 hs5.size
  refine Qoc ttFb 19 [] rfl ?_
  have hSx1 : Sli 92 0 w5.heap.size w5 A_1 (fl encRF (remK RF.nm f.nm r.rs)) := sli_bare ho1
  have hcx_ := (own_of ho1).1
  have hgx_ : w.heap.size ≤ w5.heap.size := hB.size
  have hxl_ : (remK RF.nm f.nm r.rs).length ≤ r.rs.length := List.length_filter_le ..
  have hlz1 : w5.heap.size ≤ w5.heap.size := Nat.le_refl _
  have hblt1 := hb4.lt
  have hblt2 := hb2.lt
  have hblt3 := hb3.lt
  refine C_loop (fun m_ a_ w_ => ∃ (σ_ : Nat → Value) (A' : Option Addr) (c' : Nat) (p : Bool) (i : Nat), a_ = Ac 53 σ_ [] [(2, .pointer (some ⟨g1, 0, none⟩)), (3, .pointer (some ⟨g2, 0, none⟩)), (4, .pointer (some ⟨g3, 0, none⟩)), (5, .slice A' ((insB f ((remK RF.nm f.nm r.rs).take i) p).length) c'), (6, .bool p), (7, .int .i64 (i : Int))] ∧ w.grownBy w_ none ∧ Sli 92 0 w.heap.size w_ r.A (fl encRF r.rs) ∧ DeepRF w_ r.rs ∧ Blk w_ g1 36 [.slice A_1 ((remK RF.nm f.nm r.rs).length) c_1, .int .i64 r.cap, .int .i64 r.ops, .bool r.dn, .bool r.tl, .int .i64 r.af] ∧ Blk w_ g2 92 [.string f.nm, .slice f.la f.las.length f.lc, .slice f.sa f.seen.length f.sc, .slice f.wa f.wts.length f.wc] ∧ Blk w_ g3 36 [.slice none 0 0, .int .i64 0, .int .i64 0, .bool false, .bool false, .int .i64 0] ∧ w3.heap.size ≤ w_.heap.size ∧ w5.heap.size ≤ w_.heap.size ∧ Sli 92 0 w5.heap.size w_ A_1 (fl encRF (remK RF.nm f.nm r.rs)) ∧ World.ownsRow w_ w5.heap.size 92 4 (.slice A' (insB f ((remK RF.nm f.nm r.rs).take i) p).length c') (insB f ((remK RF.nm f.nm r.rs).take i) p).length (fl encRF (insB f ((remK RF.nm f.nm r.rs).take i) p)) ∧ (i ≤ (remK RF.nm f.nm r.rs).length) ∧ (p = true → ∃ x ∈ (remK RF.nm f.nm r.rs).take i, slt f.nm x.nm) ∧ (p = false → ∀ x ∈ (remK RF.nm f.nm r.rs).take i, ¬ slt f.nm x.nm) ∧ (remK RF.nm f.nm r.rs).length - i = m_) ((remK RF.nm f.nm r.rs).length - 0) ?_ ?_
  · exact ⟨_, none, 0, false, 0, Ac_frg ⟨rfl, rfl, rfl, (agr rfl (by first | rfl | (congr 1; omega) | (congr 1; simp; done) | (congr 1; simp only [IntKind.wrap_u64, IntKind.wrap_i64, IntKind.wrap_u8]; omega) | (congr 1 <;> omega))), rfl, (agr rfl (by first | rfl | (congr 1; omega) | (congr 1; simp; done) | (congr 1; simp only [IntKind.wrap_u64, IntKind.wrap_i64, IntKind.wrap_u8]; omega) | (congr 1 <;> omega))), trivial⟩, hB, hS, hd, hb4, hb2, hb3, hlo1, hlz1, hSx1, (own_nil w5.heap.size 92 4 _), (by omega), (fun h_ => by cases h_), (fun _ x hx => by cases hx), rfl⟩
  · clear hB
    clear hS hd hb4 hb2 hb3 hlo1 hlz1 hSx1
    rintro m_ a_ w6 ⟨σ_, A', c', p, i, rfl, hB, hS, hd, hb4, hb2, hb3, hlo1, hlz1, hSx1, hol, hi_, hpt, hpf, rfl⟩
    refine Q0c ?_
    refine Qcc ttFb 10 [kb hb4] rfl ?_
    refine C_if rfl (fun h1 => ?_) (fun h1 => ?_)
    · refine Qcc ttFb 6 [] rfl ?_
      refine C_draw2 rfl mix ?_
      intro w7 hs6 hz5
      replace hB := gb_tr hB hs6
      replace hS := hS.gb hs6
      replace hd := hd.gb hs6
      replace hb4 := hb4.gb hs6
      replace hb2 := hb2.gb hs6
      replace hb3 := hb3.gb hs6
      replace hlo1 := Nat.le_trans hlo1 hs6.size
      replace hlz1 := Nat.le_trans hlz1 hs6.size
      replace hSx1 := hSx1.gb hs6
      replace hol := own_gb hol hs6
      have hlk : i < (remK RF.nm f.nm r.rs).length := by first | omega | (simp; omega)
      obtain ⟨g4, o1, r1, eA1, er1, ha1⟩ := Sli.place' (xs := (remK RF.nm f.nm r.rs)) (i := i) EncRF hSx1 hlk rfl
      refine ⟨fun W_ => Blk W_ g1 36 [.slice A_1 ((remK RF.nm f.nm r.rs).length) c_1, .int .i64 r.cap, .int .i64 r.ops, .bool r.dn, .bool r.tl, .int .i64 r.af] ∧ Blk W_ g2 92 [.string f.nm, .slice f.la f.las.length f.lc, .slice f.sa f.seen.length f.sc, .slice f.wa f.wts.length f.wc] ∧ At W_ g4 r1 [.string (((remK RF.nm f.nm r.rs)[i]).nm), .slice (((remK RF.nm f.nm r.rs)[i]).la) (((remK RF.nm f.nm r.rs)[i]).las.length) (((remK RF.nm f.nm r.rs)[i]).lc), .slice (((remK RF.nm f.nm r.rs)[i]).sa) (((remK RF.nm f.nm r.rs)[i]).seen.length) (((remK RF.nm f.nm r.rs)[i]).sc), .slice (((remK RF.nm f.nm r.rs)[i]).wa) (((remK RF.nm f.nm r.rs)[i]).wts.length) (((remK RF.nm f.nm r.rs)[i]).wc)] ∧ True, [0, 1, 2, 3, 4, 5, 6, 7, 8, 9, 10, 11, 12], ?_⟩
      refine Tqs ttFb 12 [0] [] (fun _ _ => trivial) ⟨hb4, hb2, ha1, trivial⟩ rfl ?_
      refine T_takeA (i := 1) rfl (by kernel_rfl) (by kernel_rfl) (by kernel_rfl) (by kernel_rfl) (Y_of (fun _ ⟨hb4, hb2, ha1, _⟩ => R_not rfl)) ⟨hb4, hb2, ha1, trivial⟩ rfl ?_
      refine Tqs ttFb 10 [2] [] (fun _ _ => trivial) ⟨hb4, hb2, ha1, trivial⟩ rfl ?_
      by_cases h2 : (!p) = true
      · refine T_takeA (i := 3) rfl (by kernel_rfl) (by kernel_rfl) (by kernel_rfl) (by kernel_rfl) (Y_yes rfl rfl rfl h2 (fun _ ⟨hb4, hb2, ha1, _⟩ => R_field (r := 0) rfl fld36_0 rfl)) ⟨hb4, hb2, ha1, trivial⟩ rfl ?_
        refine T_takeA (i := 4) rfl (by kernel_rfl) (by kernel_rfl) (by kernel_rfl) (by kernel_rfl) (Y_yes rfl rfl rfl h2 (fun _ ⟨hb4, hb2, ha1, _⟩ => R_load1 rfl scl34 (hb4.cell (i := 0) rfl))) ⟨hb4, hb2, ha1, trivial⟩ rfl ?_
        refine T_takeA (i := 5) rfl (by kernel_rfl) (by kernel_rfl) (by kernel_rfl) (by kernel_rfl) (Y_yes rfl rfl rfl h2 (fun _ ⟨hb4, hb2, ha1, _⟩ => R_move rfl)) ⟨hb4, hb2, ha1, trivial⟩ rfl ?_
        refine T_takeA (i := 6) rfl (by kernel_rfl) (by kernel_rfl) (by kernel_rfl) (by kernel_rfl) (Y_yes rfl rfl rfl h2 (fun _ ⟨hb4, hb2, ha1, _⟩ => R_indexE rfl rfl (by first | rfl | omega) slc34 hlk eA1 er1)) ⟨hb4, hb2, ha1, trivial⟩ rfl ?_
        refine T_takeA (i := 7) rfl (by kernel_rfl) (by kernel_rfl) (by kernel_rfl) (by kernel_rfl) (Y_yes rfl rfl rfl h2 (fun _ ⟨hb4, hb2, ha1, _⟩ => R_field rfl fld92_0 rfl)) ⟨hb4, hb2, ha1, trivial⟩ rfl ?_
        refine T_takeA (i := 8) rfl (by kernel_rfl) (by kernel_rfl) (by kernel_rfl) (by kernel_rfl) (Y_yes rfl rfl rfl h2 (fun _ ⟨hb4, hb2, ha1, _⟩ => R_load1 rfl scl9 (ha1 0 _ rfl))) ⟨hb4, hb2, ha1, trivial⟩ rfl ?_
        refine T_takeA (i := 9) rfl (by kernel_rfl) (by kernel_rfl) (by kernel_rfl) (by kernel_rfl) (Y_yes rfl rfl rfl h2 (fun _ ⟨hb4, hb2, ha1, _⟩ => R_field (r := 0) rfl fld92_0 rfl)) ⟨hb4, hb2, ha1, trivial⟩ rfl ?_
        refine T_takeA (i := 10) rfl (by kernel_rfl) (by kernel_rfl) (by kernel_rfl) (by kernel_rfl) (Y_yes rfl rfl rfl h2 (fun _ ⟨hb4, hb2, ha1, _⟩ => R_load1 rfl scl9 (hb2.cell (i := 0) rfl))) ⟨hb4, hb2, ha1, trivial⟩ rfl ?_
        refine T_takeA (i := 11) rfl (by kernel_rfl) (by kernel_rfl) (by kernel_rfl) (by kernel_rfl) (Y_yes rfl rfl rfl h2 (fun _ ⟨hb4, hb2, ha1, _⟩ => R_gtrS rfl rfl)) ⟨hb4, hb2, ha1, trivial⟩ rfl ?_
        refine T_takeA (i := 12) rfl (by kernel_rfl) (by kernel_rfl) (by kernel_rfl) (by kernel_rfl) (Y_of (fun _ ⟨hb4, hb2, ha1, _⟩ => R_pickT rfl h2 rfl)) ⟨hb4, hb2, ha1, trivial⟩ rfl ?_
        refine T_done (by kernel_rfl) (CalmE.normal ?_)
        refine Qec ttFb 1 [] rfl ?_
        refine C_if rfl (fun h3 => ?_) (fun h3 => ?_)
        · refine Qco ttFb 4 [kb hb2] rfl ?_
          refine L_buildSlice (pv := [(0, .agg #[.string f.nm, .slice f.la f.las.length f.lc, .slice f.sa f.seen.length f.sc, .slice f.wa f.wts.length f.wc])]) (cs := [.string f.nm, .slice f.la f.las.length f.lc, .slice f.sa f.seen.length f.sc, .slice f.wa f.wts.length f.wc]) slc34 zer92 rfl rfl (by kernel_rfl) rfl ?_
          intro g5 w8 eg4 hb5 hs7 hz6
          have ge5 : w.heap.size ≤ g5 := eg_ge hB eg4
          have lt4 : g1 < g5 := lt_of_eg hb4.lt eg4
          have lt5 : g2 < g5 := lt_of_eg hb2.lt eg4
          have lt6 : g3 < g5 := lt_of_eg hb3.lt eg4
          have hap1 : ∀ k_, (Value.slice A' (insB f ((remK RF.nm f.nm r.rs).take i) p).length c').ownBlock = some k_ → k_ ≠ g5 := fun k_ hk => by have h_ := (World.ownsRow.lt hol k_ hk).2; omega
          replace hB := gb_tr hB hs7
          replace hS := hS.gb hs7
          replace hd := hd.gb hs7
          replace hb4 := hb4.gb hs7
          replace hb2 := hb2.gb hs7
          replace hb3 := hb3.gb hs7
          replace hlo1 := Nat.le_trans hlo1 hs7.size
          replace hlz1 := Nat.le_trans hlz1 hs7.size
          replace hSx1 := hSx1.gb hs7
          replace hol := own_gb hol hs7
          replace ha1 := At.gb ha1 hs7 (by simp)
          refine T_append (xs := (insB f ((remK RF.nm f.nm r.rs).take i) p)) (ys := [f]) EncRF slc34 rfl rfl hol (Blk.sli (m := 0) hb5) (by have h_ := insB_len (f := f) (ls := (remK RF.nm f.nm r.rs).take i) (p := p); rw [List.length_take] at h_; simp only [List.length_append, List.length_singleton, List.length_cons, List.length_nil]; omega) hlz1 rfl ?_
          intro A_2 c_2 w9 ho2 hs8 hat1
          replace hB := gb_tro hB hol hs8 hgx_
          replace hS := hS.grown hs8 (fun k hk => .inr (Nat.le_trans hgx_ (World.ownsRow.lt hol k hk).1))
          replace hd := hd.otherO hol rfl rfl hs8
          replace hb4 := blk_own hb4 hol rfl hs8
          replace hb2 := blk_low hb2 hol (by omega) hs8
          replace hb3 := blk_own hb3 hol rfl hs8
          replace hlo1 := Nat.le_trans hlo1 hs8.size
          replace hlz1 := Nat.le_trans hlz1 hs8.size
          replace hSx1 := hSx1.grown hs8 (fun k hk => .inr (World.ownsRow.lt hol k hk).1)
          refine Qoo ttFb 12 [kb hb4] rfl ?_
          have hl2 : i < (remK RF.nm f.nm r.rs).length := by first | omega | (simp; omega)
          refine T_index (xs := (remK RF.nm f.nm r.rs)) (i := i) EncRF rfl rfl (by first | rfl | omega) slc34 hl2 hSx1 rfl ?_
          intro g6 o2 ha2
          refine L_run (R_loadA (vs := [.string (((remK RF.nm f.nm r.rs)[i]).nm), .slice (((remK RF.nm f.nm r.rs)[i]).la) (((remK RF.nm f.nm r.rs)[i]).las.length) (((remK RF.nm f.nm r.rs)[i]).lc), .slice (((remK RF.nm f.nm r.rs)[i]).sa) (((remK RF.nm f.nm r.rs)[i]).seen.length) (((remK RF.nm f.nm r.rs)[i]).sc), .slice (((remK RF.nm f.nm r.rs)[i]).wa) (((remK RF.nm f.nm r.rs)[i]).wts.length) (((remK RF.nm f.nm r.rs)[i]).wc)]) rfl agg92 (At.pre ha2 rfl) rfl) rfl ?_
          refine L_buildSlice (pv := [(0, .agg #[.string (((remK RF.nm f.nm r.rs)[i]).nm), .slice (((remK RF.nm f.nm r.rs)[i]).la) (((remK RF.nm f.nm r.rs)[i]).las.length) (((remK RF.nm f.nm r.rs)[i]).lc), .slice (((remK RF.nm f.nm r.rs)[i]).sa) (((remK RF.nm f.nm r.rs)[i]).seen.length) (((remK RF.nm f.nm r.rs)[i]).sc), .slice (((remK RF.nm f.nm r.rs)[i]).wa) (((remK RF.nm f.nm r.rs)[i]).wts.length) (((remK RF.nm f.nm r.rs)[i]).wc)])]) (cs := [.string (((remK RF.nm f.nm r.rs)[i]).nm), .slice (((remK RF.nm f.nm r.rs)[i]).la) (((remK RF.nm f.nm r.rs)[i]).las.length) (((remK RF.nm f.nm r.rs)[i]).lc), .slice (((remK RF.nm f.nm r.rs)[i]).sa) (((remK RF.nm f.nm r.rs)[i]).seen.length) (((remK RF.nm f.nm r.rs)[i]).sc), .slice (((remK RF.nm f.nm r.rs)[i]).wa) (((remK RF.nm f.nm r.rs)[i]).wts.length) (((remK RF.nm f.nm r.rs)[i]).wc)]) slc34 zer92 rfl rfl (by kernel_rfl) rfl ?_
          intro g7 w10 eg5 hb6 hs9 hz7
          have ge6 : w.heap.size ≤ g7 := eg_ge hB eg5
          have lt7 : g1 < g7 := lt_of_eg hb4.lt eg5
          have lt8 : g2 < g7 := lt_of_eg hb2.lt eg5
          have lt9 : g3 < g7 := lt_of_eg hb3.lt eg5
          have hap2 : ∀ k_, (Value.slice A_2 ((insB f ((remK RF.nm f.nm r.rs).take i) p) ++ ([f])).length c_2).ownBlock = some k_ → k_ ≠ g7 := fun k_ hk => by have h_ := (World.ownsRow.lt ho2 k_ hk).2; omega
          replace hB := gb_tr hB hs9
          replace hS := hS.gb hs9
          replace hd := hd.gb hs9
          replace hb4 := hb4.gb hs9
          replace hb2 := hb2.gb hs9
          replace hb3 := hb3.gb hs9
          replace hlo1 := Nat.le_trans hlo1 hs9.size
          replace hlz1 := Nat.le_trans hlz1 hs9.size
          replace hSx1 := hSx1.gb hs9
          replace ho2 := own_gb ho2 hs9
          replace ha2 := At.gb ha2 hs9 (by simp)
          refine T_append (xs := (insB f ((remK RF.nm f.nm r.rs).take i) p) ++ ([f])) (ys := [((remK RF.nm f.nm r.rs)[i])]) EncRF slc34 rfl rfl ho2 (Blk.sli (m := 0) hb6) (by have h_ := insB_len (f := f) (ls := (remK RF.nm f.nm r.rs).take i) (p := p); rw [List.length_take] at h_; simp only [List.length_append, List.length_singleton, List.length_cons, List.length_nil]; omega) hlz1 rfl ?_
          intro A_3 c_3 w11 ho3 hs10 hat2
          replace hB := gb_tro hB ho2 hs10 hgx_
          replace hS := hS.grown hs10 (fun k hk => .inr (Nat.le_trans hgx_ (World.ownsRow.lt ho2 k hk).1))
          replace hd := hd.otherO ho2 rfl rfl hs10
          replace hb4 := blk_own hb4 ho2 rfl hs10
          replace hb2 := blk_low hb2 ho2 (by omega) hs10
          replace hb3 := blk_own hb3 ho2 rfl hs10
          replace hlo1 := Nat.le_trans hlo1 hs10.size
          replace hlz1 := Nat.le_trans hlz1 hs10.size
          replace hSx1 := hSx1.grown hs10 (fun k hk => .inr (World.ownsRow.lt ho2 k hk).1)
          refine Qoe ttFb 9 [] rfl ?_
          refine Nl ?_
          have hts_ := List.take_succ_eq_append_getElem hlk
          have hre_ : insB f ((remK RF.nm f.nm r.rs).take (i + 1)) true = ((insB f ((remK RF.nm f.nm r.rs).take i) p) ++ ([f])) ++ ([((remK RF.nm f.nm r.rs)[i])]) := by obtain rfl : p = false := (by simpa using h2); rw [hts_]; show insK RF.nm f _ = _; rw [insK_app (hpf rfl), insK, if_pos h3]; simp [insB]
          rw [← hre_] at ho3 ⊢
          exact ⟨(remK RF.nm f.nm r.rs).length - (i + 1), by omega, _, A_3, c_3, true, (i + 1), Ac_frg ⟨rfl, rfl, rfl, rfl, rfl, (agr rfl (by first | rfl | (congr 1; omega) | (congr 1; simp; done) | (congr 1; simp only [IntKind.wrap_u64, IntKind.wrap_i64, IntKind.wrap_u8]; omega) | (congr 1 <;> omega))), trivial⟩, hB, hS, hd, hb4, hb2, hb3, hlo1, hlz1, hSx1, ho3, (by omega), (fun _ => ⟨_, by rw [hts_]; exact List.mem_append_right _ (List.mem_singleton_self _), h3⟩), (fun h_ => by cases h_), rfl⟩
        · refine Qco ttFb 7 [kb hb4] rfl ?_
          have hl3 : i < (remK RF.nm f.nm r.rs).length := by first | omega | (simp; omega)
          refine T_index (xs := (remK RF.nm f.nm r.rs)) (i := i) EncRF rfl rfl (by first | rfl | omega) slc34 hl3 hSx1 rfl ?_
          intro g8 o3 ha3
          refine L_run (R_loadA (vs := [.string (((remK RF.nm f.nm r.rs)[i]).nm), .slice (((remK RF.nm f.nm r.rs)[i]).la) (((remK RF.nm f.nm r.rs)[i]).las.length) (((remK RF.nm f.nm r.rs)[i]).lc), .slice (((remK RF.nm f.nm r.rs)[i]).sa) (((remK RF.nm f.nm r.rs)[i]).seen.length) (((remK RF.nm f.nm r.rs)[i]).sc), .slice (((remK RF.nm f.nm r.rs)[i]).wa) (((remK RF.nm f.nm r.rs)[i]).wts.length) (((remK RF.nm f.nm r.rs)[i]).wc)]) rfl agg92 (At.pre ha3 rfl) rfl) rfl ?_
          refine L_buildSlice (pv := [(0, .agg #[.string (((remK RF.nm f.nm r.rs)[i]).nm), .slice (((remK RF.nm f.nm r.rs)[i]).la) (((remK RF.nm f.nm r.rs)[i]).las.length) (((remK RF.nm f.nm r.rs)[i]).lc), .slice (((remK RF.nm f.nm r.rs)[i]).sa) (((remK RF.nm f.nm r.rs)[i]).seen.length) (((remK RF.nm f.nm r.rs)[i]).sc), .slice (((remK RF.nm f.nm r.rs)[i]).wa) (((remK RF.nm f.nm r.rs)[i]).wts.length) (((remK RF.nm f.nm r.rs)[i]).wc)])]) (cs := [.string (((remK RF.nm f.nm r.rs)[i]).nm), .slice (((remK RF.nm f.nm r.rs)[i]).la) (((remK RF.nm f.nm r.rs)[i]).las.length) (((remK RF.nm f.nm r.rs)[i]).lc), .slice (((remK RF.nm f.nm r.rs)[i]).sa) (((remK RF.nm f.nm r.rs)[i]).seen.length) (((remK RF.nm f.nm r.rs)[i]).sc), .slice (((remK RF.nm f.nm r.rs)[i]).wa) (((remK RF.nm f.nm r.rs)[i]).wts.length) (((remK RF.nm f.nm r.rs)[i]).wc)]) slc34 zer92 rfl rfl (by kernel_rfl) rfl ?_
          intro g9 w12 eg6 hb7 hs11 hz8
          have ge7 : w.heap.size ≤ g9 := eg_ge hB eg6
          have lt10 : g1 < g9 := lt_of_eg hb4.lt eg6
          have lt11 : g2 < g9 := lt_of_eg hb2.lt eg6
          have lt12 : g3 < g9 := lt_of_eg hb3.lt eg6
          have hap3 : ∀ k_, (Value.slice A' (insB f ((remK RF.nm f.nm r.rs).take i) p).length c').ownBlock = some k_ → k_ ≠ g9 := fun k_ hk => by have h_ := (World.ownsRow.lt hol k_ hk).2; omega
          replace hB := gb_tr hB hs11
          replace hS := hS.gb hs11
          replace hd := hd.gb hs11
          replace hb4 := hb4.gb hs11
          replace hb2 := hb2.gb hs11
          replace hb3 := hb3.gb hs11
          replace hlo1 := Nat.le_trans hlo1 hs11.size
          replace hlz1 := Nat.le_trans hlz1 hs11.size
          replace hSx1 := hSx1.gb hs11
          replace hol := own_gb hol hs11
          replace ha1 := At.gb ha1 hs11 (by simp)
          replace ha3 := At.gb ha3 hs11 (by simp)
          refine T_append (xs := (insB f ((remK RF.nm f.nm r.rs).take i) p)) (ys := [((remK RF.nm f.nm r.rs)[i])]) EncRF slc34 rfl rfl hol (Blk.sli (m := 0) hb7) (by have h_ := insB_len (f := f) (ls := (remK RF.nm f.nm r.rs).take i) (p := p); rw [List.length_take] at h_; simp only [List.length_append, List.length_singleton, List.length_cons, List.length_nil]; omega) hlz1 rfl ?_
          intro A_4 c_4 w13 ho4 hs12 hat3
          replace hB := gb_tro hB hol hs12 hgx_
          replace hS := hS.grown hs12 (fun k hk => .inr (Nat.le_trans hgx_ (World.ownsRow.lt hol k hk).1))
          replace hd := hd.otherO hol rfl rfl hs12
          replace hb4 := blk_own hb4 hol rfl hs12
          replace hb2 := blk_low hb2 hol (by omega) hs12
          replace hb3 := blk_own hb3 hol rfl hs12
          replace hlo1 := Nat.le_trans hlo1 hs12.size
          replace hlz1 := Nat.le_trans hlz1 hs12.size
          replace hSx1 := hSx1.grown hs12 (fun k hk => .inr (World.ownsRow.lt hol k hk).1)
          refine Qoe ttFb 9 [] rfl ?_
          refine Nl ?_
          have hts_ := List.take_succ_eq_append_getElem hlk
          have hre_ : insB f ((remK RF.nm f.nm r.rs).take (i + 1)) false = (insB f ((remK RF.nm f.nm r.rs).take i) p) ++ ([((remK RF.nm f.nm r.rs)[i])]) := by obtain rfl : p = false := (by simpa using h2); rw [hts_]; rfl
          rw [← hre_] at ho4 ⊢
          exact ⟨(remK RF.nm f.nm r.rs).length - (i + 1), by omega, _, A_4, c_4, false, (i + 1), Ac_frg ⟨rfl, rfl, rfl, rfl, (agr rfl (congrArg Value.bool (by simpa using h2))), (agr rfl (by first | rfl | (congr 1; omega) | (congr 1; simp; done) | (congr 1; simp only [IntKind.wrap_u64, IntKind.wrap_i64, IntKind.wrap_u8]; omega) | (congr 1 <;> omega))), trivial⟩, hB, hS, hd, hb4, hb2, hb3, hlo1, hlz1, hSx1, ho4, (by omega), (fun h_ => by cases h_), (fun _ x_ hx_ => by rw [hts_, List.mem_append, List.mem_singleton] at hx_; rcases hx_ with hx_ | rfl; exact hpf (by simpa using h2) x_ hx_; exact h3), rfl⟩
      · refine T_takeA (i := 3) rfl (by kernel_rfl) (by kernel_rfl) (by kernel_rfl) (by kernel_rfl) (Y_no rfl rfl rfl (Bool.eq_false_iff.2 h2)) ⟨hb4, hb2, ha1, trivial⟩ rfl ?_
        refine T_takeA (i := 4) rfl (by kernel_rfl) (by kernel_rfl) (by kernel_rfl) (by kernel_rfl) (Y_no rfl rfl rfl (Bool.eq_false_iff.2 h2)) ⟨hb4, hb2, ha1, trivial⟩ rfl ?_
        refine T_takeA (i := 5) rfl (by kernel_rfl) (by kernel_rfl) (by kernel_rfl) (by kernel_rfl) (Y_no rfl rfl rfl (Bool.eq_false_iff.2 h2)) ⟨hb4, hb2, ha1, trivial⟩ rfl ?_
        refine T_takeA (i := 6) rfl (by kernel_rfl) (by kernel_rfl) (by kernel_rfl) (by kernel_rfl) (Y_no rfl rfl rfl (Bool.eq_false_iff.2 h2)) ⟨hb4, hb2, ha1, trivial⟩ rfl ?_
        refine T_takeA (i := 7) rfl (by kernel_rfl) (by kernel_rfl) (by kernel_rfl) (by kernel_rfl) (Y_no rfl rfl rfl (Bool.eq_false_iff.2 h2)) ⟨hb4, hb2, ha1, trivial⟩ rfl ?_
        refine T_takeA (i := 8) rfl (by kernel_rfl) (by kernel_rfl) (by kernel_rfl) (by kernel_rfl) (Y_no rfl rfl rfl (Bool.eq_false_iff.2 h2)) ⟨hb4, hb2, ha1, trivial⟩ rfl ?_
        refine T_takeA (i := 9) rfl (by kernel_rfl) (by kernel_rfl) (by kernel_rfl) (by kernel_rfl) (Y_no rfl rfl rfl (Bool.eq_false_iff.2 h2)) ⟨hb4, hb2, ha1, trivial⟩ rfl ?_
        refine T_takeA (i := 10) rfl (by kernel_rfl) (by kernel_rfl) (by kernel_rfl) (by kernel_rfl) (Y_no rfl rfl rfl (Bool.eq_false_iff.2 h2)) ⟨hb4, hb2, ha1, trivial⟩ rfl ?_
        refine T_takeA (i := 11) rfl (by kernel_rfl) (by kernel_rfl) (by kernel_rfl) (by kernel_rfl) (Y_no rfl rfl rfl (Bool.eq_false_iff.2 h2)) ⟨hb4, hb2, ha1, trivial⟩ rfl ?_
        refine T_takeA (i := 12) rfl (by kernel_rfl) (by kernel_rfl) (by kernel_rfl) (by kernel_rfl) (Y_of (fun _ ⟨hb4, hb2, ha1, _⟩ => R_pickF rfl (Bool.eq_false_iff.2 h2) rfl)) ⟨hb4, hb2, ha1, trivial⟩ rfl ?_
        refine T_done (by kernel_rfl) (CalmE.normal ?_)
        refine Qeo ttFb 9 [kb hb4] rfl ?_
        have hl4 : i < (remK RF.nm f.nm r.rs).length := by first | omega | (simp; omega)
        refine T_index (xs := (remK RF.nm f.nm r.rs)) (i := i) EncRF rfl rfl (by first | rfl | omega) slc34 hl4 hSx1 rfl ?_
        intro g10 o4 ha4
        refine L_run (R_loadA (vs := [.string (((remK RF.nm f.nm r.rs)[i]).nm), .slice (((remK RF.nm f.nm r.rs)[i]).la) (((remK RF.nm f.nm r.rs)[i]).las.length) (((remK RF.nm f.nm r.rs)[i]).lc), .slice (((remK RF.nm f.nm r.rs)[i]).sa) (((remK RF.nm f.nm r.rs)[i]).seen.length) (((remK RF.nm f.nm r.rs)[i]).sc), .slice (((remK RF.nm f.nm r.rs)[i]).wa) (((remK RF.nm f.nm r.rs)[i]).wts.length) (((remK RF.nm f.nm r.rs)[i]).wc)]) rfl agg92 (At.pre ha4 rfl) rfl) rfl ?_
        refine L_buildSlice (pv := [(0, .agg #[.string (((remK RF.nm f.nm r.rs)[i]).nm), .slice (((remK RF.nm f.nm r.rs)[i]).la) (((remK RF.nm f.nm r.rs)[i]).las.length) (((remK RF.nm f.nm r.rs)[i]).lc), .slice (((remK RF.nm f.nm r.rs)[i]).sa) (((remK RF.nm f.nm r.rs)[i]).seen.length) (((remK RF.nm f.nm r.rs)[i]).sc), .slice (((remK RF.nm f.nm r.rs)[i]).wa) (((remK RF.nm f.nm r.rs)[i]).wts.length) (((remK RF.nm f.nm r.rs)[i]).wc)])]) (cs := [.string (((remK RF.nm f.nm r.rs)[i]).nm), .slice (((remK RF.nm f.nm r.rs)[i]).la) (((remK RF.nm f.nm r.rs)[i]).las.length) (((remK RF.nm f.nm r.rs)[i]).lc), .slice (((remK RF.nm f.nm r.rs)[i]).sa) (((remK RF.nm f.nm r.rs)[i]).seen.length) (((remK RF.nm f.nm r.rs)[i]).sc), .slice (((remK RF.nm f.nm r.rs)[i]).wa) (((remK RF.nm f.nm r.rs)[i]).wts.length) (((remK RF.nm f.nm r.rs)[i]).wc)]) slc34 zer92 rfl rfl (by kernel_rfl) rfl ?_
        intro g11 w14 eg7 hb8 hs13 hz9
        have ge8 : w.heap.size ≤ g11 := eg_ge hB eg7
        have lt13 : g1 < g11 := lt_of_eg hb4.lt eg7
        have lt14 : g2 < g11 := lt_of_eg hb2.lt eg7
        have lt15 : g3 < g11 := lt_of_eg hb3.lt eg7
        have hap4 : ∀ k_, (Value.slice A' (insB f ((remK RF.nm f.nm r.rs).take i) p).length c').ownBlock = some k_ → k_ ≠ g11 := fun k_ hk => by have h_ := (World.ownsRow.lt hol k_ hk).2; omega
        replace hB := gb_tr hB hs13
        replace hS := hS.gb hs13
        replace hd := hd.gb hs13
        replace hb4 := hb4.gb hs13
        replace hb2 := hb2.gb hs13
        replace hb3 := hb3.gb hs13
        replace hlo1 := Nat.le_trans hlo1 hs13.size
        replace hlz1 := Nat.le_trans hlz1 hs13.size
        replace hSx1 := hSx1.gb hs13
        replace hol := own_gb hol hs13
        replace ha1 := At.gb ha1 hs13 (by simp)
        replace ha4 := At.gb ha4 hs13 (by simp)
        refine T_append (xs := (insB f ((remK RF.nm f.nm r.rs).take i) p)) (ys := [((remK RF.nm f.nm r.rs)[i])]) EncRF slc34 rfl rfl hol (Blk.sli (m := 0) hb8) (by have h_ := insB_len (f := f) (ls := (remK RF.nm f.nm r.rs).take i) (p := p); rw [List.length_take] at h_; simp only [List.length_append, List.length_singleton, List.length_cons, List.length_nil]; omega) hlz1 rfl ?_
        intro A_5 c_5 w15 ho5 hs14 hat4
        replace hB := gb_tro hB hol hs14 hgx_
        replace hS := hS.grown hs14 (fun k hk => .inr (Nat.le_trans hgx_ (World.ownsRow.lt hol k hk).1))
        replace hd := hd.otherO hol rfl rfl hs14
        replace hb4 := blk_own hb4 hol rfl hs14
        replace hb2 := blk_low hb2 hol (by omega) hs14
        replace hb3 := blk_own hb3 hol rfl hs14
        replace hlo1 := Nat.le_trans hlo1 hs14.size
        replace hlz1 := Nat.le_trans hlz1 hs14.size
        replace hSx1 := hSx1.grown hs14 (fun k hk => .inr (World.ownsRow.lt hol k hk).1)
        refine Qoe ttFb 9 [] rfl ?_
        refine Nl ?_
        have hts_ := List.take_succ_eq_append_getElem hlk
        have hre_ : insB f ((remK RF.nm f.nm r.rs).take (i + 1)) true = (insB f ((remK RF.nm f.nm r.rs).take i) p) ++ ([((remK RF.nm f.nm r.rs)[i])]) := by obtain rfl : p = true := (by simpa using (Bool.eq_false_iff.2 h2)); rw [hts_]; exact insK_app2 (hpt rfl)
        rw [← hre_] at ho5 ⊢
        exact ⟨(remK RF.nm f.nm r.rs).length - (i + 1), by omega, _, A_5, c_5, true, (i + 1), Ac_frg ⟨rfl, rfl, rfl, rfl, (agr rfl (congrArg Value.bool (by simpa using (Bool.eq_false_iff.2 h2)))), (agr rfl (by first | rfl | (congr 1; omega) | (congr 1; simp; done) | (congr 1; simp only [IntKind.wrap_u64, IntKind.wrap_i64, IntKind.wrap_u8]; omega) | (congr 1 <;> omega))), trivial⟩, hB, hS, hd, hb4, hb2, hb3, hlo1, hlz1, hSx1, ho5, (by omega), (fun _ => by obtain ⟨y_, hy_, hs_⟩ := hpt (by simpa using (Bool.eq_false_iff.2 h2)); exact ⟨y_, by rw [hts_]; exact List.mem_append_left _ hy_, hs_⟩), (fun h_ => by cases h_), rfl⟩
    · refine Qce ttFb 2 [] rfl ?_
      refine Xl ?_
      refine Qeo ttFb 6 [] rfl ?_
      refine L_run (R_not rfl) rfl ?_
      refine Qoc ttFb 2 [] rfl ?_
      refine C_cond rfl (fun h4 => ?_) (fun h4 => ?_)
      · refine Qco ttFb 3 [kb hb2] rfl ?_
        refine L_buildSlice (pv := [(0, .agg #[.string f.nm, .slice f.la f.las.length f.lc, .slice f.sa f.seen.length f.sc, .slice f.wa f.wts.length f.wc])]) (cs := [.string f.nm, .slice f.la f.las.length f.lc, .slice f.sa f.seen.length f.sc, .slice f.wa f.wts.length f.wc]) slc34 zer92 rfl rfl (by kernel_rfl) rfl ?_
        intro g12 w16 eg8 hb9 hs15 hz10
        have ge9 : w.heap.size ≤ g12 := eg_ge hB eg8
        have lt16 : g1 < g12 := lt_of_eg hb4.lt eg8
        have lt17 : g2 < g12 := lt_of_eg hb2.lt eg8
        have lt18 : g3 < g12 := lt_of_eg hb3.lt eg8
        have hap5 : ∀ k_, (Value.slice A' (insB f ((remK RF.nm f.nm r.rs).take i) p).length c').ownBlock = some k_ → k_ ≠ g12 := fun k_ hk => by have h_ := (World.ownsRow.lt hol k_ hk).2; omega
        replace hB := gb_tr hB hs15
        replace hS := hS.gb hs15
        replace hd := hd.gb hs15
        replace hb4 := hb4.gb hs15
        replace hb2 := hb2.gb hs15
        replace hb3 := hb3.gb hs15
        replace hlo1 := Nat.le_trans hlo1 hs15.size
        replace hlz1 := Nat.le_trans hlz1 hs15.size
        replace hSx1 := hSx1.gb hs15
        replace hol := own_gb hol hs15
        refine T_append (xs := (insB f ((remK RF.nm f.nm r.rs).take i) p)) (ys := [f]) EncRF slc34 rfl rfl hol (Blk.sli (m := 0) hb9) (by have h_ := insB_len (f := f) (ls := (remK RF.nm f.nm r.rs).take i) (p := p); rw [List.length_take] at h_; simp only [List.length_append, List.length_singleton, List.length_cons, List.length_nil]; omega) hlz1 rfl ?_
        intro A_6 c_6 w17 ho6 hs16 hat5
        replace hB := gb_tro hB hol hs16 hgx_
        replace hS := hS.grown hs16 (fun k hk => .inr (Nat.le_trans hgx_ (World.ownsRow.lt hol k hk).1))
        replace hd := hd.otherO hol rfl rfl hs16
        replace hb4 := blk_own hb4 hol rfl hs16
        replace hb2 := blk_low hb2 hol (by omega) hs16
        replace hb3 := blk_own hb3 hol rfl hs16
        replace hlo1 := Nat.le_trans hlo1 hs16.size
        replace hlz1 := Nat.le_trans hlz1 hs16.size
        replace hSx1 := hSx1.grown hs16 (fun k hk => .inr (World.ownsRow.lt hol k hk).1)
        refine Qoo ttFb 7 [] rfl ?_
        refine L_st1 rfl rfl rfl sz34 hb4 rfl ?_
        intro w18 hb10 hs17 hz11
        replace hB := gb_trg hB hs17 ge1
        replace hS := hS.other hb4 rfl rfl hs17
        replace hd := hd.other hb4 rfl rfl hs17
        replace hb2 := hb2.grown hs17 (ne_gt lt1)
        replace hb3 := hb3.grown hs17 (ne_gt lt2)
        replace hlo1 := Nat.le_trans hlo1 hs17.size
        replace hlz1 := Nat.le_trans hlz1 hs17.size
        replace hSx1 := hSx1.other hb4 rfl rfl hs17
        replace ho6 := own_other ho6 hb4 rfl hs17
        refine Qoo ttFb 5 [kb hb10] rfl ?_
        refine L_stA (vs := [.slice A_6 (((insB f ((remK RF.nm f.nm r.rs).take i) p) ++ ([f])).length) c_6, .int .i64 r.cap, .int .i64 r.ops, .bool r.dn, .bool r.tl, .int .i64 r.af]) rfl rfl rfl sz36 rfl hb3 rfl ?_
        intro w19 hb11 hs18 hz12
        replace hB := gb_trg hB hs18 ge3
        replace hS := hS.other hb3 rfl rfl hs18
        replace hd := hd.other hb3 rfl rfl hs18
        replace hb10 := hb10.grown hs18 (ne_lt lt2)
        replace hb2 := hb2.grown hs18 (ne_lt lt3)
        replace hlo1 := Nat.le_trans hlo1 hs18.size
        replace hlz1 := Nat.le_trans hlz1 hs18.size
        replace hSx1 := hSx1.other hb3 rfl rfl hs18
        replace ho6 := own_other ho6 hb3 rfl hs18
        refine Qoe ttFb 3 [] rfl ?_
        refine retC (vs := [.slice A_6 (((insB f ((remK RF.nm f.nm r.rs).take i) p) ++ ([f])).length) c_6, .int .i64 r.cap, .int .i64 r.ops, .bool r.dn, .bool r.tl, .int .i64 r.af]) Try.results44 rfl agg36 (At.pre (hb11.at_ 0) rfl) rfl  ?_
        have hfin_ : (insB f ((remK RF.nm f.nm r.rs).take i) p) ++ ([f]) = insK RF.nm f (remK RF.nm f.nm r.rs) := by obtain rfl : p = false := (by simpa using h4); have h_ := hpf rfl; rw [List.take_of_length_le (by omega)] at h_ ⊢; have h2_ := insK_app (f := f) (b := []) h_; rw [List.append_nil] at h2_; rw [h2_]; rfl
        rw [hfin_] at ho6 ⊢
        exact ⟨hB, _, _, rfl, (own_lo ho6 hgx_)⟩
      · refine Qco ttFb 6 [] rfl ?_
        refine L_st1 rfl rfl rfl sz34 hb4 rfl ?_
        intro w20 hb12 hs19 hz13
        replace hB := gb_trg hB hs19 ge1
        replace hS := hS.other hb4 rfl rfl hs19
        replace hd := hd.other hb4 rfl rfl hs19
        replace hb2 := hb2.grown hs19 (ne_gt lt1)
        replace hb3 := hb3.grown hs19 (ne_gt lt2)
        replace hlo1 := Nat.le_trans hlo1 hs19.size
        replace hlz1 := Nat.le_trans hlz1 hs19.size
        replace hSx1 := hSx1.other hb4 rfl rfl hs19
        replace hol := own_other hol hb4 rfl hs19
        refine Qoo ttFb 5 [kb hb12] rfl ?_
        refine L_stA (vs := [.slice A' ((insB f ((remK RF.nm f.nm r.rs).take i) p).length) c', .int .i64 r.cap, .int .i64 r.ops, .bool r.dn, .bool r.tl, .int .i64 r.af]) rfl rfl rfl sz36 rfl hb3 rfl ?_
        intro w21 hb13 hs20 hz14
        replace hB := gb_trg hB hs20 ge3
        replace hS := hS.other hb3 rfl rfl hs20
        replace hd := hd.other hb3 rfl rfl hs20
        replace hb12 := hb12.grown hs20 (ne_lt lt2)
        replace hb2 := hb2.grown hs20 (ne_lt lt3)
        replace hlo1 := Nat.le_trans hlo1 hs20.size
        replace hlz1 := Nat.le_trans hlz1 hs20.size
        replace hSx1 := hSx1.other hb3 rfl rfl hs20
        replace hol := own_other hol hb3 rfl hs20
        refine Qoe ttFb 3 [] rfl ?_
        refine retC (vs := [.slice A' ((insB f ((remK RF.nm f.nm r.rs).take i) p).length) c', .int .i64 r.cap, .int .i64 r.ops, .bool r.dn, .bool r.tl, .int .i64 r.af]) Try.results44 rfl agg36 (At.pre (hb13.at_ 0) rfl) rfl  ?_
        have hfin_ : (insB f ((remK RF.nm f.nm r.rs).take i) p) = insK RF.nm f (remK RF.nm f.nm r.rs) := by rw [List.take_of_length_le (by omega)]; obtain rfl : p = true := (by simpa using h4); rfl
        rw [hfin_] at hol ⊢
        exact ⟨hB, _, _, rfl, (own_lo hol hgx_)⟩
end Go.Proofs.Ytoipncaopdmicaa
namespace Go.Proofs.Ytoipncaopdmicaa
open Go.RowKit Gw Pl
set_option linter.unusedVariables false
set_option linter.unusedSimpArgs false
theorem cb77 : callB Try.prog 77 = true := by kernel_rfl
theorem cb78 : callB Try.prog 78 = true := by kernel_rfl
theorem fld36_3 : fldB Try.prog 36 3 3 = true := by kernel_rfl
def tabFc : TT := { fld := [(36, 2, 2), (36, 3, 3), (36, 4, 4), (36, 5, 5)], scl := [3, 4], agg := [(36, 6)], str := [], slc := [], ptr := [], cv := [] }
theorem ttFc : TOk Try.prog tabFc := TT.ok_of (by kernel_rfl)
section
variable {U : Nat → Prop} {w w' : World} {r : RK}
theorem RAt.up {U' : Nat → Prop} (h : RAt U w r) (hu : ∀ k, U k → U' k) : RAt U' w r := { h with uA := h.uA.mono hu, uf := fun f hf => (h.uf f hf).mono hu }
/-- Its files anew. -/
theorem RAt.set {U' : Nat → Prop} {A' : Option Addr} {c' : Nat} {X : List RF} {lo : Nat} (h : RAt U w r) (ho : w'.ownsRow lo 92 4 (.slice A' X.length c') X.length (fl encRF X)) (hlo : ∀ k, lo ≤ k → U' k) (hd : DeepRF w' X) (hl : X.length ≤ 64) (hu : usedR X ≤ 1048576) (hr : (X.map RF.nm).Pairwise slt) (uf : ∀ f ∈ X, okRF U' f) :
    RAt U' w' { r with A := A', c := c', rs := X } := { hS := (sli_bare ho), hd := hd, hc := (own_of ho).1, hl := hl, hu := hu, hr := hr, uA := (okA_own X ho).mono hlo, uf := uf, hcap := h.hcap, hop := h.hop, haf := h.haf, haf' := h.haf' }
def RK.opd (r : RK) : RK := { r with tl := false, dn := true }
def RK.opk (r : RK) : RK := { r with ops := IntKind.i64.wrap (r.ops + 1), af := if r.tl then IntKind.i64.wrap (r.af - 1) else r.af }
theorem RAt.opd (h : RAt U w r) : RAt U w r.opd := { h with haf := fun e => by cases e }
theorem RAt.opk (h : RAt U w r) (hn : ¬ (r.tl = true ∧ r.af = 0)) : RAt U w r.opk := { h with
  hop := wrap_i64r _
  haf := fun e => by
    have e' : r.tl = true := e
    have h1 := h.haf e'
    have h2 : r.af ≠ 0 := fun e2 => hn ⟨e', e2⟩
    have h3 := h.haf'
    show 0 ≤ (if r.tl then IntKind.i64.wrap (r.af - 1) else r.af)
    rw [if_pos e']
    unfold i64r at h3
    rw [IntKind.wrap_i64]
    omega
  haf' := by
    show i64r (if r.tl then IntKind.i64.wrap (r.af - 1) else r.af)
    split
    · exact wrap_i64r _
    · exact h.haf' }
theorem ropk_pd (h : RAt U w r) (hn : ¬ (r.tl = true ∧ r.af = 0)) : r.opk.pd = r.pd.op.1 ∧ r.pd.op.2 = true := by
  unfold PD.op RK.pd RK.opk
  have h' : ¬ (r.tl = true ∧ (if r.tl then r.af else 0) = 0) := fun hh => hn ⟨hh.1, by have := hh.2; rw [if_pos hh.1] at this; exact this⟩
  rw [if_neg h']
  refine ⟨?_, rfl⟩
  simp only
  congr 1
  cases htl : r.tl with
  | false => simp
  | true =>
    have h1 := h.haf htl
    have h2 : r.af ≠ 0 := fun e => hn ⟨htl, e⟩
    have hr := h.haf'
    unfold i64r at hr
    simp only [if_true]
    rw [IntKind.wrap_i64]
    omega
theorem ropd_pd (hn : r.tl = true ∧ r.af = 0) : r.opd.pd = r.pd.op.1 ∧ r.pd.op.2 = false := by
  unfold PD.op RK.pd RK.opd
  have h' : r.tl = true ∧ (if r.tl then r.af else 0) = 0 := ⟨hn.1, by rw [if_pos hn.1]; exact hn.2⟩
  rw [if_pos h']
  exact ⟨by simp only [Bool.false_eq_true, if_false], rfl⟩
/-- What a call of the reference comes to. -/
def RDid (U : Nat → Prop) (w w' : World) (p : PD × Int) (v : Value) : Prop := ∃ r', RAt (upU U w) w' r' ∧ v = .tuple #[.agg r'.cs.toArray, .int .i64 p.2] ∧ r'.pd = p.1
theorem low_l {U : Nat → Prop} {w : World} : ∀ k, lowU U w k → upU U w k := fun _ h => .inl h.1
theorem rfin_e {p : PD × Int} {k : Int} (h : RAt (lowU U w) w' r) (e : p = (r.pd, k)) : RDid U w w' p (.tuple #[.agg r.cs.toArray, .int .i64 k]) := ⟨r, h.up low_l, by rw [e], by rw [e]⟩
theorem rfin_d {p : PD × Int} {fs : List PF} (h : RAt (lowU U w) w' r) (hn : r.tl = true ∧ r.af = 0) (e : p = r.pd.then fs) : RDid U w w' p (.tuple #[.agg r.opd.cs.toArray, .int .i64 9]) := by
  obtain ⟨h1, h2⟩ := ropd_pd hn
  have e2 : p = (r.pd.op.1, 9) := by rw [e]; unfold PD.then; rw [h2]; rfl
  exact ⟨_, h.opd.up low_l, by rw [e2], by rw [e2]; exact h1⟩
theorem rfin_t {p : PD × Int} {A' : Option Addr} {c' : Nat} {X : List RF} (h : RAt U w r) (hn : ¬ (r.tl = true ∧ r.af = 0)) (ho : w'.ownsRow w.heap.size 92 4 (.slice A' X.length c') X.length (fl encRF X)) (hd : DeepRF w' X) (hl : X.length ≤ 64) (hu : usedR X ≤ 1048576) (hr : (X.map RF.nm).Pairwise slt) (uf : ∀ f ∈ X, okRF (upU U w) f) (e : p = r.pd.then (X.map RF.pf)) :
    RDid U w w' p (.tuple #[.agg #[.slice A' X.length c', .int .i64 r.cap, .int .i64 (IntKind.i64.wrap (r.ops + 1)), .bool r.dn, .bool r.tl, .int .i64 (if r.tl then IntKind.i64.wrap (r.af - 1) else r.af)], .int .i64 0]) := by
  obtain ⟨h1, h2⟩ := ropk_pd h hn
  have e2 : p = ({ r.pd.op.1 with fs := X.map RF.pf }, 0) := by rw [e]; unfold PD.then; rw [h2]; rfl
  refine ⟨{ r.opk with A := A', c := c', rs := X }, (h.opk hn).set ho up_r hd hl hu hr uf, by rw [e2]; rfl, ?_⟩
  rw [e2, ← h1]
  rfl
theorem rpdn (h : r.dn = false) : ¬ r.pd.dn = true := by show ¬ r.dn = true; rw [h]; decide
theorem rhy {nm : ByteArray} (h : HasR r.rs nm) : ¬ ¬ HasP r.pd.fs nm := not_not_intro (hasR_pf.2 h)
theorem rhn {nm : ByteArray} (h : ¬ HasR r.rs nm) : ¬ HasP r.pd.fs nm := fun q => h (hasR_pf.1 q)
theorem rrem_pf {s : ByteArray} {fs : List RF} : (remK RF.nm s fs).map RF.pf = remK PF.nm s (fs.map RF.pf) := rem_map (nm' := PF.nm) (fun _ => rfl) fs
theorem rins_pf {F : RF} {fs : List RF} : (insK RF.nm F fs).map RF.pf = insK PF.nm F.pf (fs.map RF.pf) := insK_map (nm' := PF.nm) (fun _ => rfl) fs
theorem rem_sub {nm : ByteArray} {fs : List RF} : ∀ f ∈ remK RF.nm nm fs, f ∈ fs := fun f hf => (List.mem_filter.1 hf).1
theorem ins_sub {F : RF} {fs : List RF} : ∀ f ∈ insK RF.nm F fs, f = F ∨ f ∈ fs := fun f hf => List.mem_cons.1 ((insK_perm fs).mem_iff.1 hf)
theorem rem_used {nm : ByteArray} {fs : List RF} : usedR (remK RF.nm nm fs) ≤ usedR fs := by
  unfold usedR remK
  induction fs with
  | nil => simp
  | cons x r ih =>
    rw [List.filter_cons]
    split
    · simp only [List.map_cons, List.sum_cons]; omega
    · simp only [List.map_cons, List.sum_cons]; omega
theorem ins_used {F : RF} {fs : List RF} : usedR (insK RF.nm F fs) = F.seen.length + usedR fs := by
  unfold usedR
  have : ((insK RF.nm F fs).map fun f => f.seen.length).Perm ((F :: fs).map fun f => f.seen.length) := (insK_perm fs).map _
  rw [this.sum_nat]
  simp
theorem rem_rise {nm : ByteArray} {fs : List RF} (h : (fs.map RF.nm).Pairwise slt) : ((remK RF.nm nm fs).map RF.nm).Pairwise slt := h.sublist ((List.filter_sublist (l := fs)).map _)
theorem ins_rise {F : RF} {fs : List RF} (h : (fs.map RF.nm).Pairwise slt) : ((insK RF.nm F (remK RF.nm F.nm fs)).map RF.nm).Pairwise slt := insK_rise _ (rem_rise h) fun x hx => by
  have := (List.mem_filter.1 hx).2
  simpa using this
theorem rem_len' {nm : ByteArray} {fs : List RF} : (remK RF.nm nm fs).length ≤ fs.length := List.length_filter_le ..
theorem rem_drop {F : RF} {fs : List RF} (h : F ∈ fs) : (remK RF.nm F.nm fs).length + 1 ≤ fs.length ∧ usedR (remK RF.nm F.nm fs) + F.seen.length ≤ usedR fs := by
  induction fs with
  | nil => cases h
  | cons x r ih =>
    have h1 := rem_len' (nm := F.nm) (fs := r)
    have h2 := rem_used (nm := F.nm) (fs := r)
    unfold remK usedR at *
    rw [List.filter_cons]
    split
    · rename_i hx
      rcases List.mem_cons.1 h with rfl | h
      · simp at hx
      · have := ih h; simp only [List.length_cons, List.map_cons, List.sum_cons]; omega
    · rename_i hx
      simp only [List.length_cons, List.map_cons, List.sum_cons]
      rcases List.mem_cons.1 h with rfl | h
      · omega
      · have := ih h; omega
theorem remK_noR {nm : ByteArray} {fs : List RF} (h : ¬ HasR fs nm) : remK RF.nm nm fs = fs := by
  unfold remK
  exact List.filter_eq_self.2 fun f hf => by
    have : f.nm ≠ nm := fun e => h ⟨f, hf, e⟩
    simpa using this
end
theorem rop_ok {U : Nat → Prop} {w : World} {r : RK} (hR : RAt U w r)  :
    Runs Try.prog 78 #[.agg #[.slice r.A r.rs.length r.c, .int .i64 r.cap, .int .i64 r.ops, .bool r.dn, .bool r.tl, .int .i64 r.af]] w (fun v w' => w.grownBy w' none ∧ ((r.tl = true ∧ r.af = 0) ∧ v = .tuple #[.agg #[.slice r.A r.rs.length r.c, .int .i64 r.cap, .int .i64 r.ops, .bool true, .bool false, .int .i64 r.af], .int .i64 9] ∨ ¬ (r.tl = true ∧ r.af = 0) ∧ v = .tuple #[.agg #[.slice r.A r.rs.length r.c, .int .i64 r.cap, .int .i64 (IntKind.i64.wrap (r.ops + 1)), .bool r.dn, .bool r.tl, .int .i64 (if r.tl then IntKind.i64.wrap (r.af - 1) else r.af)], .int .i64 0])) := by
  have hB := gb_refl w none
  refine enterQ Try.func78 Try.ntmps78 rfl rfl ?_
  refine Qco ttFc 2 [] rfl ?_
  refine L_box (cs := [.slice r.A r.rs.length r.c, .int .i64 r.cap, .int .i64 r.ops, .bool r.dn, .bool r.tl, .int .i64 r.af]) rfl rfl rfl ?_
  intro g1 w1 eg1 hb1 hs1 hz1
  have ge1 : w.heap.size ≤ g1 := eg_ge hB eg1
  replace hB := gb_tr hB hs1
  refine L_alloc (cs := [.slice none 0 0, .int .i64 0, .int .i64 0, .bool false, .bool false, .int .i64 0]) zer36 rfl rfl ?_
  intro g2 w2 eg2 hb2 hs2 hz2
  have ge2 : w.heap.size ≤ g2 := eg_ge hB eg2
  have lt1 : g1 < g2 := lt_of_eg hb1.lt eg2
  replace hB := gb_tr hB hs2
  replace hb1 := hb1.gb hs2
  refine Qoo ttFc 9 [kb hb1] rfl ?_
  refine Qg ttFc 3 [kb hb1] rfl (fun σ => ?_)
  refine Ldec 10 ((r.tl = true) ∧ (r.af = 0)) rfl ?_
  refine Qoc ttFc 2 [] rfl ?_
  refine C_if rfl (fun h1 => ?_) (fun h1 => ?_)
  · refine Qco ttFc 3 [] rfl ?_
    refine L_st1 rfl rfl rfl sz4 hb1 rfl ?_
    intro w3 hb3 hs3 hz3
    replace hB := gb_trg hB hs3 ge1
    replace hb2 := hb2.grown hs3 (ne_gt lt1)
    refine Qoo ttFc 5 [] rfl ?_
    refine L_st1 rfl rfl rfl sz4 hb3 rfl ?_
    intro w4 hb4 hs4 hz4
    replace hB := gb_trg hB hs4 ge1
    replace hb2 := hb2.grown hs4 (ne_gt lt1)
    refine Qoo ttFc 5 [kb hb4] rfl ?_
    refine L_stA (vs := [.slice r.A r.rs.length r.c, .int .i64 r.cap, .int .i64 r.ops, .bool true, .bool false, .int .i64 r.af]) rfl rfl rfl sz36 rfl hb2 rfl ?_
    intro w5 hb5 hs5 hz5
    replace hB := gb_trg hB hs5 ge2
    replace hb4 := hb4.grown hs5 (ne_lt lt1)
    refine Qoe ttFc 5 [] rfl ?_
    refine retC1 (vs := [.slice r.A r.rs.length r.c, .int .i64 r.cap, .int .i64 r.ops, .bool true, .bool false, .int .i64 r.af]) Try.results78 rfl agg36 (At.pre (hb5.at_ 0) rfl) rfl rfl ?_
    exact ⟨hB, .inl ⟨h1, rfl⟩⟩
  · refine Qcc ttFc 9 [kb hb1] rfl ?_
    refine C_cond rfl (fun h2 => ?_) (fun h2 => ?_)
    · refine Qco ttFc 3 [kb hb1] rfl ?_
      refine L_run (R_sub rfl rfl) rfl ?_
      refine Qoo ttFc 1 [] rfl ?_
      refine L_st1 rfl rfl rfl sz3 hb1 rfl ?_
      intro w6 hb6 hs6 hz6
      replace hB := gb_trg hB hs6 ge1
      replace hb2 := hb2.grown hs6 (ne_gt lt1)
      refine Qoo ttFc 6 [kb hb6] rfl ?_
      refine L_run (R_add rfl rfl) rfl ?_
      refine Qoo ttFc 1 [] rfl ?_
      refine L_st1 rfl rfl rfl sz3 hb6 rfl ?_
      intro w7 hb7 hs7 hz7
      replace hB := gb_trg hB hs7 ge1
      replace hb2 := hb2.grown hs7 (ne_gt lt1)
      refine Qoo ttFc 5 [kb hb7] rfl ?_
      refine L_stA (vs := [.slice r.A r.rs.length r.c, .int .i64 r.cap, .int .i64 (IntKind.i64.wrap (r.ops + 1)), .bool r.dn, .bool r.tl, .int .i64 (IntKind.i64.wrap (r.af - 1))]) rfl rfl rfl sz36 rfl hb2 rfl ?_
      intro w8 hb8 hs8 hz8
      replace hB := gb_trg hB hs8 ge2
      replace hb7 := hb7.grown hs8 (ne_lt lt1)
      refine Qoe ttFc 4 [] rfl ?_
      refine retC1 (vs := [.slice r.A r.rs.length r.c, .int .i64 r.cap, .int .i64 (IntKind.i64.wrap (r.ops + 1)), .bool r.dn, .bool r.tl, .int .i64 (IntKind.i64.wrap (r.af - 1))]) Try.results78 rfl agg36 (At.pre (hb8.at_ 0) rfl) rfl rfl ?_
      refine ⟨hB, .inr ⟨h1, ?_⟩⟩
      rw [show (if r.tl then IntKind.i64.wrap (r.af - 1) else r.af) = IntKind.i64.wrap (r.af - 1) by rw [h2]; rfl]
    · refine Qco ttFc 6 [kb hb1] rfl ?_
      refine L_run (R_add rfl rfl) rfl ?_
      refine Qoo ttFc 1 [] rfl ?_
      refine L_st1 rfl rfl rfl sz3 hb1 rfl ?_
      intro w9 hb9 hs9 hz9
      replace hB := gb_trg hB hs9 ge1
      replace hb2 := hb2.grown hs9 (ne_gt lt1)
      refine Qoo ttFc 5 [kb hb9] rfl ?_
      refine L_stA (vs := [.slice r.A r.rs.length r.c, .int .i64 r.cap, .int .i64 (IntKind.i64.wrap (r.ops + 1)), .bool r.dn, .bool r.tl, .int .i64 r.af]) rfl rfl rfl sz36 rfl hb2 rfl ?_
      intro w10 hb10 hs10 hz10
      replace hB := gb_trg hB hs10 ge2
      replace hb9 := hb9.grown hs10 (ne_lt lt1)
      refine Qoe ttFc 4 [] rfl ?_
      refine retC1 (vs := [.slice r.A r.rs.length r.c, .int .i64 r.cap, .int .i64 (IntKind.i64.wrap (r.ops + 1)), .bool r.dn, .bool r.tl, .int .i64 r.af]) Try.results78 rfl agg36 (At.pre (hb10.at_ 0) rfl) rfl rfl ?_
      refine ⟨hB, .inr ⟨h1, ?_⟩⟩
      rw [show (if r.tl then IntKind.i64.wrap (r.af - 1) else r.af) = r.af by rw [h2]; rfl]
theorem rnew_ok {U : Nat → Prop} {w : World} {c : Int} :
    Runs Try.prog 14 #[.int .i64 c] w (fun v w' => w.grownBy w' none ∧ ∃ r, RAt U w' r ∧ v = .agg r.cs.toArray ∧ r.pd = ⟨[], max 0 (min c 1048576), 0, 0, false, false⟩) := by
  have hB := gb_refl w none
  refine enterQ Try.func14 Try.ntmps14 rfl rfl ?_
  refine Qco ttFc 2 [] rfl ?_
  refine L_alloc (cs := [.slice none 0 0, .int .i64 0, .int .i64 0, .bool false, .bool false, .int .i64 0]) zer36 rfl rfl ?_
  intro g1 w1 eg1 hb1 hs1 hz1
  have ge1 : w.heap.size ≤ g1 := eg_ge hB eg1
  replace hB := gb_tr hB hs1
  refine Qoc ttFc 9 [] rfl ?_
  refine C_if rfl (fun h1 => ?_) (fun h1 => ?_)
  · refine Qco ttFc 17 [] rfl ?_
    refine L_run (R_build (pv := [(1, .int .i64 1048576)]) (cs := [.slice none 0 0, .int .i64 1048576, .int .i64 0, .bool false, .bool false, .int .i64 0]) rfl (by kernel_rfl)) rfl ?_
    refine L_stA (vs := [.slice none 0 0, .int .i64 1048576, .int .i64 0, .bool false, .bool false, .int .i64 0]) rfl rfl rfl sz36 rfl hb1 rfl ?_
    intro w2 hb2 hs2 hz2
    replace hB := gb_trg hB hs2 ge1
    refine Qoe ttFc 3 [] rfl ?_
    refine retC (vs := [.slice none 0 0, .int .i64 1048576, .int .i64 0, .bool false, .bool false, .int .i64 0]) Try.results14 rfl agg36 (At.pre (hb2.at_ 0) rfl) rfl  ?_
    exact ⟨hB, ⟨none, 0, [], 1048576, 0, false, false, 0⟩, ⟨.inl rfl, DeepRF.nil, by simp, by simp, by simp [usedR], by simp, (fun h_ => absurd rfl h_), (fun _ h_ => by cases h_), (show 0 ≤ (1048576 : Int) ∧ (1048576 : Int) ≤ 1048576 by omega), (show i64r 0 by unfold i64r; omega), (fun h_ => by cases h_), (show i64r 0 by unfold i64r; omega)⟩, rfl, (by show (⟨[], 1048576, 0, 0, false, false⟩ : PD) = _; congr 1; omega)⟩
  · refine Qcc ttFc 9 [] rfl ?_
    refine C_if rfl (fun h2 => ?_) (fun h2 => ?_)
    · refine Qco ttFc 7 [] rfl ?_
      refine L_run (R_build (pv := [(1, .int .i64 0)]) (cs := [.slice none 0 0, .int .i64 0, .int .i64 0, .bool false, .bool false, .int .i64 0]) rfl (by kernel_rfl)) rfl ?_
      refine L_stA (vs := [.slice none 0 0, .int .i64 0, .int .i64 0, .bool false, .bool false, .int .i64 0]) rfl rfl rfl sz36 rfl hb1 rfl ?_
      intro w3 hb3 hs3 hz3
      replace hB := gb_trg hB hs3 ge1
      refine Qoe ttFc 3 [] rfl ?_
      refine retC (vs := [.slice none 0 0, .int .i64 0, .int .i64 0, .bool false, .bool false, .int .i64 0]) Try.results14 rfl agg36 (At.pre (hb3.at_ 0) rfl) rfl  ?_
      exact ⟨hB, ⟨none, 0, [], 0, 0, false, false, 0⟩, ⟨.inl rfl, DeepRF.nil, by simp, by simp, by simp [usedR], by simp, (fun h_ => absurd rfl h_), (fun _ h_ => by cases h_), (show 0 ≤ (0 : Int) ∧ (0 : Int) ≤ 1048576 by omega), (show i64r 0 by unfold i64r; omega), (fun h_ => by cases h_), (show i64r 0 by unfold i64r; omega)⟩, rfl, (by show (⟨[], 0, 0, 0, false, false⟩ : PD) = _; congr 1; omega)⟩
    · refine Qco ttFc 5 [] rfl ?_
      refine L_run (R_build (pv := [(1, .int .i64 c)]) (cs := [.slice none 0 0, .int .i64 c, .int .i64 0, .bool false, .bool false, .int .i64 0]) rfl (by kernel_rfl)) rfl ?_
      refine L_stA (vs := [.slice none 0 0, .int .i64 c, .int .i64 0, .bool false, .bool false, .int .i64 0]) rfl rfl rfl sz36 rfl hb1 rfl ?_
      intro w4 hb4 hs4 hz4
      replace hB := gb_trg hB hs4 ge1
      refine Qoe ttFc 3 [] rfl ?_
      refine retC (vs := [.slice none 0 0, .int .i64 c, .int .i64 0, .bool false, .bool false, .int .i64 0]) Try.results14 rfl agg36 (At.pre (hb4.at_ 0) rfl) rfl  ?_
      exact ⟨hB, ⟨none, 0, [], c, 0, false, false, 0⟩, ⟨.inl rfl, DeepRF.nil, by simp, by simp, by simp [usedR], by simp, (fun h_ => absurd rfl h_), (fun _ h_ => by cases h_), (show 0 ≤ c ∧ c ≤ 1048576 by omega), (show i64r 0 by unfold i64r; omega), (fun h_ => by cases h_), (show i64r 0 by unfold i64r; omega)⟩, rfl, (by show (⟨[], c, 0, 0, false, false⟩ : PD) = _; congr 1; omega)⟩
theorem rfail_ok {U : Nat → Prop} {w : World} {r : RK} (hR : RAt U w r) {n : Int} (hnr : i64r n) :
    Runs Try.prog 41 #[.agg #[.slice r.A r.rs.length r.c, .int .i64 r.cap, .int .i64 r.ops, .bool r.dn, .bool r.tl, .int .i64 r.af], .int .i64 n] w (fun v w' => w.grownBy w' none ∧ RDid U w w' (r.pd.fail n) v) := by
  have hB := gb_refl w none
  have hR0 := hR
  replace hR := hR.low
  refine enterQ Try.func41 Try.ntmps41 rfl rfl ?_
  refine Qco ttFc 2 [] rfl ?_
  refine L_box (cs := [.slice r.A r.rs.length r.c, .int .i64 r.cap, .int .i64 r.ops, .bool r.dn, .bool r.tl, .int .i64 r.af]) rfl rfl rfl ?_
  intro g1 w1 eg1 hb1 hs1 hz1
  have ge1 : w.heap.size ≤ g1 := eg_ge hB eg1
  replace hB := gb_tr hB hs1
  replace hR := hR.gb hs1
  refine L_alloc (cs := [.slice none 0 0, .int .i64 0, .int .i64 0, .bool false, .bool false, .int .i64 0]) zer36 rfl rfl ?_
  intro g2 w2 eg2 hb2 hs2 hz2
  have ge2 : w.heap.size ≤ g2 := eg_ge hB eg2
  have lt1 : g1 < g2 := lt_of_eg hb1.lt eg2
  replace hB := gb_tr hB hs2
  replace hR := hR.gb hs2
  replace hb1 := hb1.gb hs2
  refine Qoc ttFc 10 [kb hb1] rfl ?_
  refine C_cond rfl (fun h1 => ?_) (fun h1 => ?_)
  · refine Qco ttFc 3 [kb hb1] rfl ?_
    refine L_stA (vs := [.slice r.A r.rs.length r.c, .int .i64 r.cap, .int .i64 r.ops, .bool r.dn, .bool r.tl, .int .i64 r.af]) rfl rfl rfl sz36 rfl hb2 rfl ?_
    intro w3 hb3 hs3 hz3
    replace hB := gb_trg hB hs3 ge2
    replace hR := hR.other hb2 rfl rfl rfl hs3
    replace hb1 := hb1.grown hs3 (ne_lt lt1)
    refine Qoe ttFc 5 [] rfl ?_
    refine retC1 (vs := [.slice r.A r.rs.length r.c, .int .i64 r.cap, .int .i64 r.ops, .bool r.dn, .bool r.tl, .int .i64 r.af]) Try.results41 rfl agg36 (At.pre (hb3.at_ 0) rfl) rfl rfl ?_
    exact ⟨hB, rfin_e hR (if_pos h1)⟩
  · refine Qcc ttFc 9 [] rfl ?_
    refine C_if rfl (fun h2 => ?_) (fun h2 => ?_)
    · refine Qco ttFc 3 [kb hb1] rfl ?_
      refine L_stA (vs := [.slice r.A r.rs.length r.c, .int .i64 r.cap, .int .i64 r.ops, .bool r.dn, .bool r.tl, .int .i64 r.af]) rfl rfl rfl sz36 rfl hb2 rfl ?_
      intro w4 hb4 hs4 hz4
      replace hB := gb_trg hB hs4 ge2
      replace hR := hR.other hb2 rfl rfl rfl hs4
      replace hb1 := hb1.grown hs4 (ne_lt lt1)
      refine Qoe ttFc 5 [] rfl ?_
      refine retC1 (vs := [.slice r.A r.rs.length r.c, .int .i64 r.cap, .int .i64 r.ops, .bool r.dn, .bool r.tl, .int .i64 r.af]) Try.results41 rfl agg36 (At.pre (hb4.at_ 0) rfl) rfl rfl ?_
      exact ⟨hB, rfin_e hR (by unfold PD.fail; rw [if_neg (rpdn h1), if_pos (by omega)])⟩
    · refine Qco ttFc 5 [] rfl ?_
      refine L_st1 rfl rfl rfl sz4 hb1 rfl ?_
      intro w5 hb5 hs5 hz5
      replace hB := gb_trg hB hs5 ge1
      replace hR := hR.other hb1 rfl rfl rfl hs5
      replace hb2 := hb2.grown hs5 (ne_gt lt1)
      refine Qoo ttFc 6 [] rfl ?_
      refine L_st1 rfl rfl rfl sz3 hb5 rfl ?_
      intro w6 hb6 hs6 hz6
      replace hB := gb_trg hB hs6 ge1
      replace hR := hR.other hb5 rfl rfl rfl hs6
      replace hb2 := hb2.grown hs6 (ne_gt lt1)
      refine Qoo ttFc 5 [kb hb6] rfl ?_
      refine L_stA (vs := [.slice r.A r.rs.length r.c, .int .i64 r.cap, .int .i64 r.ops, .bool r.dn, .bool true, .int .i64 n]) rfl rfl rfl sz36 rfl hb2 rfl ?_
      intro w7 hb7 hs7 hz7
      replace hB := gb_trg hB hs7 ge2
      replace hR := hR.other hb2 rfl rfl rfl hs7
      replace hb6 := hb6.grown hs7 (ne_lt lt1)
      refine Qoe ttFc 4 [] rfl ?_
      refine retC1 (vs := [.slice r.A r.rs.length r.c, .int .i64 r.cap, .int .i64 r.ops, .bool r.dn, .bool true, .int .i64 n]) Try.results41 rfl agg36 (At.pre (hb7.at_ 0) rfl) rfl rfl ?_
      refine ⟨hB, { r with tl := true, af := n }, { hR.up low_l with haf := fun _ => by show 0 ≤ n; omega, haf' := hnr }, ?_, ?_⟩
      · unfold PD.fail; rw [if_neg (rpdn h1), if_neg (by omega)]; rfl
      · unfold PD.fail; rw [if_neg (rpdn h1), if_neg (by omega)]; rfl
theorem rremove_ok {U : Nat → Prop} {w : World} {r : RK} (hR : RAt U w r) {nm : ByteArray} :
    Runs Try.prog 54 #[.agg #[.slice r.A r.rs.length r.c, .int .i64 r.cap, .int .i64 r.ops, .bool r.dn, .bool r.tl, .int .i64 r.af], .string nm] w (fun v w' => w.grownBy w' none ∧ RDid U w w' (r.pd.remove nm) v) := by
  have hB := gb_refl w none
  have hR0 := hR
  replace hR := hR.low
  refine enterQ Try.func54 Try.ntmps54 rfl rfl ?_
  refine Qco ttFc 2 [] rfl ?_
  refine L_box (cs := [.slice r.A r.rs.length r.c, .int .i64 r.cap, .int .i64 r.ops, .bool r.dn, .bool r.tl, .int .i64 r.af]) rfl rfl rfl ?_
  intro g1 w1 eg1 hb1 hs1 hz1
  have ge1 : w.heap.size ≤ g1 := eg_ge hB eg1
  replace hB := gb_tr hB hs1
  replace hR := hR.gb hs1
  refine L_alloc (cs := [.slice none 0 0, .int .i64 0, .int .i64 0, .bool false, .bool false, .int .i64 0]) zer36 rfl rfl ?_
  intro g2 w2 eg2 hb2 hs2 hz2
  have ge2 : w.heap.size ≤ g2 := eg_ge hB eg2
  have lt1 : g1 < g2 := lt_of_eg hb1.lt eg2
  replace hB := gb_tr hB hs2
  replace hR := hR.gb hs2
  replace hb1 := hb1.gb hs2
  refine Qoc ttFc 10 [kb hb1] rfl ?_
  refine C_cond rfl (fun h1 => ?_) (fun h1 => ?_)
  · refine Qco ttFc 3 [kb hb1] rfl ?_
    refine L_stA (vs := [.slice r.A r.rs.length r.c, .int .i64 r.cap, .int .i64 r.ops, .bool r.dn, .bool r.tl, .int .i64 r.af]) rfl rfl rfl sz36 rfl hb2 rfl ?_
    intro w3 hb3 hs3 hz3
    replace hB := gb_trg hB hs3 ge2
    replace hR := hR.other hb2 rfl rfl rfl hs3
    replace hb1 := hb1.grown hs3 (ne_lt lt1)
    refine Qoe ttFc 5 [] rfl ?_
    refine retC1 (vs := [.slice r.A r.rs.length r.c, .int .i64 r.cap, .int .i64 r.ops, .bool r.dn, .bool r.tl, .int .i64 r.af]) Try.results54 rfl agg36 (At.pre (hb3.at_ 0) rfl) rfl rfl ?_
    exact ⟨hB, rfin_e hR (if_pos h1)⟩
  · refine Qco ttFc 7 [kb hb1] rfl ?_
    refine L_call rfl cb77 (rfind (nm := nm) hR) rfl ?_
    rintro _ w4 ⟨hs4, ⟨hq1, rfl⟩ | ⟨ix1, hix1, rfl, hnm1⟩⟩
    · replace hB := gb_tr hB hs4
      replace hR := hR.gb hs4
      replace hb1 := hb1.gb hs4
      replace hb2 := hb2.gb hs4
      refine Qoo ttFc 7 [kb hb1] rfl ?_
      refine L_stA (vs := [.slice r.A r.rs.length r.c, .int .i64 r.cap, .int .i64 r.ops, .bool r.dn, .bool r.tl, .int .i64 r.af]) rfl rfl rfl sz36 rfl hb2 rfl ?_
      intro w5 hb4 hs5 hz4
      replace hB := gb_trg hB hs5 ge2
      replace hR := hR.other hb2 rfl rfl rfl hs5
      replace hb1 := hb1.grown hs5 (ne_lt lt1)
      refine Qoe ttFc 5 [] rfl ?_
      refine retC1 (vs := [.slice r.A r.rs.length r.c, .int .i64 r.cap, .int .i64 r.ops, .bool r.dn, .bool r.tl, .int .i64 r.af]) Try.results54 rfl agg36 (At.pre (hb4.at_ 0) rfl) rfl rfl ?_
      exact ⟨hB, rfin_e hR (by unfold PD.remove; rw [if_neg (rpdn h1), if_pos (rhn hq1)])⟩
    · replace hB := gb_tr hB hs4
      replace hR := hR.gb hs4
      replace hb1 := hb1.gb hs4
      replace hb2 := hb2.gb hs4
      have hneg1 : ¬ (ix1 : Int) < 0 := by omega
      refine Qoc ttFc 3 [] rfl ?_
      refine Clit (t := 14) rfl (decide_eq_false hneg1) ?_
      refine Qco ttFc 6 [kb hb1] rfl ?_
      refine L_call rfl cb78 (rop_ok hR) rfl ?_
      rintro _ w6 ⟨hs6, ⟨hq2, rfl⟩ | ⟨hq2, rfl⟩⟩
      · replace hB := gb_tr hB hs6
        replace hR := hR.gb hs6
        replace hb1 := hb1.gb hs6
        replace hb2 := hb2.gb hs6
        refine Qoo ttFc 3 [] rfl ?_
        refine L_alloc (cs := [.slice none 0 0, .int .i64 0, .int .i64 0, .bool false, .bool false, .int .i64 0]) zer36 rfl rfl ?_
        intro g3 w7 eg3 hb5 hs7 hz5
        have ge3 : w.heap.size ≤ g3 := eg_ge hB eg3
        have lt2 : g1 < g3 := lt_of_eg hb1.lt eg3
        have lt3 : g2 < g3 := lt_of_eg hb2.lt eg3
        replace hB := gb_tr hB hs7
        replace hR := hR.gb hs7
        replace hb1 := hb1.gb hs7
        replace hb2 := hb2.gb hs7
        refine L_stA (vs := [.slice r.A r.rs.length r.c, .int .i64 r.cap, .int .i64 r.ops, .bool true, .bool false, .int .i64 r.af]) rfl rfl rfl sz36 rfl hb5 rfl ?_
        intro w8 hb6 hs8 hz6
        replace hB := gb_trg hB hs8 ge3
        replace hR := hR.other hb5 rfl rfl rfl hs8
        replace hb1 := hb1.grown hs8 (ne_lt lt2)
        replace hb2 := hb2.grown hs8 (ne_lt lt3)
        refine Qoo ttFc 15 [kb hb6] rfl ?_
        refine L_stA (vs := [.slice r.A r.rs.length r.c, .int .i64 r.cap, .int .i64 r.ops, .bool true, .bool false, .int .i64 r.af]) rfl rfl rfl sz36 rfl hb2 rfl ?_
        intro w9 hb7 hs9 hz7
        replace hB := gb_trg hB hs9 ge2
        replace hR := hR.other hb2 rfl rfl rfl hs9
        replace hb1 := hb1.grown hs9 (ne_lt lt1)
        replace hb6 := hb6.grown hs9 (ne_gt lt3)
        refine Qoe ttFc 5 [] rfl ?_
        refine retC1 (vs := [.slice r.A r.rs.length r.c, .int .i64 r.cap, .int .i64 r.ops, .bool true, .bool false, .int .i64 r.af]) Try.results54 rfl agg36 (At.pre (hb7.at_ 0) rfl) rfl rfl ?_
        exact ⟨hB, rfin_d hR hq2 (by unfold PD.remove; rw [if_neg (rpdn h1), if_neg (rhy ⟨_, List.getElem_mem hix1, hnm1⟩)])⟩
      · replace hB := gb_tr hB hs6
        replace hR := hR.gb hs6
        replace hb1 := hb1.gb hs6
        replace hb2 := hb2.gb hs6
        refine Qoo ttFc 3 [] rfl ?_
        refine L_alloc (cs := [.slice none 0 0, .int .i64 0, .int .i64 0, .bool false, .bool false, .int .i64 0]) zer36 rfl rfl ?_
        intro g4 w10 eg4 hb8 hs10 hz8
        have ge4 : w.heap.size ≤ g4 := eg_ge hB eg4
        have lt4 : g1 < g4 := lt_of_eg hb1.lt eg4
        have lt5 : g2 < g4 := lt_of_eg hb2.lt eg4
        replace hB := gb_tr hB hs10
        replace hR := hR.gb hs10
        replace hb1 := hb1.gb hs10
        replace hb2 := hb2.gb hs10
        refine L_stA (vs := [.slice r.A r.rs.length r.c, .int .i64 r.cap, .int .i64 (IntKind.i64.wrap (r.ops + 1)), .bool r.dn, .bool r.tl, .int .i64 (if r.tl then IntKind.i64.wrap (r.af - 1) else r.af)]) rfl rfl rfl sz36 rfl hb8 rfl ?_
        intro w11 hb9 hs11 hz9
        replace hB := gb_trg hB hs11 ge4
        replace hR := hR.other hb8 rfl rfl rfl hs11
        replace hb1 := hb1.grown hs11 (ne_lt lt4)
        replace hb2 := hb2.grown hs11 (ne_lt lt5)
        refine Qoo ttFc 17 [kb hb9] rfl ?_
        have ge5 : w.heap.size ≤ w11.heap.size := hB.size
        refine L_call rfl cb80 (rwithout (r := r.opk) (nm := nm) (hR.opk hq2)) rfl ?_
        rintro _ w12 ⟨hs12, A_1, c_1, rfl, ho1⟩
        replace hB := gb_tr hB hs12
        replace hR := hR.gb hs12
        replace hb1 := hb1.gb hs12
        replace hb2 := hb2.gb hs12
        replace hb9 := hb9.gb hs12
        have hlo1 : w11.heap.size ≤ w12.heap.size := hs12.size
        refine L_stA (vs := [.slice A_1 ((remK RF.nm nm r.rs).length) c_1, .int .i64 r.cap, .int .i64 (IntKind.i64.wrap (r.ops + 1)), .bool r.dn, .bool r.tl, .int .i64 (if r.tl then IntKind.i64.wrap (r.af - 1) else r.af)]) rfl rfl rfl sz36 rfl hb2 rfl ?_
        intro w13 hb10 hs13 hz10
        replace hB := gb_trg hB hs13 ge2
        replace hR := hR.other hb2 rfl rfl rfl hs13
        replace hb1 := hb1.grown hs13 (ne_lt lt1)
        replace hb9 := hb9.grown hs13 (ne_gt lt5)
        replace ho1 := own_other ho1 hb2 rfl hs13
        replace hlo1 := Nat.le_trans hlo1 hs13.size
        refine Qoe ttFc 4 [] rfl ?_
        refine retC1 (vs := [.slice A_1 ((remK RF.nm nm r.rs).length) c_1, .int .i64 r.cap, .int .i64 (IntKind.i64.wrap (r.ops + 1)), .bool r.dn, .bool r.tl, .int .i64 (if r.tl then IntKind.i64.wrap (r.af - 1) else r.af)]) Try.results54 rfl agg36 (At.pre (hb10.at_ 0) rfl) rfl rfl ?_
        exact ⟨hB, rfin_t hR0 hq2 (own_lo ho1 ge5) (hR.hd.sub rem_sub) (Nat.le_trans rem_len' hR0.hl) (Nat.le_trans rem_used hR0.hu) (rem_rise hR0.hr) (fun f hf => (hR0.uf f (rem_sub f hf)).mono up_l) ((show r.pd.remove nm = r.pd.then (remK PF.nm nm r.pd.fs) by unfold PD.remove; rw [if_neg (rpdn h1), if_neg (rhy ⟨_, List.getElem_mem hix1, hnm1⟩)]).trans (by rw [rrem_pf]; rfl))⟩
end Go.Proofs.Ytoipncaopdmicaa
