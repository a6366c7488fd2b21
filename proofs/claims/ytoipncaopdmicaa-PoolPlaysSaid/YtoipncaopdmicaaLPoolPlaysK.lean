import Derived.WalkKit
import Derived.ProofKit
import Derived.OpenShut
import Derived.ShutString
import Derived.ChangeOld
import Derived.Below
import Derived.SizedLaws
import Derived.Test.YtoipncaopdmicaaKe
/-
  For every capacity and every list of calls the law PoolPlays returns true, and changes nothing that was there.
-/
namespace Go.Proofs.Ytoipncaopdmicaa.LPoolPlays
open Go.RowKit Gw Pl
set_option linter.unusedVariables false
set_option linter.unusedSimpArgs false
theorem cb14 : callB Try.prog 14 = true := by kernel_rfl
theorem cb23 : callB Try.prog 23 = true := by kernel_rfl
theorem cb31 : callB Try.prog 31 = true := by kernel_rfl
theorem cb33 : callB Try.prog 33 = true := by kernel_rfl
theorem cb34 : callB Try.prog 34 = true := by kernel_rfl
theorem cb35 : callB Try.prog 35 = true := by kernel_rfl
theorem cb36 : callB Try.prog 36 = true := by kernel_rfl
theorem cb37 : callB Try.prog 37 = true := by kernel_rfl
theorem cb38 : callB Try.prog 38 = true := by kernel_rfl
theorem cb39 : callB Try.prog 39 = true := by kernel_rfl
theorem cb41 : callB Try.prog 41 = true := by kernel_rfl
theorem cb42 : callB Try.prog 42 = true := by kernel_rfl
theorem fld68_0 : fldB Try.prog 68 0 0 = true := by kernel_rfl
theorem fld68_1 : fldB Try.prog 68 1 1 = true := by kernel_rfl
theorem fld68_2 : fldB Try.prog 68 2 2 = true := by kernel_rfl
theorem scl48 : sclB Try.prog 48 = true := by kernel_rfl
theorem slc66 : slcB Try.prog 66 68 3 32 = true := by kernel_rfl
def tabLPoolPlays : TT := { fld := [(68, 0, 0), (68, 1, 1), (68, 2, 2)], scl := [], agg := [(36, 6)], str := [], slc := [(66, 68, 3, 32)], ptr := [], cv := [] }
theorem ttLPoolPlays : TOk Try.prog tabLPoolPlays := TT.ok_of (by kernel_rfl)
theorem walk {w : World} {c0 : Int} (hg0 : (Lit.int .i64 c0).wf = true) {A1 : Option Addr} {c1 : Nat} {xs1 : List ActD} (hS1 : Sli 0 0 w.heap.size w A1 (fl encAct xs1)) (hl1 : xs1.length ≤ c1) (hm1 : c1 * 32 ≤ 140737488351232) (hg1 : ∀ x ∈ xs1, GoodAct x) :
    Runs Try.prog 6 #[.int .i64 c0, .slice A1 xs1.length c1] w (fun v w' => w.grownBy w' none ∧ v = .bool true) := by
  have hB := gb_refl w none
  have hS10 := hS1
  refine enterQ Try.func6 Try.ntmps6 rfl rfl ?_
  refine Qcc ttLPoolPlays 13 [] rfl ?_
  refine C_if rfl (fun h1 => ?_) (fun h1 => ?_)
  · refine Qco ttLPoolPlays 2 [] rfl ?_
    refine L_call rfl cb31 (awake_ok) rfl ?_
    rintro _ w1 ⟨hs1, rfl⟩
    replace hB := gb_tr hB hs1
    replace hS1 := hS1.gb hs1
    refine Qoe ttLPoolPlays 5 [] rfl ?_
    refine ret1 Try.results6 rfl ?_
    exact ⟨hB, rfl⟩
  · refine Qco ttLPoolPlays 5 [] rfl ?_
    have hsz0_ := hB.size
    refine L_call rfl cb13 (new_ok (c := c0)) rfl ?_
    rintro _ w2 ⟨hs2, S1, dk1, hD1, hge1, rfl, hpd1⟩
    replace hB := gb_tr hB hs2
    replace hS1 := hS1.gb hs2
    have hSl0_ := hD1.hSl
    refine Qoo ttLPoolPlays 1 [] rfl ?_
    refine L_call rfl cb14 (rnew_ok (U := (fun k_ => ¬ S1 k_)) (c := c0)) rfl ?_
    rintro _ w3 ⟨hs3, rk1, hA1, rfl, hpd2⟩
    replace hB := gb_tr hB hs3
    replace hS1 := hS1.gb hs3
    replace hD1 := hD1.gb hs3
    have hsz3_ := hs3.size
    refine L_alloc (cs := [.slice none 0 0, .int .i64 0, .int .i64 0, .bool false, .bool false, .int .i64 0]) zer36 rfl rfl ?_
    intro g1 w4 eg1 hb1 hs4 hz1
    have ge1 : w.heap.size ≤ g1 := eg_ge hB eg1
    replace hB := gb_tr hB hs4
    replace hS1 := hS1.gb hs4
    replace hD1 := hD1.gb hs4
    replace hA1 := hA1.gb hs4
    refine Qoo ttLPoolPlays 1 [] rfl ?_
    refine L_stA (vs := [.slice rk1.A rk1.rs.length rk1.c, .int .i64 rk1.cap, .int .i64 rk1.ops, .bool rk1.dn, .bool rk1.tl, .int .i64 rk1.af]) rfl rfl rfl sz36 rfl hb1 rfl ?_
    intro w5 hb2 hs5 hz2
    replace hB := gb_trg hB hs5 ge1
    replace hS1 := hS1.old hs5 ge1
    replace hD1 := hD1.ns (fun h_ => by have q_ := hSl0_ _ h_; omega) hs5
    replace hA1 := hA1.other hb1 rfl rfl rfl hs5
    refine Qoc ttLPoolPlays 9 [] rfl ?_
    refine C_loop (fun m_ a_ w_ => ∃ (σ_ : Nat → Value) (S' : Nat → Prop) (d' : DK) (r' : RK) (i : Nat), a_ = Ac 143 σ_ [] [(1, .slice A1 xs1.length c1), (5, .pointer (some ⟨dk1.gd, 0, none⟩)), (6, .pointer (some ⟨g1, 0, none⟩)), (7, .int .i64 (i : Int))] ∧ w.grownBy w_ none ∧ Sli 0 0 w.heap.size w_ A1 (fl encAct xs1) ∧ DiskAt S' w_ d' ∧ RAt (fun k_ => ¬ S' k_) w_ r' ∧ Blk w_ g1 36 [.slice r'.A r'.rs.length r'.c, .int .i64 r'.cap, .int .i64 r'.ops, .bool r'.dn, .bool r'.tl, .int .i64 r'.af] ∧ (i ≤ xs1.length) ∧ (d'.gd = dk1.gd) ∧ (∀ k, S' k → w.heap.size ≤ k) ∧ (¬ S' g1) ∧ (d'.pd = r'.pd) ∧ (PI r'.pd) ∧ xs1.length - i = m_) (xs1.length - 0) ?_ ?_
    · exact ⟨_, S1, dk1, rk1, 0, Ac_frg ⟨rfl, rfl, rfl, (agr rfl (by first | rfl | (congr 1; omega) | (congr 1; simp; done) | (congr 1; simp only [IntKind.wrap_u64, IntKind.wrap_i64, IntKind.wrap_u8]; omega) | (congr 1 <;> omega))), trivial⟩, hB, hS1, hD1, hA1, hb2, (by omega), rfl, (fun k_ hk_ => Nat.le_trans hsz0_ (hge1 k_ hk_)), (fun h_ => by have q_ := hSl0_ _ h_; omega), (hpd1.trans hpd2.symm), (by rw [hpd2]; exact fun f hf => by cases hf), rfl⟩
    · clear hB
      clear hS1 hD1 hA1 hb2
      rintro m_ a_ w6 ⟨σ_, S', d', r', i, rfl, hB, hS1, hDw, hRw, hb1, hi_, hgd', hge', hgb, hpd', hI', rfl⟩
      refine Q0c ?_
      refine Qcc ttLPoolPlays 9 [] rfl ?_
      refine C_if rfl (fun h2 => ?_) (fun h2 => ?_)
      · refine Qco ttLPoolPlays 21 [] rfl ?_
        have hl1 : i < xs1.length := by first | omega | (simp; done) | (simp; omega)
        refine T_index (xs := xs1) (i := i) EncAct rfl rfl (by first | rfl | omega) slc66 hl1 hS1 rfl ?_
        intro g2 o1 ha1
        refine Qoo ttLPoolPlays 1 [] rfl ?_
        refine L_run (R_load1 rfl scl48 (ha1 0 _ rfl)) rfl ?_
        refine L_run (R_rem rfl rfl (by first | decide | omega)) rfl ?_
        refine Qoc ttLPoolPlays 9 [] rfl ?_
        refine C_if rfl (fun h3 => ?_) (fun h3 => ?_)
        · refine Qco ttLPoolPlays 3 [] rfl ?_
          refine L_call rfl cb32 (take_p hB hge' hDw hgd' hRw hb1 hgb hpd' hI') rfl ?_
          rintro _ w7 ⟨⟨S2, dk2, hD2, hgd1, hB1, hge2, hR1, hbb1, hgb1, hpd3, hI1⟩, rfl⟩
          replace hB := hB1
          replace hS1 := hS10.gb hB
          refine Qoo ttLPoolPlays 9 [kb hbb1] rfl ?_
          have hSlhs6_ := hD2.hSl
          refine L_call rfl cb33 (rtake_ok hR1) rfl ?_
          rintro _ w8 ⟨hs6, rk2, hA2, rfl, hpd4⟩
          replace hB := gb_tr hB hs6
          replace hS1 := hS1.gb hs6
          replace hD2 := hD2.gb hs6
          replace hR1 := hR1.gb hs6
          replace hbb1 := hbb1.gb hs6
          replace hA2 := hA2.up (U' := fun k_ => ¬ S2 k_) (fun k_ hk_ q_ => hk_.elim (fun h_ => h_ q_) (fun h_ => by have q2_ := hSlhs6_ k_ q_; omega))
          refine Qoo ttLPoolPlays 4 [] rfl ?_
          refine L_stA (vs := [.slice rk2.A rk2.rs.length rk2.c, .int .i64 rk2.cap, .int .i64 rk2.ops, .bool rk2.dn, .bool rk2.tl, .int .i64 rk2.af]) rfl rfl rfl sz36 rfl hbb1 rfl ?_
          intro w9 hb3 hs7 hz3
          replace hB := gb_trg hB hs7 ge1
          replace hS1 := hS1.old hs7 ge1
          replace hD2 := hD2.ns hgb1 hs7
          replace hA2 := hA2.other hbb1 rfl rfl rfl hs7
          refine Qoo ttLPoolPlays 9 [] rfl ?_
          refine L_run (R_eqv (R_neqS rfl rfl) (v' := .bool false) (bF' (fun h => h rfl))) rfl ?_
          refine Qoo ttLPoolPlays 3 [] rfl ?_
          refine L_yes rfl rfl rfl rfl ?_
          refine L_run (R_eqv (R_neq rfl rfl) (v' := .bool false) (bF' (fun h => h rfl))) rfl ?_
          refine Qoo ttLPoolPlays 4 [kb hb3] rfl ?_
          refine L_yes rfl rfl rfl rfl ?_
          refine L_call rfl cb42 (same_g hD2 hgd1 hA2 (hpd3.trans hpd4.symm) (by rw [hpd3]; exact hI1)) rfl ?_
          rintro _ w10 ⟨hs8, rfl⟩
          replace hB := gb_tr hB hs8
          replace hS1 := hS1.gb hs8
          replace hD2 := hD2.gb hs8
          replace hb3 := hb3.gb hs8
          replace hA2 := hA2.gb hs8
          refine Qoe ttLPoolPlays 13 [] rfl ?_
          refine Nl ?_
          exact ⟨xs1.length - (i + 1), by omega, _, S2, dk2, rk2, (i + 1), Ac_frg ⟨rfl, rfl, rfl, (agr rfl (by first | rfl | (congr 1; omega) | (congr 1; simp; done) | (congr 1; simp only [IntKind.wrap_u64, IntKind.wrap_i64, IntKind.wrap_u8]; omega) | (congr 1 <;> omega))), trivial⟩, hB, hS1, hD2, hA2, hb3, (by omega), hgd1, hge2, hgb1, (hpd3.trans hpd4.symm), (by rw [hpd4]; exact hI1), rfl⟩
        · refine Qcc ttLPoolPlays 6 [] rfl ?_
          refine C_if rfl (fun h4 => ?_) (fun h4 => ?_)
          · refine Qco ttLPoolPlays 5 [] rfl ?_
            have hl2 : i < xs1.length := by first | omega | (simp; done) | (simp; omega)
            refine T_index (xs := xs1) (i := i) EncAct rfl rfl (by first | rfl | omega) slc66 hl2 hS1 rfl ?_
            intro g3 o2 ha2
            refine Qoo ttLPoolPlays 1 [] rfl ?_
            refine L_run (R_load1 rfl scl9 (ha2 1 _ rfl)) rfl ?_
            refine L_call rfl cb34 (give_p (nm := xs1[i].nm) hB hge' hDw hgd' hRw hb1 hgb hpd' hI') rfl ?_
            rintro _ w11 ⟨⟨S3, dk3, hD3, hgd2, hB2, hge3, hR2, hbb2, hgb2, hpd5, hI2⟩, rfl⟩
            replace hB := hB2
            replace hS1 := hS10.gb hB
            refine Qoc ttLPoolPlays 3 [] rfl ?_
            refine C_draw2 rfl mix ?_
            intro w12 hs9 hz4
            replace hB := gb_tr hB hs9
            replace hS1 := hS1.gb hs9
            replace hD3 := hD3.gb hs9
            replace hR2 := hR2.gb hs9
            replace hbb2 := hbb2.gb hs9
            have hl3 : i < xs1.length := by first | omega | (simp; done) | (simp; omega)
            obtain ⟨g4, o3, r1, eA1, er1, ha3⟩ := Sli.place' (xs := xs1) (i := i) EncAct hS1 hl3 rfl
            refine ⟨fun W_ => Blk W_ g1 36 [.slice r'.A r'.rs.length r'.c, .int .i64 r'.cap, .int .i64 r'.ops, .bool r'.dn, .bool r'.tl, .int .i64 r'.af] ∧ At W_ g4 r1 [.int .u64 ((xs1[i]).k), .string ((xs1[i]).nm), .int .i64 ((xs1[i]).n)] ∧ True, [0, 1, 2, 3, 4, 5, 7], ?_⟩
            refine Tqs ttLPoolPlays 9 [0, 1, 2] [kd hbb2] (fun _ ⟨hbb2, ha3, _⟩ => ⟨hbb2, trivial⟩) ⟨hbb2, ha3, trivial⟩ rfl ?_
            refine T_takeA (i := 3) rfl (by kernel_rfl) (by kernel_rfl) (by kernel_rfl) (by kernel_rfl) (Y_of (fun _ ⟨hbb2, ha3, _⟩ => R_indexE rfl rfl (by first | rfl | omega) slc66 hl3 eA1 er1)) ⟨hbb2, ha3, trivial⟩ rfl ?_
            refine Tqs ttLPoolPlays 7 [4] [] (fun _ _ => trivial) ⟨hbb2, ha3, trivial⟩ rfl ?_
            refine T_takeA (i := 5) rfl (by kernel_rfl) (by kernel_rfl) (by kernel_rfl) (by kernel_rfl) (Y_of (fun _ ⟨hbb2, ha3, _⟩ => R_load1 rfl scl9 (ha3 1 _ rfl))) ⟨hbb2, ha3, trivial⟩ rfl ?_
            refine T_all (rs := [6]) (by kernel_rfl) rfl (all1 (O_one rfl ?_))
            have hSlhs10_ := hD3.hSl
            refine L_call rfl cb35 (rgive_ok hR2) rfl ?_
            rintro _ w13 ⟨hs10, rk3, hA3, rfl, hpd6⟩
            replace hB := gb_tr hB hs10
            replace hS1 := hS1.gb hs10
            replace hD3 := hD3.gb hs10
            replace hR2 := hR2.gb hs10
            replace hbb2 := hbb2.gb hs10
            replace ha3 := At.gb ha3 hs10 (by simp)
            replace hA3 := hA3.up (U' := fun k_ => ¬ S3 k_) (fun k_ hk_ q_ => hk_.elim (fun h_ => h_ q_) (fun h_ => by have q2_ := hSlhs10_ k_ q_; omega))
            refine L_nil (N_then ⟨fun hN_ => ⟨hbb2, ha3, trivial⟩, ?_⟩)
            refine Tqs ttLPoolPlays 4 [7] [] (fun _ _ => trivial) ⟨hbb2, ha3, trivial⟩ rfl ?_
            refine T_all (rs := [8, 9]) (by kernel_rfl) rfl (all2 (O_one rfl ?_) (O_one rfl ?_))
            · refine L_run (R_extract rfl rfl) rfl ?_
              refine L_nil (N_then ⟨fun hN_ => ⟨hbb2, ha3, trivial⟩, ?_⟩)
              refine T_all (rs := [9, 10]) (by kernel_rfl) rfl (all2 (O_one rfl ?_) (O_one rfl ?_))
              · refine L_run (R_extract rfl rfl) rfl ?_
                refine L_nil (N_then ⟨fun hN_ => ⟨hbb2, ha3, trivial⟩, ?_⟩)
                refine T_switch (S' := fun _ => True) (qs' := [11]) (by kernel_rfl) ?_
                refine T_all (rs := [10]) (by kernel_rfl) rfl (all1 (O_one rfl ?_))
                refine L_stA (vs := [.slice rk3.A rk3.rs.length rk3.c, .int .i64 rk3.cap, .int .i64 rk3.ops, .bool rk3.dn, .bool rk3.tl, .int .i64 rk3.af]) rfl rfl rfl sz36 rfl hbb2 rfl ?_
                intro w14 hb4 hs11 hz5
                replace hB := gb_trg hB hs11 ge1
                replace hS1 := hS1.old hs11 ge1
                replace hD3 := hD3.ns hgb2 hs11
                replace hA3 := hA3.other hbb2 rfl rfl rfl hs11
                refine L_nil (N_then ⟨fun hN_ => trivial, ?_⟩)
                refine Tqs ttLPoolPlays 0 [11] [] (fun _ _ => trivial) trivial rfl ?_
                refine T_done (by kernel_rfl) (CalmE.normal ?_)
                refine Qeo ttLPoolPlays 6 [] rfl ?_
                refine L_run (R_eqv (R_neqS rfl rfl) (v' := .bool false) (bF' (fun h => h rfl))) rfl ?_
                refine Qoo ttLPoolPlays 3 [] rfl ?_
                refine L_yes rfl rfl rfl rfl ?_
                refine L_run (R_eqv (R_neq rfl rfl) (v' := .bool false) (bF' (fun h => h rfl))) rfl ?_
                refine Qoo ttLPoolPlays 4 [kb hb4] rfl ?_
                refine L_yes rfl rfl rfl rfl ?_
                refine L_call rfl cb42 (same_g hD3 hgd2 hA3 (hpd5.trans hpd6.symm) (by rw [hpd5]; exact hI2)) rfl ?_
                rintro _ w15 ⟨hs12, rfl⟩
                replace hB := gb_tr hB hs12
                replace hS1 := hS1.gb hs12
                replace hD3 := hD3.gb hs12
                replace hb4 := hb4.gb hs12
                replace hA3 := hA3.gb hs12
                refine Qoe ttLPoolPlays 13 [] rfl ?_
                refine Nl ?_
                exact ⟨xs1.length - (i + 1), by omega, _, S3, dk3, rk3, (i + 1), Ac_frg ⟨rfl, rfl, rfl, (agr rfl (by first | rfl | (congr 1; omega) | (congr 1; simp; done) | (congr 1; simp only [IntKind.wrap_u64, IntKind.wrap_i64, IntKind.wrap_u8]; omega) | (congr 1 <;> omega))), trivial⟩, hB, hS1, hD3, hA3, hb4, (by omega), hgd2, hge3, hgb2, (hpd5.trans hpd6.symm), (by rw [hpd6]; exact hI2), rfl⟩
              · refine L_stA (vs := [.slice rk3.A rk3.rs.length rk3.c, .int .i64 rk3.cap, .int .i64 rk3.ops, .bool rk3.dn, .bool rk3.tl, .int .i64 rk3.af]) rfl rfl rfl sz36 rfl hbb2 rfl ?_
                intro w16 hb5 hs13 hz6
                replace hB := gb_trg hB hs13 ge1
                replace hS1 := hS1.old hs13 ge1
                replace hD3 := hD3.ns hgb2 hs13
                replace hA3 := hA3.other hbb2 rfl rfl rfl hs13
                refine L_nil (N_then ⟨fun hN_ => absurd (hN_.symm.trans (show _ = false by kernel_rfl)) (by decide), ?_⟩)
                refine T_all (rs := [9]) (by kernel_rfl) rfl (all1 (O_one rfl ?_))
                refine L_run (R_extract rfl rfl) rfl ?_
                refine L_nil (N_then ⟨fun hN_ => absurd (hN_.symm.trans (show _ = false by kernel_rfl)) (by decide), ?_⟩)
                refine T_switch (S' := fun _ => True) (qs' := [11]) (by kernel_rfl) ?_
                refine Tqs ttLPoolPlays 0 [11] [] (fun _ _ => trivial) trivial rfl ?_
                refine T_done (by kernel_rfl) (CalmE.normal ?_)
                refine Qeo ttLPoolPlays 6 [] rfl ?_
                refine L_run (R_eqv (R_neqS rfl rfl) (v' := .bool false) (bF' (fun h => h rfl))) rfl ?_
                refine Qoo ttLPoolPlays 3 [] rfl ?_
                refine L_yes rfl rfl rfl rfl ?_
                refine L_run (R_eqv (R_neq rfl rfl) (v' := .bool false) (bF' (fun h => h rfl))) rfl ?_
                refine Qoo ttLPoolPlays 4 [kb hb5] rfl ?_
                refine L_yes rfl rfl rfl rfl ?_
                refine L_call rfl cb42 (same_g hD3 hgd2 hA3 (hpd5.trans hpd6.symm) (by rw [hpd5]; exact hI2)) rfl ?_
                rintro _ w17 ⟨hs14, rfl⟩
                replace hB := gb_tr hB hs14
                replace hS1 := hS1.gb hs14
                replace hD3 := hD3.gb hs14
                replace hb5 := hb5.gb hs14
                replace hA3 := hA3.gb hs14
                refine Qoe ttLPoolPlays 13 [] rfl ?_
                refine Nl ?_
                exact ⟨xs1.length - (i + 1), by omega, _, S3, dk3, rk3, (i + 1), Ac_frg ⟨rfl, rfl, rfl, (agr rfl (by first | rfl | (congr 1; omega) | (congr 1; simp; done) | (congr 1; simp only [IntKind.wrap_u64, IntKind.wrap_i64, IntKind.wrap_u8]; omega) | (congr 1 <;> omega))), trivial⟩, hB, hS1, hD3, hA3, hb5, (by omega), hgd2, hge3, hgb2, (hpd5.trans hpd6.symm), (by rw [hpd6]; exact hI2), rfl⟩
            · refine L_run (R_extract rfl rfl) rfl ?_
              refine L_nil (N_then ⟨fun hN_ => ⟨hbb2, ha3, trivial⟩, ?_⟩)
              refine T_all (rs := [8]) (by kernel_rfl) rfl (all1 (O_one rfl ?_))
              refine L_run (R_extract rfl rfl) rfl ?_
              refine L_nil (N_then ⟨fun hN_ => ⟨hbb2, ha3, trivial⟩, ?_⟩)
              refine T_switch (S' := fun _ => True) (qs' := [11]) (by kernel_rfl) ?_
              refine T_all (rs := [10]) (by kernel_rfl) rfl (all1 (O_one rfl ?_))
              refine L_stA (vs := [.slice rk3.A rk3.rs.length rk3.c, .int .i64 rk3.cap, .int .i64 rk3.ops, .bool rk3.dn, .bool rk3.tl, .int .i64 rk3.af]) rfl rfl rfl sz36 rfl hbb2 rfl ?_
              intro w18 hb6 hs15 hz7
              replace hB := gb_trg hB hs15 ge1
              replace hS1 := hS1.old hs15 ge1
              replace hD3 := hD3.ns hgb2 hs15
              replace hA3 := hA3.other hbb2 rfl rfl rfl hs15
              refine L_nil (N_then ⟨fun hN_ => trivial, ?_⟩)
              refine Tqs ttLPoolPlays 0 [11] [] (fun _ _ => trivial) trivial rfl ?_
              refine T_done (by kernel_rfl) (CalmE.normal ?_)
              refine Qeo ttLPoolPlays 6 [] rfl ?_
              refine L_run (R_eqv (R_neqS rfl rfl) (v' := .bool false) (bF' (fun h => h rfl))) rfl ?_
              refine Qoo ttLPoolPlays 3 [] rfl ?_
              refine L_yes rfl rfl rfl rfl ?_
              refine L_run (R_eqv (R_neq rfl rfl) (v' := .bool false) (bF' (fun h => h rfl))) rfl ?_
              refine Qoo ttLPoolPlays 4 [kb hb6] rfl ?_
              refine L_yes rfl rfl rfl rfl ?_
              refine L_call rfl cb42 (same_g hD3 hgd2 hA3 (hpd5.trans hpd6.symm) (by rw [hpd5]; exact hI2)) rfl ?_
              rintro _ w19 ⟨hs16, rfl⟩
              replace hB := gb_tr hB hs16
              replace hS1 := hS1.gb hs16
              replace hD3 := hD3.gb hs16
              replace hb6 := hb6.gb hs16
              replace hA3 := hA3.gb hs16
              refine Qoe ttLPoolPlays 13 [] rfl ?_
              refine Nl ?_
              exact ⟨xs1.length - (i + 1), by omega, _, S3, dk3, rk3, (i + 1), Ac_frg ⟨rfl, rfl, rfl, (agr rfl (by first | rfl | (congr 1; omega) | (congr 1; simp; done) | (congr 1; simp only [IntKind.wrap_u64, IntKind.wrap_i64, IntKind.wrap_u8]; omega) | (congr 1 <;> omega))), trivial⟩, hB, hS1, hD3, hA3, hb6, (by omega), hgd2, hge3, hgb2, (hpd5.trans hpd6.symm), (by rw [hpd6]; exact hI2), rfl⟩
          · refine Qcc ttLPoolPlays 6 [] rfl ?_
            refine C_if rfl (fun h5 => ?_) (fun h5 => ?_)
            · refine Qco ttLPoolPlays 3 [] rfl ?_
              refine L_call rfl cb36 (spare_p hB hge' hDw hgd' hRw hb1 hgb hpd' hI') rfl ?_
              rintro _ w20 ⟨⟨S4, dk4, hD4, hgd3, hB3, hge4, hR3, hbb3, hgb3, hpd7, hI3⟩, rfl⟩
              replace hB := hB3
              replace hS1 := hS10.gb hB
              refine Qoo ttLPoolPlays 5 [kb hbb3] rfl ?_
              have hSlhs17_ := hD4.hSl
              refine L_call rfl cb37 (rspare_ok hR3) rfl ?_
              rintro _ w21 ⟨hs17, rk4, hA4, rfl, hpd8⟩
              replace hB := gb_tr hB hs17
              replace hS1 := hS1.gb hs17
              replace hD4 := hD4.gb hs17
              replace hR3 := hR3.gb hs17
              replace hbb3 := hbb3.gb hs17
              replace hA4 := hA4.up (U' := fun k_ => ¬ S4 k_) (fun k_ hk_ q_ => hk_.elim (fun h_ => h_ q_) (fun h_ => by have q2_ := hSlhs17_ k_ q_; omega))
              refine Qoo ttLPoolPlays 3 [] rfl ?_
              refine L_stA (vs := [.slice rk4.A rk4.rs.length rk4.c, .int .i64 rk4.cap, .int .i64 rk4.ops, .bool rk4.dn, .bool rk4.tl, .int .i64 rk4.af]) rfl rfl rfl sz36 rfl hbb3 rfl ?_
              intro w22 hb7 hs18 hz8
              replace hB := gb_trg hB hs18 ge1
              replace hS1 := hS1.old hs18 ge1
              replace hD4 := hD4.ns hgb3 hs18
              replace hA4 := hA4.other hbb3 rfl rfl rfl hs18
              refine Qoo ttLPoolPlays 8 [] rfl ?_
              refine L_run (R_eqv (R_neqS rfl rfl) (v' := .bool false) (bF' (fun h => h rfl))) rfl ?_
              refine Qoo ttLPoolPlays 3 [] rfl ?_
              refine L_yes rfl rfl rfl rfl ?_
              refine L_run (R_eqv (R_neq rfl rfl) (v' := .bool false) (bF' (fun h => h rfl))) rfl ?_
              refine Qoo ttLPoolPlays 4 [kb hb7] rfl ?_
              refine L_yes rfl rfl rfl rfl ?_
              refine L_call rfl cb42 (same_g hD4 hgd3 hA4 (hpd7.trans hpd8.symm) (by rw [hpd7]; exact hI3)) rfl ?_
              rintro _ w23 ⟨hs19, rfl⟩
              replace hB := gb_tr hB hs19
              replace hS1 := hS1.gb hs19
              replace hD4 := hD4.gb hs19
              replace hb7 := hb7.gb hs19
              replace hA4 := hA4.gb hs19
              refine Qoe ttLPoolPlays 13 [] rfl ?_
              refine Nl ?_
              exact ⟨xs1.length - (i + 1), by omega, _, S4, dk4, rk4, (i + 1), Ac_frg ⟨rfl, rfl, rfl, (agr rfl (by first | rfl | (congr 1; omega) | (congr 1; simp; done) | (congr 1; simp only [IntKind.wrap_u64, IntKind.wrap_i64, IntKind.wrap_u8]; omega) | (congr 1 <;> omega))), trivial⟩, hB, hS1, hD4, hA4, hb7, (by omega), hgd3, hge4, hgb3, (hpd7.trans hpd8.symm), (by rw [hpd8]; exact hI3), rfl⟩
            · refine Qcc ttLPoolPlays 6 [] rfl ?_
              refine C_if rfl (fun h6 => ?_) (fun h6 => ?_)
              · refine Qco ttLPoolPlays 3 [] rfl ?_
                refine L_call rfl cb38 (clean_p hB hge' hDw hgd' hRw hb1 hgb hpd' hI') rfl ?_
                rintro _ w24 ⟨⟨S5, dk5, hD5, hgd4, hB4, hge5, hR4, hbb4, hgb4, hpd9, hI4⟩, rfl⟩
                replace hB := hB4
                replace hS1 := hS10.gb hB
                refine Qoo ttLPoolPlays 5 [kb hbb4] rfl ?_
                have hSlhs20_ := hD5.hSl
                refine L_call rfl cb39 (rclean_ok hR4) rfl ?_
                rintro _ w25 ⟨hs20, rk5, hA5, rfl, hpd10⟩
                replace hB := gb_tr hB hs20
                replace hS1 := hS1.gb hs20
                replace hD5 := hD5.gb hs20
                replace hR4 := hR4.gb hs20
                replace hbb4 := hbb4.gb hs20
                replace hA5 := hA5.up (U' := fun k_ => ¬ S5 k_) (fun k_ hk_ q_ => hk_.elim (fun h_ => h_ q_) (fun h_ => by have q2_ := hSlhs20_ k_ q_; omega))
                refine Qoo ttLPoolPlays 3 [] rfl ?_
                refine L_stA (vs := [.slice rk5.A rk5.rs.length rk5.c, .int .i64 rk5.cap, .int .i64 rk5.ops, .bool rk5.dn, .bool rk5.tl, .int .i64 rk5.af]) rfl rfl rfl sz36 rfl hbb4 rfl ?_
                intro w26 hb8 hs21 hz9
                replace hB := gb_trg hB hs21 ge1
                replace hS1 := hS1.old hs21 ge1
                replace hD5 := hD5.ns hgb4 hs21
                replace hA5 := hA5.other hbb4 rfl rfl rfl hs21
                refine Qoo ttLPoolPlays 8 [] rfl ?_
                refine L_run (R_eqv (R_neqS rfl rfl) (v' := .bool false) (bF' (fun h => h rfl))) rfl ?_
                refine Qoo ttLPoolPlays 3 [] rfl ?_
                refine L_yes rfl rfl rfl rfl ?_
                refine L_run (R_eqv (R_neq rfl rfl) (v' := .bool false) (bF' (fun h => h rfl))) rfl ?_
                refine Qoo ttLPoolPlays 4 [kb hb8] rfl ?_
                refine L_yes rfl rfl rfl rfl ?_
                refine L_call rfl cb42 (same_g hD5 hgd4 hA5 (hpd9.trans hpd10.symm) (by rw [hpd9]; exact hI4)) rfl ?_
                rintro _ w27 ⟨hs22, rfl⟩
                replace hB := gb_tr hB hs22
                replace hS1 := hS1.gb hs22
                replace hD5 := hD5.gb hs22
                replace hb8 := hb8.gb hs22
                replace hA5 := hA5.gb hs22
                refine Qoe ttLPoolPlays 13 [] rfl ?_
                refine Nl ?_
                exact ⟨xs1.length - (i + 1), by omega, _, S5, dk5, rk5, (i + 1), Ac_frg ⟨rfl, rfl, rfl, (agr rfl (by first | rfl | (congr 1; omega) | (congr 1; simp; done) | (congr 1; simp only [IntKind.wrap_u64, IntKind.wrap_i64, IntKind.wrap_u8]; omega) | (congr 1 <;> omega))), trivial⟩, hB, hS1, hD5, hA5, hb8, (by omega), hgd4, hge5, hgb4, (hpd9.trans hpd10.symm), (by rw [hpd10]; exact hI4), rfl⟩
              · refine Qcc ttLPoolPlays 6 [] rfl ?_
                refine C_if rfl (fun h7 => ?_) (fun h7 => ?_)
                · refine Qcc ttLPoolPlays 1 [] rfl ?_
                  refine C_draw2 rfl mix ?_
                  intro w28 hs23 hz10
                  replace hB := gb_tr hB hs23
                  replace hS1 := hS1.gb hs23
                  replace hDw := hDw.gb hs23
                  replace hRw := hRw.gb hs23
                  replace hb1 := hb1.gb hs23
                  replace ha1 := At.gb ha1 hs23 (by simp)
                  have hl4 : i < xs1.length := by first | omega | (simp; done) | (simp; omega)
                  obtain ⟨g5, o4, r2, eA2, er2, ha4⟩ := Sli.place' (xs := xs1) (i := i) EncAct hS1 hl4 rfl
                  refine ⟨fun W_ => At W_ g5 r2 [.int .u64 ((xs1[i]).k), .string ((xs1[i]).nm), .int .i64 ((xs1[i]).n)] ∧ True, [0, 1, 2, 3, 4, 5, 6, 7, 8, 9, 10], ?_⟩
                  refine Tqs ttLPoolPlays 10 [0, 1, 2] [] (fun _ _ => trivial) ⟨ha4, trivial⟩ rfl ?_
                  refine T_takeA (i := 3) rfl (by kernel_rfl) (by kernel_rfl) (by kernel_rfl) (by kernel_rfl) (Y_of (fun _ ⟨ha4, _⟩ => R_indexE rfl rfl (by first | rfl | omega) slc66 hl4 eA2 er2)) ⟨ha4, trivial⟩ rfl ?_
                  refine Tqs ttLPoolPlays 8 [4] [] (fun _ _ => trivial) ⟨ha4, trivial⟩ rfl ?_
                  refine T_takeA (i := 5) rfl (by kernel_rfl) (by kernel_rfl) (by kernel_rfl) (by kernel_rfl) (Y_of (fun _ ⟨ha4, _⟩ => R_load1 rfl scl9 (ha4 1 _ rfl))) ⟨ha4, trivial⟩ rfl ?_
                  refine Tqs ttLPoolPlays 5 [6, 7] [] (fun _ _ => trivial) ⟨ha4, trivial⟩ rfl ?_
                  refine T_takeA (i := 8) rfl (by kernel_rfl) (by kernel_rfl) (by kernel_rfl) (by kernel_rfl) (Y_of (fun _ ⟨ha4, _⟩ => R_indexE rfl rfl (by first | rfl | omega) slc66 hl4 eA2 er2)) ⟨ha4, trivial⟩ rfl ?_
                  refine Tqs ttLPoolPlays 3 [9] [] (fun _ _ => trivial) ⟨ha4, trivial⟩ rfl ?_
                  refine T_takeA (i := 10) rfl (by kernel_rfl) (by kernel_rfl) (by kernel_rfl) (by kernel_rfl) (Y_of (fun _ ⟨ha4, _⟩ => R_load1 rfl scl3 (ha4 2 _ rfl))) ⟨ha4, trivial⟩ rfl ?_
                  refine T_all (rs := [11]) (by kernel_rfl) rfl (all1 (O_one rfl ?_))
                  refine L_call rfl cb18 (make_p hB hge' hDw hgd' hRw hb1 hgb hpd' hI' (Nat.le_trans (hg1 _ (List.getElem_mem (show i < xs1.length by omega))).2.1 (by decide))) rfl ?_
                  rintro _ w29 ⟨⟨S6, dk6, hD6, hgd5, hB5, hge6, hR5, hbb5, hgb5, hpd11, hI5⟩, rfl⟩
                  replace hB := hB5
                  replace hS1 := hS10.gb hB
                  refine L_nil (N_then ⟨fun hN_ => absurd (hN_.symm.trans (show _ = false by kernel_rfl)) (by decide), ?_⟩)
                  refine T_switch (S' := fun _ => True) (qs' := [12]) (by kernel_rfl) ?_
                  refine Tqs ttLPoolPlays 0 [12] [] (fun _ _ => trivial) trivial rfl ?_
                  refine T_done (by kernel_rfl) (CalmE.normal ?_)
                  refine Qec ttLPoolPlays 1 [] rfl ?_
                  refine C_draw2 rfl mix ?_
                  intro w30 hs24 hz11
                  replace hB := gb_tr hB hs24
                  replace hS1 := hS1.gb hs24
                  replace hD6 := hD6.gb hs24
                  replace hR5 := hR5.gb hs24
                  replace hbb5 := hbb5.gb hs24
                  have hl5 : i < xs1.length := by first | omega | (simp; done) | (simp; omega)
                  obtain ⟨g6, o5, r3, eA3, er3, ha5⟩ := Sli.place' (xs := xs1) (i := i) EncAct hS1 hl5 rfl
                  refine ⟨fun W_ => Blk W_ g1 36 [.slice r'.A r'.rs.length r'.c, .int .i64 r'.cap, .int .i64 r'.ops, .bool r'.dn, .bool r'.tl, .int .i64 r'.af] ∧ At W_ g6 r3 [.int .u64 ((xs1[i]).k), .string ((xs1[i]).nm), .int .i64 ((xs1[i]).n)] ∧ True, [0, 1, 2, 3, 4, 5, 6, 7, 8, 9, 10, 12], ?_⟩
                  refine Tqs ttLPoolPlays 14 [0, 1, 2] [kd hbb5] (fun _ ⟨hbb5, ha5, _⟩ => ⟨hbb5, trivial⟩) ⟨hbb5, ha5, trivial⟩ rfl ?_
                  refine T_takeA (i := 3) rfl (by kernel_rfl) (by kernel_rfl) (by kernel_rfl) (by kernel_rfl) (Y_of (fun _ ⟨hbb5, ha5, _⟩ => R_indexE rfl rfl (by first | rfl | omega) slc66 hl5 eA3 er3)) ⟨hbb5, ha5, trivial⟩ rfl ?_
                  refine Tqs ttLPoolPlays 12 [4] [] (fun _ _ => trivial) ⟨hbb5, ha5, trivial⟩ rfl ?_
                  refine T_takeA (i := 5) rfl (by kernel_rfl) (by kernel_rfl) (by kernel_rfl) (by kernel_rfl) (Y_of (fun _ ⟨hbb5, ha5, _⟩ => R_load1 rfl scl9 (ha5 1 _ rfl))) ⟨hbb5, ha5, trivial⟩ rfl ?_
                  refine Tqs ttLPoolPlays 9 [6, 7] [] (fun _ _ => trivial) ⟨hbb5, ha5, trivial⟩ rfl ?_
                  refine T_takeA (i := 8) rfl (by kernel_rfl) (by kernel_rfl) (by kernel_rfl) (by kernel_rfl) (Y_of (fun _ ⟨hbb5, ha5, _⟩ => R_indexE rfl rfl (by first | rfl | omega) slc66 hl5 eA3 er3)) ⟨hbb5, ha5, trivial⟩ rfl ?_
                  refine Tqs ttLPoolPlays 7 [9] [] (fun _ _ => trivial) ⟨hbb5, ha5, trivial⟩ rfl ?_
                  refine T_takeA (i := 10) rfl (by kernel_rfl) (by kernel_rfl) (by kernel_rfl) (by kernel_rfl) (Y_of (fun _ ⟨hbb5, ha5, _⟩ => R_load1 rfl scl3 (ha5 2 _ rfl))) ⟨hbb5, ha5, trivial⟩ rfl ?_
                  refine T_all (rs := [11]) (by kernel_rfl) rfl (all1 (O_one rfl ?_))
                  have hSlhs25_ := hD6.hSl
                  refine L_call rfl cb40 (rmake_ok hR5 (Nat.le_trans (hg1 _ (List.getElem_mem (show i < xs1.length by omega))).2.1 (by decide))) rfl ?_
                  rintro _ w31 ⟨hs25, rk6, hA6, rfl, hpd12⟩
                  replace hB := gb_tr hB hs25
                  replace hS1 := hS1.gb hs25
                  replace hD6 := hD6.gb hs25
                  replace hR5 := hR5.gb hs25
                  replace hbb5 := hbb5.gb hs25
                  replace ha5 := At.gb ha5 hs25 (by simp)
                  replace hA6 := hA6.up (U' := fun k_ => ¬ S6 k_) (fun k_ hk_ q_ => hk_.elim (fun h_ => h_ q_) (fun h_ => by have q2_ := hSlhs25_ k_ q_; omega))
                  refine L_nil (N_then ⟨fun hN_ => ⟨hbb5, ha5, trivial⟩, ?_⟩)
                  refine Tqs ttLPoolPlays 4 [12] [] (fun _ _ => trivial) ⟨hbb5, ha5, trivial⟩ rfl ?_
                  refine T_all (rs := [13, 14]) (by kernel_rfl) rfl (all2 (O_one rfl ?_) (O_one rfl ?_))
                  · refine L_run (R_extract rfl rfl) rfl ?_
                    refine L_nil (N_then ⟨fun hN_ => ⟨hbb5, ha5, trivial⟩, ?_⟩)
                    refine T_all (rs := [14, 15]) (by kernel_rfl) rfl (all2 (O_one rfl ?_) (O_one rfl ?_))
                    · refine L_run (R_extract rfl rfl) rfl ?_
                      refine L_nil (N_then ⟨fun hN_ => ⟨hbb5, ha5, trivial⟩, ?_⟩)
                      refine T_switch (S' := fun _ => True) (qs' := [16]) (by kernel_rfl) ?_
                      refine T_all (rs := [15]) (by kernel_rfl) rfl (all1 (O_one rfl ?_))
                      refine L_stA (vs := [.slice rk6.A rk6.rs.length rk6.c, .int .i64 rk6.cap, .int .i64 rk6.ops, .bool rk6.dn, .bool rk6.tl, .int .i64 rk6.af]) rfl rfl rfl sz36 rfl hbb5 rfl ?_
                      intro w32 hb9 hs26 hz12
                      replace hB := gb_trg hB hs26 ge1
                      replace hS1 := hS1.old hs26 ge1
                      replace hD6 := hD6.ns hgb5 hs26
                      replace hA6 := hA6.other hbb5 rfl rfl rfl hs26
                      refine L_nil (N_then ⟨fun hN_ => trivial, ?_⟩)
                      refine Tqs ttLPoolPlays 0 [16] [] (fun _ _ => trivial) trivial rfl ?_
                      refine T_done (by kernel_rfl) (CalmE.normal ?_)
                      refine Qeo ttLPoolPlays 6 [] rfl ?_
                      refine L_run (R_eqv (R_neqS rfl rfl) (v' := .bool false) (bF' (fun h => h rfl))) rfl ?_
                      refine Qoo ttLPoolPlays 3 [] rfl ?_
                      refine L_yes rfl rfl rfl rfl ?_
                      refine L_run (R_eqv (R_neq rfl rfl) (v' := .bool false) (bF' (fun h => h rfl))) rfl ?_
                      refine Qoo ttLPoolPlays 4 [kb hb9] rfl ?_
                      refine L_yes rfl rfl rfl rfl ?_
                      refine L_call rfl cb42 (same_g hD6 hgd5 hA6 (hpd11.trans hpd12.symm) (by rw [hpd11]; exact hI5)) rfl ?_
                      rintro _ w33 ⟨hs27, rfl⟩
                      replace hB := gb_tr hB hs27
                      replace hS1 := hS1.gb hs27
                      replace hD6 := hD6.gb hs27
                      replace hb9 := hb9.gb hs27
                      replace hA6 := hA6.gb hs27
                      refine Qoe ttLPoolPlays 13 [] rfl ?_
                      refine Nl ?_
                      exact ⟨xs1.length - (i + 1), by omega, _, S6, dk6, rk6, (i + 1), Ac_frg ⟨rfl, rfl, rfl, (agr rfl (by first | rfl | (congr 1; omega) | (congr 1; simp; done) | (congr 1; simp only [IntKind.wrap_u64, IntKind.wrap_i64, IntKind.wrap_u8]; omega) | (congr 1 <;> omega))), trivial⟩, hB, hS1, hD6, hA6, hb9, (by omega), hgd5, hge6, hgb5, (hpd11.trans hpd12.symm), (by rw [hpd12]; exact hI5), rfl⟩
                    · refine L_stA (vs := [.slice rk6.A rk6.rs.length rk6.c, .int .i64 rk6.cap, .int .i64 rk6.ops, .bool rk6.dn, .bool rk6.tl, .int .i64 rk6.af]) rfl rfl rfl sz36 rfl hbb5 rfl ?_
                      intro w34 hb10 hs28 hz13
                      replace hB := gb_trg hB hs28 ge1
                      replace hS1 := hS1.old hs28 ge1
                      replace hD6 := hD6.ns hgb5 hs28
                      replace hA6 := hA6.other hbb5 rfl rfl rfl hs28
                      refine L_nil (N_then ⟨fun hN_ => absurd (hN_.symm.trans (show _ = false by kernel_rfl)) (by decide), ?_⟩)
                      refine T_all (rs := [14]) (by kernel_rfl) rfl (all1 (O_one rfl ?_))
                      refine L_run (R_extract rfl rfl) rfl ?_
                      refine L_nil (N_then ⟨fun hN_ => absurd (hN_.symm.trans (show _ = false by kernel_rfl)) (by decide), ?_⟩)
                      refine T_switch (S' := fun _ => True) (qs' := [16]) (by kernel_rfl) ?_
                      refine Tqs ttLPoolPlays 0 [16] [] (fun _ _ => trivial) trivial rfl ?_
                      refine T_done (by kernel_rfl) (CalmE.normal ?_)
                      refine Qeo ttLPoolPlays 6 [] rfl ?_
                      refine L_run (R_eqv (R_neqS rfl rfl) (v' := .bool false) (bF' (fun h => h rfl))) rfl ?_
                      refine Qoo ttLPoolPlays 3 [] rfl ?_
                      refine L_yes rfl rfl rfl rfl ?_
                      refine L_run (R_eqv (R_neq rfl rfl) (v' := .bool false) (bF' (fun h => h rfl))) rfl ?_
                      refine Qoo ttLPoolPlays 4 [kb hb10] rfl ?_
                      refine L_yes rfl rfl rfl rfl ?_
                      refine L_call rfl cb42 (same_g hD6 hgd5 hA6 (hpd11.trans hpd12.symm) (by rw [hpd11]; exact hI5)) rfl ?_
                      rintro _ w35 ⟨hs29, rfl⟩
                      replace hB := gb_tr hB hs29
                      replace hS1 := hS1.gb hs29
                      replace hD6 := hD6.gb hs29
                      replace hb10 := hb10.gb hs29
                      replace hA6 := hA6.gb hs29
                      refine Qoe ttLPoolPlays 13 [] rfl ?_
                      refine Nl ?_
                      exact ⟨xs1.length - (i + 1), by omega, _, S6, dk6, rk6, (i + 1), Ac_frg ⟨rfl, rfl, rfl, (agr rfl (by first | rfl | (congr 1; omega) | (congr 1; simp; done) | (congr 1; simp only [IntKind.wrap_u64, IntKind.wrap_i64, IntKind.wrap_u8]; omega) | (congr 1 <;> omega))), trivial⟩, hB, hS1, hD6, hA6, hb10, (by omega), hgd5, hge6, hgb5, (hpd11.trans hpd12.symm), (by rw [hpd12]; exact hI5), rfl⟩
                  · refine L_run (R_extract rfl rfl) rfl ?_
                    refine L_nil (N_then ⟨fun hN_ => ⟨hbb5, ha5, trivial⟩, ?_⟩)
                    refine T_all (rs := [13]) (by kernel_rfl) rfl (all1 (O_one rfl ?_))
                    refine L_run (R_extract rfl rfl) rfl ?_
                    refine L_nil (N_then ⟨fun hN_ => ⟨hbb5, ha5, trivial⟩, ?_⟩)
                    refine T_switch (S' := fun _ => True) (qs' := [16]) (by kernel_rfl) ?_
                    refine T_all (rs := [15]) (by kernel_rfl) rfl (all1 (O_one rfl ?_))
                    refine L_stA (vs := [.slice rk6.A rk6.rs.length rk6.c, .int .i64 rk6.cap, .int .i64 rk6.ops, .bool rk6.dn, .bool rk6.tl, .int .i64 rk6.af]) rfl rfl rfl sz36 rfl hbb5 rfl ?_
                    intro w36 hb11 hs30 hz14
                    replace hB := gb_trg hB hs30 ge1
                    replace hS1 := hS1.old hs30 ge1
                    replace hD6 := hD6.ns hgb5 hs30
                    replace hA6 := hA6.other hbb5 rfl rfl rfl hs30
                    refine L_nil (N_then ⟨fun hN_ => trivial, ?_⟩)
                    refine Tqs ttLPoolPlays 0 [16] [] (fun _ _ => trivial) trivial rfl ?_
                    refine T_done (by kernel_rfl) (CalmE.normal ?_)
                    refine Qeo ttLPoolPlays 6 [] rfl ?_
                    refine L_run (R_eqv (R_neqS rfl rfl) (v' := .bool false) (bF' (fun h => h rfl))) rfl ?_
                    refine Qoo ttLPoolPlays 3 [] rfl ?_
                    refine L_yes rfl rfl rfl rfl ?_
                    refine L_run (R_eqv (R_neq rfl rfl) (v' := .bool false) (bF' (fun h => h rfl))) rfl ?_
                    refine Qoo ttLPoolPlays 4 [kb hb11] rfl ?_
                    refine L_yes rfl rfl rfl rfl ?_
                    refine L_call rfl cb42 (same_g hD6 hgd5 hA6 (hpd11.trans hpd12.symm) (by rw [hpd11]; exact hI5)) rfl ?_
                    rintro _ w37 ⟨hs31, rfl⟩
                    replace hB := gb_tr hB hs31
                    replace hS1 := hS1.gb hs31
                    replace hD6 := hD6.gb hs31
                    replace hb11 := hb11.gb hs31
                    replace hA6 := hA6.gb hs31
                    refine Qoe ttLPoolPlays 13 [] rfl ?_
                    refine Nl ?_
                    exact ⟨xs1.length - (i + 1), by omega, _, S6, dk6, rk6, (i + 1), Ac_frg ⟨rfl, rfl, rfl, (agr rfl (by first | rfl | (congr 1; omega) | (congr 1; simp; done) | (congr 1; simp only [IntKind.wrap_u64, IntKind.wrap_i64, IntKind.wrap_u8]; omega) | (congr 1 <;> omega))), trivial⟩, hB, hS1, hD6, hA6, hb11, (by omega), hgd5, hge6, hgb5, (hpd11.trans hpd12.symm), (by rw [hpd12]; exact hI5), rfl⟩
                · refine Qco ttLPoolPlays 5 [] rfl ?_
                  have hl6 : i < xs1.length := by first | omega | (simp; done) | (simp; omega)
                  refine T_index (xs := xs1) (i := i) EncAct rfl rfl (by first | rfl | omega) slc66 hl6 hS1 rfl ?_
                  intro g7 o6 ha6
                  refine Qoo ttLPoolPlays 1 [] rfl ?_
                  refine L_run (R_load1 rfl scl3 (ha6 2 _ rfl)) rfl ?_
                  refine L_call rfl cb23 (fail_p hB hge' hDw hgd' hRw hb1 hgb hpd' hI' (wf64 (hg1 _ (List.getElem_mem (show i < xs1.length by omega))).2.2)) rfl ?_
                  rintro _ w38 ⟨⟨S7, dk7, hD7, hgd6, hB6, hge7, hR6, hbb6, hgb6, hpd13, hI6⟩, rfl⟩
                  replace hB := hB6
                  replace hS1 := hS10.gb hB
                  refine Qoc ttLPoolPlays 3 [] rfl ?_
                  refine C_draw2 rfl mix ?_
                  intro w39 hs32 hz15
                  replace hB := gb_tr hB hs32
                  replace hS1 := hS1.gb hs32
                  replace hD7 := hD7.gb hs32
                  replace hR6 := hR6.gb hs32
                  replace hbb6 := hbb6.gb hs32
                  have hl7 : i < xs1.length := by first | omega | (simp; done) | (simp; omega)
                  obtain ⟨g8, o7, r4, eA4, er4, ha7⟩ := Sli.place' (xs := xs1) (i := i) EncAct hS1 hl7 rfl
                  refine ⟨fun W_ => Blk W_ g1 36 [.slice r'.A r'.rs.length r'.c, .int .i64 r'.cap, .int .i64 r'.ops, .bool r'.dn, .bool r'.tl, .int .i64 r'.af] ∧ At W_ g8 r4 [.int .u64 ((xs1[i]).k), .string ((xs1[i]).nm), .int .i64 ((xs1[i]).n)] ∧ True, [0, 1, 2, 3, 4, 5, 7], ?_⟩
                  refine Tqs ttLPoolPlays 9 [0, 1, 2] [kd hbb6] (fun _ ⟨hbb6, ha7, _⟩ => ⟨hbb6, trivial⟩) ⟨hbb6, ha7, trivial⟩ rfl ?_
                  refine T_takeA (i := 3) rfl (by kernel_rfl) (by kernel_rfl) (by kernel_rfl) (by kernel_rfl) (Y_of (fun _ ⟨hbb6, ha7, _⟩ => R_indexE rfl rfl (by first | rfl | omega) slc66 hl7 eA4 er4)) ⟨hbb6, ha7, trivial⟩ rfl ?_
                  refine Tqs ttLPoolPlays 7 [4] [] (fun _ _ => trivial) ⟨hbb6, ha7, trivial⟩ rfl ?_
                  refine T_takeA (i := 5) rfl (by kernel_rfl) (by kernel_rfl) (by kernel_rfl) (by kernel_rfl) (Y_of (fun _ ⟨hbb6, ha7, _⟩ => R_load1 rfl scl3 (ha7 2 _ rfl))) ⟨hbb6, ha7, trivial⟩ rfl ?_
                  refine T_all (rs := [6]) (by kernel_rfl) rfl (all1 (O_one rfl ?_))
                  have hSlhs33_ := hD7.hSl
                  refine L_call rfl cb41 (rfail_ok hR6 (wf64 (hg1 _ (List.getElem_mem (show i < xs1.length by omega))).2.2)) rfl ?_
                  rintro _ w40 ⟨hs33, rk7, hA7, rfl, hpd14⟩
                  replace hB := gb_tr hB hs33
                  replace hS1 := hS1.gb hs33
                  replace hD7 := hD7.gb hs33
                  replace hR6 := hR6.gb hs33
                  replace hbb6 := hbb6.gb hs33
                  replace ha7 := At.gb ha7 hs33 (by simp)
                  replace hA7 := hA7.up (U' := fun k_ => ¬ S7 k_) (fun k_ hk_ q_ => hk_.elim (fun h_ => h_ q_) (fun h_ => by have q2_ := hSlhs33_ k_ q_; omega))
                  refine L_nil (N_then ⟨fun hN_ => ⟨hbb6, ha7, trivial⟩, ?_⟩)
                  refine Tqs ttLPoolPlays 4 [7] [] (fun _ _ => trivial) ⟨hbb6, ha7, trivial⟩ rfl ?_
                  refine T_all (rs := [8, 9]) (by kernel_rfl) rfl (all2 (O_one rfl ?_) (O_one rfl ?_))
                  · refine L_run (R_extract rfl rfl) rfl ?_
                    refine L_nil (N_then ⟨fun hN_ => ⟨hbb6, ha7, trivial⟩, ?_⟩)
                    refine T_all (rs := [9, 10]) (by kernel_rfl) rfl (all2 (O_one rfl ?_) (O_one rfl ?_))
                    · refine L_run (R_extract rfl rfl) rfl ?_
                      refine L_nil (N_then ⟨fun hN_ => ⟨hbb6, ha7, trivial⟩, ?_⟩)
                      refine T_switch (S' := fun _ => True) (qs' := [11]) (by kernel_rfl) ?_
                      refine T_all (rs := [10]) (by kernel_rfl) rfl (all1 (O_one rfl ?_))
                      refine L_stA (vs := [.slice rk7.A rk7.rs.length rk7.c, .int .i64 rk7.cap, .int .i64 rk7.ops, .bool rk7.dn, .bool rk7.tl, .int .i64 rk7.af]) rfl rfl rfl sz36 rfl hbb6 rfl ?_
                      intro w41 hb12 hs34 hz16
                      replace hB := gb_trg hB hs34 ge1
                      replace hS1 := hS1.old hs34 ge1
                      replace hD7 := hD7.ns hgb6 hs34
                      replace hA7 := hA7.other hbb6 rfl rfl rfl hs34
                      refine L_nil (N_then ⟨fun hN_ => trivial, ?_⟩)
                      refine Tqs ttLPoolPlays 0 [11] [] (fun _ _ => trivial) trivial rfl ?_
                      refine T_done (by kernel_rfl) (CalmE.normal ?_)
                      refine Qeo ttLPoolPlays 6 [] rfl ?_
                      refine L_run (R_eqv (R_neqS rfl rfl) (v' := .bool false) (bF' (fun h => h rfl))) rfl ?_
                      refine Qoo ttLPoolPlays 3 [] rfl ?_
                      refine L_yes rfl rfl rfl rfl ?_
                      refine L_run (R_eqv (R_neq rfl rfl) (v' := .bool false) (bF' (fun h => h rfl))) rfl ?_
                      refine Qoo ttLPoolPlays 4 [kb hb12] rfl ?_
                      refine L_yes rfl rfl rfl rfl ?_
                      refine L_call rfl cb42 (same_g hD7 hgd6 hA7 (hpd13.trans hpd14.symm) (by rw [hpd13]; exact hI6)) rfl ?_
                      rintro _ w42 ⟨hs35, rfl⟩
                      replace hB := gb_tr hB hs35
                      replace hS1 := hS1.gb hs35
                      replace hD7 := hD7.gb hs35
                      replace hb12 := hb12.gb hs35
                      replace hA7 := hA7.gb hs35
                      refine Qoe ttLPoolPlays 13 [] rfl ?_
                      refine Nl ?_
                      exact ⟨xs1.length - (i + 1), by omega, _, S7, dk7, rk7, (i + 1), Ac_frg ⟨rfl, rfl, rfl, (agr rfl (by first | rfl | (congr 1; omega) | (congr 1; simp; done) | (congr 1; simp only [IntKind.wrap_u64, IntKind.wrap_i64, IntKind.wrap_u8]; omega) | (congr 1 <;> omega))), trivial⟩, hB, hS1, hD7, hA7, hb12, (by omega), hgd6, hge7, hgb6, (hpd13.trans hpd14.symm), (by rw [hpd14]; exact hI6), rfl⟩
                    · refine L_stA (vs := [.slice rk7.A rk7.rs.length rk7.c, .int .i64 rk7.cap, .int .i64 rk7.ops, .bool rk7.dn, .bool rk7.tl, .int .i64 rk7.af]) rfl rfl rfl sz36 rfl hbb6 rfl ?_
                      intro w43 hb13 hs36 hz17
                      replace hB := gb_trg hB hs36 ge1
                      replace hS1 := hS1.old hs36 ge1
                      replace hD7 := hD7.ns hgb6 hs36
                      replace hA7 := hA7.other hbb6 rfl rfl rfl hs36
                      refine L_nil (N_then ⟨fun hN_ => absurd (hN_.symm.trans (show _ = false by kernel_rfl)) (by decide), ?_⟩)
                      refine T_all (rs := [9]) (by kernel_rfl) rfl (all1 (O_one rfl ?_))
                      refine L_run (R_extract rfl rfl) rfl ?_
                      refine L_nil (N_then ⟨fun hN_ => absurd (hN_.symm.trans (show _ = false by kernel_rfl)) (by decide), ?_⟩)
                      refine T_switch (S' := fun _ => True) (qs' := [11]) (by kernel_rfl) ?_
                      refine Tqs ttLPoolPlays 0 [11] [] (fun _ _ => trivial) trivial rfl ?_
                      refine T_done (by kernel_rfl) (CalmE.normal ?_)
                      refine Qeo ttLPoolPlays 6 [] rfl ?_
                      refine L_run (R_eqv (R_neqS rfl rfl) (v' := .bool false) (bF' (fun h => h rfl))) rfl ?_
                      refine Qoo ttLPoolPlays 3 [] rfl ?_
                      refine L_yes rfl rfl rfl rfl ?_
                      refine L_run (R_eqv (R_neq rfl rfl) (v' := .bool false) (bF' (fun h => h rfl))) rfl ?_
                      refine Qoo ttLPoolPlays 4 [kb hb13] rfl ?_
                      refine L_yes rfl rfl rfl rfl ?_
                      refine L_call rfl cb42 (same_g hD7 hgd6 hA7 (hpd13.trans hpd14.symm) (by rw [hpd13]; exact hI6)) rfl ?_
                      rintro _ w44 ⟨hs37, rfl⟩
                      replace hB := gb_tr hB hs37
                      replace hS1 := hS1.gb hs37
                      replace hD7 := hD7.gb hs37
                      replace hb13 := hb13.gb hs37
                      replace hA7 := hA7.gb hs37
                      refine Qoe ttLPoolPlays 13 [] rfl ?_
                      refine Nl ?_
                      exact ⟨xs1.length - (i + 1), by omega, _, S7, dk7, rk7, (i + 1), Ac_frg ⟨rfl, rfl, rfl, (agr rfl (by first | rfl | (congr 1; omega) | (congr 1; simp; done) | (congr 1; simp only [IntKind.wrap_u64, IntKind.wrap_i64, IntKind.wrap_u8]; omega) | (congr 1 <;> omega))), trivial⟩, hB, hS1, hD7, hA7, hb13, (by omega), hgd6, hge7, hgb6, (hpd13.trans hpd14.symm), (by rw [hpd14]; exact hI6), rfl⟩
                  · refine L_run (R_extract rfl rfl) rfl ?_
                    refine L_nil (N_then ⟨fun hN_ => ⟨hbb6, ha7, trivial⟩, ?_⟩)
                    refine T_all (rs := [8]) (by kernel_rfl) rfl (all1 (O_one rfl ?_))
                    refine L_run (R_extract rfl rfl) rfl ?_
                    refine L_nil (N_then ⟨fun hN_ => ⟨hbb6, ha7, trivial⟩, ?_⟩)
                    refine T_switch (S' := fun _ => True) (qs' := [11]) (by kernel_rfl) ?_
                    refine T_all (rs := [10]) (by kernel_rfl) rfl (all1 (O_one rfl ?_))
                    refine L_stA (vs := [.slice rk7.A rk7.rs.length rk7.c, .int .i64 rk7.cap, .int .i64 rk7.ops, .bool rk7.dn, .bool rk7.tl, .int .i64 rk7.af]) rfl rfl rfl sz36 rfl hbb6 rfl ?_
                    intro w45 hb14 hs38 hz18
                    replace hB := gb_trg hB hs38 ge1
                    replace hS1 := hS1.old hs38 ge1
                    replace hD7 := hD7.ns hgb6 hs38
                    replace hA7 := hA7.other hbb6 rfl rfl rfl hs38
                    refine L_nil (N_then ⟨fun hN_ => trivial, ?_⟩)
                    refine Tqs ttLPoolPlays 0 [11] [] (fun _ _ => trivial) trivial rfl ?_
                    refine T_done (by kernel_rfl) (CalmE.normal ?_)
                    refine Qeo ttLPoolPlays 6 [] rfl ?_
                    refine L_run (R_eqv (R_neqS rfl rfl) (v' := .bool false) (bF' (fun h => h rfl))) rfl ?_
                    refine Qoo ttLPoolPlays 3 [] rfl ?_
                    refine L_yes rfl rfl rfl rfl ?_
                    refine L_run (R_eqv (R_neq rfl rfl) (v' := .bool false) (bF' (fun h => h rfl))) rfl ?_
                    refine Qoo ttLPoolPlays 4 [kb hb14] rfl ?_
                    refine L_yes rfl rfl rfl rfl ?_
                    refine L_call rfl cb42 (same_g hD7 hgd6 hA7 (hpd13.trans hpd14.symm) (by rw [hpd13]; exact hI6)) rfl ?_
                    rintro _ w46 ⟨hs39, rfl⟩
                    replace hB := gb_tr hB hs39
                    replace hS1 := hS1.gb hs39
                    replace hD7 := hD7.gb hs39
                    replace hb14 := hb14.gb hs39
                    replace hA7 := hA7.gb hs39
                    refine Qoe ttLPoolPlays 13 [] rfl ?_
                    refine Nl ?_
                    exact ⟨xs1.length - (i + 1), by omega, _, S7, dk7, rk7, (i + 1), Ac_frg ⟨rfl, rfl, rfl, (agr rfl (by first | rfl | (congr 1; omega) | (congr 1; simp; done) | (congr 1; simp only [IntKind.wrap_u64, IntKind.wrap_i64, IntKind.wrap_u8]; omega) | (congr 1 <;> omega))), trivial⟩, hB, hS1, hD7, hA7, hb14, (by omega), hgd6, hge7, hgb6, (hpd13.trans hpd14.symm), (by rw [hpd14]; exact hI6), rfl⟩
      · refine Qce ttLPoolPlays 2 [] rfl ?_
        refine Xl ?_
        refine Qeo ttLPoolPlays 4 [] rfl ?_
        refine L_call rfl cb31 (awake_ok) rfl ?_
        rintro _ w47 ⟨hs40, rfl⟩
        replace hB := gb_tr hB hs40
        replace hS1 := hS1.gb hs40
        replace hDw := hDw.gb hs40
        replace hRw := hRw.gb hs40
        replace hb1 := hb1.gb hs40
        refine Qoe ttLPoolPlays 4 [] rfl ?_
        refine ret1 Try.results6 rfl ?_
        exact ⟨hB, rfl⟩

open Go.ChangeShapes Go.WideShapes Go.ChangeAt
theorem own : ownKnob Try.prog.godebug = none := by kernel_rfl
theorem laidOut : laidOutB Try.prog = true := by kernel_rfl
set_option maxRecDepth 100000 in
theorem lifted (os : Os) (started : os.Started) (H : Type) (enc : TypeId × Value → H) :
    ReturnsInHanded {} Try.checked os 6 .any (Rows.poolPlaysSpec.pre6 enc Try.prog Try.f6 Rows.poolPlaysRow.domain false) (Rows.poolPlaysSpec.post enc Try.prog Try.f6 false true false false) := by
  refine returnsInHanded_of_change_sized (C := Try.checked) own started (by kernel_rfl) Try.func6
    (ChangeSpec.witness6 (enc := enc) (C := Try.checked) false ⟨#[], #[.int .i64 0, .slice none 0 0], []⟩ 8 (by kernel_rfl) (by kernel_rfl) (by kernel_rfl) (by kernel_rfl)) ?_
  intro W base args ds gs before hval0 hW hcnd hsz0 _
  have hsz : (DataW.weightsEach Try.prog (Try.f6.params.toList ++ Rows.poolPlaysSpec.plain.varTypes Try.prog) (ds ++ gs)).all (· ≤ reachBytes) = true := hsz0
  have hval : ∀ (j : Nat) t v, Try.f6.params[j]? = some t → args[j]? = some v → Value.okWide Try.prog W .any base t v := hval0
  have hW' := hW
  obtain ⟨p, q, hA0, hV, rfl, hfz, hnd⟩ := hW
  have hA : DataW.TrodAll enc Try.prog W 0 (fun _ => true) true Try.f6.params.toList args.toList ds p := hA0
  rw [Try.params6] at hA hval hsz
  obtain ⟨v0, vs0, d0, ds0, p0, q0, hargs, rfl, rfl, h0, r0⟩ := trodAll_cons hA
  obtain ⟨v1, vs1, d1, ds1, p1, q1, rfl, rfl, rfl, h1, r1⟩ := trodAll_cons r0
  obtain ⟨rfl, rfl, rfl⟩ := trodAll_nil r1
  obtain rfl : args = #[v0, v1] := by cases args; simp_all
  obtain ⟨rfl, rfl⟩ := trodVars_none hV
  have lt0 : ∀ x ∈ p0, x.block < W.heap.size := by obtain ⟨m, hm⟩ := h0; exact DataW.trod_lt m _ _ _ hm
  obtain ⟨c0, e0, hg0⟩ := Rdr.arg (enc := enc) (P := Try.prog) (W := W) (Rdr.int Try.underlying3) hsz (j := 0) rfl rfl h0
  obtain rfl := of_cell e0 (by intro cs e_; obtain ⟨a_, e2_⟩ := okWide_int Try.underlying3 (hval 0 3 v0 rfl rfl); rw [e2_] at e_; cases e_)
  have lt1 : ∀ x ∈ p1, x.block < W.heap.size := by obtain ⟨m, hm⟩ := h1; exact DataW.trod_lt m _ _ _ hm
  obtain ⟨⟨A1, c1, xs1⟩, e1, hS1, hl1, hm1, hg1⟩ := Rdr.arg (enc := enc) (P := Try.prog) (W := W) (Rdr.slice (ec := encAct) (sz := 3) (by_ := 32) ((Rdr.struct Try.underlying68 rfl (by kernel_rfl) (Rds.cons (off := 0) (sz := 1) (Rdr.int Try.underlying48) (by kernel_rfl) rfl (by decide) (Rds.cons (off := 1) (sz := 1) (Rdr.str Try.underlying9) (by kernel_rfl) rfl (by decide) (Rds.cons (off := 2) (sz := 1) (Rdr.int Try.underlying3) (by kernel_rfl) rfl (by decide) (Rds.nil))))).map (fun y => (⟨y.1, y.2.1, y.2.2.1⟩ : ActD)) (e' := encAct) (fun _ _ => rfl) (good' := GoodAct) (fun _ h => ⟨h.1, h.2.1, h.2.2.1⟩)) EncAct Try.underlying66 (by kernel_rfl) (by kernel_rfl)) hsz (j := 1) rfl rfl h1
  obtain rfl := of_cell e1 (by intro cs e_; obtain ⟨a_, l_, k_, e2_⟩ := okWide_slice Try.underlying66 (hval 1 66 v1 rfl rfl); rw [e2_] at e_; cases e_)
  refine (walk (w := W) hg0 hS1 hl1 hm1 hg1).calls.mono fun e W' ⟨v_, he, hgb, hv_⟩ => ?_
  subst he
  subst hv_
  have bel := gb_below hgb
  exact ⟨_, rfl, _, _, _, [], _, [], hW', trodAll_mk1 (shut_bool Try.underlying4 _), (trodAll_cons_mk (Below.trod laidOut (by kernel_rfl) (of_decide_eq_true (by kernel_rfl)) h0 bel lt0) (trodAll_cons_mk (Below.trod laidOut (by kernel_rfl) (of_decide_eq_true (by kernel_rfl)) h1 bel lt1) trodAll_mk0)), rfl, bel.frame _, fun h => by cases h⟩
theorem over : Rows.poolPlaysRow.holds Try.pinned (OpenSpec.ofChange Rows.poolPlaysSpec) :=
  OpenClaim.holds_of_wide 6 Try.f6 rfl rfl rfl rfl rfl rfl rfl ⟨rfl, rfl, rfl, rfl, rfl⟩ rfl rfl rfl rfl rfl (by kernel_rfl) Try.func6 (by kernel_rfl)
    (of_decide_eq_true (by kernel_rfl)) (by unfold Func.isWrapper; first | (rw [if_pos (by decide +kernel)]; kernel_rfl) | (rw [if_neg (by decide +kernel)]; exact ⟨rfl, rfl⟩))
    (fun os started H enc _ => lifted os started H enc)
/-- The given statement. -/
theorem proved : Rows.PoolPlaysSaid := over
#print axioms proved

end Go.Proofs.Ytoipncaopdmicaa.LPoolPlays
