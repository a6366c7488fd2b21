/-
  For every segment, every number and every list of segments the law TailAgain returns true, and changes nothing that was there.
-/
import Derived.Test.YtbpjdcpfphnccaaDoorTw
import Derived.Test.YtbpjdcpfphnccaaDoorGr
import Derived.Test.YtbpjdcpfphnccaaDoorEt
import Derived.Test.YtbpjdcpfphnccaaDoorTie
import Derived.Test.YtbpjdcpfphnccaaDoorCards
import Derived.WalkKit
import Derived.ProofKit
import Derived.OpenShut
import Derived.ShutString
import Derived.ChangeOld
import Derived.Below
import Derived.SizedLaws
import Derived.LaidMore
import Derived.SevenTiedAt
import Derived.Stop.Joined
namespace Go.Proofs.YtbpjdcpfphnccaaDoor.LTailAgain
open Go.RowKit Gw Pl
set_option linter.unusedVariables false
set_option linter.unusedSimpArgs false
theorem boo4 : Tryd.prog.underlying 4 = some .bool := by kernel_rfl
theorem cb10 : callB Tryd.prog 10 = true := by kernel_rfl
theorem cb11 : callB Tryd.prog 11 = true := by kernel_rfl
theorem cb4 : callB Tryd.prog 4 = true := by kernel_rfl
theorem cb5 : callB Tryd.prog 5 = true := by kernel_rfl
theorem cb7 : callB Tryd.prog 7 = true := by kernel_rfl
theorem cb8 : callB Tryd.prog 8 = true := by kernel_rfl
theorem cb9 : callB Tryd.prog 9 = true := by kernel_rfl
theorem half_laid {W : World} (h : laidMetH Tryd.prog Rows.tailAgainRow.laid W) : ∃ T fz, W.heap[0]? = some (.cells Gw.tblV.toArray T fz) :=
  Ev.table_at (nm := "strandline/crc.half") (G := 0) (t := 113) (te := 90) (ks := [0, 274646895, 549293790, 820201905, 1098587580, 1361435347, 1640403810, 1905808397, 2197175160, 2460548119, 2722870694, 2987750089, 3280807620, 3553878443, 3811616794, 4084100981]) (by kernel_rfl) (by kernel_rfl) Tryd.underlying113 Tryd.underlying90 (by kernel_rfl) (by kernel_rfl) h

theorem wfu' {n : Int} (h : (Lit.int .u64 n).wf = true) : ∃ q : Nat, n = (q : Int) ∧ q < 18446744073709551616 := by
  simp [Lit.wf] at h
  have e1 : IntKind.u64.min = 0 := rfl
  have e2 : IntKind.u64.max = 18446744073709551615 := rfl
  exact ⟨n.toNat, by omega, by omega⟩
def GoodRX (W : World) (r : RecX) : Prop := Sli 0 0 W.heap.size W r.a (fl encB r.xs) ∧ r.xs.length ≤ r.c
def GoodSX (W : World) (g : SegX) : Prop := Sli 0 0 W.heap.size W g.ra (fl encRX g.recs) ∧ ∀ r ∈ g.recs, GoodRX W r
def sD (g : SegX) : SegD := ⟨g.ep, g.seq, g.first, g.hs, g.ra, g.rc, g.recs.map RecX.toD, g.pa, g.pl.length, g.pc, g.en, g.kind⟩
theorem fl_sD (g : SegX) : fl encG [sD g] = encSX g := by
  rw [fl_cons]
  show encG (sD g) ++ [] = _
  rw [List.append_nil]
  unfold encG encSX sD
  rw [List.length_map]
theorem deep_sD {w : World} {g : SegX} {lo hi t : Nat} (h : Sli t lo hi w g.ra (fl encRX g.recs)) : DeepG w.heap.size w [sD g] := by
  intro y hy
  rw [List.mem_singleton] at hy
  subst hy
  show Sli 0 0 _ _ g.ra (fl encR (g.recs.map RecX.toD))
  rw [fl_toD]
  exact sli_bare h
theorem few_sD {g : SegX} (h : FewL [sD g]) : g.recs.length ≤ 60 ∧ ∀ r ∈ g.recs, r.xs.length ≤ 600 := by
  have h1 := h.1 (sD g) (List.mem_singleton.2 rfl)
  refine ⟨?_, fun r hr => h1.2 r.toD (List.mem_map.2 ⟨r, hr, rfl⟩)⟩
  have h2 := h1.1
  unfold sD at h2
  rw [List.length_map] at h2
  exact h2
theorem lP_len {e : Nat} : ∀ (l : List (List UInt8)) (b : List UInt8) (P : List Int) (en : Nat), (lP (layN e l b P en)).length ≤ P.length + l.length
  | [], b, P, en => by show P.length ≤ _; omega
  | d :: l, b, P, en => by
    cases hs : (addN e b en d).isSome with
    | false => rw [lay_no hs]; exact Nat.zero_le _
    | true =>
      rw [lay_go hs]
      have h := lP_len (e := e) l (aB (addN e b en d)) (P ++ [((beginN en : Nat) : Int)]) (cen (addN e b en d))
      rw [List.length_append, List.length_singleton] at h
      rw [List.length_cons]
      omega
theorem lT_len {e : Nat} {rs : List RecX} (h : rs.length ≤ 60) : (lP (layT e (rs.map recYX))).length ≤ 1000000 := by
  have h1 := lP_len (e := e) (rs.map recYX) (List.replicate 832 0) [] 0
  rw [List.length_map, List.length_nil] at h1
  show (lP (layN e (rs.map recYX) (List.replicate 832 0) [] 0)).length ≤ _
  omega
theorem needs_y {w : World} {t1 lo hi : Nat} {A : Option Addr} {c : Nat} {l : List SegD} (hS : Sli t1 lo hi w A (fl encG l)) (hb : l.length ≤ 1000000) (hp : 0 < (l.length : Int)) (hl : l.length - 1 < l.length) : Runs Tryd.prog 10 #[.slice A l.length c] w (fun v w' => w.grownBy w' none ∧ v = .bool (decide ((l[l.length - 1]).kind ≠ 1))) :=
  (needs_ok hS hb).mono fun v w' h => by
    obtain ⟨h1, rfl⟩ := h
    exact ⟨h1, bD ⟨fun q => q.2 hl, fun q => ⟨by omega, fun _ => q⟩⟩⟩
theorem needs_n {w : World} {t1 lo hi : Nat} {A : Option Addr} {c : Nat} {l : List SegD} (hS : Sli t1 lo hi w A (fl encG l)) (hb : l.length ≤ 1000000) (hp : ¬ 0 < (l.length : Int)) : Runs Tryd.prog 10 #[.slice A l.length c] w (fun v w' => w.grownBy w' none ∧ v = .bool false) :=
  (needs_ok hS hb).mono fun v w' h => by
    obtain ⟨h1, rfl⟩ := h
    exact ⟨h1, bF' (fun q => by have := q.1; omega)⟩
theorem walkyy {w : World} (hT : Tbw w) {s0 : SegX} {n : Nat} {A2 : Option Addr} {c2 : Nat} {xs2 : List SegD} (hg0 : GoodSX w s0) (hn : n < 18446744073709551616) (hS2 : Sli 0 0 w.heap.size w A2 (fl encG xs2)) (hl2 : xs2.length ≤ c2) (hm2 : c2 * 120 ≤ 140737488351232) (hg2 : ∀ x ∈ xs2, GoodG w x) (hk0 : FewL [sD s0]) (hk1 : FewL xs2) :
    Runs Tryd.prog 3 #[.agg #[.int .u64 s0.ep, .int .i64 s0.seq, .int .i64 s0.first, .int .i64 (s0.hs 0), .int .i64 (s0.hs 1), .int .i64 (s0.hs 2), .int .i64 (s0.hs 3), .slice s0.ra s0.recs.length s0.rc, .slice s0.pa s0.pl.length s0.pc, .int .i64 s0.en, .int .i64 s0.kind], .int .u64 (n : Int), .slice A2 xs2.length c2] w (fun v w' => w.grownBy w' none ∧ v = .bool true) := by
  have hB := gb_refl w none
  have hSr : Sli 0 0 w.heap.size w s0.ra (fl encRX s0.recs) := hg0.1
  have hQ : DeepX 0 0 w.heap.size w s0.recs := fun y hy => (hg0.2 y hy).1
  have hD : DeepG w.heap.size w xs2 := fun y hy => (hg2 y hy).2
  have hfs := few_sD hk0
  have hlb : xs2.length ≤ 1000000 := Nat.le_trans hk1.2.1 (by decide)
  refine enter Tryd.func3 Tryd.ntmps3 rfl rfl ?_
  refine C_seq (C_reg rfl ?_)
  refine L_box (cs := [.int .u64 s0.ep, .int .i64 s0.seq, .int .i64 s0.first, .int .i64 (s0.hs 0), .int .i64 (s0.hs 1), .int .i64 (s0.hs 2), .int .i64 (s0.hs 3), .slice s0.ra s0.recs.length s0.rc, .slice s0.pa s0.pl.length s0.pc, .int .i64 s0.en, .int .i64 s0.kind]) rfl rfl rfl ?_
  intro g1 w1 eg1 hb1 hs1 hz1
  have ge1 : w.heap.size ≤ g1 := eg_ge hB eg1
  replace hB := gb_tr hB hs1
  replace hSr := hSr.gb hs1
  replace hQ := hQ.gb hs1
  replace hS2 := hS2.gb hs1
  replace hD := hD.gb hs1
  refine L_run (R_assign rfl) rfl ?_
  refine L_nil (N_then (C_seq (C_seq (C_reg rfl ?_))))
  refine L_run (R_loadA (vs := [.int .u64 s0.ep, .int .i64 s0.seq, .int .i64 s0.first, .int .i64 (s0.hs 0), .int .i64 (s0.hs 1), .int .i64 (s0.hs 2), .int .i64 (s0.hs 3), .slice s0.ra s0.recs.length s0.rc, .slice s0.pa s0.pl.length s0.pc, .int .i64 s0.en, .int .i64 s0.kind]) rfl agg29 (At.pre (hb1.at_ 0) rfl) rfl) rfl ?_
  refine L_buildSlice (pv := [(0, .agg #[.int .u64 s0.ep, .int .i64 s0.seq, .int .i64 s0.first, .int .i64 (s0.hs 0), .int .i64 (s0.hs 1), .int .i64 (s0.hs 2), .int .i64 (s0.hs 3), .slice s0.ra s0.recs.length s0.rc, .slice s0.pa s0.pl.length s0.pc, .int .i64 s0.en, .int .i64 s0.kind])]) (cs := [.int .u64 s0.ep, .int .i64 s0.seq, .int .i64 s0.first, .int .i64 (s0.hs 0), .int .i64 (s0.hs 1), .int .i64 (s0.hs 2), .int .i64 (s0.hs 3), .slice s0.ra s0.recs.length s0.rc, .slice s0.pa s0.pl.length s0.pc, .int .i64 s0.en, .int .i64 s0.kind]) slc30 zer29 rfl rfl (by kernel_rfl) rfl ?_
  intro g2 w2 eg2 hb2 hs2 hz2
  have ge2 : w.heap.size ≤ g2 := eg_ge hB eg2
  have lt1 : g1 < g2 := lt_of_eg hb1.lt eg2
  replace hB := gb_tr hB hs2
  replace hSr := hSr.gb hs2
  replace hQ := hQ.gb hs2
  replace hS2 := hS2.gb hs2
  replace hD := hD.gb hs2
  replace hb1 := hb1.gb hs2
  refine L_call rfl cb4 (law25_Few (l := [sD s0]) (by rw [fl_sD]; exact Blk.sli (m := 0) hb2) (deep_sD hSr) (show 1 ≤ 2000000000000 by decide)) rfl ?_
  rintro _ w3 ⟨hs3, rfl⟩
  replace hB := gb_tr hB hs3
  replace hSr := hSr.gb hs3
  replace hQ := hQ.gb hs3
  replace hS2 := hS2.gb hs3
  replace hD := hD.gb hs3
  replace hb1 := hb1.gb hs3
  replace hb2 := hb2.gb hs3
  refine L_run (R_notD rfl) rfl ?_
  refine L_run (R_move rfl) rfl ?_
  refine L_yes rfl rfl rfl (decide_eq_false (fun hn => hn hk0)) ?_
  refine L_run (R_move rfl) rfl ?_
  refine L_yes rfl rfl rfl (decide_eq_false (fun hn => hn hk0)) ?_
  refine L_call rfl cb4 (law25_Few (l := xs2) hS2 hD (by omega)) rfl ?_
  rintro _ w4 ⟨hs4, rfl⟩
  replace hB := gb_tr hB hs4
  replace hSr := hSr.gb hs4
  replace hQ := hQ.gb hs4
  replace hS2 := hS2.gb hs4
  replace hD := hD.gb hs4
  replace hb1 := hb1.gb hs4
  replace hb2 := hb2.gb hs4
  refine L_yes rfl rfl rfl (decide_eq_false (fun hn => hn hk0)) ?_
  refine L_run (R_notD rfl) rfl ?_
  refine L_run (R_pickF rfl (decide_eq_false (fun hn => hn hk0)) rfl) rfl ?_
  refine L_nil (N_then (C_condF rfl (decide_eq_false (fun hn => hn hk1)) (C_skip (N_then (C_seq (C_reg rfl ?_))))))
  refine L_run (R_loadA (vs := [.int .u64 s0.ep, .int .i64 s0.seq, .int .i64 s0.first, .int .i64 (s0.hs 0), .int .i64 (s0.hs 1), .int .i64 (s0.hs 2), .int .i64 (s0.hs 3), .slice s0.ra s0.recs.length s0.rc, .slice s0.pa s0.pl.length s0.pc, .int .i64 s0.en, .int .i64 s0.kind]) rfl agg29 (At.pre (hb1.at_ 0) rfl) rfl) rfl ?_
  refine L_run (R_move rfl) rfl ?_
  have ge3 : w.heap.size ≤ w4.heap.size := hB.size
  by_cases h1 : AgnOk n s0.seq s0.first s0.hs s0.recs
  · refine L_call rfl cb6 (again_y (e := n) (seq := s0.seq) (first := s0.first) (hs := s0.hs) (rs := s0.recs) (hT.gb hB) hSr hQ (by have h_ := hfs.1; omega) (fun r hr => by have h_ := hfs.2 r hr; omega) hn h1) rfl ?_
    rintro _ w5 ⟨hs5, rs1, A_1, A_2, A_3, c_1, c_2, c_3, ss1, rfl, hRs1, ho1, hDX1, ho2, ho3, hw1⟩
    replace hB := gb_tr hB hs5
    replace hSr := hSr.gb hs5
    replace hQ := hQ.gb hs5
    replace hS2 := hS2.gb hs5
    replace hD := hD.gb hs5
    replace hb1 := hb1.gb hs5
    replace hb2 := hb2.gb hs5
    have hlo1 : w4.heap.size ≤ w5.heap.size := hs5.size
    refine L_run (R_move rfl) rfl ?_
    refine L_run (R_extract rfl rfl) rfl ?_
    refine L_run (R_extract rfl rfl) rfl ?_
    refine L_run (R_extract rfl rfl) rfl ?_
    refine L_alloc (cs := [.int .u64 0, .int .i64 0, .int .i64 0, .int .i64 0, .int .i64 0, .int .i64 0, .int .i64 0, .slice none 0 0, .slice none 0 0, .int .i64 0, .int .i64 0]) zer33 rfl rfl ?_
    intro g3 w6 eg3 hb3 hs6 hz3
    have ge4 : w.heap.size ≤ g3 := eg_ge hB eg3
    have lt2 : g1 < g3 := lt_of_eg hb1.lt eg3
    have lt3 : g2 < g3 := lt_of_eg hb2.lt eg3
    replace hB := gb_tr hB hs6
    replace hSr := hSr.gb hs6
    replace hQ := hQ.gb hs6
    replace hS2 := hS2.gb hs6
    replace hD := hD.gb hs6
    replace hb1 := hb1.gb hs6
    replace hb2 := hb2.gb hs6
    replace ho1 := own_gb ho1 hs6
    replace hDX1 := hDX1.gb hs6
    replace ho2 := own_gb ho2 hs6
    replace ho3 := own_gb ho3 hs6
    replace hlo1 := Nat.le_trans hlo1 hs6.size
    refine L_stA (vs := [.int .u64 (n : Int), .int .i64 s0.seq, .int .i64 s0.first, .int .i64 (s0.hs 0), .int .i64 (s0.hs 1), .int .i64 (s0.hs 2), .int .i64 (s0.hs 3), .slice A_1 rs1.length c_1, .slice A_2 ((lP (layT n (s0.recs.map recYX))).length) c_2, .int .i64 ((lE (layT n (s0.recs.map recYX)) : Nat) : Int), .int .i64 1]) rfl rfl rfl sz33 rfl hb3 rfl ?_
    intro w7 hb4 hs7 hz4
    replace hB := gb_trg hB hs7 ge4
    replace hSr := hSr.old hs7 ge4
    replace hQ := hQ.far hs7 (by omega)
    replace hS2 := hS2.old hs7 ge4
    replace hD := hD.old hs7 ge4
    replace hb1 := hb1.grown hs7 (ne_lt lt2)
    replace hb2 := hb2.grown hs7 (ne_lt lt3)
    replace ho1 := own_other ho1 hb3 rfl hs7
    replace hDX1 := hDX1.other hb3 rfl rfl hs7
    replace ho2 := own_other ho2 hb3 rfl hs7
    replace ho3 := own_other ho3 hb3 rfl hs7
    replace hlo1 := Nat.le_trans hlo1 hs7.size
    refine L_run (R_assign rfl) rfl ?_
    refine L_run (R_assign rfl) rfl ?_
    refine L_nil (N_then (C_seq (C_reg rfl ?_)))
    refine L_run (R_loadA (vs := [.int .u64 s0.ep, .int .i64 s0.seq, .int .i64 s0.first, .int .i64 (s0.hs 0), .int .i64 (s0.hs 1), .int .i64 (s0.hs 2), .int .i64 (s0.hs 3), .slice s0.ra s0.recs.length s0.rc, .slice s0.pa s0.pl.length s0.pc, .int .i64 s0.en, .int .i64 s0.kind]) rfl agg29 (At.pre (hb1.at_ 0) rfl) rfl) rfl ?_
    refine L_run (R_move rfl) rfl ?_
    have ge5 : w.heap.size ≤ w7.heap.size := hB.size
    refine L_call rfl cb7 (ragain_y (e := n) (seq := s0.seq) (first := s0.first) (hs := s0.hs) (rs := s0.recs) hSr hQ (by have h_ := hfs.1; omega) (fun r hr => by have h_ := hfs.2 r hr; omega) hn h1) rfl ?_
    rintro _ w8 ⟨hs8, A_5, A_6, c_5, c_6, ss2, rfl, ho5, ho6, hw2⟩
    replace hB := gb_tr hB hs8
    replace hSr := hSr.gb hs8
    replace hQ := hQ.gb hs8
    replace hS2 := hS2.gb hs8
    replace hD := hD.gb hs8
    replace hb1 := hb1.gb hs8
    replace hb2 := hb2.gb hs8
    replace ho1 := own_gb ho1 hs8
    replace hDX1 := hDX1.gb hs8
    replace ho2 := own_gb ho2 hs8
    replace ho3 := own_gb ho3 hs8
    replace hlo1 := Nat.le_trans hlo1 hs8.size
    replace hb4 := hb4.gb hs8
    have hlo2 : w7.heap.size ≤ w8.heap.size := hs8.size
    refine L_run (R_move rfl) rfl ?_
    refine L_run (R_extract rfl rfl) rfl ?_
    refine L_run (R_extract rfl rfl) rfl ?_
    refine L_run (R_extract rfl rfl) rfl ?_
    refine L_alloc (cs := [.int .u64 0, .int .i64 0, .int .i64 0, .int .i64 0, .int .i64 0, .int .i64 0, .int .i64 0, .slice none 0 0, .slice none 0 0, .int .i64 0, .int .i64 0]) zer29 rfl rfl ?_
    intro g4 w9 eg4 hb5 hs9 hz5
    have ge6 : w.heap.size ≤ g4 := eg_ge hB eg4
    have lt4 : g1 < g4 := lt_of_eg hb1.lt eg4
    have lt5 : g2 < g4 := lt_of_eg hb2.lt eg4
    have lt6 : g3 < g4 := lt_of_eg hb4.lt eg4
    replace hB := gb_tr hB hs9
    replace hSr := hSr.gb hs9
    replace hQ := hQ.gb hs9
    replace hS2 := hS2.gb hs9
    replace hD := hD.gb hs9
    replace hb1 := hb1.gb hs9
    replace hb2 := hb2.gb hs9
    replace ho1 := own_gb ho1 hs9
    replace hDX1 := hDX1.gb hs9
    replace ho2 := own_gb ho2 hs9
    replace ho3 := own_gb ho3 hs9
    replace hlo1 := Nat.le_trans hlo1 hs9.size
    replace hb4 := hb4.gb hs9
    replace ho5 := own_gb ho5 hs9
    replace ho6 := own_gb ho6 hs9
    replace hlo2 := Nat.le_trans hlo2 hs9.size
    refine L_stA (vs := [.int .u64 (n : Int), .int .i64 s0.seq, .int .i64 s0.first, .int .i64 (s0.hs 0), .int .i64 (s0.hs 1), .int .i64 (s0.hs 2), .int .i64 (s0.hs 3), .slice s0.ra s0.recs.length s0.rc, .slice A_5 ((lP (layT n (s0.recs.map recYX))).length) c_5, .int .i64 ((lE (layT n (s0.recs.map recYX)) : Nat) : Int), .int .i64 1]) rfl rfl rfl sz29 rfl hb5 rfl ?_
    intro w10 hb6 hs10 hz6
    replace hB := gb_trg hB hs10 ge6
    replace hSr := hSr.old hs10 ge6
    replace hQ := hQ.far hs10 (by omega)
    replace hS2 := hS2.old hs10 ge6
    replace hD := hD.old hs10 ge6
    replace hb1 := hb1.grown hs10 (ne_lt lt4)
    replace hb2 := hb2.grown hs10 (ne_lt lt5)
    replace ho1 := own_other ho1 hb5 rfl hs10
    replace hDX1 := hDX1.other hb5 rfl rfl hs10
    replace ho2 := own_other ho2 hb5 rfl hs10
    replace ho3 := own_other ho3 hb5 rfl hs10
    replace hlo1 := Nat.le_trans hlo1 hs10.size
    replace hb4 := hb4.grown hs10 (ne_lt lt6)
    replace ho5 := own_other ho5 hb5 rfl hs10
    replace ho6 := own_other ho6 hb5 rfl hs10
    replace hlo2 := Nat.le_trans hlo2 hs10.size
    refine L_run (R_assign rfl) rfl ?_
    refine L_run (R_assign rfl) rfl ?_
    refine L_nil (N_then (C_seq (C_seq (C_reg rfl ?_))))
    refine L_run (R_move rfl) rfl ?_
    refine L_run (R_move rfl) rfl ?_
    refine L_run (R_eqv (R_neq rfl rfl) (v' := .bool false) rfl) rfl ?_
    refine L_run (R_move rfl) rfl ?_
    refine L_yes rfl rfl rfl rfl ?_
    refine L_run (R_move rfl) rfl ?_
    refine L_yes rfl rfl rfl rfl ?_
    refine L_run (R_move rfl) rfl ?_
    refine L_yes rfl rfl rfl rfl ?_
    refine L_call rfl cb8 (same06_ok (ss1 := ss1) (ss2 := ss2) (own_of ho3).2.2 (own_of ho6).2.2 (hw1.trans hw2.symm) (ss_le hw1)) rfl ?_
    rintro _ w11 ⟨hs11, rfl⟩
    replace hB := gb_tr hB hs11
    replace hSr := hSr.gb hs11
    replace hQ := hQ.gb hs11
    replace hS2 := hS2.gb hs11
    replace hD := hD.gb hs11
    replace hb1 := hb1.gb hs11
    replace hb2 := hb2.gb hs11
    replace ho1 := own_gb ho1 hs11
    replace hDX1 := hDX1.gb hs11
    replace ho2 := own_gb ho2 hs11
    replace ho3 := own_gb ho3 hs11
    replace hlo1 := Nat.le_trans hlo1 hs11.size
    replace hb4 := hb4.gb hs11
    replace ho5 := own_gb ho5 hs11
    replace ho6 := own_gb ho6 hs11
    replace hlo2 := Nat.le_trans hlo2 hs11.size
    replace hb6 := hb6.gb hs11
    refine L_yes rfl rfl rfl rfl ?_
    refine L_run (R_not rfl) rfl ?_
    refine L_run (R_pickF rfl rfl rfl) rfl ?_
    refine L_run (R_move rfl) rfl ?_
    refine L_yes rfl rfl rfl rfl ?_
    refine L_run (R_loadA (vs := [.int .u64 (n : Int), .int .i64 s0.seq, .int .i64 s0.first, .int .i64 (s0.hs 0), .int .i64 (s0.hs 1), .int .i64 (s0.hs 2), .int .i64 (s0.hs 3), .slice A_1 rs1.length c_1, .slice A_2 ((lP (layT n (s0.recs.map recYX))).length) c_2, .int .i64 ((lE (layT n (s0.recs.map recYX)) : Nat) : Int), .int .i64 1]) rfl agg33 (At.pre (hb4.at_ 0) rfl) rfl) rfl ?_
    refine L_yes rfl rfl rfl rfl ?_
    refine L_buildSlice (pv := [(0, .agg #[.int .u64 (n : Int), .int .i64 s0.seq, .int .i64 s0.first, .int .i64 (s0.hs 0), .int .i64 (s0.hs 1), .int .i64 (s0.hs 2), .int .i64 (s0.hs 3), .slice A_1 rs1.length c_1, .slice A_2 ((lP (layT n (s0.recs.map recYX))).length) c_2, .int .i64 ((lE (layT n (s0.recs.map recYX)) : Nat) : Int), .int .i64 1])]) (cs := [.int .u64 (n : Int), .int .i64 s0.seq, .int .i64 s0.first, .int .i64 (s0.hs 0), .int .i64 (s0.hs 1), .int .i64 (s0.hs 2), .int .i64 (s0.hs 3), .slice A_1 rs1.length c_1, .slice A_2 ((lP (layT n (s0.recs.map recYX))).length) c_2, .int .i64 ((lE (layT n (s0.recs.map recYX)) : Nat) : Int), .int .i64 1]) slc30 zer29 rfl rfl (by kernel_rfl) rfl ?_
    intro g5 w12 eg5 hb7 hs12 hz7
    have ge7 : w.heap.size ≤ g5 := eg_ge hB eg5
    have lt7 : g1 < g5 := lt_of_eg hb1.lt eg5
    have lt8 : g2 < g5 := lt_of_eg hb2.lt eg5
    have lt9 : g3 < g5 := lt_of_eg hb4.lt eg5
    have lt10 : g4 < g5 := lt_of_eg hb6.lt eg5
    replace hB := gb_tr hB hs12
    replace hSr := hSr.gb hs12
    replace hQ := hQ.gb hs12
    replace hS2 := hS2.gb hs12
    replace hD := hD.gb hs12
    replace hb1 := hb1.gb hs12
    replace hb2 := hb2.gb hs12
    replace ho1 := own_gb ho1 hs12
    replace hDX1 := hDX1.gb hs12
    replace ho2 := own_gb ho2 hs12
    replace ho3 := own_gb ho3 hs12
    replace hlo1 := Nat.le_trans hlo1 hs12.size
    replace hb4 := hb4.gb hs12
    replace ho5 := own_gb ho5 hs12
    replace ho6 := own_gb ho6 hs12
    replace hlo2 := Nat.le_trans hlo2 hs12.size
    replace hb6 := hb6.gb hs12
    refine L_yes rfl rfl rfl rfl ?_
    refine L_run (R_loadA (vs := [.int .u64 (n : Int), .int .i64 s0.seq, .int .i64 s0.first, .int .i64 (s0.hs 0), .int .i64 (s0.hs 1), .int .i64 (s0.hs 2), .int .i64 (s0.hs 3), .slice s0.ra s0.recs.length s0.rc, .slice A_5 ((lP (layT n (s0.recs.map recYX))).length) c_5, .int .i64 ((lE (layT n (s0.recs.map recYX)) : Nat) : Int), .int .i64 1]) rfl agg29 (At.pre (hb6.at_ 0) rfl) rfl) rfl ?_
    refine L_yes rfl rfl rfl rfl ?_
    refine L_buildSlice (pv := [(0, .agg #[.int .u64 (n : Int), .int .i64 s0.seq, .int .i64 s0.first, .int .i64 (s0.hs 0), .int .i64 (s0.hs 1), .int .i64 (s0.hs 2), .int .i64 (s0.hs 3), .slice s0.ra s0.recs.length s0.rc, .slice A_5 ((lP (layT n (s0.recs.map recYX))).length) c_5, .int .i64 ((lE (layT n (s0.recs.map recYX)) : Nat) : Int), .int .i64 1])]) (cs := [.int .u64 (n : Int), .int .i64 s0.seq, .int .i64 s0.first, .int .i64 (s0.hs 0), .int .i64 (s0.hs 1), .int .i64 (s0.hs 2), .int .i64 (s0.hs 3), .slice s0.ra s0.recs.length s0.rc, .slice A_5 ((lP (layT n (s0.recs.map recYX))).length) c_5, .int .i64 ((lE (layT n (s0.recs.map recYX)) : Nat) : Int), .int .i64 1]) slc30 zer29 rfl rfl (by kernel_rfl) rfl ?_
    intro g6 w13 eg6 hb8 hs13 hz8
    have ge8 : w.heap.size ≤ g6 := eg_ge hB eg6
    have lt11 : g1 < g6 := lt_of_eg hb1.lt eg6
    have lt12 : g2 < g6 := lt_of_eg hb2.lt eg6
    have lt13 : g3 < g6 := lt_of_eg hb4.lt eg6
    have lt14 : g4 < g6 := lt_of_eg hb6.lt eg6
    have lt15 : g5 < g6 := lt_of_eg hb7.lt eg6
    replace hB := gb_tr hB hs13
    replace hSr := hSr.gb hs13
    replace hQ := hQ.gb hs13
    replace hS2 := hS2.gb hs13
    replace hD := hD.gb hs13
    replace hb1 := hb1.gb hs13
    replace hb2 := hb2.gb hs13
    replace ho1 := own_gb ho1 hs13
    replace hDX1 := hDX1.gb hs13
    replace ho2 := own_gb ho2 hs13
    replace ho3 := own_gb ho3 hs13
    replace hlo1 := Nat.le_trans hlo1 hs13.size
    replace hb4 := hb4.gb hs13
    replace ho5 := own_gb ho5 hs13
    replace ho6 := own_gb ho6 hs13
    replace hlo2 := Nat.le_trans hlo2 hs13.size
    replace hb6 := hb6.gb hs13
    replace hb7 := hb7.gb hs13
    refine L_yes rfl rfl rfl rfl ?_
    refine L_call rfl cb9 (same25_ok (l1 := [(⟨(n : Int), s0.seq, s0.first, s0.hs, A_1, c_1, rs1, A_2, c_2, lP (layT n (s0.recs.map recYX)), ((lE (layT n (s0.recs.map recYX)) : Nat) : Int), 1⟩ : SegX)]) (l2 := [(⟨(n : Int), s0.seq, s0.first, s0.hs, s0.ra, s0.rc, s0.recs, A_5, c_5, lP (layT n (s0.recs.map recYX)), ((lE (layT n (s0.recs.map recYX)) : Nat) : Int), 1⟩ : SegX)]) (Blk.sli (m := 0) hb7) (Blk.sli (m := 0) hb8) (DeepSX.one (g := (⟨(n : Int), s0.seq, s0.first, s0.hs, A_1, c_1, rs1, A_2, c_2, lP (layT n (s0.recs.map recYX)), ((lE (layT n (s0.recs.map recYX)) : Nat) : Int), 1⟩ : SegX)) (own_of ho1).2.2 hDX1 (own_of ho2).2.2) (DeepSX.one (g := (⟨(n : Int), s0.seq, s0.first, s0.hs, s0.ra, s0.rc, s0.recs, A_5, c_5, lP (layT n (s0.recs.map recYX)), ((lE (layT n (s0.recs.map recYX)) : Nat) : Int), 1⟩ : SegX)) hSr hQ (own_of ho5).2.2) (SgEq.one (x := (⟨(n : Int), s0.seq, s0.first, s0.hs, A_1, c_1, rs1, A_2, c_2, lP (layT n (s0.recs.map recYX)), ((lE (layT n (s0.recs.map recYX)) : Nat) : Int), 1⟩ : SegX)) (y := (⟨(n : Int), s0.seq, s0.first, s0.hs, s0.ra, s0.rc, s0.recs, A_5, c_5, lP (layT n (s0.recs.map recYX)), ((lE (layT n (s0.recs.map recYX)) : Nat) : Int), 1⟩ : SegX)) ⟨⟨rfl, rfl, rfl, ⟨rfl, rfl, rfl, rfl, trivial⟩, trivial⟩, rfl, rfl, hRs1, rfl, (by have h_ := hRs1.len; show rs1.length ≤ 1000000; omega), (lT_len hfs.1)⟩) (show 1 ≤ 1000000 by decide)) rfl ?_
    rintro _ w14 ⟨hs14, rfl⟩
    replace hB := gb_tr hB hs14
    replace hSr := hSr.gb hs14
    replace hQ := hQ.gb hs14
    replace hS2 := hS2.gb hs14
    replace hD := hD.gb hs14
    replace hb1 := hb1.gb hs14
    replace hb2 := hb2.gb hs14
    replace ho1 := own_gb ho1 hs14
    replace hDX1 := hDX1.gb hs14
    replace ho2 := own_gb ho2 hs14
    replace ho3 := own_gb ho3 hs14
    replace hlo1 := Nat.le_trans hlo1 hs14.size
    replace hb4 := hb4.gb hs14
    replace ho5 := own_gb ho5 hs14
    replace ho6 := own_gb ho6 hs14
    replace hlo2 := Nat.le_trans hlo2 hs14.size
    replace hb6 := hb6.gb hs14
    replace hb7 := hb7.gb hs14
    replace hb8 := hb8.gb hs14
    refine L_yes rfl rfl rfl rfl ?_
    refine L_run (R_not rfl) rfl ?_
    refine L_run (R_pickF rfl rfl rfl) rfl ?_
    refine L_nil (N_then (C_condF rfl rfl (C_skip (N_then (C_seq (C_reg rfl ?_))))))
    refine L_run (R_move rfl) rfl ?_
    have ge9 : w.heap.size ≤ w14.heap.size := hB.size
    refine L_call rfl cb11 (law25_Own (l := xs2) hS2 hlb) rfl ?_
    rintro _ w15 ⟨hs15, A_7, c_7, rfl, ho7⟩
    replace hB := gb_tr hB hs15
    replace hSr := hSr.gb hs15
    replace hQ := hQ.gb hs15
    replace hS2 := hS2.gb hs15
    replace hD := hD.gb hs15
    replace hb1 := hb1.gb hs15
    replace hb2 := hb2.gb hs15
    replace ho1 := own_gb ho1 hs15
    replace hDX1 := hDX1.gb hs15
    replace ho2 := own_gb ho2 hs15
    replace ho3 := own_gb ho3 hs15
    replace hlo1 := Nat.le_trans hlo1 hs15.size
    replace hb4 := hb4.gb hs15
    replace ho5 := own_gb ho5 hs15
    replace ho6 := own_gb ho6 hs15
    replace hlo2 := Nat.le_trans hlo2 hs15.size
    replace hb6 := hb6.gb hs15
    replace hb7 := hb7.gb hs15
    replace hb8 := hb8.gb hs15
    have hlo3 : w14.heap.size ≤ w15.heap.size := hs15.size
    by_cases h2 : 0 < (xs2.length : Int)
    · have hln_ : xs2.length - 1 < xs2.length := by omega
      refine L_call rfl cb10 (needs_y (l := xs2) (own_of ho7).2.2 hlb h2 hln_) rfl ?_
      rintro _ w16 ⟨hs16, rfl⟩
      replace hB := gb_tr hB hs16
      replace hSr := hSr.gb hs16
      replace hQ := hQ.gb hs16
      replace hS2 := hS2.gb hs16
      replace hD := hD.gb hs16
      replace hb1 := hb1.gb hs16
      replace hb2 := hb2.gb hs16
      replace ho1 := own_gb ho1 hs16
      replace hDX1 := hDX1.gb hs16
      replace ho2 := own_gb ho2 hs16
      replace ho3 := own_gb ho3 hs16
      replace hlo1 := Nat.le_trans hlo1 hs16.size
      replace hb4 := hb4.gb hs16
      replace ho5 := own_gb ho5 hs16
      replace ho6 := own_gb ho6 hs16
      replace hlo2 := Nat.le_trans hlo2 hs16.size
      replace hb6 := hb6.gb hs16
      replace hb7 := hb7.gb hs16
      replace hb8 := hb8.gb hs16
      replace ho7 := own_gb ho7 hs16
      replace hlo3 := Nat.le_trans hlo3 hs16.size
      refine L_run (R_move rfl) rfl ?_
      refine L_run (R_lenSl rfl slc30) rfl ?_
      refine L_run (R_gtr rfl rfl) rfl ?_
      refine L_run (R_move rfl) rfl ?_
      refine L_yes rfl rfl rfl (decide_eq_true h2) ?_
      refine L_run (R_move rfl) rfl ?_
      refine L_yes rfl rfl rfl (decide_eq_true h2) ?_
      refine L_run (R_move rfl) rfl ?_
      refine L_yes rfl rfl rfl (decide_eq_true h2) ?_
      refine L_run (R_lenSl rfl slc30) rfl ?_
      refine L_yes rfl rfl rfl (decide_eq_true h2) ?_
      refine L_run (R_sub64 rfl rfl (by omega)) rfl ?_
      refine L_yes rfl rfl rfl (decide_eq_true h2) ?_
      have hl1 : (xs2.length - 1) < xs2.length := hln_
      refine T_index (xs := xs2) (i := (xs2.length - 1)) EncG rfl rfl (by first | rfl | omega) slc30 hl1 hS2 rfl ?_
      intro g7 o1 ha1
      refine L_yes rfl rfl rfl (decide_eq_true h2) ?_
      refine L_run (R_field rfl fld29_4 rfl) rfl ?_
      refine L_yes rfl rfl rfl (decide_eq_true h2) ?_
      refine L_run (R_load1 rfl scl3 (ha1 10 _ rfl)) rfl ?_
      refine L_yes rfl rfl rfl (decide_eq_true h2) ?_
      refine L_run (R_neq rfl rfl) rfl ?_
      refine L_run (R_pickT rfl (decide_eq_true h2) rfl) rfl ?_
      refine L_run (R_eqv (R_eqlB rfl rfl boo4) (v' := .bool true) (by simp)) rfl ?_
      refine L_run (R_move rfl) rfl ?_
      refine L_yes rfl rfl rfl rfl ?_
      refine L_call rfl cb5 (awakeT (hT.gb hB)) rfl ?_
      rintro _ w17 ⟨hs17, rfl⟩
      replace hB := gb_tr hB hs17
      replace hSr := hSr.gb hs17
      replace hQ := hQ.gb hs17
      replace hS2 := hS2.gb hs17
      replace hD := hD.gb hs17
      replace hb1 := hb1.gb hs17
      replace hb2 := hb2.gb hs17
      replace ho1 := own_gb ho1 hs17
      replace hDX1 := hDX1.gb hs17
      replace ho2 := own_gb ho2 hs17
      replace ho3 := own_gb ho3 hs17
      replace hlo1 := Nat.le_trans hlo1 hs17.size
      replace hb4 := hb4.gb hs17
      replace ho5 := own_gb ho5 hs17
      replace ho6 := own_gb ho6 hs17
      replace hlo2 := Nat.le_trans hlo2 hs17.size
      replace hb6 := hb6.gb hs17
      replace hb7 := hb7.gb hs17
      replace hb8 := hb8.gb hs17
      replace ho7 := own_gb ho7 hs17
      replace hlo3 := Nat.le_trans hlo3 hs17.size
      replace ha1 := At.gb ha1 hs17 (by simp)
      refine L_run (R_pickT rfl rfl rfl) rfl ?_
      refine L_run (R_assign rfl) rfl ?_
      refine L_nil (N_then (C_ret ?_))
      refine ret1 Tryd.results3 rfl ?_
      exact ⟨hB, rfl⟩
    · refine L_call rfl cb10 (needs_n (l := xs2) (own_of ho7).2.2 hlb h2) rfl ?_
      rintro _ w18 ⟨hs18, rfl⟩
      replace hB := gb_tr hB hs18
      replace hSr := hSr.gb hs18
      replace hQ := hQ.gb hs18
      replace hS2 := hS2.gb hs18
      replace hD := hD.gb hs18
      replace hb1 := hb1.gb hs18
      replace hb2 := hb2.gb hs18
      replace ho1 := own_gb ho1 hs18
      replace hDX1 := hDX1.gb hs18
      replace ho2 := own_gb ho2 hs18
      replace ho3 := own_gb ho3 hs18
      replace hlo1 := Nat.le_trans hlo1 hs18.size
      replace hb4 := hb4.gb hs18
      replace ho5 := own_gb ho5 hs18
      replace ho6 := own_gb ho6 hs18
      replace hlo2 := Nat.le_trans hlo2 hs18.size
      replace hb6 := hb6.gb hs18
      replace hb7 := hb7.gb hs18
      replace hb8 := hb8.gb hs18
      replace ho7 := own_gb ho7 hs18
      replace hlo3 := Nat.le_trans hlo3 hs18.size
      refine L_run (R_move rfl) rfl ?_
      refine L_run (R_lenSl rfl slc30) rfl ?_
      refine L_run (R_gtr rfl rfl) rfl ?_
      refine L_run (R_move rfl) rfl ?_
      refine L_no rfl rfl rfl (decide_eq_false h2) rfl ?_
      refine L_no rfl rfl rfl (decide_eq_false h2) rfl ?_
      refine L_no rfl rfl rfl (decide_eq_false h2) rfl ?_
      refine L_no rfl rfl rfl (decide_eq_false h2) rfl ?_
      refine L_no rfl rfl rfl (decide_eq_false h2) rfl ?_
      refine L_no rfl rfl rfl (decide_eq_false h2) rfl ?_
      refine L_no rfl rfl rfl (decide_eq_false h2) rfl ?_
      refine L_no rfl rfl rfl (decide_eq_false h2) rfl ?_
      refine L_run (R_pickF rfl (decide_eq_false h2) rfl) rfl ?_
      refine L_run (R_eqv (R_eqlB rfl rfl boo4) (v' := .bool true) (by simp)) rfl ?_
      refine L_run (R_move rfl) rfl ?_
      refine L_yes rfl rfl rfl rfl ?_
      refine L_call rfl cb5 (awakeT (hT.gb hB)) rfl ?_
      rintro _ w19 ⟨hs19, rfl⟩
      replace hB := gb_tr hB hs19
      replace hSr := hSr.gb hs19
      replace hQ := hQ.gb hs19
      replace hS2 := hS2.gb hs19
      replace hD := hD.gb hs19
      replace hb1 := hb1.gb hs19
      replace hb2 := hb2.gb hs19
      replace ho1 := own_gb ho1 hs19
      replace hDX1 := hDX1.gb hs19
      replace ho2 := own_gb ho2 hs19
      replace ho3 := own_gb ho3 hs19
      replace hlo1 := Nat.le_trans hlo1 hs19.size
      replace hb4 := hb4.gb hs19
      replace ho5 := own_gb ho5 hs19
      replace ho6 := own_gb ho6 hs19
      replace hlo2 := Nat.le_trans hlo2 hs19.size
      replace hb6 := hb6.gb hs19
      replace hb7 := hb7.gb hs19
      replace hb8 := hb8.gb hs19
      replace ho7 := own_gb ho7 hs19
      replace hlo3 := Nat.le_trans hlo3 hs19.size
      refine L_run (R_pickT rfl rfl rfl) rfl ?_
      refine L_run (R_assign rfl) rfl ?_
      refine L_nil (N_then (C_ret ?_))
      refine ret1 Tryd.results3 rfl ?_
      exact ⟨hB, rfl⟩
  · refine L_call rfl cb6 (again_n (e := n) (seq := s0.seq) (first := s0.first) (hs := s0.hs) (rs := s0.recs) (hT.gb hB) hSr hQ (by have h_ := hfs.1; omega) (fun r hr => by have h_ := hfs.2 r hr; omega) hn h1) rfl ?_
    rintro _ w20 ⟨hs20, rfl⟩
    replace hB := gb_tr hB hs20
    replace hSr := hSr.gb hs20
    replace hQ := hQ.gb hs20
    replace hS2 := hS2.gb hs20
    replace hD := hD.gb hs20
    replace hb1 := hb1.gb hs20
    replace hb2 := hb2.gb hs20
    refine L_run (R_move rfl) rfl ?_
    refine L_run (R_extract rfl rfl) rfl ?_
    refine L_run (R_extract rfl rfl) rfl ?_
    refine L_run (R_extract rfl rfl) rfl ?_
    refine L_alloc (cs := [.int .u64 0, .int .i64 0, .int .i64 0, .int .i64 0, .int .i64 0, .int .i64 0, .int .i64 0, .slice none 0 0, .slice none 0 0, .int .i64 0, .int .i64 0]) zer33 rfl rfl ?_
    intro g8 w21 eg7 hb9 hs21 hz9
    have ge10 : w.heap.size ≤ g8 := eg_ge hB eg7
    have lt16 : g1 < g8 := lt_of_eg hb1.lt eg7
    have lt17 : g2 < g8 := lt_of_eg hb2.lt eg7
    replace hB := gb_tr hB hs21
    replace hSr := hSr.gb hs21
    replace hQ := hQ.gb hs21
    replace hS2 := hS2.gb hs21
    replace hD := hD.gb hs21
    replace hb1 := hb1.gb hs21
    replace hb2 := hb2.gb hs21
    refine L_stA (vs := [.int .u64 0, .int .i64 0, .int .i64 0, .int .i64 0, .int .i64 0, .int .i64 0, .int .i64 0, .slice none 0 0, .slice none 0 0, .int .i64 0, .int .i64 0]) rfl rfl rfl sz33 rfl hb9 rfl ?_
    intro w22 hb10 hs22 hz10
    replace hB := gb_trg hB hs22 ge10
    replace hSr := hSr.old hs22 ge10
    replace hQ := hQ.far hs22 (by omega)
    replace hS2 := hS2.old hs22 ge10
    replace hD := hD.old hs22 ge10
    replace hb1 := hb1.grown hs22 (ne_lt lt16)
    replace hb2 := hb2.grown hs22 (ne_lt lt17)
    refine L_run (R_assign rfl) rfl ?_
    refine L_run (R_assign rfl) rfl ?_
    refine L_nil (N_then (C_seq (C_reg rfl ?_)))
    refine L_run (R_loadA (vs := [.int .u64 s0.ep, .int .i64 s0.seq, .int .i64 s0.first, .int .i64 (s0.hs 0), .int .i64 (s0.hs 1), .int .i64 (s0.hs 2), .int .i64 (s0.hs 3), .slice s0.ra s0.recs.length s0.rc, .slice s0.pa s0.pl.length s0.pc, .int .i64 s0.en, .int .i64 s0.kind]) rfl agg29 (At.pre (hb1.at_ 0) rfl) rfl) rfl ?_
    refine L_run (R_move rfl) rfl ?_
    have ge11 : w.heap.size ≤ w22.heap.size := hB.size
    refine L_call rfl cb7 (ragain_n (e := n) (seq := s0.seq) (first := s0.first) (hs := s0.hs) (rs := s0.recs) hSr hQ (by have h_ := hfs.1; omega) (fun r hr => by have h_ := hfs.2 r hr; omega) hn h1) rfl ?_
    rintro _ w23 ⟨hs23, rfl⟩
    replace hB := gb_tr hB hs23
    replace hSr := hSr.gb hs23
    replace hQ := hQ.gb hs23
    replace hS2 := hS2.gb hs23
    replace hD := hD.gb hs23
    replace hb1 := hb1.gb hs23
    replace hb2 := hb2.gb hs23
    replace hb10 := hb10.gb hs23
    refine L_run (R_move rfl) rfl ?_
    refine L_run (R_extract rfl rfl) rfl ?_
    refine L_run (R_extract rfl rfl) rfl ?_
    refine L_run (R_extract rfl rfl) rfl ?_
    refine L_alloc (cs := [.int .u64 0, .int .i64 0, .int .i64 0, .int .i64 0, .int .i64 0, .int .i64 0, .int .i64 0, .slice none 0 0, .slice none 0 0, .int .i64 0, .int .i64 0]) zer29 rfl rfl ?_
    intro g9 w24 eg8 hb11 hs24 hz11
    have ge12 : w.heap.size ≤ g9 := eg_ge hB eg8
    have lt18 : g1 < g9 := lt_of_eg hb1.lt eg8
    have lt19 : g2 < g9 := lt_of_eg hb2.lt eg8
    have lt20 : g8 < g9 := lt_of_eg hb10.lt eg8
    replace hB := gb_tr hB hs24
    replace hSr := hSr.gb hs24
    replace hQ := hQ.gb hs24
    replace hS2 := hS2.gb hs24
    replace hD := hD.gb hs24
    replace hb1 := hb1.gb hs24
    replace hb2 := hb2.gb hs24
    replace hb10 := hb10.gb hs24
    refine L_stA (vs := [.int .u64 0, .int .i64 0, .int .i64 0, .int .i64 0, .int .i64 0, .int .i64 0, .int .i64 0, .slice none 0 0, .slice none 0 0, .int .i64 0, .int .i64 0]) rfl rfl rfl sz29 rfl hb11 rfl ?_
    intro w25 hb12 hs25 hz12
    replace hB := gb_trg hB hs25 ge12
    replace hSr := hSr.old hs25 ge12
    replace hQ := hQ.far hs25 (by omega)
    replace hS2 := hS2.old hs25 ge12
    replace hD := hD.old hs25 ge12
    replace hb1 := hb1.grown hs25 (ne_lt lt18)
    replace hb2 := hb2.grown hs25 (ne_lt lt19)
    replace hb10 := hb10.grown hs25 (ne_lt lt20)
    refine L_run (R_assign rfl) rfl ?_
    refine L_run (R_assign rfl) rfl ?_
    refine L_nil (N_then (C_seq (C_seq (C_reg rfl ?_))))
    refine L_run (R_move rfl) rfl ?_
    refine L_run (R_move rfl) rfl ?_
    refine L_run (R_eqv (R_neq rfl rfl) (v' := .bool false) rfl) rfl ?_
    refine L_run (R_move rfl) rfl ?_
    refine L_yes rfl rfl rfl rfl ?_
    refine L_run (R_move rfl) rfl ?_
    refine L_yes rfl rfl rfl rfl ?_
    refine L_run (R_move rfl) rfl ?_
    refine L_yes rfl rfl rfl rfl ?_
    refine L_call rfl cb8 (same06_ok (ss1 := []) (ss2 := []) (Sli.nil (t := 0) (lo := 0) (hi := 0)) (Sli.nil (t := 0) (lo := 0) (hi := 0)) rfl (by decide)) rfl ?_
    rintro _ w26 ⟨hs26, rfl⟩
    replace hB := gb_tr hB hs26
    replace hSr := hSr.gb hs26
    replace hQ := hQ.gb hs26
    replace hS2 := hS2.gb hs26
    replace hD := hD.gb hs26
    replace hb1 := hb1.gb hs26
    replace hb2 := hb2.gb hs26
    replace hb10 := hb10.gb hs26
    replace hb12 := hb12.gb hs26
    refine L_yes rfl rfl rfl rfl ?_
    refine L_run (R_not rfl) rfl ?_
    refine L_run (R_pickF rfl rfl rfl) rfl ?_
    refine L_run (R_move rfl) rfl ?_
    refine L_yes rfl rfl rfl rfl ?_
    refine L_run (R_loadA (vs := [.int .u64 0, .int .i64 0, .int .i64 0, .int .i64 0, .int .i64 0, .int .i64 0, .int .i64 0, .slice none 0 0, .slice none 0 0, .int .i64 0, .int .i64 0]) rfl agg33 (At.pre (hb10.at_ 0) rfl) rfl) rfl ?_
    refine L_yes rfl rfl rfl rfl ?_
    refine L_buildSlice (pv := [(0, .agg #[.int .u64 0, .int .i64 0, .int .i64 0, .int .i64 0, .int .i64 0, .int .i64 0, .int .i64 0, .slice none 0 0, .slice none 0 0, .int .i64 0, .int .i64 0])]) (cs := [.int .u64 0, .int .i64 0, .int .i64 0, .int .i64 0, .int .i64 0, .int .i64 0, .int .i64 0, .slice none 0 0, .slice none 0 0, .int .i64 0, .int .i64 0]) slc30 zer29 rfl rfl (by kernel_rfl) rfl ?_
    intro g10 w27 eg9 hb13 hs27 hz13
    have ge13 : w.heap.size ≤ g10 := eg_ge hB eg9
    have lt21 : g1 < g10 := lt_of_eg hb1.lt eg9
    have lt22 : g2 < g10 := lt_of_eg hb2.lt eg9
    have lt23 : g8 < g10 := lt_of_eg hb10.lt eg9
    have lt24 : g9 < g10 := lt_of_eg hb12.lt eg9
    replace hB := gb_tr hB hs27
    replace hSr := hSr.gb hs27
    replace hQ := hQ.gb hs27
    replace hS2 := hS2.gb hs27
    replace hD := hD.gb hs27
    replace hb1 := hb1.gb hs27
    replace hb2 := hb2.gb hs27
    replace hb10 := hb10.gb hs27
    replace hb12 := hb12.gb hs27
    refine L_yes rfl rfl rfl rfl ?_
    refine L_run (R_loadA (vs := [.int .u64 0, .int .i64 0, .int .i64 0, .int .i64 0, .int .i64 0, .int .i64 0, .int .i64 0, .slice none 0 0, .slice none 0 0, .int .i64 0, .int .i64 0]) rfl agg29 (At.pre (hb12.at_ 0) rfl) rfl) rfl ?_
    refine L_yes rfl rfl rfl rfl ?_
    refine L_buildSlice (pv := [(0, .agg #[.int .u64 0, .int .i64 0, .int .i64 0, .int .i64 0, .int .i64 0, .int .i64 0, .int .i64 0, .slice none 0 0, .slice none 0 0, .int .i64 0, .int .i64 0])]) (cs := [.int .u64 0, .int .i64 0, .int .i64 0, .int .i64 0, .int .i64 0, .int .i64 0, .int .i64 0, .slice none 0 0, .slice none 0 0, .int .i64 0, .int .i64 0]) slc30 zer29 rfl rfl (by kernel_rfl) rfl ?_
    intro g11 w28 eg10 hb14 hs28 hz14
    have ge14 : w.heap.size ≤ g11 := eg_ge hB eg10
    have lt25 : g1 < g11 := lt_of_eg hb1.lt eg10
    have lt26 : g2 < g11 := lt_of_eg hb2.lt eg10
    have lt27 : g8 < g11 := lt_of_eg hb10.lt eg10
    have lt28 : g9 < g11 := lt_of_eg hb12.lt eg10
    have lt29 : g10 < g11 := lt_of_eg hb13.lt eg10
    replace hB := gb_tr hB hs28
    replace hSr := hSr.gb hs28
    replace hQ := hQ.gb hs28
    replace hS2 := hS2.gb hs28
    replace hD := hD.gb hs28
    replace hb1 := hb1.gb hs28
    replace hb2 := hb2.gb hs28
    replace hb10 := hb10.gb hs28
    replace hb12 := hb12.gb hs28
    replace hb13 := hb13.gb hs28
    refine L_yes rfl rfl rfl rfl ?_
    refine L_call rfl cb9 (same25_ok (l1 := [(⟨0, 0, 0, (arr4 0 0 0 0), none, 0, [], none, 0, [], 0, 0⟩ : SegX)]) (l2 := [(⟨0, 0, 0, (arr4 0 0 0 0), none, 0, [], none, 0, [], 0, 0⟩ : SegX)]) (Blk.sli (m := 0) hb13) (Blk.sli (m := 0) hb14) (DeepSX.one (g := (⟨0, 0, 0, (arr4 0 0 0 0), none, 0, [], none, 0, [], 0, 0⟩ : SegX)) (Sli.nil (t := 0) (lo := 0) (hi := 0)) (DeepX.nil (t := 0) (lo := 0) (hi := 0)) (Sli.nil (t := 0) (lo := 0) (hi := 0))) (DeepSX.one (g := (⟨0, 0, 0, (arr4 0 0 0 0), none, 0, [], none, 0, [], 0, 0⟩ : SegX)) (Sli.nil (t := 0) (lo := 0) (hi := 0)) (DeepX.nil (t := 0) (lo := 0) (hi := 0)) (Sli.nil (t := 0) (lo := 0) (hi := 0))) (SgEq.one (x := (⟨0, 0, 0, (arr4 0 0 0 0), none, 0, [], none, 0, [], 0, 0⟩ : SegX)) (y := (⟨0, 0, 0, (arr4 0 0 0 0), none, 0, [], none, 0, [], 0, 0⟩ : SegX)) ⟨⟨rfl, rfl, rfl, ⟨rfl, rfl, rfl, rfl, trivial⟩, trivial⟩, rfl, rfl, rfl, rfl, (Nat.zero_le _), (Nat.zero_le _)⟩) (show 1 ≤ 1000000 by decide)) rfl ?_
    rintro _ w29 ⟨hs29, rfl⟩
    replace hB := gb_tr hB hs29
    replace hSr := hSr.gb hs29
    replace hQ := hQ.gb hs29
    replace hS2 := hS2.gb hs29
    replace hD := hD.gb hs29
    replace hb1 := hb1.gb hs29
    replace hb2 := hb2.gb hs29
    replace hb10 := hb10.gb hs29
    replace hb12 := hb12.gb hs29
    replace hb13 := hb13.gb hs29
    replace hb14 := hb14.gb hs29
    refine L_yes rfl rfl rfl rfl ?_
    refine L_run (R_not rfl) rfl ?_
    refine L_run (R_pickF rfl rfl rfl) rfl ?_
    refine L_nil (N_then (C_condF rfl rfl (C_skip (N_then (C_seq (C_reg rfl ?_))))))
    refine L_run (R_move rfl) rfl ?_
    have ge15 : w.heap.size ≤ w29.heap.size := hB.size
    refine L_call rfl cb11 (law25_Own (l := xs2) hS2 hlb) rfl ?_
    rintro _ w30 ⟨hs30, A_8, c_8, rfl, ho8⟩
    replace hB := gb_tr hB hs30
    replace hSr := hSr.gb hs30
    replace hQ := hQ.gb hs30
    replace hS2 := hS2.gb hs30
    replace hD := hD.gb hs30
    replace hb1 := hb1.gb hs30
    replace hb2 := hb2.gb hs30
    replace hb10 := hb10.gb hs30
    replace hb12 := hb12.gb hs30
    replace hb13 := hb13.gb hs30
    replace hb14 := hb14.gb hs30
    have hlo4 : w29.heap.size ≤ w30.heap.size := hs30.size
    by_cases h3 : 0 < (xs2.length : Int)
    · have hln_ : xs2.length - 1 < xs2.length := by omega
      refine L_call rfl cb10 (needs_y (l := xs2) (own_of ho8).2.2 hlb h3 hln_) rfl ?_
      rintro _ w31 ⟨hs31, rfl⟩
      replace hB := gb_tr hB hs31
      replace hSr := hSr.gb hs31
      replace hQ := hQ.gb hs31
      replace hS2 := hS2.gb hs31
      replace hD := hD.gb hs31
      replace hb1 := hb1.gb hs31
      replace hb2 := hb2.gb hs31
      replace hb10 := hb10.gb hs31
      replace hb12 := hb12.gb hs31
      replace hb13 := hb13.gb hs31
      replace hb14 := hb14.gb hs31
      replace ho8 := own_gb ho8 hs31
      replace hlo4 := Nat.le_trans hlo4 hs31.size
      refine L_run (R_move rfl) rfl ?_
      refine L_run (R_lenSl rfl slc30) rfl ?_
      refine L_run (R_gtr rfl rfl) rfl ?_
      refine L_run (R_move rfl) rfl ?_
      refine L_yes rfl rfl rfl (decide_eq_true h3) ?_
      refine L_run (R_move rfl) rfl ?_
      refine L_yes rfl rfl rfl (decide_eq_true h3) ?_
      refine L_run (R_move rfl) rfl ?_
      refine L_yes rfl rfl rfl (decide_eq_true h3) ?_
      refine L_run (R_lenSl rfl slc30) rfl ?_
      refine L_yes rfl rfl rfl (decide_eq_true h3) ?_
      refine L_run (R_sub64 rfl rfl (by omega)) rfl ?_
      refine L_yes rfl rfl rfl (decide_eq_true h3) ?_
      have hl2 : (xs2.length - 1) < xs2.length := hln_
      refine T_index (xs := xs2) (i := (xs2.length - 1)) EncG rfl rfl (by first | rfl | omega) slc30 hl2 hS2 rfl ?_
      intro g12 o2 ha2
      refine L_yes rfl rfl rfl (decide_eq_true h3) ?_
      refine L_run (R_field rfl fld29_4 rfl) rfl ?_
      refine L_yes rfl rfl rfl (decide_eq_true h3) ?_
      refine L_run (R_load1 rfl scl3 (ha2 10 _ rfl)) rfl ?_
      refine L_yes rfl rfl rfl (decide_eq_true h3) ?_
      refine L_run (R_neq rfl rfl) rfl ?_
      refine L_run (R_pickT rfl (decide_eq_true h3) rfl) rfl ?_
      refine L_run (R_eqv (R_eqlB rfl rfl boo4) (v' := .bool true) (by simp)) rfl ?_
      refine L_run (R_move rfl) rfl ?_
      refine L_yes rfl rfl rfl rfl ?_
      refine L_call rfl cb5 (awakeT (hT.gb hB)) rfl ?_
      rintro _ w32 ⟨hs32, rfl⟩
      replace hB := gb_tr hB hs32
      replace hSr := hSr.gb hs32
      replace hQ := hQ.gb hs32
      replace hS2 := hS2.gb hs32
      replace hD := hD.gb hs32
      replace hb1 := hb1.gb hs32
      replace hb2 := hb2.gb hs32
      replace hb10 := hb10.gb hs32
      replace hb12 := hb12.gb hs32
      replace hb13 := hb13.gb hs32
      replace hb14 := hb14.gb hs32
      replace ho8 := own_gb ho8 hs32
      replace hlo4 := Nat.le_trans hlo4 hs32.size
      replace ha2 := At.gb ha2 hs32 (by simp)
      refine L_run (R_pickT rfl rfl rfl) rfl ?_
      refine L_run (R_assign rfl) rfl ?_
      refine L_nil (N_then (C_ret ?_))
      refine ret1 Tryd.results3 rfl ?_
      exact ⟨hB, rfl⟩
    · refine L_call rfl cb10 (needs_n (l := xs2) (own_of ho8).2.2 hlb h3) rfl ?_
      rintro _ w33 ⟨hs33, rfl⟩
      replace hB := gb_tr hB hs33
      replace hSr := hSr.gb hs33
      replace hQ := hQ.gb hs33
      replace hS2 := hS2.gb hs33
      replace hD := hD.gb hs33
      replace hb1 := hb1.gb hs33
      replace hb2 := hb2.gb hs33
      replace hb10 := hb10.gb hs33
      replace hb12 := hb12.gb hs33
      replace hb13 := hb13.gb hs33
      replace hb14 := hb14.gb hs33
      replace ho8 := own_gb ho8 hs33
      replace hlo4 := Nat.le_trans hlo4 hs33.size
      refine L_run (R_move rfl) rfl ?_
      refine L_run (R_lenSl rfl slc30) rfl ?_
      refine L_run (R_gtr rfl rfl) rfl ?_
      refine L_run (R_move rfl) rfl ?_
      refine L_no rfl rfl rfl (decide_eq_false h3) rfl ?_
      refine L_no rfl rfl rfl (decide_eq_false h3) rfl ?_
      refine L_no rfl rfl rfl (decide_eq_false h3) rfl ?_
      refine L_no rfl rfl rfl (decide_eq_false h3) rfl ?_
      refine L_no rfl rfl rfl (decide_eq_false h3) rfl ?_
      refine L_no rfl rfl rfl (decide_eq_false h3) rfl ?_
      refine L_no rfl rfl rfl (decide_eq_false h3) rfl ?_
      refine L_no rfl rfl rfl (decide_eq_false h3) rfl ?_
      refine L_run (R_pickF rfl (decide_eq_false h3) rfl) rfl ?_
      refine L_run (R_eqv (R_eqlB rfl rfl boo4) (v' := .bool true) (by simp)) rfl ?_
      refine L_run (R_move rfl) rfl ?_
      refine L_yes rfl rfl rfl rfl ?_
      refine L_call rfl cb5 (awakeT (hT.gb hB)) rfl ?_
      rintro _ w34 ⟨hs34, rfl⟩
      replace hB := gb_tr hB hs34
      replace hSr := hSr.gb hs34
      replace hQ := hQ.gb hs34
      replace hS2 := hS2.gb hs34
      replace hD := hD.gb hs34
      replace hb1 := hb1.gb hs34
      replace hb2 := hb2.gb hs34
      replace hb10 := hb10.gb hs34
      replace hb12 := hb12.gb hs34
      replace hb13 := hb13.gb hs34
      replace hb14 := hb14.gb hs34
      replace ho8 := own_gb ho8 hs34
      replace hlo4 := Nat.le_trans hlo4 hs34.size
      refine L_run (R_pickT rfl rfl rfl) rfl ?_
      refine L_run (R_assign rfl) rfl ?_
      refine L_nil (N_then (C_ret ?_))
      refine ret1 Tryd.results3 rfl ?_
      exact ⟨hB, rfl⟩

theorem walkyn {w : World} (hT : Tbw w) {s0 : SegX} {n : Nat} {A2 : Option Addr} {c2 : Nat} {xs2 : List SegD} (hg0 : GoodSX w s0) (hn : n < 18446744073709551616) (hS2 : Sli 0 0 w.heap.size w A2 (fl encG xs2)) (hl2 : xs2.length ≤ c2) (hm2 : c2 * 120 ≤ 140737488351232) (hg2 : ∀ x ∈ xs2, GoodG w x) (hk0 : FewL [sD s0]) (hk1 : ¬ FewL xs2) :
    Runs Tryd.prog 3 #[.agg #[.int .u64 s0.ep, .int .i64 s0.seq, .int .i64 s0.first, .int .i64 (s0.hs 0), .int .i64 (s0.hs 1), .int .i64 (s0.hs 2), .int .i64 (s0.hs 3), .slice s0.ra s0.recs.length s0.rc, .slice s0.pa s0.pl.length s0.pc, .int .i64 s0.en, .int .i64 s0.kind], .int .u64 (n : Int), .slice A2 xs2.length c2] w (fun v w' => w.grownBy w' none ∧ v = .bool true) := by
  have hB := gb_refl w none
  have hSr : Sli 0 0 w.heap.size w s0.ra (fl encRX s0.recs) := hg0.1
  have hQ : DeepX 0 0 w.heap.size w s0.recs := fun y hy => (hg0.2 y hy).1
  have hD : DeepG w.heap.size w xs2 := fun y hy => (hg2 y hy).2
  refine enter Tryd.func3 Tryd.ntmps3 rfl rfl ?_
  refine C_seq (C_reg rfl ?_)
  refine L_box (cs := [.int .u64 s0.ep, .int .i64 s0.seq, .int .i64 s0.first, .int .i64 (s0.hs 0), .int .i64 (s0.hs 1), .int .i64 (s0.hs 2), .int .i64 (s0.hs 3), .slice s0.ra s0.recs.length s0.rc, .slice s0.pa s0.pl.length s0.pc, .int .i64 s0.en, .int .i64 s0.kind]) rfl rfl rfl ?_
  intro g1 w1 eg1 hb1 hs1 hz1
  have ge1 : w.heap.size ≤ g1 := eg_ge hB eg1
  replace hB := gb_tr hB hs1
  replace hSr := hSr.gb hs1
  replace hQ := hQ.gb hs1
  replace hS2 := hS2.gb hs1
  replace hD := hD.gb hs1
  refine L_run (R_assign rfl) rfl ?_
  refine L_nil (N_then (C_seq (C_seq (C_reg rfl ?_))))
  refine L_run (R_loadA (vs := [.int .u64 s0.ep, .int .i64 s0.seq, .int .i64 s0.first, .int .i64 (s0.hs 0), .int .i64 (s0.hs 1), .int .i64 (s0.hs 2), .int .i64 (s0.hs 3), .slice s0.ra s0.recs.length s0.rc, .slice s0.pa s0.pl.length s0.pc, .int .i64 s0.en, .int .i64 s0.kind]) rfl agg29 (At.pre (hb1.at_ 0) rfl) rfl) rfl ?_
  refine L_buildSlice (pv := [(0, .agg #[.int .u64 s0.ep, .int .i64 s0.seq, .int .i64 s0.first, .int .i64 (s0.hs 0), .int .i64 (s0.hs 1), .int .i64 (s0.hs 2), .int .i64 (s0.hs 3), .slice s0.ra s0.recs.length s0.rc, .slice s0.pa s0.pl.length s0.pc, .int .i64 s0.en, .int .i64 s0.kind])]) (cs := [.int .u64 s0.ep, .int .i64 s0.seq, .int .i64 s0.first, .int .i64 (s0.hs 0), .int .i64 (s0.hs 1), .int .i64 (s0.hs 2), .int .i64 (s0.hs 3), .slice s0.ra s0.recs.length s0.rc, .slice s0.pa s0.pl.length s0.pc, .int .i64 s0.en, .int .i64 s0.kind]) slc30 zer29 rfl rfl (by kernel_rfl) rfl ?_
  intro g2 w2 eg2 hb2 hs2 hz2
  have ge2 : w.heap.size ≤ g2 := eg_ge hB eg2
  have lt1 : g1 < g2 := lt_of_eg hb1.lt eg2
  replace hB := gb_tr hB hs2
  replace hSr := hSr.gb hs2
  replace hQ := hQ.gb hs2
  replace hS2 := hS2.gb hs2
  replace hD := hD.gb hs2
  replace hb1 := hb1.gb hs2
  refine L_call rfl cb4 (law25_Few (l := [sD s0]) (by rw [fl_sD]; exact Blk.sli (m := 0) hb2) (deep_sD hSr) (show 1 ≤ 2000000000000 by decide)) rfl ?_
  rintro _ w3 ⟨hs3, rfl⟩
  replace hB := gb_tr hB hs3
  replace hSr := hSr.gb hs3
  replace hQ := hQ.gb hs3
  replace hS2 := hS2.gb hs3
  replace hD := hD.gb hs3
  replace hb1 := hb1.gb hs3
  replace hb2 := hb2.gb hs3
  refine L_run (R_notD rfl) rfl ?_
  refine L_run (R_move rfl) rfl ?_
  refine L_yes rfl rfl rfl (decide_eq_false (fun hn => hn hk0)) ?_
  refine L_run (R_move rfl) rfl ?_
  refine L_yes rfl rfl rfl (decide_eq_false (fun hn => hn hk0)) ?_
  refine L_call rfl cb4 (law25_Few (l := xs2) hS2 hD (by omega)) rfl ?_
  rintro _ w4 ⟨hs4, rfl⟩
  replace hB := gb_tr hB hs4
  replace hSr := hSr.gb hs4
  replace hQ := hQ.gb hs4
  replace hS2 := hS2.gb hs4
  replace hD := hD.gb hs4
  replace hb1 := hb1.gb hs4
  replace hb2 := hb2.gb hs4
  refine L_yes rfl rfl rfl (decide_eq_false (fun hn => hn hk0)) ?_
  refine L_run (R_notD rfl) rfl ?_
  refine L_run (R_pickF rfl (decide_eq_false (fun hn => hn hk0)) rfl) rfl ?_
  refine L_nil (N_then (C_condT rfl (decide_eq_true hk1) (C_seq (C_reg rfl ?_))))
  refine L_call rfl cb5 (awakeT (hT.gb hB)) rfl ?_
  rintro _ w5 ⟨hs5, rfl⟩
  replace hB := gb_tr hB hs5
  replace hSr := hSr.gb hs5
  replace hQ := hQ.gb hs5
  replace hS2 := hS2.gb hs5
  replace hD := hD.gb hs5
  replace hb1 := hb1.gb hs5
  replace hb2 := hb2.gb hs5
  refine L_run (R_assign rfl) rfl ?_
  refine L_nil (N_then (C_ret (R_then ?_)))
  refine ret1 Tryd.results3 rfl ?_
  exact ⟨hB, rfl⟩

theorem walkn {w : World} (hT : Tbw w) {s0 : SegX} {n : Nat} {A2 : Option Addr} {c2 : Nat} {xs2 : List SegD} (hg0 : GoodSX w s0) (hn : n < 18446744073709551616) (hS2 : Sli 0 0 w.heap.size w A2 (fl encG xs2)) (hl2 : xs2.length ≤ c2) (hm2 : c2 * 120 ≤ 140737488351232) (hg2 : ∀ x ∈ xs2, GoodG w x) (hk0 : ¬ FewL [sD s0]) :
    Runs Tryd.prog 3 #[.agg #[.int .u64 s0.ep, .int .i64 s0.seq, .int .i64 s0.first, .int .i64 (s0.hs 0), .int .i64 (s0.hs 1), .int .i64 (s0.hs 2), .int .i64 (s0.hs 3), .slice s0.ra s0.recs.length s0.rc, .slice s0.pa s0.pl.length s0.pc, .int .i64 s0.en, .int .i64 s0.kind], .int .u64 (n : Int), .slice A2 xs2.length c2] w (fun v w' => w.grownBy w' none ∧ v = .bool true) := by
  have hB := gb_refl w none
  have hSr : Sli 0 0 w.heap.size w s0.ra (fl encRX s0.recs) := hg0.1
  have hQ : DeepX 0 0 w.heap.size w s0.recs := fun y hy => (hg0.2 y hy).1
  have hD : DeepG w.heap.size w xs2 := fun y hy => (hg2 y hy).2
  refine enter Tryd.func3 Tryd.ntmps3 rfl rfl ?_
  refine C_seq (C_reg rfl ?_)
  refine L_box (cs := [.int .u64 s0.ep, .int .i64 s0.seq, .int .i64 s0.first, .int .i64 (s0.hs 0), .int .i64 (s0.hs 1), .int .i64 (s0.hs 2), .int .i64 (s0.hs 3), .slice s0.ra s0.recs.length s0.rc, .slice s0.pa s0.pl.length s0.pc, .int .i64 s0.en, .int .i64 s0.kind]) rfl rfl rfl ?_
  intro g1 w1 eg1 hb1 hs1 hz1
  have ge1 : w.heap.size ≤ g1 := eg_ge hB eg1
  replace hB := gb_tr hB hs1
  replace hSr := hSr.gb hs1
  replace hQ := hQ.gb hs1
  replace hS2 := hS2.gb hs1
  replace hD := hD.gb hs1
  refine L_run (R_assign rfl) rfl ?_
  refine L_nil (N_then (C_seq (C_seq (C_reg rfl ?_))))
  refine L_run (R_loadA (vs := [.int .u64 s0.ep, .int .i64 s0.seq, .int .i64 s0.first, .int .i64 (s0.hs 0), .int .i64 (s0.hs 1), .int .i64 (s0.hs 2), .int .i64 (s0.hs 3), .slice s0.ra s0.recs.length s0.rc, .slice s0.pa s0.pl.length s0.pc, .int .i64 s0.en, .int .i64 s0.kind]) rfl agg29 (At.pre (hb1.at_ 0) rfl) rfl) rfl ?_
  refine L_buildSlice (pv := [(0, .agg #[.int .u64 s0.ep, .int .i64 s0.seq, .int .i64 s0.first, .int .i64 (s0.hs 0), .int .i64 (s0.hs 1), .int .i64 (s0.hs 2), .int .i64 (s0.hs 3), .slice s0.ra s0.recs.length s0.rc, .slice s0.pa s0.pl.length s0.pc, .int .i64 s0.en, .int .i64 s0.kind])]) (cs := [.int .u64 s0.ep, .int .i64 s0.seq, .int .i64 s0.first, .int .i64 (s0.hs 0), .int .i64 (s0.hs 1), .int .i64 (s0.hs 2), .int .i64 (s0.hs 3), .slice s0.ra s0.recs.length s0.rc, .slice s0.pa s0.pl.length s0.pc, .int .i64 s0.en, .int .i64 s0.kind]) slc30 zer29 rfl rfl (by kernel_rfl) rfl ?_
  intro g2 w2 eg2 hb2 hs2 hz2
  have ge2 : w.heap.size ≤ g2 := eg_ge hB eg2
  have lt1 : g1 < g2 := lt_of_eg hb1.lt eg2
  replace hB := gb_tr hB hs2
  replace hSr := hSr.gb hs2
  replace hQ := hQ.gb hs2
  replace hS2 := hS2.gb hs2
  replace hD := hD.gb hs2
  replace hb1 := hb1.gb hs2
  refine L_call rfl cb4 (law25_Few (l := [sD s0]) (by rw [fl_sD]; exact Blk.sli (m := 0) hb2) (deep_sD hSr) (show 1 ≤ 2000000000000 by decide)) rfl ?_
  rintro _ w3 ⟨hs3, rfl⟩
  replace hB := gb_tr hB hs3
  replace hSr := hSr.gb hs3
  replace hQ := hQ.gb hs3
  replace hS2 := hS2.gb hs3
  replace hD := hD.gb hs3
  replace hb1 := hb1.gb hs3
  replace hb2 := hb2.gb hs3
  refine L_run (R_notD rfl) rfl ?_
  refine L_run (R_move rfl) rfl ?_
  refine L_no rfl rfl rfl (decide_eq_true hk0) rfl ?_
  refine L_no rfl rfl rfl (decide_eq_true hk0) rfl ?_
  refine L_no rfl rfl rfl (decide_eq_true hk0) rfl ?_
  refine L_run (R_pickT rfl (decide_eq_true hk0) rfl) rfl ?_
  refine L_nil (N_then (C_condT rfl rfl (C_seq (C_reg rfl ?_))))
  refine L_call rfl cb5 (awakeT (hT.gb hB)) rfl ?_
  rintro _ w4 ⟨hs4, rfl⟩
  replace hB := gb_tr hB hs4
  replace hSr := hSr.gb hs4
  replace hQ := hQ.gb hs4
  replace hS2 := hS2.gb hs4
  replace hD := hD.gb hs4
  replace hb1 := hb1.gb hs4
  replace hb2 := hb2.gb hs4
  refine L_run (R_assign rfl) rfl ?_
  refine L_nil (N_then (C_ret (R_then ?_)))
  refine ret1 Tryd.results3 rfl ?_
  exact ⟨hB, rfl⟩

theorem Tbw.of {w : World} (h : ∃ T fz, w.heap[0]? = some (.cells tblV.toArray T fz)) : Tbw w := by
  obtain ⟨T, fz, h⟩ := h
  exact ⟨[], T, fz, by simpa using h⟩
theorem walk {w : World} (hW : ∃ T fz, w.heap[0]? = some (.cells tblV.toArray T fz)) {s0 : SegX} (hg0 : GoodSX w s0) {e1 : Int} (hg1 : (Lit.int .u64 e1).wf = true) {A2 : Option Addr} {c2 : Nat} {xs2 : List SegD} (hS2 : Sli 0 0 w.heap.size w A2 (fl encG xs2)) (hl2 : xs2.length ≤ c2) (hm2 : c2 * 120 ≤ 140737488351232) (hg2 : ∀ x ∈ xs2, GoodG w x) : Runs Tryd.prog 3 #[.agg #[.int .u64 s0.ep, .int .i64 s0.seq, .int .i64 s0.first, .int .i64 (s0.hs 0), .int .i64 (s0.hs 1), .int .i64 (s0.hs 2), .int .i64 (s0.hs 3), .slice s0.ra s0.recs.length s0.rc, .slice s0.pa s0.pl.length s0.pc, .int .i64 s0.en, .int .i64 s0.kind], .int .u64 e1, .slice A2 xs2.length c2] w (fun v w' => w.grownBy w' none ∧ v = .bool true) := by
  obtain ⟨n, rfl, hn⟩ := wfu' hg1
  by_cases h0 : FewL [sD s0]
  · by_cases h1 : FewL xs2
    · exact walkyy (Tbw.of hW) hg0 hn hS2 hl2 hm2 hg2 h0 h1
    · exact walkyn (Tbw.of hW) hg0 hn hS2 hl2 hm2 hg2 h0 h1
  · exact walkn (Tbw.of hW) hg0 hn hS2 hl2 hm2 hg2 h0
open Go.ChangeShapes Go.WideShapes Go.ChangeAt
theorem own : ownKnob Tryd.prog.godebug = none := by kernel_rfl
theorem laidOut : laidOutB Tryd.prog = true := by kernel_rfl
theorem door_met (os : Os) (args : Array Value) : laidMetH Tryd.prog Rows.tailAgainRow.laid ((World.doorLaid Tryd.prog 14 os).forCall (fun _ _ => 0) ⟨#[], args, []⟩).memory :=
  laidMetH_of_parts3 (fuel := 8) (laidMet_of_run' 8 (by kernel_rfl) (by kernel_rfl)) (by kernel_rfl) (by kernel_rfl)
set_option maxRecDepth 100000 in
theorem lifted (os : Os) (started : os.Started) (H : Type) (enc : TypeId × Value → H) :
    ReturnsInHanded {} Tryd.checked os 3 .any (fun w args => (Rows.tailAgainSpec.pre enc Tryd.prog Tryd.f3 [] false w args ∧ laidMetH Tryd.prog Rows.tailAgainRow.laid w) ∧ sizedMet enc Tryd.prog Tryd.f3 (OpenSpec.ofChange Rows.tailAgainSpec) false w args) (Rows.tailAgainSpec.post enc Tryd.prog Tryd.f3 false true false false) := by
  refine returnsInHanded_of_change_and (C := Tryd.checked) (X := fun w _ => laidMetH Tryd.prog Rows.tailAgainRow.laid w) (fun _ _ _ hh h => h.of_heap hh) own started (by kernel_rfl) Tryd.func3
    (ChangeSpec.witness_shaped (enc := enc) (C := Tryd.checked) (os := os) (X := fun w _ => laidMetH Tryd.prog Rows.tailAgainRow.laid w) false (World.doorLaid Tryd.prog 14 os) #[.agg #[.int .u64 0, .int .i64 0, .int .i64 0, .int .i64 0, .int .i64 0, .int .i64 0, .int .i64 0, .slice none 0 0, .slice none 0 0, .int .i64 0, .int .i64 0], .int .u64 0, .slice none 0 0] 8 rfl (World.shaped_of_RefB (by kernel_rfl) (by kernel_rfl)) (by kernel_rfl) (by kernel_rfl) (by kernel_rfl) (door_met os _)) ?_
  intro W base args ds gs before hval0 hW hcnd hsz0 hL _
  have hsz : (DataW.weightsEach Tryd.prog (Tryd.f3.params.toList ++ Rows.tailAgainSpec.plain.varTypes Tryd.prog) (ds ++ gs)).all (· ≤ reachBytes) = true := hsz0
  have hval : ∀ (j : Nat) t v, Tryd.f3.params[j]? = some t → args[j]? = some v → Value.okWide Tryd.prog W .any base t v := hval0
  have hW' := hW
  obtain ⟨p, q, hA0, hV, rfl, hfz, hnd⟩ := hW
  have hA : DataW.TrodAll enc Tryd.prog W 0 (fun _ => true) true Tryd.f3.params.toList args.toList ds p := hA0
  rw [Tryd.params3] at hA hval hsz
  obtain ⟨v0, vs0, d0, ds0, p0, q0, hargs, rfl, rfl, h0, r0⟩ := trodAll_cons hA
  obtain ⟨v1, vs1, d1, ds1, p1, q1, rfl, rfl, rfl, h1, r1⟩ := trodAll_cons r0
  obtain ⟨v2, vs2, d2, ds2, p2, q2, rfl, rfl, rfl, h2, r2⟩ := trodAll_cons r1
  obtain ⟨rfl, rfl, rfl⟩ := trodAll_nil r2
  obtain rfl : args = #[v0, v1, v2] := by cases args; simp_all
  obtain ⟨rfl, rfl⟩ := trodVars_none hV
  have lt0 : ∀ x ∈ p0, x.block < W.heap.size := by obtain ⟨m, hm⟩ := h0; exact DataW.trod_lt m _ _ _ hm
  obtain ⟨s0, e0, hg0⟩ := Rdr.arg (enc := enc) (P := Tryd.prog) (W := W) ((Rdr.struct Tryd.underlying29 rfl (by kernel_rfl) (Rds.cons (off := 0) (sz := 7) (Rdr.struct Tryd.underlying25 rfl (by kernel_rfl) (Rds.cons (off := 0) (sz := 1) (Rdr.int Tryd.underlying22) (by kernel_rfl) rfl (by decide) (Rds.cons (off := 1) (sz := 1) (Rdr.int Tryd.underlying3) (by kernel_rfl) rfl (by decide) (Rds.cons (off := 2) (sz := 1) (Rdr.int Tryd.underlying3) (by kernel_rfl) rfl (by decide) (Rds.cons (off := 3) (sz := 4) (Rdr.arrf Tryd.underlying23 Tryd.underlying3 (by kernel_rfl) (by kernel_rfl)) (by kernel_rfl) rfl (by decide) (Rds.nil)))))) (by kernel_rfl) rfl (by decide) (Rds.cons (off := 7) (sz := 1) (Rdr.slice (ec := encRX) (sz := 5) (by_ := 56) ((Rdr.struct Tryd.underlying48 rfl (by kernel_rfl) (Rds.cons (off := 0) (sz := 1) (Rdr.int Tryd.underlying3) (by kernel_rfl) rfl (by decide) (Rds.cons (off := 1) (sz := 1) (Rdr.int Tryd.underlying3) (by kernel_rfl) rfl (by decide) (Rds.cons (off := 2) (sz := 1) (Rdr.int Tryd.underlying3) (by kernel_rfl) rfl (by decide) (Rds.cons (off := 3) (sz := 1) (Rdr.int Tryd.underlying3) (by kernel_rfl) rfl (by decide) (Rds.cons (off := 4) (sz := 1) (Rdr.slice (ec := encB) (sz := 1) (by_ := 1) ((Rdr.int Tryd.underlying5).map (fun n => UInt8.ofNat n.toNat) byte_of (good' := fun _ => True) (fun _ _ => trivial)) EncB Tryd.underlying46 (by kernel_rfl) (by kernel_rfl)) (by kernel_rfl) rfl (by decide) (Rds.nil))))))).map (fun y => (⟨y.1, y.2.1, y.2.2.1, y.2.2.2.1, y.2.2.2.2.1.1, y.2.2.2.2.1.2.1, y.2.2.2.2.1.2.2⟩ : RecX)) (e' := encRX) (fun _ _ => rfl) (good' := GoodRX W) (fun _ h => ⟨h.2.2.2.2.1.1, h.2.2.2.2.1.2.1⟩)) EncRX Tryd.underlying26 (by kernel_rfl) (by kernel_rfl)) (by kernel_rfl) rfl (by decide) (Rds.cons (off := 8) (sz := 1) (Rdr.slice (ec := encZ) (sz := 1) (by_ := 8) (Rdr.int Tryd.underlying3) EncZ Tryd.underlying27 (by kernel_rfl) (by kernel_rfl)) (by kernel_rfl) rfl (by decide) (Rds.cons (off := 9) (sz := 1) (Rdr.int Tryd.underlying3) (by kernel_rfl) rfl (by decide) (Rds.cons (off := 10) (sz := 1) (Rdr.int Tryd.underlying3) (by kernel_rfl) rfl (by decide) (Rds.nil))))))).map (fun y => (⟨y.1.1, y.1.2.1, y.1.2.2.1, y.1.2.2.2.1, y.2.1.1, y.2.1.2.1, y.2.1.2.2, y.2.2.1.1, y.2.2.1.2.1, y.2.2.1.2.2, y.2.2.2.1, y.2.2.2.2.1⟩ : SegX)) (e' := encSX) (fun _ _ => rfl) (good' := GoodSX W) (fun _ h => ⟨h.2.1.1, h.2.1.2.2.2⟩)) hsz (j := 0) rfl rfl h0
  obtain ⟨cs0, rfl, _⟩ := okWide_struct Tryd.underlying29 (hval 0 29 v0 rfl rfl)
  obtain rfl := of_agg e0
  have lt1 : ∀ x ∈ p1, x.block < W.heap.size := by obtain ⟨m, hm⟩ := h1; exact DataW.trod_lt m _ _ _ hm
  obtain ⟨e1, e1, hg1⟩ := Rdr.arg (enc := enc) (P := Tryd.prog) (W := W) (Rdr.int Tryd.underlying22) hsz (j := 1) rfl rfl h1
  obtain rfl := of_cell e1 (by intro cs e_; obtain ⟨a_, e2_⟩ := okWide_int Tryd.underlying22 (hval 1 22 v1 rfl rfl); rw [e2_] at e_; cases e_)
  have lt2 : ∀ x ∈ p2, x.block < W.heap.size := by obtain ⟨m, hm⟩ := h2; exact DataW.trod_lt m _ _ _ hm
  obtain ⟨⟨A2, c2, xs2⟩, e2, hS2, hl2, hm2, hg2⟩ := Rdr.arg (enc := enc) (P := Tryd.prog) (W := W) (Rdr.slice (ec := encG) (sz := 11) (by_ := 120) ((Rdr.struct Tryd.underlying29 rfl (by kernel_rfl) (Rds.cons (off := 0) (sz := 7) (Rdr.struct Tryd.underlying25 rfl (by kernel_rfl) (Rds.cons (off := 0) (sz := 1) (Rdr.int Tryd.underlying22) (by kernel_rfl) rfl (by decide) (Rds.cons (off := 1) (sz := 1) (Rdr.int Tryd.underlying3) (by kernel_rfl) rfl (by decide) (Rds.cons (off := 2) (sz := 1) (Rdr.int Tryd.underlying3) (by kernel_rfl) rfl (by decide) (Rds.cons (off := 3) (sz := 4) (Rdr.arrf Tryd.underlying23 Tryd.underlying3 (by kernel_rfl) (by kernel_rfl)) (by kernel_rfl) rfl (by decide) (Rds.nil)))))) (by kernel_rfl) rfl (by decide) (Rds.cons (off := 7) (sz := 1) (Rdr.slice (ec := encR) (sz := 5) (by_ := 56) ((Rdr.struct Tryd.underlying48 rfl (by kernel_rfl) (Rds.cons (off := 0) (sz := 1) (Rdr.int Tryd.underlying3) (by kernel_rfl) rfl (by decide) (Rds.cons (off := 1) (sz := 1) (Rdr.int Tryd.underlying3) (by kernel_rfl) rfl (by decide) (Rds.cons (off := 2) (sz := 1) (Rdr.int Tryd.underlying3) (by kernel_rfl) rfl (by decide) (Rds.cons (off := 3) (sz := 1) (Rdr.int Tryd.underlying3) (by kernel_rfl) rfl (by decide) (Rds.cons (off := 4) (sz := 1) (Rdr.slice (ec := encB) (sz := 1) (by_ := 1) ((Rdr.int Tryd.underlying5).map (fun n => UInt8.ofNat n.toNat) byte_of (good' := fun _ => True) (fun _ _ => trivial)) EncB Tryd.underlying46 (by kernel_rfl) (by kernel_rfl)) (by kernel_rfl) rfl (by decide) (Rds.nil))))))).map (fun y => (⟨y.1, y.2.1, y.2.2.1, y.2.2.2.1, y.2.2.2.2.1.1, y.2.2.2.2.1.2.2.length, y.2.2.2.2.1.2.1⟩ : RecD)) (e' := encR) (fun _ _ => rfl) (good' := fun _ => True) (fun _ _ => trivial)) EncR Tryd.underlying26 (by kernel_rfl) (by kernel_rfl)) (by kernel_rfl) rfl (by decide) (Rds.cons (off := 8) (sz := 1) (Rdr.slice (ec := encZ) (sz := 1) (by_ := 8) (Rdr.int Tryd.underlying3) EncZ Tryd.underlying27 (by kernel_rfl) (by kernel_rfl)) (by kernel_rfl) rfl (by decide) (Rds.cons (off := 9) (sz := 1) (Rdr.int Tryd.underlying3) (by kernel_rfl) rfl (by decide) (Rds.cons (off := 10) (sz := 1) (Rdr.int Tryd.underlying3) (by kernel_rfl) rfl (by decide) (Rds.nil))))))).map (fun y => (⟨y.1.1, y.1.2.1, y.1.2.2.1, y.1.2.2.2.1, y.2.1.1, y.2.1.2.1, y.2.1.2.2, y.2.2.1.1, y.2.2.1.2.2.length, y.2.2.1.2.1, y.2.2.2.1, y.2.2.2.2.1⟩ : SegD)) (e' := encG) (fun _ _ => rfl) (good' := GoodG W) (fun _ h => ⟨wfu64 h.1.1, h.2.1.1⟩)) EncG Tryd.underlying30 (by kernel_rfl) (by kernel_rfl)) hsz (j := 2) rfl rfl h2
  obtain rfl := of_cell e2 (by intro cs e_; obtain ⟨a_, l_, k_, e2_⟩ := okWide_slice Tryd.underlying30 (hval 2 30 v2 rfl rfl); rw [e2_] at e_; cases e_)
  refine (walk (w := W) (half_laid hL) hg0 hg1 hS2 hl2 hm2 hg2).calls.mono fun e W' ⟨v_, he, hgb, hv_⟩ => ?_
  subst he
  subst hv_
  have bel := gb_below hgb
  exact ⟨_, rfl, _, _, _, [], _, [], hW', trodAll_mk1 (shut_bool Tryd.underlying4 _), (trodAll_cons_mk (Below.trod laidOut (by kernel_rfl) (of_decide_eq_true (by kernel_rfl)) h0 bel lt0) (trodAll_cons_mk (Below.trod laidOut (by kernel_rfl) (of_decide_eq_true (by kernel_rfl)) h1 bel lt1) (trodAll_cons_mk (Below.trod laidOut (by kernel_rfl) (of_decide_eq_true (by kernel_rfl)) h2 bel lt2) trodAll_mk0))), rfl, bel.frame _, fun h => by cases h⟩
theorem over : Rows.tailAgainRow.holds Tryd.pinned (OpenSpec.ofChange Rows.tailAgainSpec) :=
  OpenClaim.holds_of_wide 3 Tryd.f3 rfl rfl rfl rfl rfl rfl rfl ⟨rfl, rfl, rfl, rfl, rfl⟩ rfl rfl rfl rfl rfl (by kernel_rfl) Tryd.func3 (by kernel_rfl)
    (of_decide_eq_true (by kernel_rfl)) (by unfold Func.isWrapper; first | (rw [if_pos (by decide +kernel)]; kernel_rfl) | (rw [if_neg (by decide +kernel)]; exact ⟨rfl, rfl⟩))
    (fun os started H enc _ => lifted os started H enc)
/-- The given statement. -/
theorem proved : Rows.TailAgainCardSaid :=
  Claim7.holds_tied_plain_at .later [] [.data] true (true, "b9c4c4e8ed2984205f555af2c68147e6cd314a127643a18862f210a03303103f") false
    over (fun _ h => by cases h) (by kernel_rfl) (fun _ h => by cases h) tailAgain_row_tie rfl ⟨rfl, rfl⟩ (by kernel_rfl) rfl
    (fun f fn hf hfn => by
      obtain rfl : f = 3 := Option.some.inj ((show Tryd.prog.funcNamed "strandline/strandlinelaw27.TailAgain" = some 3 by kernel_rfl).symm.trans hf) |>.symm
      obtain rfl : fn = Tryd.f3 := (Option.some.inj (Tryd.func3.symm.trans hfn)).symm
      exact ⟨by kernel_rfl, fun j t ht => by
        rw [Tryd.params3] at ht
        have hm : t ∈ [29, 22, 30] := by simpa using Array.mem_of_getElem? ht
        have hall : ([29, 22, 30].all fun u => !Tryd.prog.wantsStandIn u) = true := by kernel_rfl
        exact (show Tryd.prog.wantsStandIn t = false by simpa using List.all_eq_true.1 hall t hm)⟩)
    (by kernel_rfl)
#print axioms proved

end Go.Proofs.YtbpjdcpfphnccaaDoor.LTailAgain
