/-
  The same segments, of lists of one.
-/
import Derived.Test.YtbpjdcpfphnccaaDoorTs
namespace Go.Proofs.YtbpjdcpfphnccaaDoor
open Go.RowKit Gw Pl
set_option linter.unusedVariables false
set_option linter.unusedSimpArgs false
theorem agg25 : aggB Tryd.prog 25 7 = true := by kernel_rfl
theorem cb21 : callB Tryd.prog 21 = true := by kernel_rfl
theorem eqg25 : Tryd.prog.eqGuardType Tryd.prog.depth 25 = false := by kernel_rfl
theorem fld29_0 : fldB Tryd.prog 29 0 0 = true := by kernel_rfl
theorem fld29_2 : fldB Tryd.prog 29 2 8 = true := by kernel_rfl
theorem fld29_3 : fldB Tryd.prog 29 3 9 = true := by kernel_rfl
theorem fld29_4 : fldB Tryd.prog 29 4 10 = true := by kernel_rfl
theorem sih25 : Tryd.prog.stoodInHeld 25 = false := by kernel_rfl
theorem und25 : Tryd.prog.underlying 25 = some (.struct #[⟨ "Epoch", 22, 0, false, "", "", 0⟩, ⟨ "Seq", 3, 1, false, "", "", 8⟩, ⟨ "First", 3, 2, false, "", "", 16⟩, ⟨ "Heads", 23, 3, false, "", "", 24⟩]) := by kernel_rfl
/-! ### segments with their data -/
structure SegX where
  ep : Int
  seq : Int
  first : Int
  hs : Nat → Int
  ra : Option Addr
  rc : Nat
  recs : List RecX
  pa : Option Addr
  pc : Nat
  pl : List Int
  en : Int
  kind : Int
def encSX (g : SegX) : List Value := [.int .u64 g.ep, .int .i64 g.seq, .int .i64 g.first, .int .i64 (g.hs 0), .int .i64 (g.hs 1), .int .i64 (g.hs 2), .int .i64 (g.hs 3), .slice g.ra g.recs.length g.rc, .slice g.pa g.pl.length g.pc, .int .i64 g.en, .int .i64 g.kind]
theorem EncSX : Enc encSX 11 := ⟨fun _ => rfl, fun _ => rfl⟩
theorem sli_bare {t lo hi : Nat} {w : World} {A : Option Addr} {vs : List Value} (h : Sli t lo hi w A vs) : Sli 0 0 w.heap.size w A vs := by
  rcases h with h | ⟨g, off, c, fr, hA, h1, h2, ⟨t2, h3, ht⟩, h4⟩
  · exact .inl h
  · exact .inr ⟨g, off, c, fr, hA, Nat.zero_le _, (Array.getElem?_eq_some_iff.1 h3).1, ⟨t2, h3, .inl rfl⟩, h4⟩
def DeepSX (w : World) (l : List SegX) : Prop := ∀ g ∈ l, Sli 0 0 w.heap.size w g.ra (fl encRX g.recs) ∧ (∀ y ∈ g.recs, Sli 0 0 w.heap.size w y.a (fl encB y.xs)) ∧ Sli 0 0 w.heap.size w g.pa (fl encZ g.pl)
section
variable {w w' : World} {l : List SegX}
theorem DeepSX.gb (h : DeepSX w l) (hg : w.grownBy w' none) : DeepSX w' l := fun y hy => ⟨sli_zero ((h y hy).1.gb hg), fun z hz => sli_zero (((h y hy).2.1 z hz).gb hg), sli_zero ((h y hy).2.2.gb hg)⟩
theorem DeepSX.getR (h : DeepSX w l) {i : Nat} (hi : i < l.length) : Sli 0 0 w.heap.size w l[i].ra (fl encRX l[i].recs) := (h _ (List.getElem_mem hi)).1
theorem DeepSX.getD (h : DeepSX w l) {i : Nat} (hi : i < l.length) : DeepX 0 0 w.heap.size w l[i].recs := fun y hy => (h _ (List.getElem_mem hi)).2.1 y hy
theorem DeepSX.getP (h : DeepSX w l) {i : Nat} (hi : i < l.length) : Sli 0 0 w.heap.size w l[i].pa (fl encZ l[i].pl) := (h _ (List.getElem_mem hi)).2.2
theorem DeepSX.one {g : SegX} {t1 lo1 hi1 t2 lo2 hi2 t3 lo3 hi3 : Nat} (h1 : Sli t1 lo1 hi1 w g.ra (fl encRX g.recs)) (h2 : DeepX t2 lo2 hi2 w g.recs) (h3 : Sli t3 lo3 hi3 w g.pa (fl encZ g.pl)) : DeepSX w [g] := by
  intro y hy
  rw [List.mem_singleton] at hy
  subst hy
  exact ⟨sli_bare h1, fun z hz => sli_bare (h2 z hz), sli_bare h3⟩
end
/-- The same segments, wherever their records and places lie. -/
def SgEq (l1 l2 : List SegX) : Prop := l1.length = l2.length ∧ ∀ (i : Nat) (h1 : i < l1.length) (h2 : i < l2.length), (l1[i].ep = l2[i].ep ∧ l1[i].seq = l2[i].seq ∧ l1[i].first = l2[i].first ∧ (l1[i].hs 0 = l2[i].hs 0 ∧ l1[i].hs 1 = l2[i].hs 1 ∧ l1[i].hs 2 = l2[i].hs 2 ∧ l1[i].hs 3 = l2[i].hs 3 ∧ True) ∧ True) ∧ l1[i].en = l2[i].en ∧ l1[i].kind = l2[i].kind ∧ RsEq l1[i].recs l2[i].recs ∧ l1[i].pl = l2[i].pl ∧ l1[i].recs.length ≤ 1000000 ∧ l1[i].pl.length ≤ 1000000
theorem SgEq.one {x y : SegX} (h : (x.ep = y.ep ∧ x.seq = y.seq ∧ x.first = y.first ∧ (x.hs 0 = y.hs 0 ∧ x.hs 1 = y.hs 1 ∧ x.hs 2 = y.hs 2 ∧ x.hs 3 = y.hs 3 ∧ True) ∧ True) ∧ x.en = y.en ∧ x.kind = y.kind ∧ RsEq x.recs y.recs ∧ x.pl = y.pl ∧ x.recs.length ≤ 1000000 ∧ x.pl.length ≤ 1000000) : SgEq [x] [y] := by
  refine ⟨rfl, fun i h1 h2 => ?_⟩
  obtain rfl : i = 0 := by simp at h1; exact h1
  exact h
theorem get_congr {l l' : List Int} {q : Nat} (h : l = l') {h1 : q < l.length} {h2 : q < l'.length} : l[q] = l'[q] := by subst h; rfl
theorem same25_ok {w : World} {t1 lo1 hi1 t2 lo2 hi2 : Nat} {A1 A2 : Option Addr} {c1 c2 : Nat} {l1 l2 : List SegX} (hS1 : Sli t1 lo1 hi1 w A1 (fl encSX l1)) (hS2 : Sli t2 lo2 hi2 w A2 (fl encSX l2)) (hD1 : DeepSX w l1) (hD2 : DeepSX w l2) (he : SgEq l1 l2) (hl : l1.length ≤ 1000000) :
    Runs Tryd.prog 9 #[.slice A1 l1.length c1, .slice A2 l2.length c2] w (fun v w' => w.grownBy w' none ∧ v = .bool true) := by
  have hB := gb_refl w none
  have hle := he.1
  replace hS1 := hS1.top
  replace hS2 := hS2.top
  refine enter Tryd.func9 Tryd.ntmps9 rfl rfl ?_
  refine C_seq (C_reg rfl ?_)
  refine L_run (R_assign rfl) rfl ?_
  refine L_nil (N_then (C_seq (C_seq (C_reg rfl ?_))))
  refine L_run (R_move rfl) rfl ?_
  refine L_run (R_lenSl rfl slc30) rfl ?_
  refine L_run (R_move rfl) rfl ?_
  refine L_run (R_lenSl rfl slc30) rfl ?_
  refine L_run (R_neq rfl rfl) rfl ?_
  refine L_nil (N_then (C_condF rfl (decide_eq_false (by omega)) (C_skip (N_then (C_seq (C_seq (C_reg rfl ?_)))))))
  refine L_run (R_assign rfl) rfl ?_
  refine L_nil (N_then (C_block ?_))
  refine C_loop (fun m_ a_ w_ => ∃ (σ_ : Nat → Value) (i : Nat), a_ = Ac 111 σ_ [] [(0, .slice A1 l1.length c1), (1, .slice A2 l2.length c2), (4, .bool false), (5, .int .i64 (i : Int))] ∧ w.grownBy w_ none ∧ Sli t1 lo1 w.heap.size w_ A1 (fl encSX l1) ∧ Sli t2 lo2 w.heap.size w_ A2 (fl encSX l2) ∧ DeepSX w_ l1 ∧ DeepSX w_ l2 ∧ (i ≤ l1.length) ∧ l1.length - i = m_) (l1.length - 0) ?_ ?_
  · exact ⟨_, 0, Ac_frg ⟨rfl, rfl, rfl, (agr rfl (by first | rfl | (congr 1; omega) | (congr 1; simp; done) | (congr 1; simp only [IntKind.wrap_u64, IntKind.wrap_i64, IntKind.wrap_u8]; omega) | (congr 1 <;> omega))), trivial⟩, hB, hS1, hS2, hD1, hD2, (by omega), rfl⟩
  · clear hB
    clear hS1 hS2 hD1 hD2
    rintro m_ a_ w1 ⟨σ_, i, rfl, hB, hS1, hS2, hD1, hD2, hi_, rfl⟩
    have hlt1 : i ≤ l1.length := hi_
    refine C_seq (C_seq (C_reg rfl ?_))
    refine L_run (R_move rfl) rfl ?_
    refine L_run (R_move rfl) rfl ?_
    refine L_run (R_lenSl rfl slc30) rfl ?_
    refine L_run (R_lss rfl rfl) rfl ?_
    refine L_nil (N_then ?_)
    refine C_if rfl (fun h1 => ?_) (fun h1 => ?_)
    · refine C_skip (N_then (C_seq (C_block (C_seq (C_seq ?_)))))
      refine C_draw2 rfl mix ?_
      intro w2 hs1 hz1
      replace hB := gb_tr hB hs1
      replace hS1 := hS1.gb hs1
      replace hS2 := hS2.gb hs1
      replace hD1 := hD1.gb hs1
      replace hD2 := hD2.gb hs1
      have hl1 : i < l1.length := by first | omega | (simp; omega)
      obtain ⟨g1, o1, r1, eA1, er1, ha1⟩ := Sli.place' (xs := l1) (i := i) EncSX hS1 hl1 rfl
      have hl2 : i < l2.length := by first | omega | (simp; omega)
      obtain ⟨g2, o2, r2, eA2, er2, ha2⟩ := Sli.place' (xs := l2) (i := i) EncSX hS2 hl2 rfl
      refine ⟨fun W_ => At W_ g1 r1 [.int .u64 ((l1[i]).ep), .int .i64 ((l1[i]).seq), .int .i64 ((l1[i]).first), .int .i64 ((l1[i]).hs 0), .int .i64 ((l1[i]).hs 1), .int .i64 ((l1[i]).hs 2), .int .i64 ((l1[i]).hs 3), .slice ((l1[i]).ra) ((l1[i]).recs.length) ((l1[i]).rc), .slice ((l1[i]).pa) ((l1[i]).pl.length) ((l1[i]).pc), .int .i64 ((l1[i]).en), .int .i64 ((l1[i]).kind)] ∧ At W_ g2 r2 [.int .u64 ((l2[i]).ep), .int .i64 ((l2[i]).seq), .int .i64 ((l2[i]).first), .int .i64 ((l2[i]).hs 0), .int .i64 ((l2[i]).hs 1), .int .i64 ((l2[i]).hs 2), .int .i64 ((l2[i]).hs 3), .slice ((l2[i]).ra) ((l2[i]).recs.length) ((l2[i]).rc), .slice ((l2[i]).pa) ((l2[i]).pl.length) ((l2[i]).pc), .int .i64 ((l2[i]).en), .int .i64 ((l2[i]).kind)] ∧ True, [0, 1, 2, 3, 4, 5, 6, 7, 8, 9, 10, 11, 12, 13, 14, 15, 16, 17, 18, 19, 20, 21, 22, 23, 24, 25, 26, 27, 28, 29, 30, 31, 32, 33, 34, 35, 36, 37, 38, 39, 40, 41, 42, 43, 44, 45, 46, 47, 49, 50, 51, 52, 53, 54, 55, 56, 57, 58, 59, 60, 61, 62, 63, 64, 65], ?_⟩
      refine T_takeA (i := 0) rfl rfl (by kernel_rfl) (by kernel_rfl) (by kernel_rfl) (Y_of (fun _ ⟨ha1, ha2, _⟩ => R_move rfl)) ⟨ha1, ha2, trivial⟩ rfl ?_
      refine T_takeA (i := 1) rfl rfl (by kernel_rfl) (by kernel_rfl) (by kernel_rfl) (Y_of (fun _ ⟨ha1, ha2, _⟩ => R_move rfl)) ⟨ha1, ha2, trivial⟩ rfl ?_
      refine T_takeA (i := 2) rfl rfl (by kernel_rfl) (by kernel_rfl) (by kernel_rfl) (Y_of (fun _ ⟨ha1, ha2, _⟩ => R_indexE rfl rfl (by first | rfl | omega) slc30 hl1 eA1 er1)) ⟨ha1, ha2, trivial⟩ rfl ?_
      refine T_takeA (i := 3) rfl rfl (by kernel_rfl) (by kernel_rfl) (by kernel_rfl) (Y_of (fun _ ⟨ha1, ha2, _⟩ => R_field rfl fld29_0 rfl)) ⟨ha1, ha2, trivial⟩ rfl ?_
      refine T_takeA (i := 4) rfl rfl (by kernel_rfl) (by kernel_rfl) (by kernel_rfl) (Y_of (fun _ ⟨ha1, ha2, _⟩ => R_loadA (vs := [.int .u64 ((l1[i]).ep), .int .i64 ((l1[i]).seq), .int .i64 ((l1[i]).first), .int .i64 ((l1[i]).hs 0), .int .i64 ((l1[i]).hs 1), .int .i64 ((l1[i]).hs 2), .int .i64 ((l1[i]).hs 3)]) rfl agg25 (At.pre ha1 rfl) rfl)) ⟨ha1, ha2, trivial⟩ rfl ?_
      refine T_takeA (i := 5) rfl rfl (by kernel_rfl) (by kernel_rfl) (by kernel_rfl) (Y_of (fun _ ⟨ha1, ha2, _⟩ => R_move rfl)) ⟨ha1, ha2, trivial⟩ rfl ?_
      refine T_takeA (i := 6) rfl rfl (by kernel_rfl) (by kernel_rfl) (by kernel_rfl) (Y_of (fun _ ⟨ha1, ha2, _⟩ => R_move rfl)) ⟨ha1, ha2, trivial⟩ rfl ?_
      refine T_takeA (i := 7) rfl rfl (by kernel_rfl) (by kernel_rfl) (by kernel_rfl) (Y_of (fun _ ⟨ha1, ha2, _⟩ => R_indexE rfl rfl (by first | rfl | omega) slc30 hl2 eA2 er2)) ⟨ha1, ha2, trivial⟩ rfl ?_
      refine T_takeA (i := 8) rfl rfl (by kernel_rfl) (by kernel_rfl) (by kernel_rfl) (Y_of (fun _ ⟨ha1, ha2, _⟩ => R_field rfl fld29_0 rfl)) ⟨ha1, ha2, trivial⟩ rfl ?_
      refine T_takeA (i := 9) rfl rfl (by kernel_rfl) (by kernel_rfl) (by kernel_rfl) (Y_of (fun _ ⟨ha1, ha2, _⟩ => R_loadA (vs := [.int .u64 ((l2[i]).ep), .int .i64 ((l2[i]).seq), .int .i64 ((l2[i]).first), .int .i64 ((l2[i]).hs 0), .int .i64 ((l2[i]).hs 1), .int .i64 ((l2[i]).hs 2), .int .i64 ((l2[i]).hs 3)]) rfl agg25 (At.pre ha2 rfl) rfl)) ⟨ha1, ha2, trivial⟩ rfl ?_
      refine T_takeA (i := 10) rfl rfl (by kernel_rfl) (by kernel_rfl) (by kernel_rfl) (Y_of (fun _ ⟨ha1, ha2, _⟩ => R_neqA rfl rfl eqg25 (eqs_struct und25 sih25 (eqf_cons (by decide) scl22 rfl rfl (eqs_int int22) (eqf_cons (by decide) scl3 rfl rfl (eqs_int int3) (eqf_cons (by decide) scl3 rfl rfl (eqs_int int3) (eqf_consA (by decide) agg23 rfl rfl (eqs_arr4 arr23 int3 scl3) eqf_nil))))))) ⟨ha1, ha2, trivial⟩ rfl ?_
      refine T_takeA (i := 11) rfl rfl (by kernel_rfl) (by kernel_rfl) (by kernel_rfl) (Y_of (fun _ ⟨ha1, ha2, _⟩ => R_move rfl)) ⟨ha1, ha2, trivial⟩ rfl ?_
      refine T_takeA (i := 12) rfl rfl (by kernel_rfl) (by kernel_rfl) (by kernel_rfl) (Y_yes rfl rfl rfl (decide_eq_false (fun h_ => h_ ((he.2 i (by omega) (by omega)).1))) (fun _ ⟨ha1, ha2, _⟩ => R_move rfl)) ⟨ha1, ha2, trivial⟩ rfl ?_
      refine T_takeA (i := 13) rfl rfl (by kernel_rfl) (by kernel_rfl) (by kernel_rfl) (Y_yes rfl rfl rfl (decide_eq_false (fun h_ => h_ ((he.2 i (by omega) (by omega)).1))) (fun _ ⟨ha1, ha2, _⟩ => R_move rfl)) ⟨ha1, ha2, trivial⟩ rfl ?_
      refine T_takeA (i := 14) rfl rfl (by kernel_rfl) (by kernel_rfl) (by kernel_rfl) (Y_yes rfl rfl rfl (decide_eq_false (fun h_ => h_ ((he.2 i (by omega) (by omega)).1))) (fun _ ⟨ha1, ha2, _⟩ => R_indexE rfl rfl (by first | rfl | omega) slc30 hl1 eA1 er1)) ⟨ha1, ha2, trivial⟩ rfl ?_
      refine T_takeA (i := 15) rfl rfl (by kernel_rfl) (by kernel_rfl) (by kernel_rfl) (Y_yes rfl rfl rfl (decide_eq_false (fun h_ => h_ ((he.2 i (by omega) (by omega)).1))) (fun _ ⟨ha1, ha2, _⟩ => R_field rfl fld29_3 rfl)) ⟨ha1, ha2, trivial⟩ rfl ?_
      refine T_takeA (i := 16) rfl rfl (by kernel_rfl) (by kernel_rfl) (by kernel_rfl) (Y_yes rfl rfl rfl (decide_eq_false (fun h_ => h_ ((he.2 i (by omega) (by omega)).1))) (fun _ ⟨ha1, ha2, _⟩ => R_load1 rfl scl3 (ha1 9 _ rfl))) ⟨ha1, ha2, trivial⟩ rfl ?_
      refine T_takeA (i := 17) rfl rfl (by kernel_rfl) (by kernel_rfl) (by kernel_rfl) (Y_yes rfl rfl rfl (decide_eq_false (fun h_ => h_ ((he.2 i (by omega) (by omega)).1))) (fun _ ⟨ha1, ha2, _⟩ => R_move rfl)) ⟨ha1, ha2, trivial⟩ rfl ?_
      refine T_takeA (i := 18) rfl rfl (by kernel_rfl) (by kernel_rfl) (by kernel_rfl) (Y_yes rfl rfl rfl (decide_eq_false (fun h_ => h_ ((he.2 i (by omega) (by omega)).1))) (fun _ ⟨ha1, ha2, _⟩ => R_move rfl)) ⟨ha1, ha2, trivial⟩ rfl ?_
      refine T_takeA (i := 19) rfl rfl (by kernel_rfl) (by kernel_rfl) (by kernel_rfl) (Y_yes rfl rfl rfl (decide_eq_false (fun h_ => h_ ((he.2 i (by omega) (by omega)).1))) (fun _ ⟨ha1, ha2, _⟩ => R_indexE rfl rfl (by first | rfl | omega) slc30 hl2 eA2 er2)) ⟨ha1, ha2, trivial⟩ rfl ?_
      refine T_takeA (i := 20) rfl rfl (by kernel_rfl) (by kernel_rfl) (by kernel_rfl) (Y_yes rfl rfl rfl (decide_eq_false (fun h_ => h_ ((he.2 i (by omega) (by omega)).1))) (fun _ ⟨ha1, ha2, _⟩ => R_field rfl fld29_3 rfl)) ⟨ha1, ha2, trivial⟩ rfl ?_
      refine T_takeA (i := 21) rfl rfl (by kernel_rfl) (by kernel_rfl) (by kernel_rfl) (Y_yes rfl rfl rfl (decide_eq_false (fun h_ => h_ ((he.2 i (by omega) (by omega)).1))) (fun _ ⟨ha1, ha2, _⟩ => R_load1 rfl scl3 (ha2 9 _ rfl))) ⟨ha1, ha2, trivial⟩ rfl ?_
      refine T_takeA (i := 22) rfl rfl (by kernel_rfl) (by kernel_rfl) (by kernel_rfl) (Y_yes rfl rfl rfl (decide_eq_false (fun h_ => h_ ((he.2 i (by omega) (by omega)).1))) (fun _ ⟨ha1, ha2, _⟩ => R_neq rfl rfl)) ⟨ha1, ha2, trivial⟩ rfl ?_
      refine T_takeA (i := 23) rfl rfl (by kernel_rfl) (by kernel_rfl) (by kernel_rfl) (Y_of (fun _ ⟨ha1, ha2, _⟩ => R_pickF rfl (decide_eq_false (fun h_ => h_ ((he.2 i (by omega) (by omega)).1))) rfl)) ⟨ha1, ha2, trivial⟩ rfl ?_
      refine T_takeA (i := 24) rfl rfl (by kernel_rfl) (by kernel_rfl) (by kernel_rfl) (Y_of (fun _ ⟨ha1, ha2, _⟩ => R_move rfl)) ⟨ha1, ha2, trivial⟩ rfl ?_
      refine T_takeA (i := 25) rfl rfl (by kernel_rfl) (by kernel_rfl) (by kernel_rfl) (Y_yes rfl rfl rfl (decide_eq_false (fun h_ => h_ ((he.2 i (by omega) (by omega)).2.1))) (fun _ ⟨ha1, ha2, _⟩ => R_move rfl)) ⟨ha1, ha2, trivial⟩ rfl ?_
      refine T_takeA (i := 26) rfl rfl (by kernel_rfl) (by kernel_rfl) (by kernel_rfl) (Y_yes rfl rfl rfl (decide_eq_false (fun h_ => h_ ((he.2 i (by omega) (by omega)).2.1))) (fun _ ⟨ha1, ha2, _⟩ => R_move rfl)) ⟨ha1, ha2, trivial⟩ rfl ?_
      refine T_takeA (i := 27) rfl rfl (by kernel_rfl) (by kernel_rfl) (by kernel_rfl) (Y_yes rfl rfl rfl (decide_eq_false (fun h_ => h_ ((he.2 i (by omega) (by omega)).2.1))) (fun _ ⟨ha1, ha2, _⟩ => R_indexE rfl rfl (by first | rfl | omega) slc30 hl1 eA1 er1)) ⟨ha1, ha2, trivial⟩ rfl ?_
      refine T_takeA (i := 28) rfl rfl (by kernel_rfl) (by kernel_rfl) (by kernel_rfl) (Y_yes rfl rfl rfl (decide_eq_false (fun h_ => h_ ((he.2 i (by omega) (by omega)).2.1))) (fun _ ⟨ha1, ha2, _⟩ => R_field rfl fld29_4 rfl)) ⟨ha1, ha2, trivial⟩ rfl ?_
      refine T_takeA (i := 29) rfl rfl (by kernel_rfl) (by kernel_rfl) (by kernel_rfl) (Y_yes rfl rfl rfl (decide_eq_false (fun h_ => h_ ((he.2 i (by omega) (by omega)).2.1))) (fun _ ⟨ha1, ha2, _⟩ => R_load1 rfl scl3 (ha1 10 _ rfl))) ⟨ha1, ha2, trivial⟩ rfl ?_
      refine T_takeA (i := 30) rfl rfl (by kernel_rfl) (by kernel_rfl) (by kernel_rfl) (Y_yes rfl rfl rfl (decide_eq_false (fun h_ => h_ ((he.2 i (by omega) (by omega)).2.1))) (fun _ ⟨ha1, ha2, _⟩ => R_move rfl)) ⟨ha1, ha2, trivial⟩ rfl ?_
      refine T_takeA (i := 31) rfl rfl (by kernel_rfl) (by kernel_rfl) (by kernel_rfl) (Y_yes rfl rfl rfl (decide_eq_false (fun h_ => h_ ((he.2 i (by omega) (by omega)).2.1))) (fun _ ⟨ha1, ha2, _⟩ => R_move rfl)) ⟨ha1, ha2, trivial⟩ rfl ?_
      refine T_takeA (i := 32) rfl rfl (by kernel_rfl) (by kernel_rfl) (by kernel_rfl) (Y_yes rfl rfl rfl (decide_eq_false (fun h_ => h_ ((he.2 i (by omega) (by omega)).2.1))) (fun _ ⟨ha1, ha2, _⟩ => R_indexE rfl rfl (by first | rfl | omega) slc30 hl2 eA2 er2)) ⟨ha1, ha2, trivial⟩ rfl ?_
      refine T_takeA (i := 33) rfl rfl (by kernel_rfl) (by kernel_rfl) (by kernel_rfl) (Y_yes rfl rfl rfl (decide_eq_false (fun h_ => h_ ((he.2 i (by omega) (by omega)).2.1))) (fun _ ⟨ha1, ha2, _⟩ => R_field rfl fld29_4 rfl)) ⟨ha1, ha2, trivial⟩ rfl ?_
      refine T_takeA (i := 34) rfl rfl (by kernel_rfl) (by kernel_rfl) (by kernel_rfl) (Y_yes rfl rfl rfl (decide_eq_false (fun h_ => h_ ((he.2 i (by omega) (by omega)).2.1))) (fun _ ⟨ha1, ha2, _⟩ => R_load1 rfl scl3 (ha2 10 _ rfl))) ⟨ha1, ha2, trivial⟩ rfl ?_
      refine T_takeA (i := 35) rfl rfl (by kernel_rfl) (by kernel_rfl) (by kernel_rfl) (Y_yes rfl rfl rfl (decide_eq_false (fun h_ => h_ ((he.2 i (by omega) (by omega)).2.1))) (fun _ ⟨ha1, ha2, _⟩ => R_neq rfl rfl)) ⟨ha1, ha2, trivial⟩ rfl ?_
      refine T_takeA (i := 36) rfl rfl (by kernel_rfl) (by kernel_rfl) (by kernel_rfl) (Y_of (fun _ ⟨ha1, ha2, _⟩ => R_pickF rfl (decide_eq_false (fun h_ => h_ ((he.2 i (by omega) (by omega)).2.1))) rfl)) ⟨ha1, ha2, trivial⟩ rfl ?_
      refine T_takeA (i := 37) rfl rfl (by kernel_rfl) (by kernel_rfl) (by kernel_rfl) (Y_of (fun _ ⟨ha1, ha2, _⟩ => R_move rfl)) ⟨ha1, ha2, trivial⟩ rfl ?_
      refine T_takeA (i := 38) rfl rfl (by kernel_rfl) (by kernel_rfl) (by kernel_rfl) (Y_yes rfl rfl rfl (decide_eq_false (fun h_ => h_ ((he.2 i (by omega) (by omega)).2.2.1))) (fun _ ⟨ha1, ha2, _⟩ => R_move rfl)) ⟨ha1, ha2, trivial⟩ rfl ?_
      refine T_takeA (i := 39) rfl rfl (by kernel_rfl) (by kernel_rfl) (by kernel_rfl) (Y_yes rfl rfl rfl (decide_eq_false (fun h_ => h_ ((he.2 i (by omega) (by omega)).2.2.1))) (fun _ ⟨ha1, ha2, _⟩ => R_move rfl)) ⟨ha1, ha2, trivial⟩ rfl ?_
      refine T_takeA (i := 40) rfl rfl (by kernel_rfl) (by kernel_rfl) (by kernel_rfl) (Y_yes rfl rfl rfl (decide_eq_false (fun h_ => h_ ((he.2 i (by omega) (by omega)).2.2.1))) (fun _ ⟨ha1, ha2, _⟩ => R_indexE rfl rfl (by first | rfl | omega) slc30 hl1 eA1 er1)) ⟨ha1, ha2, trivial⟩ rfl ?_
      refine T_takeA (i := 41) rfl rfl (by kernel_rfl) (by kernel_rfl) (by kernel_rfl) (Y_yes rfl rfl rfl (decide_eq_false (fun h_ => h_ ((he.2 i (by omega) (by omega)).2.2.1))) (fun _ ⟨ha1, ha2, _⟩ => R_field rfl fld29_1 rfl)) ⟨ha1, ha2, trivial⟩ rfl ?_
      refine T_takeA (i := 42) rfl rfl (by kernel_rfl) (by kernel_rfl) (by kernel_rfl) (Y_yes rfl rfl rfl (decide_eq_false (fun h_ => h_ ((he.2 i (by omega) (by omega)).2.2.1))) (fun _ ⟨ha1, ha2, _⟩ => R_load1 rfl scl26 (ha1 7 _ rfl))) ⟨ha1, ha2, trivial⟩ rfl ?_
      refine T_takeA (i := 43) rfl rfl (by kernel_rfl) (by kernel_rfl) (by kernel_rfl) (Y_yes rfl rfl rfl (decide_eq_false (fun h_ => h_ ((he.2 i (by omega) (by omega)).2.2.1))) (fun _ ⟨ha1, ha2, _⟩ => R_move rfl)) ⟨ha1, ha2, trivial⟩ rfl ?_
      refine T_takeA (i := 44) rfl rfl (by kernel_rfl) (by kernel_rfl) (by kernel_rfl) (Y_yes rfl rfl rfl (decide_eq_false (fun h_ => h_ ((he.2 i (by omega) (by omega)).2.2.1))) (fun _ ⟨ha1, ha2, _⟩ => R_move rfl)) ⟨ha1, ha2, trivial⟩ rfl ?_
      refine T_takeA (i := 45) rfl rfl (by kernel_rfl) (by kernel_rfl) (by kernel_rfl) (Y_yes rfl rfl rfl (decide_eq_false (fun h_ => h_ ((he.2 i (by omega) (by omega)).2.2.1))) (fun _ ⟨ha1, ha2, _⟩ => R_indexE rfl rfl (by first | rfl | omega) slc30 hl2 eA2 er2)) ⟨ha1, ha2, trivial⟩ rfl ?_
      refine T_takeA (i := 46) rfl rfl (by kernel_rfl) (by kernel_rfl) (by kernel_rfl) (Y_yes rfl rfl rfl (decide_eq_false (fun h_ => h_ ((he.2 i (by omega) (by omega)).2.2.1))) (fun _ ⟨ha1, ha2, _⟩ => R_field rfl fld29_1 rfl)) ⟨ha1, ha2, trivial⟩ rfl ?_
      refine T_takeA (i := 47) rfl rfl (by kernel_rfl) (by kernel_rfl) (by kernel_rfl) (Y_yes rfl rfl rfl (decide_eq_false (fun h_ => h_ ((he.2 i (by omega) (by omega)).2.2.1))) (fun _ ⟨ha1, ha2, _⟩ => R_load1 rfl scl26 (ha2 7 _ rfl))) ⟨ha1, ha2, trivial⟩ rfl ?_
      refine T_all (rs := [48]) (by kernel_rfl) rfl (all1 (O_one rfl ?_))
      refine L_yes rfl rfl rfl (decide_eq_false (fun h_ => h_ ((he.2 i (by omega) (by omega)).2.2.1))) ?_
      refine L_call rfl cb21 (sameall_ok (rs1 := (l1[i]).recs) (rs2 := (l2[i]).recs) (hD1.getR (i := i) (by first | assumption | omega | (simp; omega))) (hD2.getR (i := i) (by first | assumption | omega | (simp; omega))) (hD1.getD (i := i) (by omega)) (hD2.getD (i := i) (by omega)) (he.2 i (by omega) (by omega)).2.2.2.1 (he.2 i (by omega) (by omega)).2.2.2.2.2.1) rfl ?_
      rintro _ w3 ⟨hs2, rfl⟩
      replace hB := gb_tr hB hs2
      replace hS1 := hS1.gb hs2
      replace hS2 := hS2.gb hs2
      replace hD1 := hD1.gb hs2
      replace hD2 := hD2.gb hs2
      replace ha1 := At.gb ha1 hs2 (by simp)
      replace ha2 := At.gb ha2 hs2 (by simp)
      refine L_nil (N_then ⟨fun hN_ => ⟨ha1, ha2, trivial⟩, ?_⟩)
      refine T_takeA (i := 49) rfl rfl (by kernel_rfl) (by kernel_rfl) (by kernel_rfl) (Y_yes rfl rfl rfl (decide_eq_false (fun h_ => h_ ((he.2 i (by omega) (by omega)).2.2.1))) (fun _ ⟨ha1, ha2, _⟩ => R_not rfl)) ⟨ha1, ha2, trivial⟩ rfl ?_
      refine T_takeA (i := 50) rfl rfl (by kernel_rfl) (by kernel_rfl) (by kernel_rfl) (Y_of (fun _ ⟨ha1, ha2, _⟩ => R_pickF rfl (decide_eq_false (fun h_ => h_ ((he.2 i (by omega) (by omega)).2.2.1))) rfl)) ⟨ha1, ha2, trivial⟩ rfl ?_
      refine T_takeA (i := 51) rfl rfl (by kernel_rfl) (by kernel_rfl) (by kernel_rfl) (Y_of (fun _ ⟨ha1, ha2, _⟩ => R_move rfl)) ⟨ha1, ha2, trivial⟩ rfl ?_
      refine T_takeA (i := 52) rfl rfl (by kernel_rfl) (by kernel_rfl) (by kernel_rfl) (Y_yes rfl rfl rfl rfl (fun _ ⟨ha1, ha2, _⟩ => R_move rfl)) ⟨ha1, ha2, trivial⟩ rfl ?_
      refine T_takeA (i := 53) rfl rfl (by kernel_rfl) (by kernel_rfl) (by kernel_rfl) (Y_yes rfl rfl rfl rfl (fun _ ⟨ha1, ha2, _⟩ => R_move rfl)) ⟨ha1, ha2, trivial⟩ rfl ?_
      refine T_takeA (i := 54) rfl rfl (by kernel_rfl) (by kernel_rfl) (by kernel_rfl) (Y_yes rfl rfl rfl rfl (fun _ ⟨ha1, ha2, _⟩ => R_indexE rfl rfl (by first | rfl | omega) slc30 hl1 eA1 er1)) ⟨ha1, ha2, trivial⟩ rfl ?_
      refine T_takeA (i := 55) rfl rfl (by kernel_rfl) (by kernel_rfl) (by kernel_rfl) (Y_yes rfl rfl rfl rfl (fun _ ⟨ha1, ha2, _⟩ => R_field rfl fld29_2 rfl)) ⟨ha1, ha2, trivial⟩ rfl ?_
      refine T_takeA (i := 56) rfl rfl (by kernel_rfl) (by kernel_rfl) (by kernel_rfl) (Y_yes rfl rfl rfl rfl (fun _ ⟨ha1, ha2, _⟩ => R_load1 rfl scl27 (ha1 8 _ rfl))) ⟨ha1, ha2, trivial⟩ rfl ?_
      refine T_takeA (i := 57) rfl rfl (by kernel_rfl) (by kernel_rfl) (by kernel_rfl) (Y_yes rfl rfl rfl rfl (fun _ ⟨ha1, ha2, _⟩ => R_lenSl rfl slc27)) ⟨ha1, ha2, trivial⟩ rfl ?_
      refine T_takeA (i := 58) rfl rfl (by kernel_rfl) (by kernel_rfl) (by kernel_rfl) (Y_yes rfl rfl rfl rfl (fun _ ⟨ha1, ha2, _⟩ => R_move rfl)) ⟨ha1, ha2, trivial⟩ rfl ?_
      refine T_takeA (i := 59) rfl rfl (by kernel_rfl) (by kernel_rfl) (by kernel_rfl) (Y_yes rfl rfl rfl rfl (fun _ ⟨ha1, ha2, _⟩ => R_move rfl)) ⟨ha1, ha2, trivial⟩ rfl ?_
      refine T_takeA (i := 60) rfl rfl (by kernel_rfl) (by kernel_rfl) (by kernel_rfl) (Y_yes rfl rfl rfl rfl (fun _ ⟨ha1, ha2, _⟩ => R_indexE rfl rfl (by first | rfl | omega) slc30 hl2 eA2 er2)) ⟨ha1, ha2, trivial⟩ rfl ?_
      refine T_takeA (i := 61) rfl rfl (by kernel_rfl) (by kernel_rfl) (by kernel_rfl) (Y_yes rfl rfl rfl rfl (fun _ ⟨ha1, ha2, _⟩ => R_field rfl fld29_2 rfl)) ⟨ha1, ha2, trivial⟩ rfl ?_
      refine T_takeA (i := 62) rfl rfl (by kernel_rfl) (by kernel_rfl) (by kernel_rfl) (Y_yes rfl rfl rfl rfl (fun _ ⟨ha1, ha2, _⟩ => R_load1 rfl scl27 (ha2 8 _ rfl))) ⟨ha1, ha2, trivial⟩ rfl ?_
      refine T_takeA (i := 63) rfl rfl (by kernel_rfl) (by kernel_rfl) (by kernel_rfl) (Y_yes rfl rfl rfl rfl (fun _ ⟨ha1, ha2, _⟩ => R_lenSl rfl slc27)) ⟨ha1, ha2, trivial⟩ rfl ?_
      refine T_takeA (i := 64) rfl rfl (by kernel_rfl) (by kernel_rfl) (by kernel_rfl) (Y_yes rfl rfl rfl rfl (fun _ ⟨ha1, ha2, _⟩ => R_neq rfl rfl)) ⟨ha1, ha2, trivial⟩ rfl ?_
      refine T_takeA (i := 65) rfl rfl (by kernel_rfl) (by kernel_rfl) (by kernel_rfl) (Y_of (fun _ ⟨ha1, ha2, _⟩ => R_pickF rfl rfl rfl)) ⟨ha1, ha2, trivial⟩ rfl ?_
      refine T_done (by kernel_rfl) (CalmE.normal ?_)
      refine N_then (C_condF rfl (decide_eq_false (fun h_ => h_ (by rw [(he.2 i (by omega) (by omega)).2.2.2.2.1]))) (C_skip (N_then (C_seq (C_reg rfl ?_)))))
      refine L_run (R_assign rfl) rfl ?_
      refine L_nil (N_then (C_block ?_))
      have hE := (he.2 i (by omega) (by omega))
      have hpl_ := congrArg List.length hE.2.2.2.2.1
      refine C_loop (fun m_ a_ w_ => ∃ (σ_ : Nat → Value) (q : Nat), a_ = Ac 111 σ_ [] [(0, .slice A1 l1.length c1), (1, .slice A2 l2.length c2), (4, .bool false), (5, .int .i64 (i : Int)), (6, .int .i64 (q : Int))] ∧ w.grownBy w_ none ∧ Sli t1 lo1 w.heap.size w_ A1 (fl encSX l1) ∧ Sli t2 lo2 w.heap.size w_ A2 (fl encSX l2) ∧ DeepSX w_ l1 ∧ DeepSX w_ l2 ∧ At w_ g1 r1 [.int .u64 ((l1[i]).ep), .int .i64 ((l1[i]).seq), .int .i64 ((l1[i]).first), .int .i64 ((l1[i]).hs 0), .int .i64 ((l1[i]).hs 1), .int .i64 ((l1[i]).hs 2), .int .i64 ((l1[i]).hs 3), .slice ((l1[i]).ra) ((l1[i]).recs.length) ((l1[i]).rc), .slice ((l1[i]).pa) ((l1[i]).pl.length) ((l1[i]).pc), .int .i64 ((l1[i]).en), .int .i64 ((l1[i]).kind)] ∧ At w_ g2 r2 [.int .u64 ((l2[i]).ep), .int .i64 ((l2[i]).seq), .int .i64 ((l2[i]).first), .int .i64 ((l2[i]).hs 0), .int .i64 ((l2[i]).hs 1), .int .i64 ((l2[i]).hs 2), .int .i64 ((l2[i]).hs 3), .slice ((l2[i]).ra) ((l2[i]).recs.length) ((l2[i]).rc), .slice ((l2[i]).pa) ((l2[i]).pl.length) ((l2[i]).pc), .int .i64 ((l2[i]).en), .int .i64 ((l2[i]).kind)] ∧ (q ≤ l1[i].pl.length) ∧ l1[i].pl.length - q = m_) (l1[i].pl.length - 0) ?_ ?_
      · exact ⟨_, 0, Ac_frg ⟨rfl, rfl, rfl, rfl, (agr rfl (by first | rfl | (congr 1; omega) | (congr 1; simp; done) | (congr 1; simp only [IntKind.wrap_u64, IntKind.wrap_i64, IntKind.wrap_u8]; omega) | (congr 1 <;> omega))), trivial⟩, hB, hS1, hS2, hD1, hD2, ha1, ha2, (by omega), rfl⟩
      · clear hB
        clear hS1 hS2 hD1 hD2 ha1 ha2
        rintro m_ a_ w4 ⟨σ_, q, rfl, hB, hS1, hS2, hD1, hD2, ha1, ha2, hq, rfl⟩
        refine C_seq (C_seq (C_reg rfl ?_))
        refine L_run (R_move rfl) rfl ?_
        refine L_run (R_move rfl) rfl ?_
        refine L_run (R_move rfl) rfl ?_
        have hl3 : i < l1.length := by first | omega | (simp; omega)
        refine T_index (xs := l1) (i := i) EncSX rfl rfl (by first | rfl | omega) slc30 hl3 hS1 rfl ?_
        intro g3 o3 ha3
        refine L_run (R_field rfl fld29_2 rfl) rfl ?_
        refine L_run (R_load1 rfl scl27 (ha3 8 _ rfl)) rfl ?_
        refine L_run (R_lenSl rfl slc27) rfl ?_
        refine L_run (R_lss rfl rfl) rfl ?_
        refine L_nil (N_then ?_)
        refine C_if rfl (fun h2 => ?_) (fun h2 => ?_)
        · refine C_skip (N_then (C_seq (C_block (C_seq ?_))))
          refine C_draw2 rfl mix ?_
          intro w5 hs3 hz2
          replace hB := gb_tr hB hs3
          replace hS1 := hS1.gb hs3
          replace hS2 := hS2.gb hs3
          replace hD1 := hD1.gb hs3
          replace hD2 := hD2.gb hs3
          replace ha1 := At.gb ha1 hs3 (by simp)
          replace ha2 := At.gb ha2 hs3 (by simp)
          replace ha3 := At.gb ha3 hs3 (by simp)
          have hl4 : i < l1.length := by first | omega | (simp; omega)
          obtain ⟨g4, o4, r3, eA3, er3, ha4⟩ := Sli.place' (xs := l1) (i := i) EncSX hS1 hl4 rfl
          have hl5 : q < ((l1[i]).pl).length := by first | omega | (simp; omega)
          obtain ⟨g5, o5, r4, eA4, er4, ha5⟩ := Sli.place' (xs := (l1[i]).pl) (i := q) EncZ (hD1.getP (i := i) (by first | assumption | omega | (simp; omega))) hl5 rfl
          have hl6 : i < l2.length := by first | omega | (simp; omega)
          obtain ⟨g6, o6, r5, eA5, er5, ha6⟩ := Sli.place' (xs := l2) (i := i) EncSX hS2 hl6 rfl
          have hl7 : q < ((l2[i]).pl).length := by first | omega | (simp; omega)
          obtain ⟨g7, o7, r6, eA6, er6, ha7⟩ := Sli.place' (xs := (l2[i]).pl) (i := q) EncZ (hD2.getP (i := i) (by first | assumption | omega | (simp; omega))) hl7 rfl
          refine ⟨fun W_ => At W_ g4 r3 [.int .u64 ((l1[i]).ep), .int .i64 ((l1[i]).seq), .int .i64 ((l1[i]).first), .int .i64 ((l1[i]).hs 0), .int .i64 ((l1[i]).hs 1), .int .i64 ((l1[i]).hs 2), .int .i64 ((l1[i]).hs 3), .slice ((l1[i]).ra) ((l1[i]).recs.length) ((l1[i]).rc), .slice ((l1[i]).pa) ((l1[i]).pl.length) ((l1[i]).pc), .int .i64 ((l1[i]).en), .int .i64 ((l1[i]).kind)] ∧ At W_ g5 r4 [.int .i64 (((l1[i]).pl)[q])] ∧ At W_ g6 r5 [.int .u64 ((l2[i]).ep), .int .i64 ((l2[i]).seq), .int .i64 ((l2[i]).first), .int .i64 ((l2[i]).hs 0), .int .i64 ((l2[i]).hs 1), .int .i64 ((l2[i]).hs 2), .int .i64 ((l2[i]).hs 3), .slice ((l2[i]).ra) ((l2[i]).recs.length) ((l2[i]).rc), .slice ((l2[i]).pa) ((l2[i]).pl.length) ((l2[i]).pc), .int .i64 ((l2[i]).en), .int .i64 ((l2[i]).kind)] ∧ At W_ g7 r6 [.int .i64 (((l2[i]).pl)[q])] ∧ True, [0, 1, 2, 3, 4, 5, 6, 7, 8, 9, 10, 11, 12, 13, 14, 15, 16], ?_⟩
          refine T_takeA (i := 0) rfl rfl (by kernel_rfl) (by kernel_rfl) (by kernel_rfl) (Y_of (fun _ ⟨ha4, ha5, ha6, ha7, _⟩ => R_move rfl)) ⟨ha4, ha5, ha6, ha7, trivial⟩ rfl ?_
          refine T_takeA (i := 1) rfl rfl (by kernel_rfl) (by kernel_rfl) (by kernel_rfl) (Y_of (fun _ ⟨ha4, ha5, ha6, ha7, _⟩ => R_move rfl)) ⟨ha4, ha5, ha6, ha7, trivial⟩ rfl ?_
          refine T_takeA (i := 2) rfl rfl (by kernel_rfl) (by kernel_rfl) (by kernel_rfl) (Y_of (fun _ ⟨ha4, ha5, ha6, ha7, _⟩ => R_indexE rfl rfl (by first | rfl | omega) slc30 hl4 eA3 er3)) ⟨ha4, ha5, ha6, ha7, trivial⟩ rfl ?_
          refine T_takeA (i := 3) rfl rfl (by kernel_rfl) (by kernel_rfl) (by kernel_rfl) (Y_of (fun _ ⟨ha4, ha5, ha6, ha7, _⟩ => R_field rfl fld29_2 rfl)) ⟨ha4, ha5, ha6, ha7, trivial⟩ rfl ?_
          refine T_takeA (i := 4) rfl rfl (by kernel_rfl) (by kernel_rfl) (by kernel_rfl) (Y_of (fun _ ⟨ha4, ha5, ha6, ha7, _⟩ => R_load1 rfl scl27 (ha4 8 _ rfl))) ⟨ha4, ha5, ha6, ha7, trivial⟩ rfl ?_
          refine T_takeA (i := 5) rfl rfl (by kernel_rfl) (by kernel_rfl) (by kernel_rfl) (Y_of (fun _ ⟨ha4, ha5, ha6, ha7, _⟩ => R_move rfl)) ⟨ha4, ha5, ha6, ha7, trivial⟩ rfl ?_
          refine T_takeA (i := 6) rfl rfl (by kernel_rfl) (by kernel_rfl) (by kernel_rfl) (Y_of (fun _ ⟨ha4, ha5, ha6, ha7, _⟩ => R_indexE rfl rfl (by first | rfl | omega) slc27 hl5 eA4 er4)) ⟨ha4, ha5, ha6, ha7, trivial⟩ rfl ?_
          refine T_takeA (i := 7) rfl rfl (by kernel_rfl) (by kernel_rfl) (by kernel_rfl) (Y_of (fun _ ⟨ha4, ha5, ha6, ha7, _⟩ => R_load1 rfl scl3 (ha5 0 _ rfl))) ⟨ha4, ha5, ha6, ha7, trivial⟩ rfl ?_
          refine T_takeA (i := 8) rfl rfl (by kernel_rfl) (by kernel_rfl) (by kernel_rfl) (Y_of (fun _ ⟨ha4, ha5, ha6, ha7, _⟩ => R_move rfl)) ⟨ha4, ha5, ha6, ha7, trivial⟩ rfl ?_
          refine T_takeA (i := 9) rfl rfl (by kernel_rfl) (by kernel_rfl) (by kernel_rfl) (Y_of (fun _ ⟨ha4, ha5, ha6, ha7, _⟩ => R_move rfl)) ⟨ha4, ha5, ha6, ha7, trivial⟩ rfl ?_
          refine T_takeA (i := 10) rfl rfl (by kernel_rfl) (by kernel_rfl) (by kernel_rfl) (Y_of (fun _ ⟨ha4, ha5, ha6, ha7, _⟩ => R_indexE rfl rfl (by first | rfl | omega) slc30 hl6 eA5 er5)) ⟨ha4, ha5, ha6, ha7, trivial⟩ rfl ?_
          refine T_takeA (i := 11) rfl rfl (by kernel_rfl) (by kernel_rfl) (by kernel_rfl) (Y_of (fun _ ⟨ha4, ha5, ha6, ha7, _⟩ => R_field rfl fld29_2 rfl)) ⟨ha4, ha5, ha6, ha7, trivial⟩ rfl ?_
          refine T_takeA (i := 12) rfl rfl (by kernel_rfl) (by kernel_rfl) (by kernel_rfl) (Y_of (fun _ ⟨ha4, ha5, ha6, ha7, _⟩ => R_load1 rfl scl27 (ha6 8 _ rfl))) ⟨ha4, ha5, ha6, ha7, trivial⟩ rfl ?_
          refine T_takeA (i := 13) rfl rfl (by kernel_rfl) (by kernel_rfl) (by kernel_rfl) (Y_of (fun _ ⟨ha4, ha5, ha6, ha7, _⟩ => R_move rfl)) ⟨ha4, ha5, ha6, ha7, trivial⟩ rfl ?_
          refine T_takeA (i := 14) rfl rfl (by kernel_rfl) (by kernel_rfl) (by kernel_rfl) (Y_of (fun _ ⟨ha4, ha5, ha6, ha7, _⟩ => R_indexE rfl rfl (by first | rfl | omega) slc27 hl7 eA6 er6)) ⟨ha4, ha5, ha6, ha7, trivial⟩ rfl ?_
          refine T_takeA (i := 15) rfl rfl (by kernel_rfl) (by kernel_rfl) (by kernel_rfl) (Y_of (fun _ ⟨ha4, ha5, ha6, ha7, _⟩ => R_load1 rfl scl3 (ha7 0 _ rfl))) ⟨ha4, ha5, ha6, ha7, trivial⟩ rfl ?_
          refine T_takeA (i := 16) rfl rfl (by kernel_rfl) (by kernel_rfl) (by kernel_rfl) (Y_of (fun _ ⟨ha4, ha5, ha6, ha7, _⟩ => R_neq rfl rfl)) ⟨ha4, ha5, ha6, ha7, trivial⟩ rfl ?_
          refine T_done (by kernel_rfl) (CalmE.normal ?_)
          refine N_then (C_condF rfl (decide_eq_false (fun h_ => h_ (get_congr (he.2 i (by omega) (by omega)).2.2.2.2.1))) (C_skip (N_in (N_then (C_reg rfl ?_)))))
          refine L_run (R_move rfl) rfl ?_
          refine L_run (R_add64 rfl rfl (by omega)) rfl ?_
          refine L_run (R_assign rfl) rfl ?_
          refine L_nil (N_then ?_)
          exact ⟨l1[i].pl.length - (q + 1), by omega, _, (q + 1), Ac_frg ⟨rfl, rfl, rfl, rfl, (agr rfl (by first | rfl | (congr 1; omega) | (congr 1; simp; done) | (congr 1; simp only [IntKind.wrap_u64, IntKind.wrap_i64, IntKind.wrap_u8]; omega) | (congr 1 <;> omega))), trivial⟩, hB, hS1, hS2, hD1, hD2, ha1, ha2, (by omega), rfl⟩
        · refine C_exit (X_then (X_then (X_hit (N_in (N_then (C_reg rfl ?_))))))
          refine L_run (R_move rfl) rfl ?_
          refine L_run (R_add64 rfl rfl (by omega)) rfl ?_
          refine L_run (R_assign rfl) rfl ?_
          refine L_nil (N_then ?_)
          exact ⟨l1.length - (i + 1), by omega, _, (i + 1), Ac_frg ⟨rfl, rfl, rfl, (agr rfl (by first | rfl | (congr 1; omega) | (congr 1; simp; done) | (congr 1; simp only [IntKind.wrap_u64, IntKind.wrap_i64, IntKind.wrap_u8]; omega) | (congr 1 <;> omega))), trivial⟩, hB, hS1, hS2, hD1, hD2, (by omega), rfl⟩
    · refine C_exit (X_then (X_then (X_hit (N_then (C_seq (C_reg rfl ?_))))))
      refine L_run (R_assign rfl) rfl ?_
      refine L_nil (N_then (C_ret ?_))
      refine ret1 Tryd.results9 rfl ?_
      exact ⟨hB, rfl⟩

end Go.Proofs.YtbpjdcpfphnccaaDoor
