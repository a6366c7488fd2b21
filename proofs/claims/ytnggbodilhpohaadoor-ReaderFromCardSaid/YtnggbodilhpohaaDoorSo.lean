/-
  Contracts of the package reader: the loop's function.
-/
import Derived.Test.YtnggbodilhpohaaDoorSn
namespace Go.Proofs.YtnggbodilhpohaaDoor
open Go.RowKit Gw Pl
set_option linter.unusedVariables false
set_option linter.unusedSimpArgs false
theorem cb19 : callB Tryd.prog 19 = true := by kernel_rfl
theorem cb21 : callB Tryd.prog 21 = true := by kernel_rfl
theorem cb22 : callB Tryd.prog 22 = true := by kernel_rfl
theorem cb23 : callB Tryd.prog 23 = true := by kernel_rfl
theorem cb24 : callB Tryd.prog 24 = true := by kernel_rfl
theorem scl22 : sclB Tryd.prog 22 = true := by kernel_rfl
theorem scl47 : sclB Tryd.prog 47 = true := by kernel_rfl
theorem sz3 : szB Tryd.prog 3 1 = true := by kernel_rfl
theorem sz47 : szB Tryd.prog 47 1 = true := by kernel_rfl
theorem zer25 : (Tryd.prog.info? 25).bind (·.zero) = some (.slice none 0 0) := by kernel_rfl
theorem zer47 : (Tryd.prog.info? 47).bind (·.zero) = some (.slice none 0 0) := by kernel_rfl
theorem from_go {e a fu k n : Nat} {body : List UInt8} {ok : List Bool} {o : Bool} {bs d : List UInt8} {X : Option (List UInt8 × Nat)} (hacc : accN e body ok a = ((k, d), n)) (hn : 11 ≤ n) (hf : 0 < fu) (hX : fromN e body ok fu a o bs = X)
    (h0 : (feedN o bs k d).2.2.2 = 0) (h1 : (feedN o bs k d).2.2.1 = false) : fromN e body ok (fu - 1) (beginN (a + n)) (feedN o bs k d).1.1 (feedN o bs k d).1.2 = X := by
  rw [← hX, from_step hf (by rw [hacc]; show n ≠ 0; omega) (by rw [hacc]; exact h0), hacc]
  show _ = if (feedN o bs k d).2.2.1 = true then _ else _
  rw [h1, feedN_go h0 h1]
  rfl
theorem from_fin {e a fu k n : Nat} {body : List UInt8} {ok : List Bool} {o : Bool} {bs d : List UInt8} {X : Option (List UInt8 × Nat)} (hacc : accN e body ok a = ((k, d), n)) (hn : 11 ≤ n) (hf : 0 < fu) (hX : fromN e body ok fu a o bs = X)
    (h0 : (feedN o bs k d).2.2.2 = 0) (h1 : (feedN o bs k d).2.2.1 = true) : X = some ((feedN o bs k d).2.1, a + n) := by
  rw [← hX, from_step hf (by rw [hacc]; show n ≠ 0; omega) (by rw [hacc]; exact h0), hacc]
  show (if (feedN o bs k d).2.2.1 = true then _ else _) = _
  rw [h1]
  rfl
theorem from_err {e a fu k n : Nat} {body : List UInt8} {ok : List Bool} {o : Bool} {bs d : List UInt8} {X : Option (List UInt8 × Nat)} (hacc : accN e body ok a = ((k, d), n)) (hX : fromN e body ok fu a o bs = X)
    (h0 : (feedN o bs k d).2.2.2 ≠ 0) : X = none := by
  rw [← hX]
  exact from_bad (by rw [hacc]; exact h0)
theorem fromR_in {ss : List Sx} {e a : Nat} (ha : a ≤ 832) : fromR ss e (a : Int) = fromN e (flatB (bsOf ss) e 16) (flatO (bsOf ss) e 16) 833 a false [] := by
  unfold fromR
  split
  · rw [from_none (acc_far (by omega))]
  · rfl
theorem fromR_far {ss : List Sx} {e : Nat} {z : Int} (h : z < 0 ∨ 832 ≤ z) : fromR ss e z = none := by
  unfold fromR
  rw [if_pos h]
theorem fromR_out {ss : List Sx} {e : Nat} {z : Int} (h : z < 0 ∨ 832 < z) : fromR ss e z = none := by
  unfold fromR
  rw [if_pos (by omega)]
/-- What the loop's function keeps. -/
def EachB (w : World) (ga gk gb ge gB gO a e : Nat) (body : List UInt8) (oks : List Bool) : Prop :=
  Blk w ga 3 [.int .i64 (a : Int)] ∧ Blk w gk 47 [.slice (some ⟨gO, 0, none⟩) oks.length 16] ∧ Blk w gb 25 [.slice (some ⟨gB, 0, none⟩) body.length 832] ∧ Blk w ge 22 [.int .u64 (e : Int)] ∧ Blk w gB 5 (fl encB body) ∧ Blk w gO 4 (fl encO oks)
theorem each_ok {w : World} {t1 lo hi : Nat} {A : Option Addr} {c e a : Nat} {ss : List Sx} (hS : Sli t1 lo hi w A (fl encX ss)) (he : e < 18446744073709551616) :
    Runs Tryd.prog 10 #[.int .u64 (e : Int), .slice A ss.length c, .int .i64 (a : Int)] w (fun v w' => w.grownBy w' none ∧ ∃ ga gk gb ge gB gO, w.heap.size ≤ ga ∧ w.heap.size ≤ gk ∧ w.heap.size ≤ gb ∧ w.heap.size ≤ ge ∧ w.heap.size ≤ gB ∧ w.heap.size ≤ gO ∧ ge < ga ∧ ga < gB ∧ ga < gO ∧ ga < gb ∧ ga < gk ∧ v = .func (.func 20) #[] #[.pointer (some ⟨ga, 0, none⟩), .pointer (some ⟨gk, 0, none⟩), .pointer (some ⟨gb, 0, none⟩), .pointer (some ⟨ge, 0, none⟩)] ∧ EachB w' ga gk gb ge gB gO a e (flatB (bsOf ss) e 16) (flatO (bsOf ss) e 16)) := by
  have hB := gb_refl w none
  replace hS := hS.top
  refine enter Tryd.func10 Tryd.ntmps10 rfl rfl ?_
  refine C_seq (C_reg rfl ?_)
  refine L_box (cs := [.int .u64 (e : Int)]) rfl rfl rfl ?_
  intro g1 w1 eg1 hb1 hs1 hz1
  have ge1 : w.heap.size ≤ g1 := eg_ge hB eg1
  replace hB := gb_tr hB hs1
  replace hS := hS.gb hs1
  refine L_box (cs := [.int .i64 (a : Int)]) rfl rfl rfl ?_
  intro g2 w2 eg2 hb2 hs2 hz2
  have ge2 : w.heap.size ≤ g2 := eg_ge hB eg2
  have lt1 : g1 < g2 := lt_of_eg hb1.lt eg2
  replace hB := gb_tr hB hs2
  replace hS := hS.gb hs2
  replace hb1 := hb1.gb hs2
  refine L_run (R_assign rfl) rfl ?_
  refine L_nil (N_then (C_seq (C_reg rfl ?_)))
  refine L_run (R_load1 rfl scl22 (hb1.cell (i := 0) rfl)) rfl ?_
  refine L_run (R_move rfl) rfl ?_
  have ge3 : w.heap.size ≤ w2.heap.size := hB.size
  refine L_call rfl cb19 (flat_ok (e := e) (ss := ss) hS (by first | omega | (simp; done) | (simp; omega))) rfl ?_
  rintro _ w3 ⟨hs3, g3, g4, hg1, hg2, rfl, hb3, hb4⟩
  have lt2 : g1 < g3 := Nat.lt_of_lt_of_le hb1.lt hg1
  have lt3 : g2 < g3 := Nat.lt_of_lt_of_le hb2.lt hg1
  have lt4 : g1 < g4 := Nat.lt_of_lt_of_le hb1.lt hg2
  have lt5 : g2 < g4 := Nat.lt_of_lt_of_le hb2.lt hg2
  replace hB := gb_tr hB hs3
  replace hS := hS.gb hs3
  replace hb1 := hb1.gb hs3
  replace hb2 := hb2.gb hs3
  refine L_run (R_move rfl) rfl ?_
  refine L_run (R_extract rfl rfl) rfl ?_
  refine L_run (R_extract rfl rfl) rfl ?_
  refine L_alloc (cs := [.slice none 0 0]) zer25 rfl rfl ?_
  intro g5 w4 eg3 hb5 hs4 hz3
  have ge4 : w.heap.size ≤ g5 := eg_ge hB eg3
  have lt6 : g1 < g5 := lt_of_eg hb1.lt eg3
  have lt7 : g2 < g5 := lt_of_eg hb2.lt eg3
  have lt8 : g3 < g5 := lt_of_eg hb3.lt eg3
  have lt9 : g4 < g5 := lt_of_eg hb4.lt eg3
  replace hB := gb_tr hB hs4
  replace hS := hS.gb hs4
  replace hb1 := hb1.gb hs4
  replace hb2 := hb2.gb hs4
  replace hb3 := hb3.gb hs4
  replace hb4 := hb4.gb hs4
  refine L_alloc (cs := [.slice none 0 0]) zer47 rfl rfl ?_
  intro g6 w5 eg4 hb6 hs5 hz4
  have ge5 : w.heap.size ≤ g6 := eg_ge hB eg4
  have lt10 : g1 < g6 := lt_of_eg hb1.lt eg4
  have lt11 : g2 < g6 := lt_of_eg hb2.lt eg4
  have lt12 : g3 < g6 := lt_of_eg hb3.lt eg4
  have lt13 : g4 < g6 := lt_of_eg hb4.lt eg4
  have lt14 : g5 < g6 := lt_of_eg hb5.lt eg4
  replace hB := gb_tr hB hs5
  replace hS := hS.gb hs5
  replace hb1 := hb1.gb hs5
  replace hb2 := hb2.gb hs5
  replace hb3 := hb3.gb hs5
  replace hb4 := hb4.gb hs5
  replace hb5 := hb5.gb hs5
  refine L_st1 rfl rfl rfl sz25 hb5 rfl ?_
  intro w6 hb7 hs6 hz5
  replace hB := gb_trg hB hs6 ge4
  replace hS := hS.old hs6 ge4
  replace hb1 := hb1.grown hs6 (ne_lt lt6)
  replace hb2 := hb2.grown hs6 (ne_lt lt7)
  replace hb3 := hb3.grown hs6 (ne_lt lt8)
  replace hb4 := hb4.grown hs6 (ne_lt lt9)
  replace hb6 := hb6.grown hs6 (ne_gt lt14)
  refine L_st1 rfl rfl rfl sz47 hb6 rfl ?_
  intro w7 hb8 hs7 hz6
  replace hB := gb_trg hB hs7 ge5
  replace hS := hS.old hs7 ge5
  replace hb1 := hb1.grown hs7 (ne_lt lt10)
  replace hb2 := hb2.grown hs7 (ne_lt lt11)
  replace hb3 := hb3.grown hs7 (ne_lt lt12)
  replace hb4 := hb4.grown hs7 (ne_lt lt13)
  replace hb7 := hb7.grown hs7 (ne_lt lt14)
  refine L_nil (N_then (C_seq (C_reg rfl ?_)))
  refine L_run (R_makeFunc rfl rfl) rfl ?_
  refine L_run (R_assign rfl) rfl ?_
  refine L_nil (N_then (C_ret ?_))
  refine ret1 Tryd.results10 rfl ?_
  exact ⟨hB, g2, g6, g5, g1, g3, g4, ge2, ge5, ge4, ge1, (Nat.le_trans ge3 hg1), (Nat.le_trans ge3 hg2), lt1, lt3, lt5, lt7, lt11, rfl, hb2, hb8, hb7, hb1, hb3, hb4⟩

theorem each1 {w w1 : World} {ga gk gb ge gB gO gj L e a0 fu0 c0 : Nat} {o0 : Bool} {A0 : Option Addr} {bs0 body : List UInt8} {oks : List Bool} {X : Option (List UInt8 × Nat)} {rec : Obj} {J Stop : World → Prop} (hB : w.grownBy w1 none) (hT : Tbw w) (gj0 : w.heap.size ≤ gj) (ga0 : w.heap.size ≤ ga) (gk0 : w.heap.size ≤ gk) (gb0 : w.heap.size ≤ gb) (ge0 : w.heap.size ≤ ge) (gB0 : w.heap.size ≤ gB) (gO0 : w.heap.size ≤ gO) (l1 : ge < ga) (l2 : ga < gB) (l3 : ga < gO) (l4 : ga < gb) (l5 : ga < gk) (l6 : gj < ga) (hbl : body.length = 832) (hol : oks.length = 16) (hEB : EachB w1 ga gk gb ge gB gO a0 e body oks) (hL : LpF w1 L rec) (hbj : Blk w1 gj 62 [.bool o0, .slice A0 bs0.length c0]) (ho : World.ownsRow w1 w.heap.size 5 1 (.slice A0 bs0.length c0) bs0.length (fl encB bs0)) (hJ : J w1) (hbs : bs0.length ≤ 512) (ha0 : a0 ≤ 832) (hX0 : fromN e body oks fu0 a0 o0 bs0 = X) (hfu : 832 < a0 + fu0)
    (hJn : ∀ w w', J w → w.grownBy w' none → J w') (hJa : ∀ w w' g t cs, J w → Blk w g t cs → ga ≤ g → w.grownBy w' (some g) → J w')
    (hy : ∀ (w2 : World) (a fu k n : Nat) (o : Bool) (bs d : List UInt8) (A A2 : Option Addr) (c c2 : Nat) (E : Int), w.grownBy w2 none → LpF w2 L rec → J w2 → EachB w2 ga gk gb ge gB gO a e body oks → Blk w2 gj 62 [.bool o, .slice A bs.length c] → World.ownsRow w2 w.heap.size 5 1 (.slice A bs.length c) bs.length (fl encB bs) → World.ownsRow w2 w.heap.size 5 1 (.slice A2 d.length c2) d.length (fl encB d) → accN e body oks a = ((k, d), n) → 11 ≤ n → a + n ≤ 832 → d.length ≤ 832 → bs.length ≤ 512 → fromN e body oks fu a o bs = X → 0 < fu →
      YieldR Tryd.prog L [.agg #[.int .i64 (k : Int), .int .u32 E, .slice A2 d.length c2], .int .i64 ((a + n : Nat) : Int)] w2 (fun v w3 => w.grownBy w3 none ∧ EachB w3 ga gk gb ge gB gO a e body oks ∧ ((v = .bool true ∧ J w3 ∧ ∃ o' bs' A' c', LpF w3 L rec ∧ Blk w3 gj 62 [.bool o', .slice A' bs'.length c'] ∧ World.ownsRow w3 w.heap.size 5 1 (.slice A' bs'.length c') bs'.length (fl encB bs') ∧ bs'.length ≤ 512 ∧ fromN e body oks (fu - 1) (beginN (a + n)) o' bs' = X) ∨ (v = .bool false ∧ Stop w3)))) :
    Runs Tryd.prog 20 #[.func (.yield L) #[] #[], .pointer (some ⟨ga, 0, none⟩), .pointer (some ⟨gk, 0, none⟩), .pointer (some ⟨gb, 0, none⟩), .pointer (some ⟨ge, 0, none⟩)] w1 (fun _ w' => w.grownBy w' none ∧ ((X = none ∧ LpF w' L rec ∧ J w') ∨ Stop w')) := by
  obtain ⟨hba, hbk, hbb, hbe, hbB, hbO⟩ := hEB
  refine enter Tryd.func20 Tryd.ntmps20 rfl rfl ?_
  refine C_block ?_
  refine C_loop (fun m_ a_ w_ => ∃ (σ_ : Nat → Value) (a : Nat) (fu : Nat) (o : Bool) (bs : List UInt8) (A : Option Addr) (c : Nat), a_ = Ac 56 σ_ [] [(0, .func (.yield L) #[] #[]), (1, .pointer (some ⟨ga, 0, none⟩)), (2, .pointer (some ⟨gk, 0, none⟩)), (3, .pointer (some ⟨gb, 0, none⟩)), (4, .pointer (some ⟨ge, 0, none⟩))] ∧ w.grownBy w_ none ∧ Blk w_ gk 47 [.slice (some ⟨gO, 0, none⟩) oks.length 16] ∧ Blk w_ gb 25 [.slice (some ⟨gB, 0, none⟩) body.length 832] ∧ Blk w_ ge 22 [.int .u64 (e : Int)] ∧ Blk w_ gB 5 (fl encB body) ∧ Blk w_ gO 4 (fl encO oks) ∧ LpF w_ L rec ∧ J w_ ∧ Blk w_ ga 3 [.int .i64 (a : Int)] ∧ Blk w_ gj 62 [.bool o, .slice A bs.length c] ∧ World.ownsRow w_ w.heap.size 5 1 (.slice A bs.length c) bs.length (fl encB bs) ∧ (a ≤ 832) ∧ (a + leftN a ≤ 832 ∧ leftN a ≤ 208) ∧ (bs.length ≤ 512) ∧ (fromN e body oks fu a o bs = X) ∧ (832 < a + fu) ∧ 832 - a = m_) (832 - a0) ?_ ?_
  · exact ⟨_, a0, fu0, o0, bs0, A0, c0, Ac_frg ⟨rfl, rfl, rfl, rfl, rfl, trivial⟩, hB, hbk, hbb, hbe, hbB, hbO, hL, hJ, hba, hbj, ho, ha0, (leftN_le ha0), hbs, hX0, hfu, rfl⟩
  · clear hB
    clear hba hbk hbb hbe hbB hbO hbj ho hL hJ
    rintro m_ a_ w1 ⟨σ_, a, fu, o, bs, A, c, rfl, hB, hbk, hbb, hbe, hbB, hbO, hL, hJ, hba, hbj, ho, ha, hll, hbs, hX, hfu, rfl⟩
    refine C_seq (C_seq (C_reg rfl ?_))
    refine L_run (R_load1 rfl scl3 (hba.cell (i := 0) rfl)) rfl ?_
    refine L_run (R_lss rfl rfl) rfl ?_
    refine L_run (R_move rfl) rfl ?_
    refine L_splitD (p := (a : Int) < 832) (fun h1 => ?_) (fun h1 => ?_)
    · refine L_yes rfl rfl rfl (decide_eq_true h1) ?_
      refine L_run (R_load1 rfl scl47 (hbk.cell (i := 0) rfl)) rfl ?_
      refine L_yes rfl rfl rfl (decide_eq_true h1) ?_
      refine L_run (R_load1 rfl scl3 (hba.cell (i := 0) rfl)) rfl ?_
      refine L_yes rfl rfl rfl (decide_eq_true h1) ?_
      refine L_run (R_load1 rfl scl3 (hba.cell (i := 0) rfl)) rfl ?_
      refine L_yes rfl rfl rfl (decide_eq_true h1) ?_
      refine L_run (R_add64 rfl rfl (by first | omega | (have h_ := acc_bnd hbl ha (by assumption); omega))) rfl ?_
      refine L_yes rfl rfl rfl (decide_eq_true h1) ?_
      refine L_call rfl cb21 (cov_ok (ok := oks) (a := a) (b := (a + 11)) (Blk.sli (m := 0) hbO)) rfl ?_
      rintro _ w2 ⟨hs1, rfl⟩
      replace hB := gb_tr hB hs1
      replace hbk := hbk.gb hs1
      replace hbb := hbb.gb hs1
      replace hbe := hbe.gb hs1
      replace hbB := hbB.gb hs1
      replace hbO := hbO.gb hs1
      replace hL := hL.gb hs1
      replace hJ := hJn _ _ hJ hs1
      replace hba := hba.gb hs1
      replace hbj := hbj.gb hs1
      replace ho := own_gb ho hs1
      refine L_run (R_pickT rfl (decide_eq_true h1) rfl) rfl ?_
      refine L_nil (N_then ?_)
      refine C_cond rfl (fun h2 => ?_) (fun h2 => ?_)
      · refine C_skip (N_then (C_block (C_seq ?_)))
        refine C_join (fun a_ w_ => (∃ (σ_ : Nat → Value) (g1 : Nat) (A_2 : Option Addr) (c_1 : Nat), a_ = Ac 56 σ_ [] [(0, .func (.yield L) #[] #[]), (1, .pointer (some ⟨ga, 0, none⟩)), (2, .pointer (some ⟨gk, 0, none⟩)), (3, .pointer (some ⟨gb, 0, none⟩)), (4, .pointer (some ⟨ge, 0, none⟩)), (6, .pointer (some ⟨g1, 0, none⟩)), (7, .int .i64 (((fdec ((body.drop a).take ((a + (leftN a)) - a)) (e % 4294967296)).2.1 : Nat) : Int)), (8, .int .i64 0), (9, .int .i64 (a : Int)), (10, .bool (decide ((a : Int) < 832))), (11, .bool (decide ((a : Int) < 832))), (12, .slice (some ⟨gO, 0, none⟩) oks.length 16), (13, .int .i64 (a : Int)), (14, .int .i64 (a : Int)), (15, .int .i64 ((a : Int) + 11)), (16, .bool (covN oks (min a 832) (min (a + 11) 832))), (17, .bool (covN oks (min a 832) (min (a + 11) 832)))] ∧ w.grownBy w_ none ∧ Blk w_ gk 47 [.slice (some ⟨gO, 0, none⟩) oks.length 16] ∧ Blk w_ gb 25 [.slice (some ⟨gB, 0, none⟩) body.length 832] ∧ Blk w_ ge 22 [.int .u64 (e : Int)] ∧ Blk w_ gB 5 (fl encB body) ∧ Blk w_ gO 4 (fl encO oks) ∧ LpF w_ L rec ∧ J w_ ∧ Blk w_ ga 3 [.int .i64 (a : Int)] ∧ Blk w_ gj 62 [.bool o, .slice A bs.length c] ∧ World.ownsRow w_ w.heap.size 5 1 (.slice A bs.length c) bs.length (fl encB bs) ∧ World.ownsRow w_ w.heap.size 5 1 (.slice A_2 ((fdec ((body.drop a).take ((a + (leftN a)) - a)) (e % 4294967296)).1.2).length c_1) ((fdec ((body.drop a).take ((a + (leftN a)) - a)) (e % 4294967296)).1.2).length (fl encB ((fdec ((body.drop a).take ((a + (leftN a)) - a)) (e % 4294967296)).1.2)) ∧ Blk w_ g1 43 [.int .i64 (((fdec ((body.drop a).take ((a + (leftN a)) - a)) (e % 4294967296)).1.1 : Nat) : Int), .int .u32 ((e % 4294967296 : Nat) : Int), .slice A_2 (((fdec ((body.drop a).take ((a + (leftN a)) - a)) (e % 4294967296)).1.2).length) c_1] ∧ w.heap.size ≤ g1 ∧ gk < g1 ∧ gb < g1 ∧ ge < g1 ∧ gB < g1 ∧ gO < g1 ∧ ga < g1 ∧ gj < g1 ∧ (fdec ((body.drop a).take ((a + (leftN a)) - a)) (e % 4294967296)).2.2 = 0) ∨ (∃ (σ_ : Nat → Value) (g2 : Nat), a_ = Ac 56 σ_ [] [(0, .func (.yield L) #[] #[]), (1, .pointer (some ⟨ga, 0, none⟩)), (2, .pointer (some ⟨gk, 0, none⟩)), (3, .pointer (some ⟨gb, 0, none⟩)), (4, .pointer (some ⟨ge, 0, none⟩)), (6, .pointer (some ⟨g2, 0, none⟩)), (7, .int .i64 0), (8, .int .i64 ((fdec ((body.drop a).take ((a + (leftN a)) - a)) (e % 4294967296)).2.2)), (9, .int .i64 (a : Int)), (10, .bool (decide ((a : Int) < 832))), (11, .bool (decide ((a : Int) < 832))), (12, .slice (some ⟨gO, 0, none⟩) oks.length 16), (13, .int .i64 (a : Int)), (14, .int .i64 (a : Int)), (15, .int .i64 ((a : Int) + 11)), (16, .bool (covN oks (min a 832) (min (a + 11) 832))), (17, .bool (covN oks (min a 832) (min (a + 11) 832)))] ∧ w.grownBy w_ none ∧ Blk w_ gk 47 [.slice (some ⟨gO, 0, none⟩) oks.length 16] ∧ Blk w_ gb 25 [.slice (some ⟨gB, 0, none⟩) body.length 832] ∧ Blk w_ ge 22 [.int .u64 (e : Int)] ∧ Blk w_ gB 5 (fl encB body) ∧ Blk w_ gO 4 (fl encO oks) ∧ LpF w_ L rec ∧ J w_ ∧ Blk w_ ga 3 [.int .i64 (a : Int)] ∧ Blk w_ gj 62 [.bool o, .slice A bs.length c] ∧ World.ownsRow w_ w.heap.size 5 1 (.slice A bs.length c) bs.length (fl encB bs) ∧ Blk w_ g2 43 [.int .i64 0, .int .u32 0, .slice none 0 0] ∧ w.heap.size ≤ g2 ∧ gk < g2 ∧ gb < g2 ∧ ge < g2 ∧ gB < g2 ∧ gO < g2 ∧ ga < g2 ∧ gj < g2 ∧ ¬ ((fdec ((body.drop a).take ((a + (leftN a)) - a)) (e % 4294967296)).2.2 = 0))) ?_ ?_
        · refine C_draw2 rfl mix ?_
          intro w3 hs2 hz1
          replace hB := gb_tr hB hs2
          replace hbk := hbk.gb hs2
          replace hbb := hbb.gb hs2
          replace hbe := hbe.gb hs2
          replace hbB := hbB.gb hs2
          replace hbO := hbO.gb hs2
          replace hL := hL.gb hs2
          replace hJ := hJn _ _ hJ hs2
          replace hba := hba.gb hs2
          replace hbj := hbj.gb hs2
          replace ho := own_gb ho hs2
          refine ⟨fun W_ => Blk W_ gb 25 [.slice (some ⟨gB, 0, none⟩) body.length 832] ∧ Blk W_ ge 22 [.int .u64 (e : Int)] ∧ Blk W_ ga 3 [.int .i64 (a : Int)] ∧ True, [0, 1, 2, 3, 5, 7, 8, 10, 11, 12, 13, 16, 17], ?_⟩
          refine T_takeA (i := 0) rfl rfl (by kernel_rfl) (by kernel_rfl) (by kernel_rfl) (Y_of (fun _ ⟨hbb, hbe, hba, _⟩ => R_load1 rfl scl25 (hbb.cell (i := 0) rfl))) ⟨hbb, hbe, hba, trivial⟩ rfl ?_
          refine T_takeA (i := 1) rfl rfl (by kernel_rfl) (by kernel_rfl) (by kernel_rfl) (Y_of (fun _ ⟨hbb, hbe, hba, _⟩ => R_load1 rfl scl3 (hba.cell (i := 0) rfl))) ⟨hbb, hbe, hba, trivial⟩ rfl ?_
          refine T_takeA (i := 2) rfl rfl (by kernel_rfl) (by kernel_rfl) (by kernel_rfl) (Y_of (fun _ ⟨hbb, hbe, hba, _⟩ => R_load1 rfl scl3 (hba.cell (i := 0) rfl))) ⟨hbb, hbe, hba, trivial⟩ rfl ?_
          refine T_takeA (i := 3) rfl rfl (by kernel_rfl) (by kernel_rfl) (by kernel_rfl) (Y_of (fun _ ⟨hbb, hbe, hba, _⟩ => R_load1 rfl scl3 (hba.cell (i := 0) rfl))) ⟨hbb, hbe, hba, trivial⟩ rfl ?_
          refine T_takeA (i := 7) rfl rfl (by kernel_rfl) (by kernel_rfl) (by kernel_rfl) (Y_of (fun _ ⟨hbb, hbe, hba, _⟩ => R_load1 rfl scl22 (hbe.cell (i := 0) rfl))) ⟨hbb, hbe, hba, trivial⟩ rfl ?_
          refine T_takeA (i := 8) rfl rfl (by kernel_rfl) (by kernel_rfl) (by kernel_rfl) (Y_of (fun _ ⟨hbb, hbe, hba, _⟩ => R_eqv (R_conv rfl any22 int41) (v' := .int .u32 ((e % 4294967296 : Nat) : Int)) (congrArg _ (by rw [IntKind.wrap_u32]; omega)))) ⟨hbb, hbe, hba, trivial⟩ rfl ?_
          refine T_all (rs := [4, 14]) (by kernel_rfl) rfl (all2 (O_one rfl ?_) (O_one rfl ?_))
          · refine L_call rfl cb23 (left_ok (n := a) (by first | omega | (simp; done) | (simp; omega))) rfl ?_
            rintro _ w4 ⟨hs3, rfl⟩
            replace hB := gb_tr hB hs3
            replace hbk := hbk.gb hs3
            replace hbb := hbb.gb hs3
            replace hbe := hbe.gb hs3
            replace hbB := hbB.gb hs3
            replace hbO := hbO.gb hs3
            replace hL := hL.gb hs3
            replace hJ := hJn _ _ hJ hs3
            replace hba := hba.gb hs3
            replace hbj := hbj.gb hs3
            replace ho := own_gb ho hs3
            refine L_nil (N_then ⟨fun hN_ => ⟨hbb, hbe, hba, trivial⟩, ?_⟩)
            refine T_takeA (i := 5) rfl rfl (by kernel_rfl) (by kernel_rfl) (by kernel_rfl) (Y_of (fun _ ⟨hbb, hbe, hba, _⟩ => R_add64 rfl rfl (by first | omega | (have h_ := acc_bnd hbl ha (by assumption); omega)))) ⟨hbb, hbe, hba, trivial⟩ rfl ?_
            refine T_all (rs := [6, 14]) (by kernel_rfl) rfl (all2 (O_one rfl ?_) (O_one rfl ?_))
            · refine T_slLH (xs := body) (i := a) (j := (a + (leftN a))) EncB rfl rfl rfl (by first | rfl | omega) (by first | rfl | omega) slc25 (by first | omega | (simp; done) | (simp; omega)) (by first | omega | (simp; done) | (simp; omega)) (by first | omega | (simp; done) | (simp; omega)) (Blk.sli (m := 0) hbB) rfl ?_
              intro A_1 hS_1
              refine L_nil (N_then ⟨fun hN_ => ⟨hbb, hbe, hba, trivial⟩, ?_⟩)
              refine T_all (rs := [9, 14]) (by kernel_rfl) rfl (all2 (O_one rfl ?_) (O_one rfl ?_))
              · have ge1 : w.heap.size ≤ w4.heap.size := hB.size
                by_cases h3 : (fdec ((body.drop a).take ((a + (leftN a)) - a)) (e % 4294967296)).2.2 = 0
                · refine L_call rfl cb22 (dec_y (bs := (body.drop a).take ((a + (leftN a)) - a)) (ep := (e % 4294967296)) hS_1 (by simp only [List.length_take, List.length_drop]; omega) (by simp only [List.length_take, List.length_drop]; omega) (hT.gb hB) (by omega)  h3) rfl ?_
                  rintro _ w5 ⟨hs4, A_2, c_1, rfl, ho1⟩
                  replace hB := gb_tr hB hs4
                  replace hbk := hbk.gb hs4
                  replace hbb := hbb.gb hs4
                  replace hbe := hbe.gb hs4
                  replace hbB := hbB.gb hs4
                  replace hbO := hbO.gb hs4
                  replace hL := hL.gb hs4
                  replace hJ := hJn _ _ hJ hs4
                  replace hba := hba.gb hs4
                  replace hbj := hbj.gb hs4
                  replace ho := own_gb ho hs4
                  replace hS_1 := hS_1.gb hs4
                  have hlo1 : w4.heap.size ≤ w5.heap.size := hs4.size
                  refine L_nil (N_then ⟨fun hN_ => ⟨hbb, hbe, hba, trivial⟩, ?_⟩)
                  refine T_takeA (i := 10) rfl rfl (by kernel_rfl) (by kernel_rfl) (by kernel_rfl) (Y_of (fun _ ⟨hbb, hbe, hba, _⟩ => R_move rfl)) ⟨hbb, hbe, hba, trivial⟩ rfl ?_
                  refine T_takeA (i := 11) rfl rfl (by kernel_rfl) (by kernel_rfl) (by kernel_rfl) (Y_of (fun _ ⟨hbb, hbe, hba, _⟩ => R_extract rfl rfl)) ⟨hbb, hbe, hba, trivial⟩ rfl ?_
                  refine T_takeA (i := 12) rfl rfl (by kernel_rfl) (by kernel_rfl) (by kernel_rfl) (Y_of (fun _ ⟨hbb, hbe, hba, _⟩ => R_extract rfl rfl)) ⟨hbb, hbe, hba, trivial⟩ rfl ?_
                  refine T_takeA (i := 13) rfl rfl (by kernel_rfl) (by kernel_rfl) (by kernel_rfl) (Y_of (fun _ ⟨hbb, hbe, hba, _⟩ => R_extract rfl rfl)) ⟨hbb, hbe, hba, trivial⟩ rfl ?_
                  refine T_all (rs := [14]) (by kernel_rfl) rfl (all1 (O_one rfl ?_))
                  refine L_alloc (cs := [.int .i64 0, .int .u32 0, .slice none 0 0]) zer43 rfl rfl ?_
                  intro g1 w6 eg1 hb1 hs5 hz2
                  have ge2 : w.heap.size ≤ g1 := eg_ge hB eg1
                  have lt1 : gk < g1 := lt_of_eg hbk.lt eg1
                  have lt2 : gb < g1 := lt_of_eg hbb.lt eg1
                  have lt3 : ge < g1 := lt_of_eg hbe.lt eg1
                  have lt4 : gB < g1 := lt_of_eg hbB.lt eg1
                  have lt5 : gO < g1 := lt_of_eg hbO.lt eg1
                  have lt6 : ga < g1 := lt_of_eg hba.lt eg1
                  have lt7 : gj < g1 := lt_of_eg hbj.lt eg1
                  replace hB := gb_tr hB hs5
                  replace hbk := hbk.gb hs5
                  replace hbb := hbb.gb hs5
                  replace hbe := hbe.gb hs5
                  replace hbB := hbB.gb hs5
                  replace hbO := hbO.gb hs5
                  replace hL := hL.gb hs5
                  replace hJ := hJn _ _ hJ hs5
                  replace hba := hba.gb hs5
                  replace hbj := hbj.gb hs5
                  replace ho := own_gb ho hs5
                  replace hS_1 := hS_1.gb hs5
                  replace ho1 := own_gb ho1 hs5
                  replace hlo1 := Nat.le_trans hlo1 hs5.size
                  refine L_nil (N_then ⟨fun hN_ => ⟨hbb, hbe, hba, trivial⟩, ?_⟩)
                  refine T_all (rs := [15]) (by kernel_rfl) rfl (all1 (O_one rfl ?_))
                  refine L_stA (vs := [.int .i64 (((fdec ((body.drop a).take ((a + (leftN a)) - a)) (e % 4294967296)).1.1 : Nat) : Int), .int .u32 ((e % 4294967296 : Nat) : Int), .slice A_2 (((fdec ((body.drop a).take ((a + (leftN a)) - a)) (e % 4294967296)).1.2).length) c_1]) rfl rfl rfl sz43 rfl hb1 rfl ?_
                  intro w7 hb2 hs6 hz3
                  replace hB := gb_trg hB hs6 ge2
                  replace hbk := hbk.grown hs6 (ne_lt lt1)
                  replace hbb := hbb.grown hs6 (ne_lt lt2)
                  replace hbe := hbe.grown hs6 (ne_lt lt3)
                  replace hbB := hbB.grown hs6 (ne_lt lt4)
                  replace hbO := hbO.grown hs6 (ne_lt lt5)
                  replace hL := hL.blk hb1 hs6
                  replace hJ := hJa _ _ _ _ _ hJ hb1 (by omega) hs6
                  replace hba := hba.grown hs6 (ne_lt lt6)
                  replace hbj := hbj.grown hs6 (ne_lt lt7)
                  replace ho := own_other ho hb1 rfl hs6
                  replace hS_1 := hS_1.other hb1 rfl rfl hs6
                  replace ho1 := own_other ho1 hb1 rfl hs6
                  replace hlo1 := Nat.le_trans hlo1 hs6.size
                  refine L_nil (N_then ⟨fun hN_ => ⟨hbb, hbe, hba, trivial⟩, ?_⟩)
                  refine T_takeA (i := 16) rfl rfl (by kernel_rfl) (by kernel_rfl) (by kernel_rfl) (Y_of (fun _ ⟨hbb, hbe, hba, _⟩ => R_assign rfl)) ⟨hbb, hbe, hba, trivial⟩ rfl ?_
                  refine T_takeA (i := 17) rfl rfl (by kernel_rfl) (by kernel_rfl) (by kernel_rfl) (Y_of (fun _ ⟨hbb, hbe, hba, _⟩ => R_assign rfl)) ⟨hbb, hbe, hba, trivial⟩ rfl ?_
                  refine T_done (by kernel_rfl) (CalmE.normal ?_)
                  exact ⟨rfl, .inl ⟨_, g1, A_2, c_1, Ac_frg ⟨rfl, rfl, rfl, rfl, rfl, rfl, rfl, rfl, rfl, rfl, rfl, rfl, rfl, rfl, rfl, rfl, rfl, trivial⟩, hB, hbk, hbb, hbe, hbB, hbO, hL, hJ, hba, hbj, ho, (own_lo ho1 ge1), hb2, ge2, lt1, lt2, lt3, lt4, lt5, lt6, lt7, h3⟩⟩
                · refine L_call rfl cb22 (dec_n (bs := (body.drop a).take ((a + (leftN a)) - a)) (ep := (e % 4294967296)) hS_1 (by simp only [List.length_take, List.length_drop]; omega) (by simp only [List.length_take, List.length_drop]; omega) (hT.gb hB) (by omega)  h3) rfl ?_
                  rintro _ w8 ⟨hs7, rfl⟩
                  replace hB := gb_tr hB hs7
                  replace hbk := hbk.gb hs7
                  replace hbb := hbb.gb hs7
                  replace hbe := hbe.gb hs7
                  replace hbB := hbB.gb hs7
                  replace hbO := hbO.gb hs7
                  replace hL := hL.gb hs7
                  replace hJ := hJn _ _ hJ hs7
                  replace hba := hba.gb hs7
                  replace hbj := hbj.gb hs7
                  replace ho := own_gb ho hs7
                  replace hS_1 := hS_1.gb hs7
                  refine L_nil (N_then ⟨fun hN_ => ⟨hbb, hbe, hba, trivial⟩, ?_⟩)
                  refine T_takeA (i := 10) rfl rfl (by kernel_rfl) (by kernel_rfl) (by kernel_rfl) (Y_of (fun _ ⟨hbb, hbe, hba, _⟩ => R_move rfl)) ⟨hbb, hbe, hba, trivial⟩ rfl ?_
                  refine T_takeA (i := 11) rfl rfl (by kernel_rfl) (by kernel_rfl) (by kernel_rfl) (Y_of (fun _ ⟨hbb, hbe, hba, _⟩ => R_extract rfl rfl)) ⟨hbb, hbe, hba, trivial⟩ rfl ?_
                  refine T_takeA (i := 12) rfl rfl (by kernel_rfl) (by kernel_rfl) (by kernel_rfl) (Y_of (fun _ ⟨hbb, hbe, hba, _⟩ => R_extract rfl rfl)) ⟨hbb, hbe, hba, trivial⟩ rfl ?_
                  refine T_takeA (i := 13) rfl rfl (by kernel_rfl) (by kernel_rfl) (by kernel_rfl) (Y_of (fun _ ⟨hbb, hbe, hba, _⟩ => R_extract rfl rfl)) ⟨hbb, hbe, hba, trivial⟩ rfl ?_
                  refine T_all (rs := [14]) (by kernel_rfl) rfl (all1 (O_one rfl ?_))
                  refine L_alloc (cs := [.int .i64 0, .int .u32 0, .slice none 0 0]) zer43 rfl rfl ?_
                  intro g2 w9 eg2 hb3 hs8 hz4
                  have ge3 : w.heap.size ≤ g2 := eg_ge hB eg2
                  have lt8 : gk < g2 := lt_of_eg hbk.lt eg2
                  have lt9 : gb < g2 := lt_of_eg hbb.lt eg2
                  have lt10 : ge < g2 := lt_of_eg hbe.lt eg2
                  have lt11 : gB < g2 := lt_of_eg hbB.lt eg2
                  have lt12 : gO < g2 := lt_of_eg hbO.lt eg2
                  have lt13 : ga < g2 := lt_of_eg hba.lt eg2
                  have lt14 : gj < g2 := lt_of_eg hbj.lt eg2
                  replace hB := gb_tr hB hs8
                  replace hbk := hbk.gb hs8
                  replace hbb := hbb.gb hs8
                  replace hbe := hbe.gb hs8
                  replace hbB := hbB.gb hs8
                  replace hbO := hbO.gb hs8
                  replace hL := hL.gb hs8
                  replace hJ := hJn _ _ hJ hs8
                  replace hba := hba.gb hs8
                  replace hbj := hbj.gb hs8
                  replace ho := own_gb ho hs8
                  replace hS_1 := hS_1.gb hs8
                  refine L_nil (N_then ⟨fun hN_ => ⟨hbb, hbe, hba, trivial⟩, ?_⟩)
                  refine T_all (rs := [15]) (by kernel_rfl) rfl (all1 (O_one rfl ?_))
                  refine L_stA (vs := [.int .i64 0, .int .u32 0, .slice none 0 0]) rfl rfl rfl sz43 rfl hb3 rfl ?_
                  intro w10 hb4 hs9 hz5
                  replace hB := gb_trg hB hs9 ge3
                  replace hbk := hbk.grown hs9 (ne_lt lt8)
                  replace hbb := hbb.grown hs9 (ne_lt lt9)
                  replace hbe := hbe.grown hs9 (ne_lt lt10)
                  replace hbB := hbB.grown hs9 (ne_lt lt11)
                  replace hbO := hbO.grown hs9 (ne_lt lt12)
                  replace hL := hL.blk hb3 hs9
                  replace hJ := hJa _ _ _ _ _ hJ hb3 (by omega) hs9
                  replace hba := hba.grown hs9 (ne_lt lt13)
                  replace hbj := hbj.grown hs9 (ne_lt lt14)
                  replace ho := own_other ho hb3 rfl hs9
                  replace hS_1 := hS_1.other hb3 rfl rfl hs9
                  refine L_nil (N_then ⟨fun hN_ => ⟨hbb, hbe, hba, trivial⟩, ?_⟩)
                  refine T_takeA (i := 16) rfl rfl (by kernel_rfl) (by kernel_rfl) (by kernel_rfl) (Y_of (fun _ ⟨hbb, hbe, hba, _⟩ => R_assign rfl)) ⟨hbb, hbe, hba, trivial⟩ rfl ?_
                  refine T_takeA (i := 17) rfl rfl (by kernel_rfl) (by kernel_rfl) (by kernel_rfl) (Y_of (fun _ ⟨hbb, hbe, hba, _⟩ => R_assign rfl)) ⟨hbb, hbe, hba, trivial⟩ rfl ?_
                  refine T_done (by kernel_rfl) (CalmE.normal ?_)
                  exact ⟨rfl, .inr (⟨_, g2, Ac_frg ⟨rfl, rfl, rfl, rfl, rfl, rfl, rfl, rfl, rfl, rfl, rfl, rfl, rfl, rfl, rfl, rfl, rfl, trivial⟩, hB, hbk, hbb, hbe, hbB, hbO, hL, hJ, hba, hbj, ho, hb4, ge3, lt8, lt9, lt10, lt11, lt12, lt13, lt14, h3⟩)⟩
              · refine L_alloc (cs := [.int .i64 0, .int .u32 0, .slice none 0 0]) zer43 rfl rfl ?_
                intro g3 w11 eg3 hb5 hs10 hz6
                have ge4 : w.heap.size ≤ g3 := eg_ge hB eg3
                have lt15 : gk < g3 := lt_of_eg hbk.lt eg3
                have lt16 : gb < g3 := lt_of_eg hbb.lt eg3
                have lt17 : ge < g3 := lt_of_eg hbe.lt eg3
                have lt18 : gB < g3 := lt_of_eg hbB.lt eg3
                have lt19 : gO < g3 := lt_of_eg hbO.lt eg3
                have lt20 : ga < g3 := lt_of_eg hba.lt eg3
                have lt21 : gj < g3 := lt_of_eg hbj.lt eg3
                replace hB := gb_tr hB hs10
                replace hbk := hbk.gb hs10
                replace hbb := hbb.gb hs10
                replace hbe := hbe.gb hs10
                replace hbB := hbB.gb hs10
                replace hbO := hbO.gb hs10
                replace hL := hL.gb hs10
                replace hJ := hJn _ _ hJ hs10
                replace hba := hba.gb hs10
                replace hbj := hbj.gb hs10
                replace ho := own_gb ho hs10
                replace hS_1 := hS_1.gb hs10
                refine L_nil (N_then ⟨fun hN_ => ⟨hbb, hbe, hba, trivial⟩, ?_⟩)
                refine T_all (rs := [9]) (by kernel_rfl) rfl (all1 (O_one rfl ?_))
                have ge5 : w.heap.size ≤ w11.heap.size := hB.size
                by_cases h4 : (fdec ((body.drop a).take ((a + (leftN a)) - a)) (e % 4294967296)).2.2 = 0
                · refine L_call rfl cb22 (dec_y (bs := (body.drop a).take ((a + (leftN a)) - a)) (ep := (e % 4294967296)) hS_1 (by simp only [List.length_take, List.length_drop]; omega) (by simp only [List.length_take, List.length_drop]; omega) (hT.gb hB) (by omega)  h4) rfl ?_
                  rintro _ w12 ⟨hs11, A_3, c_2, rfl, ho2⟩
                  replace hB := gb_tr hB hs11
                  replace hbk := hbk.gb hs11
                  replace hbb := hbb.gb hs11
                  replace hbe := hbe.gb hs11
                  replace hbB := hbB.gb hs11
                  replace hbO := hbO.gb hs11
                  replace hL := hL.gb hs11
                  replace hJ := hJn _ _ hJ hs11
                  replace hba := hba.gb hs11
                  replace hbj := hbj.gb hs11
                  replace ho := own_gb ho hs11
                  replace hS_1 := hS_1.gb hs11
                  replace hb5 := hb5.gb hs11
                  have hlo2 : w11.heap.size ≤ w12.heap.size := hs11.size
                  refine L_nil (N_then ⟨fun hN_ => ⟨hbb, hbe, hba, trivial⟩, ?_⟩)
                  refine T_takeA (i := 10) rfl rfl (by kernel_rfl) (by kernel_rfl) (by kernel_rfl) (Y_of (fun _ ⟨hbb, hbe, hba, _⟩ => R_move rfl)) ⟨hbb, hbe, hba, trivial⟩ rfl ?_
                  refine T_takeA (i := 11) rfl rfl (by kernel_rfl) (by kernel_rfl) (by kernel_rfl) (Y_of (fun _ ⟨hbb, hbe, hba, _⟩ => R_extract rfl rfl)) ⟨hbb, hbe, hba, trivial⟩ rfl ?_
                  refine T_takeA (i := 12) rfl rfl (by kernel_rfl) (by kernel_rfl) (by kernel_rfl) (Y_of (fun _ ⟨hbb, hbe, hba, _⟩ => R_extract rfl rfl)) ⟨hbb, hbe, hba, trivial⟩ rfl ?_
                  refine T_takeA (i := 13) rfl rfl (by kernel_rfl) (by kernel_rfl) (by kernel_rfl) (Y_of (fun _ ⟨hbb, hbe, hba, _⟩ => R_extract rfl rfl)) ⟨hbb, hbe, hba, trivial⟩ rfl ?_
                  refine T_all (rs := [15]) (by kernel_rfl) rfl (all1 (O_one rfl ?_))
                  refine L_stA (vs := [.int .i64 (((fdec ((body.drop a).take ((a + (leftN a)) - a)) (e % 4294967296)).1.1 : Nat) : Int), .int .u32 ((e % 4294967296 : Nat) : Int), .slice A_3 (((fdec ((body.drop a).take ((a + (leftN a)) - a)) (e % 4294967296)).1.2).length) c_2]) rfl rfl rfl sz43 rfl hb5 rfl ?_
                  intro w13 hb6 hs12 hz7
                  replace hB := gb_trg hB hs12 ge4
                  replace hbk := hbk.grown hs12 (ne_lt lt15)
                  replace hbb := hbb.grown hs12 (ne_lt lt16)
                  replace hbe := hbe.grown hs12 (ne_lt lt17)
                  replace hbB := hbB.grown hs12 (ne_lt lt18)
                  replace hbO := hbO.grown hs12 (ne_lt lt19)
                  replace hL := hL.blk hb5 hs12
                  replace hJ := hJa _ _ _ _ _ hJ hb5 (by omega) hs12
                  replace hba := hba.grown hs12 (ne_lt lt20)
                  replace hbj := hbj.grown hs12 (ne_lt lt21)
                  replace ho := own_other ho hb5 rfl hs12
                  replace hS_1 := hS_1.other hb5 rfl rfl hs12
                  replace ho2 := own_other ho2 hb5 rfl hs12
                  replace hlo2 := Nat.le_trans hlo2 hs12.size
                  refine L_nil (N_then ⟨fun hN_ => ⟨hbb, hbe, hba, trivial⟩, ?_⟩)
                  refine T_takeA (i := 16) rfl rfl (by kernel_rfl) (by kernel_rfl) (by kernel_rfl) (Y_of (fun _ ⟨hbb, hbe, hba, _⟩ => R_assign rfl)) ⟨hbb, hbe, hba, trivial⟩ rfl ?_
                  refine T_takeA (i := 17) rfl rfl (by kernel_rfl) (by kernel_rfl) (by kernel_rfl) (Y_of (fun _ ⟨hbb, hbe, hba, _⟩ => R_assign rfl)) ⟨hbb, hbe, hba, trivial⟩ rfl ?_
                  refine T_done (by kernel_rfl) (CalmE.normal ?_)
                  exact ⟨rfl, .inl ⟨_, g3, A_3, c_2, Ac_frg ⟨rfl, rfl, rfl, rfl, rfl, rfl, rfl, rfl, rfl, rfl, rfl, rfl, rfl, rfl, rfl, rfl, rfl, trivial⟩, hB, hbk, hbb, hbe, hbB, hbO, hL, hJ, hba, hbj, ho, (own_lo ho2 ge5), hb6, ge4, lt15, lt16, lt17, lt18, lt19, lt20, lt21, h4⟩⟩
                · refine L_call rfl cb22 (dec_n (bs := (body.drop a).take ((a + (leftN a)) - a)) (ep := (e % 4294967296)) hS_1 (by simp only [List.length_take, List.length_drop]; omega) (by simp only [List.length_take, List.length_drop]; omega) (hT.gb hB) (by omega)  h4) rfl ?_
                  rintro _ w14 ⟨hs13, rfl⟩
                  replace hB := gb_tr hB hs13
                  replace hbk := hbk.gb hs13
                  replace hbb := hbb.gb hs13
                  replace hbe := hbe.gb hs13
                  replace hbB := hbB.gb hs13
                  replace hbO := hbO.gb hs13
                  replace hL := hL.gb hs13
                  replace hJ := hJn _ _ hJ hs13
                  replace hba := hba.gb hs13
                  replace hbj := hbj.gb hs13
                  replace ho := own_gb ho hs13
                  replace hS_1 := hS_1.gb hs13
                  replace hb5 := hb5.gb hs13
                  refine L_nil (N_then ⟨fun hN_ => ⟨hbb, hbe, hba, trivial⟩, ?_⟩)
                  refine T_takeA (i := 10) rfl rfl (by kernel_rfl) (by kernel_rfl) (by kernel_rfl) (Y_of (fun _ ⟨hbb, hbe, hba, _⟩ => R_move rfl)) ⟨hbb, hbe, hba, trivial⟩ rfl ?_
                  refine T_takeA (i := 11) rfl rfl (by kernel_rfl) (by kernel_rfl) (by kernel_rfl) (Y_of (fun _ ⟨hbb, hbe, hba, _⟩ => R_extract rfl rfl)) ⟨hbb, hbe, hba, trivial⟩ rfl ?_
                  refine T_takeA (i := 12) rfl rfl (by kernel_rfl) (by kernel_rfl) (by kernel_rfl) (Y_of (fun _ ⟨hbb, hbe, hba, _⟩ => R_extract rfl rfl)) ⟨hbb, hbe, hba, trivial⟩ rfl ?_
                  refine T_takeA (i := 13) rfl rfl (by kernel_rfl) (by kernel_rfl) (by kernel_rfl) (Y_of (fun _ ⟨hbb, hbe, hba, _⟩ => R_extract rfl rfl)) ⟨hbb, hbe, hba, trivial⟩ rfl ?_
                  refine T_all (rs := [15]) (by kernel_rfl) rfl (all1 (O_one rfl ?_))
                  refine L_stA (vs := [.int .i64 0, .int .u32 0, .slice none 0 0]) rfl rfl rfl sz43 rfl hb5 rfl ?_
                  intro w15 hb7 hs14 hz8
                  replace hB := gb_trg hB hs14 ge4
                  replace hbk := hbk.grown hs14 (ne_lt lt15)
                  replace hbb := hbb.grown hs14 (ne_lt lt16)
                  replace hbe := hbe.grown hs14 (ne_lt lt17)
                  replace hbB := hbB.grown hs14 (ne_lt lt18)
                  replace hbO := hbO.grown hs14 (ne_lt lt19)
                  replace hL := hL.blk hb5 hs14
                  replace hJ := hJa _ _ _ _ _ hJ hb5 (by omega) hs14
                  replace hba := hba.grown hs14 (ne_lt lt20)
                  replace hbj := hbj.grown hs14 (ne_lt lt21)
                  replace ho := own_other ho hb5 rfl hs14
                  replace hS_1 := hS_1.other hb5 rfl rfl hs14
                  refine L_nil (N_then ⟨fun hN_ => ⟨hbb, hbe, hba, trivial⟩, ?_⟩)
                  refine T_takeA (i := 16) rfl rfl (by kernel_rfl) (by kernel_rfl) (by kernel_rfl) (Y_of (fun _ ⟨hbb, hbe, hba, _⟩ => R_assign rfl)) ⟨hbb, hbe, hba, trivial⟩ rfl ?_
                  refine T_takeA (i := 17) rfl rfl (by kernel_rfl) (by kernel_rfl) (by kernel_rfl) (Y_of (fun _ ⟨hbb, hbe, hba, _⟩ => R_assign rfl)) ⟨hbb, hbe, hba, trivial⟩ rfl ?_
                  refine T_done (by kernel_rfl) (CalmE.normal ?_)
                  exact ⟨rfl, .inr (⟨_, g3, Ac_frg ⟨rfl, rfl, rfl, rfl, rfl, rfl, rfl, rfl, rfl, rfl, rfl, rfl, rfl, rfl, rfl, rfl, rfl, trivial⟩, hB, hbk, hbb, hbe, hbB, hbO, hL, hJ, hba, hbj, ho, hb7, ge4, lt15, lt16, lt17, lt18, lt19, lt20, lt21, h4⟩)⟩
            · refine L_alloc (cs := [.int .i64 0, .int .u32 0, .slice none 0 0]) zer43 rfl rfl ?_
              intro g4 w16 eg4 hb8 hs15 hz9
              have ge6 : w.heap.size ≤ g4 := eg_ge hB eg4
              have lt22 : gk < g4 := lt_of_eg hbk.lt eg4
              have lt23 : gb < g4 := lt_of_eg hbb.lt eg4
              have lt24 : ge < g4 := lt_of_eg hbe.lt eg4
              have lt25 : gB < g4 := lt_of_eg hbB.lt eg4
              have lt26 : gO < g4 := lt_of_eg hbO.lt eg4
              have lt27 : ga < g4 := lt_of_eg hba.lt eg4
              have lt28 : gj < g4 := lt_of_eg hbj.lt eg4
              replace hB := gb_tr hB hs15
              replace hbk := hbk.gb hs15
              replace hbb := hbb.gb hs15
              replace hbe := hbe.gb hs15
              replace hbB := hbB.gb hs15
              replace hbO := hbO.gb hs15
              replace hL := hL.gb hs15
              replace hJ := hJn _ _ hJ hs15
              replace hba := hba.gb hs15
              replace hbj := hbj.gb hs15
              replace ho := own_gb ho hs15
              refine L_nil (N_then ⟨fun hN_ => ⟨hbb, hbe, hba, trivial⟩, ?_⟩)
              refine T_all (rs := [6]) (by kernel_rfl) rfl (all1 (O_one rfl ?_))
              refine T_slLH (xs := body) (i := a) (j := (a + (leftN a))) EncB rfl rfl rfl (by first | rfl | omega) (by first | rfl | omega) slc25 (by first | omega | (simp; done) | (simp; omega)) (by first | omega | (simp; done) | (simp; omega)) (by first | omega | (simp; done) | (simp; omega)) (Blk.sli (m := 0) hbB) rfl ?_
              intro A_4 hS_2
              refine L_nil (N_then ⟨fun hN_ => ⟨hbb, hbe, hba, trivial⟩, ?_⟩)
              refine T_all (rs := [9]) (by kernel_rfl) rfl (all1 (O_one rfl ?_))
              have ge7 : w.heap.size ≤ w16.heap.size := hB.size
              by_cases h5 : (fdec ((body.drop a).take ((a + (leftN a)) - a)) (e % 4294967296)).2.2 = 0
              · refine L_call rfl cb22 (dec_y (bs := (body.drop a).take ((a + (leftN a)) - a)) (ep := (e % 4294967296)) hS_2 (by simp only [List.length_take, List.length_drop]; omega) (by simp only [List.length_take, List.length_drop]; omega) (hT.gb hB) (by omega)  h5) rfl ?_
                rintro _ w17 ⟨hs16, A_5, c_3, rfl, ho3⟩
                replace hB := gb_tr hB hs16
                replace hbk := hbk.gb hs16
                replace hbb := hbb.gb hs16
                replace hbe := hbe.gb hs16
                replace hbB := hbB.gb hs16
                replace hbO := hbO.gb hs16
                replace hL := hL.gb hs16
                replace hJ := hJn _ _ hJ hs16
                replace hba := hba.gb hs16
                replace hbj := hbj.gb hs16
                replace ho := own_gb ho hs16
                replace hb8 := hb8.gb hs16
                replace hS_2 := hS_2.gb hs16
                have hlo3 : w16.heap.size ≤ w17.heap.size := hs16.size
                refine L_nil (N_then ⟨fun hN_ => ⟨hbb, hbe, hba, trivial⟩, ?_⟩)
                refine T_takeA (i := 10) rfl rfl (by kernel_rfl) (by kernel_rfl) (by kernel_rfl) (Y_of (fun _ ⟨hbb, hbe, hba, _⟩ => R_move rfl)) ⟨hbb, hbe, hba, trivial⟩ rfl ?_
                refine T_takeA (i := 11) rfl rfl (by kernel_rfl) (by kernel_rfl) (by kernel_rfl) (Y_of (fun _ ⟨hbb, hbe, hba, _⟩ => R_extract rfl rfl)) ⟨hbb, hbe, hba, trivial⟩ rfl ?_
                refine T_takeA (i := 12) rfl rfl (by kernel_rfl) (by kernel_rfl) (by kernel_rfl) (Y_of (fun _ ⟨hbb, hbe, hba, _⟩ => R_extract rfl rfl)) ⟨hbb, hbe, hba, trivial⟩ rfl ?_
                refine T_takeA (i := 13) rfl rfl (by kernel_rfl) (by kernel_rfl) (by kernel_rfl) (Y_of (fun _ ⟨hbb, hbe, hba, _⟩ => R_extract rfl rfl)) ⟨hbb, hbe, hba, trivial⟩ rfl ?_
                refine T_all (rs := [15]) (by kernel_rfl) rfl (all1 (O_one rfl ?_))
                refine L_stA (vs := [.int .i64 (((fdec ((body.drop a).take ((a + (leftN a)) - a)) (e % 4294967296)).1.1 : Nat) : Int), .int .u32 ((e % 4294967296 : Nat) : Int), .slice A_5 (((fdec ((body.drop a).take ((a + (leftN a)) - a)) (e % 4294967296)).1.2).length) c_3]) rfl rfl rfl sz43 rfl hb8 rfl ?_
                intro w18 hb9 hs17 hz10
                replace hB := gb_trg hB hs17 ge6
                replace hbk := hbk.grown hs17 (ne_lt lt22)
                replace hbb := hbb.grown hs17 (ne_lt lt23)
                replace hbe := hbe.grown hs17 (ne_lt lt24)
                replace hbB := hbB.grown hs17 (ne_lt lt25)
                replace hbO := hbO.grown hs17 (ne_lt lt26)
                replace hL := hL.blk hb8 hs17
                replace hJ := hJa _ _ _ _ _ hJ hb8 (by omega) hs17
                replace hba := hba.grown hs17 (ne_lt lt27)
                replace hbj := hbj.grown hs17 (ne_lt lt28)
                replace ho := own_other ho hb8 rfl hs17
                replace hS_2 := hS_2.other hb8 rfl rfl hs17
                replace ho3 := own_other ho3 hb8 rfl hs17
                replace hlo3 := Nat.le_trans hlo3 hs17.size
                refine L_nil (N_then ⟨fun hN_ => ⟨hbb, hbe, hba, trivial⟩, ?_⟩)
                refine T_takeA (i := 16) rfl rfl (by kernel_rfl) (by kernel_rfl) (by kernel_rfl) (Y_of (fun _ ⟨hbb, hbe, hba, _⟩ => R_assign rfl)) ⟨hbb, hbe, hba, trivial⟩ rfl ?_
                refine T_takeA (i := 17) rfl rfl (by kernel_rfl) (by kernel_rfl) (by kernel_rfl) (Y_of (fun _ ⟨hbb, hbe, hba, _⟩ => R_assign rfl)) ⟨hbb, hbe, hba, trivial⟩ rfl ?_
                refine T_done (by kernel_rfl) (CalmE.normal ?_)
                exact ⟨rfl, .inl ⟨_, g4, A_5, c_3, Ac_frg ⟨rfl, rfl, rfl, rfl, rfl, rfl, rfl, rfl, rfl, rfl, rfl, rfl, rfl, rfl, rfl, rfl, rfl, trivial⟩, hB, hbk, hbb, hbe, hbB, hbO, hL, hJ, hba, hbj, ho, (own_lo ho3 ge7), hb9, ge6, lt22, lt23, lt24, lt25, lt26, lt27, lt28, h5⟩⟩
              · refine L_call rfl cb22 (dec_n (bs := (body.drop a).take ((a + (leftN a)) - a)) (ep := (e % 4294967296)) hS_2 (by simp only [List.length_take, List.length_drop]; omega) (by simp only [List.length_take, List.length_drop]; omega) (hT.gb hB) (by omega)  h5) rfl ?_
                rintro _ w19 ⟨hs18, rfl⟩
                replace hB := gb_tr hB hs18
                replace hbk := hbk.gb hs18
                replace hbb := hbb.gb hs18
                replace hbe := hbe.gb hs18
                replace hbB := hbB.gb hs18
                replace hbO := hbO.gb hs18
                replace hL := hL.gb hs18
                replace hJ := hJn _ _ hJ hs18
                replace hba := hba.gb hs18
                replace hbj := hbj.gb hs18
                replace ho := own_gb ho hs18
                replace hb8 := hb8.gb hs18
                replace hS_2 := hS_2.gb hs18
                refine L_nil (N_then ⟨fun hN_ => ⟨hbb, hbe, hba, trivial⟩, ?_⟩)
                refine T_takeA (i := 10) rfl rfl (by kernel_rfl) (by kernel_rfl) (by kernel_rfl) (Y_of (fun _ ⟨hbb, hbe, hba, _⟩ => R_move rfl)) ⟨hbb, hbe, hba, trivial⟩ rfl ?_
                refine T_takeA (i := 11) rfl rfl (by kernel_rfl) (by kernel_rfl) (by kernel_rfl) (Y_of (fun _ ⟨hbb, hbe, hba, _⟩ => R_extract rfl rfl)) ⟨hbb, hbe, hba, trivial⟩ rfl ?_
                refine T_takeA (i := 12) rfl rfl (by kernel_rfl) (by kernel_rfl) (by kernel_rfl) (Y_of (fun _ ⟨hbb, hbe, hba, _⟩ => R_extract rfl rfl)) ⟨hbb, hbe, hba, trivial⟩ rfl ?_
                refine T_takeA (i := 13) rfl rfl (by kernel_rfl) (by kernel_rfl) (by kernel_rfl) (Y_of (fun _ ⟨hbb, hbe, hba, _⟩ => R_extract rfl rfl)) ⟨hbb, hbe, hba, trivial⟩ rfl ?_
                refine T_all (rs := [15]) (by kernel_rfl) rfl (all1 (O_one rfl ?_))
                refine L_stA (vs := [.int .i64 0, .int .u32 0, .slice none 0 0]) rfl rfl rfl sz43 rfl hb8 rfl ?_
                intro w20 hb10 hs19 hz11
                replace hB := gb_trg hB hs19 ge6
                replace hbk := hbk.grown hs19 (ne_lt lt22)
                replace hbb := hbb.grown hs19 (ne_lt lt23)
                replace hbe := hbe.grown hs19 (ne_lt lt24)
                replace hbB := hbB.grown hs19 (ne_lt lt25)
                replace hbO := hbO.grown hs19 (ne_lt lt26)
                replace hL := hL.blk hb8 hs19
                replace hJ := hJa _ _ _ _ _ hJ hb8 (by omega) hs19
                replace hba := hba.grown hs19 (ne_lt lt27)
                replace hbj := hbj.grown hs19 (ne_lt lt28)
                replace ho := own_other ho hb8 rfl hs19
                replace hS_2 := hS_2.other hb8 rfl rfl hs19
                refine L_nil (N_then ⟨fun hN_ => ⟨hbb, hbe, hba, trivial⟩, ?_⟩)
                refine T_takeA (i := 16) rfl rfl (by kernel_rfl) (by kernel_rfl) (by kernel_rfl) (Y_of (fun _ ⟨hbb, hbe, hba, _⟩ => R_assign rfl)) ⟨hbb, hbe, hba, trivial⟩ rfl ?_
                refine T_takeA (i := 17) rfl rfl (by kernel_rfl) (by kernel_rfl) (by kernel_rfl) (Y_of (fun _ ⟨hbb, hbe, hba, _⟩ => R_assign rfl)) ⟨hbb, hbe, hba, trivial⟩ rfl ?_
                refine T_done (by kernel_rfl) (CalmE.normal ?_)
                exact ⟨rfl, .inr (⟨_, g4, Ac_frg ⟨rfl, rfl, rfl, rfl, rfl, rfl, rfl, rfl, rfl, rfl, rfl, rfl, rfl, rfl, rfl, rfl, rfl, trivial⟩, hB, hbk, hbb, hbe, hbB, hbO, hL, hJ, hba, hbj, ho, hb10, ge6, lt22, lt23, lt24, lt25, lt26, lt27, lt28, h5⟩)⟩
          · refine L_alloc (cs := [.int .i64 0, .int .u32 0, .slice none 0 0]) zer43 rfl rfl ?_
            intro g5 w21 eg5 hb11 hs20 hz12
            have ge8 : w.heap.size ≤ g5 := eg_ge hB eg5
            have lt29 : gk < g5 := lt_of_eg hbk.lt eg5
            have lt30 : gb < g5 := lt_of_eg hbb.lt eg5
            have lt31 : ge < g5 := lt_of_eg hbe.lt eg5
            have lt32 : gB < g5 := lt_of_eg hbB.lt eg5
            have lt33 : gO < g5 := lt_of_eg hbO.lt eg5
            have lt34 : ga < g5 := lt_of_eg hba.lt eg5
            have lt35 : gj < g5 := lt_of_eg hbj.lt eg5
            replace hB := gb_tr hB hs20
            replace hbk := hbk.gb hs20
            replace hbb := hbb.gb hs20
            replace hbe := hbe.gb hs20
            replace hbB := hbB.gb hs20
            replace hbO := hbO.gb hs20
            replace hL := hL.gb hs20
            replace hJ := hJn _ _ hJ hs20
            replace hba := hba.gb hs20
            replace hbj := hbj.gb hs20
            replace ho := own_gb ho hs20
            refine L_nil (N_then ⟨fun hN_ => ⟨hbb, hbe, hba, trivial⟩, ?_⟩)
            refine T_all (rs := [4]) (by kernel_rfl) rfl (all1 (O_one rfl ?_))
            refine L_call rfl cb23 (left_ok (n := a) (by first | omega | (simp; done) | (simp; omega))) rfl ?_
            rintro _ w22 ⟨hs21, rfl⟩
            replace hB := gb_tr hB hs21
            replace hbk := hbk.gb hs21
            replace hbb := hbb.gb hs21
            replace hbe := hbe.gb hs21
            replace hbB := hbB.gb hs21
            replace hbO := hbO.gb hs21
            replace hL := hL.gb hs21
            replace hJ := hJn _ _ hJ hs21
            replace hba := hba.gb hs21
            replace hbj := hbj.gb hs21
            replace ho := own_gb ho hs21
            replace hb11 := hb11.gb hs21
            refine L_nil (N_then ⟨fun hN_ => ⟨hbb, hbe, hba, trivial⟩, ?_⟩)
            refine T_takeA (i := 5) rfl rfl (by kernel_rfl) (by kernel_rfl) (by kernel_rfl) (Y_of (fun _ ⟨hbb, hbe, hba, _⟩ => R_add64 rfl rfl (by first | omega | (have h_ := acc_bnd hbl ha (by assumption); omega)))) ⟨hbb, hbe, hba, trivial⟩ rfl ?_
            refine T_all (rs := [6]) (by kernel_rfl) rfl (all1 (O_one rfl ?_))
            refine T_slLH (xs := body) (i := a) (j := (a + (leftN a))) EncB rfl rfl rfl (by first | rfl | omega) (by first | rfl | omega) slc25 (by first | omega | (simp; done) | (simp; omega)) (by first | omega | (simp; done) | (simp; omega)) (by first | omega | (simp; done) | (simp; omega)) (Blk.sli (m := 0) hbB) rfl ?_
            intro A_6 hS_3
            refine L_nil (N_then ⟨fun hN_ => ⟨hbb, hbe, hba, trivial⟩, ?_⟩)
            refine T_all (rs := [9]) (by kernel_rfl) rfl (all1 (O_one rfl ?_))
            have ge9 : w.heap.size ≤ w22.heap.size := hB.size
            by_cases h6 : (fdec ((body.drop a).take ((a + (leftN a)) - a)) (e % 4294967296)).2.2 = 0
            · refine L_call rfl cb22 (dec_y (bs := (body.drop a).take ((a + (leftN a)) - a)) (ep := (e % 4294967296)) hS_3 (by simp only [List.length_take, List.length_drop]; omega) (by simp only [List.length_take, List.length_drop]; omega) (hT.gb hB) (by omega)  h6) rfl ?_
              rintro _ w23 ⟨hs22, A_7, c_4, rfl, ho4⟩
              replace hB := gb_tr hB hs22
              replace hbk := hbk.gb hs22
              replace hbb := hbb.gb hs22
              replace hbe := hbe.gb hs22
              replace hbB := hbB.gb hs22
              replace hbO := hbO.gb hs22
              replace hL := hL.gb hs22
              replace hJ := hJn _ _ hJ hs22
              replace hba := hba.gb hs22
              replace hbj := hbj.gb hs22
              replace ho := own_gb ho hs22
              replace hb11 := hb11.gb hs22
              replace hS_3 := hS_3.gb hs22
              have hlo4 : w22.heap.size ≤ w23.heap.size := hs22.size
              refine L_nil (N_then ⟨fun hN_ => ⟨hbb, hbe, hba, trivial⟩, ?_⟩)
              refine T_takeA (i := 10) rfl rfl (by kernel_rfl) (by kernel_rfl) (by kernel_rfl) (Y_of (fun _ ⟨hbb, hbe, hba, _⟩ => R_move rfl)) ⟨hbb, hbe, hba, trivial⟩ rfl ?_
              refine T_takeA (i := 11) rfl rfl (by kernel_rfl) (by kernel_rfl) (by kernel_rfl) (Y_of (fun _ ⟨hbb, hbe, hba, _⟩ => R_extract rfl rfl)) ⟨hbb, hbe, hba, trivial⟩ rfl ?_
              refine T_takeA (i := 12) rfl rfl (by kernel_rfl) (by kernel_rfl) (by kernel_rfl) (Y_of (fun _ ⟨hbb, hbe, hba, _⟩ => R_extract rfl rfl)) ⟨hbb, hbe, hba, trivial⟩ rfl ?_
              refine T_takeA (i := 13) rfl rfl (by kernel_rfl) (by kernel_rfl) (by kernel_rfl) (Y_of (fun _ ⟨hbb, hbe, hba, _⟩ => R_extract rfl rfl)) ⟨hbb, hbe, hba, trivial⟩ rfl ?_
              refine T_all (rs := [15]) (by kernel_rfl) rfl (all1 (O_one rfl ?_))
              refine L_stA (vs := [.int .i64 (((fdec ((body.drop a).take ((a + (leftN a)) - a)) (e % 4294967296)).1.1 : Nat) : Int), .int .u32 ((e % 4294967296 : Nat) : Int), .slice A_7 (((fdec ((body.drop a).take ((a + (leftN a)) - a)) (e % 4294967296)).1.2).length) c_4]) rfl rfl rfl sz43 rfl hb11 rfl ?_
              intro w24 hb12 hs23 hz13
              replace hB := gb_trg hB hs23 ge8
              replace hbk := hbk.grown hs23 (ne_lt lt29)
              replace hbb := hbb.grown hs23 (ne_lt lt30)
              replace hbe := hbe.grown hs23 (ne_lt lt31)
              replace hbB := hbB.grown hs23 (ne_lt lt32)
              replace hbO := hbO.grown hs23 (ne_lt lt33)
              replace hL := hL.blk hb11 hs23
              replace hJ := hJa _ _ _ _ _ hJ hb11 (by omega) hs23
              replace hba := hba.grown hs23 (ne_lt lt34)
              replace hbj := hbj.grown hs23 (ne_lt lt35)
              replace ho := own_other ho hb11 rfl hs23
              replace hS_3 := hS_3.other hb11 rfl rfl hs23
              replace ho4 := own_other ho4 hb11 rfl hs23
              replace hlo4 := Nat.le_trans hlo4 hs23.size
              refine L_nil (N_then ⟨fun hN_ => ⟨hbb, hbe, hba, trivial⟩, ?_⟩)
              refine T_takeA (i := 16) rfl rfl (by kernel_rfl) (by kernel_rfl) (by kernel_rfl) (Y_of (fun _ ⟨hbb, hbe, hba, _⟩ => R_assign rfl)) ⟨hbb, hbe, hba, trivial⟩ rfl ?_
              refine T_takeA (i := 17) rfl rfl (by kernel_rfl) (by kernel_rfl) (by kernel_rfl) (Y_of (fun _ ⟨hbb, hbe, hba, _⟩ => R_assign rfl)) ⟨hbb, hbe, hba, trivial⟩ rfl ?_
              refine T_done (by kernel_rfl) (CalmE.normal ?_)
              exact ⟨rfl, .inl ⟨_, g5, A_7, c_4, Ac_frg ⟨rfl, rfl, rfl, rfl, rfl, rfl, rfl, rfl, rfl, rfl, rfl, rfl, rfl, rfl, rfl, rfl, rfl, trivial⟩, hB, hbk, hbb, hbe, hbB, hbO, hL, hJ, hba, hbj, ho, (own_lo ho4 ge9), hb12, ge8, lt29, lt30, lt31, lt32, lt33, lt34, lt35, h6⟩⟩
            · refine L_call rfl cb22 (dec_n (bs := (body.drop a).take ((a + (leftN a)) - a)) (ep := (e % 4294967296)) hS_3 (by simp only [List.length_take, List.length_drop]; omega) (by simp only [List.length_take, List.length_drop]; omega) (hT.gb hB) (by omega)  h6) rfl ?_
              rintro _ w25 ⟨hs24, rfl⟩
              replace hB := gb_tr hB hs24
              replace hbk := hbk.gb hs24
              replace hbb := hbb.gb hs24
              replace hbe := hbe.gb hs24
              replace hbB := hbB.gb hs24
              replace hbO := hbO.gb hs24
              replace hL := hL.gb hs24
              replace hJ := hJn _ _ hJ hs24
              replace hba := hba.gb hs24
              replace hbj := hbj.gb hs24
              replace ho := own_gb ho hs24
              replace hb11 := hb11.gb hs24
              replace hS_3 := hS_3.gb hs24
              refine L_nil (N_then ⟨fun hN_ => ⟨hbb, hbe, hba, trivial⟩, ?_⟩)
              refine T_takeA (i := 10) rfl rfl (by kernel_rfl) (by kernel_rfl) (by kernel_rfl) (Y_of (fun _ ⟨hbb, hbe, hba, _⟩ => R_move rfl)) ⟨hbb, hbe, hba, trivial⟩ rfl ?_
              refine T_takeA (i := 11) rfl rfl (by kernel_rfl) (by kernel_rfl) (by kernel_rfl) (Y_of (fun _ ⟨hbb, hbe, hba, _⟩ => R_extract rfl rfl)) ⟨hbb, hbe, hba, trivial⟩ rfl ?_
              refine T_takeA (i := 12) rfl rfl (by kernel_rfl) (by kernel_rfl) (by kernel_rfl) (Y_of (fun _ ⟨hbb, hbe, hba, _⟩ => R_extract rfl rfl)) ⟨hbb, hbe, hba, trivial⟩ rfl ?_
              refine T_takeA (i := 13) rfl rfl (by kernel_rfl) (by kernel_rfl) (by kernel_rfl) (Y_of (fun _ ⟨hbb, hbe, hba, _⟩ => R_extract rfl rfl)) ⟨hbb, hbe, hba, trivial⟩ rfl ?_
              refine T_all (rs := [15]) (by kernel_rfl) rfl (all1 (O_one rfl ?_))
              refine L_stA (vs := [.int .i64 0, .int .u32 0, .slice none 0 0]) rfl rfl rfl sz43 rfl hb11 rfl ?_
              intro w26 hb13 hs25 hz14
              replace hB := gb_trg hB hs25 ge8
              replace hbk := hbk.grown hs25 (ne_lt lt29)
              replace hbb := hbb.grown hs25 (ne_lt lt30)
              replace hbe := hbe.grown hs25 (ne_lt lt31)
              replace hbB := hbB.grown hs25 (ne_lt lt32)
              replace hbO := hbO.grown hs25 (ne_lt lt33)
              replace hL := hL.blk hb11 hs25
              replace hJ := hJa _ _ _ _ _ hJ hb11 (by omega) hs25
              replace hba := hba.grown hs25 (ne_lt lt34)
              replace hbj := hbj.grown hs25 (ne_lt lt35)
              replace ho := own_other ho hb11 rfl hs25
              replace hS_3 := hS_3.other hb11 rfl rfl hs25
              refine L_nil (N_then ⟨fun hN_ => ⟨hbb, hbe, hba, trivial⟩, ?_⟩)
              refine T_takeA (i := 16) rfl rfl (by kernel_rfl) (by kernel_rfl) (by kernel_rfl) (Y_of (fun _ ⟨hbb, hbe, hba, _⟩ => R_assign rfl)) ⟨hbb, hbe, hba, trivial⟩ rfl ?_
              refine T_takeA (i := 17) rfl rfl (by kernel_rfl) (by kernel_rfl) (by kernel_rfl) (Y_of (fun _ ⟨hbb, hbe, hba, _⟩ => R_assign rfl)) ⟨hbb, hbe, hba, trivial⟩ rfl ?_
              refine T_done (by kernel_rfl) (CalmE.normal ?_)
              exact ⟨rfl, .inr (⟨_, g5, Ac_frg ⟨rfl, rfl, rfl, rfl, rfl, rfl, rfl, rfl, rfl, rfl, rfl, rfl, rfl, rfl, rfl, rfl, rfl, trivial⟩, hB, hbk, hbb, hbe, hbB, hbO, hL, hJ, hba, hbj, ho, hb13, ge8, lt29, lt30, lt31, lt32, lt33, lt34, lt35, h6⟩)⟩
        · clear hB
          clear hbk hbb hbe hbB hbO hL hJ hba hbj ho
          rintro a_ w27 (⟨σ_, g1, A_2, c_1, rfl, hB, hbk, hbb, hbe, hbB, hbO, hL, hJ, hba, hbj, ho, hj1, hj2, ge10, lt36, lt37, lt38, lt39, lt40, lt41, lt42, h7⟩ | ⟨σ_, g2, rfl, hB, hbk, hbb, hbe, hbB, hbO, hL, hJ, hba, hbj, ho, hj3, ge11, lt43, lt44, lt45, lt46, lt47, lt48, lt49, h8⟩)
          · refine N_then (C_seq (C_seq (C_reg rfl ?_)))
            refine L_run (R_move rfl) rfl ?_
            refine L_run (R_eqv (R_neq rfl rfl) (v' := .bool false) rfl) rfl ?_
            refine L_run (R_move rfl) rfl ?_
            refine L_yes rfl rfl rfl rfl ?_
            refine L_run (R_load1 rfl scl47 (hbk.cell (i := 0) rfl)) rfl ?_
            refine L_yes rfl rfl rfl rfl ?_
            refine L_run (R_load1 rfl scl3 (hba.cell (i := 0) rfl)) rfl ?_
            refine L_yes rfl rfl rfl rfl ?_
            refine L_run (R_load1 rfl scl3 (hba.cell (i := 0) rfl)) rfl ?_
            refine L_yes rfl rfl rfl rfl ?_
            refine L_run (R_move rfl) rfl ?_
            refine L_yes rfl rfl rfl rfl ?_
            refine L_run (R_add64 rfl rfl (by first | omega | (have h_ := acc_bnd hbl ha (by assumption); omega))) rfl ?_
            refine L_yes rfl rfl rfl rfl ?_
            refine L_call rfl cb21 (cov_ok (ok := oks) (a := a) (b := (a + ((fdec ((body.drop a).take ((a + (leftN a)) - a)) (e % 4294967296)).2.1))) (Blk.sli (m := 0) hbO)) rfl ?_
            rintro _ w28 ⟨hs26, rfl⟩
            replace hB := gb_tr hB hs26
            replace hbk := hbk.gb hs26
            replace hbb := hbb.gb hs26
            replace hbe := hbe.gb hs26
            replace hbB := hbB.gb hs26
            replace hbO := hbO.gb hs26
            replace hL := hL.gb hs26
            replace hJ := hJn _ _ hJ hs26
            replace hba := hba.gb hs26
            replace hbj := hbj.gb hs26
            replace ho := own_gb ho hs26
            replace hj1 := own_gb hj1 hs26
            replace hj2 := hj2.gb hs26
            refine L_yes rfl rfl rfl rfl ?_
            refine L_run (R_not rfl) rfl ?_
            refine L_run (R_pickF rfl rfl rfl) rfl ?_
            refine L_run (R_move rfl) rfl ?_
            refine L_split (!(covN oks (min a 832) (min (a + ((fdec ((body.drop a).take ((a + (leftN a)) - a)) (e % 4294967296)).2.1)) 832))) (fun h9 => ?_) (fun h9 => ?_)
            · refine L_no rfl rfl rfl h9 rfl ?_
              refine L_no rfl rfl rfl h9 rfl ?_
              refine L_no rfl rfl rfl h9 rfl ?_
              refine L_no rfl rfl rfl h9 rfl ?_
              refine L_no rfl rfl rfl h9 rfl ?_
              refine L_no rfl rfl rfl h9 rfl ?_
              refine L_no rfl rfl rfl h9 rfl ?_
              refine L_run (R_pickT rfl h9 rfl) rfl ?_
              refine L_nil (N_then (C_condT rfl rfl (C_ret (R_then (R_in (R_then (R_in ?_)))))))
              refine ret0 Tryd.results20 ?_
              exact ⟨hB, .inl ⟨by rw [← hX]; exact from_none (acc_unc2 hbl (by omega) h7 (by simpa using h9)), hL, hJ⟩⟩
            · refine L_yes rfl rfl rfl h9 ?_
              refine L_run (R_move rfl) rfl ?_
              refine L_yes rfl rfl rfl h9 ?_
              refine L_run (R_loadA (vs := [.int .i64 (((fdec ((body.drop a).take ((a + (leftN a)) - a)) (e % 4294967296)).1.1 : Nat) : Int), .int .u32 ((e % 4294967296 : Nat) : Int), .slice A_2 (((fdec ((body.drop a).take ((a + (leftN a)) - a)) (e % 4294967296)).1.2).length) c_1]) rfl agg43 (At.pre (hj2.at_ 0) rfl) rfl) rfl ?_
              refine L_yes rfl rfl rfl h9 ?_
              refine L_run (R_load1 rfl scl3 (hba.cell (i := 0) rfl)) rfl ?_
              refine L_yes rfl rfl rfl h9 ?_
              refine L_run (R_move rfl) rfl ?_
              refine L_yes rfl rfl rfl h9 ?_
              refine L_run (R_eqv (R_add64 rfl rfl (by first | omega | (have h_ := acc_bnd hbl ha (by assumption); omega))) (v' := .int .i64 ((a + ((fdec ((body.drop a).take ((a + (leftN a)) - a)) (e % 4294967296)).2.1) : Nat) : Int)) (congrArg _ (by omega))) rfl ?_
              refine L_yes rfl rfl rfl h9 ?_
              have hbd := acc_bnd hbl ha h7
              have hac := acc_yes hbl ha h2 h7 (by simpa using h9)
              refine L_yield rfl rfl (hy _ a fu (fdec ((body.drop a).take ((a + (leftN a)) - a)) (e % 4294967296)).1.1 (fdec ((body.drop a).take ((a + (leftN a)) - a)) (e % 4294967296)).2.1 o bs (fdec ((body.drop a).take ((a + (leftN a)) - a)) (e % 4294967296)).1.2 _ _ _ _ _ hB hL hJ ⟨hba, hbk, hbb, hbe, hbB, hbO⟩ hbj ho (own_lo hj1 (Nat.le_refl _)) hac hbd.2.1 hbd.1 (by omega) hbs hX (by omega)) rfl ?_
              rintro v9 w9 ⟨hB, ⟨hba, hbk, hbb, hbe, hbB, hbO⟩, ⟨rfl, hJ, o9, bs9, A9, c9, hL, hbj, ho, hbs9, hX9⟩ | ⟨rfl, hSt⟩⟩
              · refine L_yes rfl rfl rfl h9 ?_
                refine L_run (R_not rfl) rfl ?_
                refine L_run (R_pickF rfl h9 rfl) rfl ?_
                refine L_nil (N_then (C_condF rfl rfl (C_skip (N_then (C_reg rfl ?_)))))
                refine L_run (R_load1 rfl scl3 (hba.cell (i := 0) rfl)) rfl ?_
                refine L_run (R_move rfl) rfl ?_
                refine L_run (R_add64 rfl rfl (by first | omega | (have h_ := acc_bnd hbl ha (by assumption); omega))) rfl ?_
                refine L_call rfl cb24 (begin_ok (n := (a + ((fdec ((body.drop a).take ((a + (leftN a)) - a)) (e % 4294967296)).2.1))) (by first | omega | (simp; done) | (simp; omega))) rfl ?_
                rintro _ w29 ⟨hs27, rfl⟩
                replace hB := gb_tr hB hs27
                replace hba := hba.gb hs27
                replace hbk := hbk.gb hs27
                replace hbb := hbb.gb hs27
                replace hbe := hbe.gb hs27
                replace hbB := hbB.gb hs27
                replace hbO := hbO.gb hs27
                replace hbj := hbj.gb hs27
                replace ho := own_gb ho hs27
                replace hL := hL.gb hs27
                replace hJ := hJn _ _ hJ hs27
                refine L_st1 rfl rfl rfl sz3 hba rfl ?_
                intro w30 hb14 hs28 hz15
                replace hB := gb_trg hB hs28 ga0
                replace hbk := hbk.grown hs28 (ne_gt l5)
                replace hbb := hbb.grown hs28 (ne_gt l4)
                replace hbe := hbe.grown hs28 (ne_lt l1)
                replace hbB := hbB.grown hs28 (ne_gt l2)
                replace hbO := hbO.grown hs28 (ne_gt l3)
                replace hbj := hbj.grown hs28 (ne_lt l6)
                replace ho := own_other ho hba rfl hs28
                replace hL := hL.blk hba hs28
                replace hJ := hJa _ _ _ _ _ hJ hba (by omega) hs28
                refine L_nil (N_in (N_then ?_))
                have hbg := begin_go (a := a) (n := (fdec ((body.drop a).take ((a + (leftN a)) - a)) (e % 4294967296)).2.1) (by omega) (by omega)
                exact ⟨832 - (beginN (a + ((fdec ((body.drop a).take ((a + (leftN a)) - a)) (e % 4294967296)).2.1))), by omega, _, (beginN (a + ((fdec ((body.drop a).take ((a + (leftN a)) - a)) (e % 4294967296)).2.1))), (fu - 1), o9, bs9, A9, c9, Ac_frg ⟨rfl, rfl, rfl, rfl, rfl, trivial⟩, hB, hbk, hbb, hbe, hbB, hbO, hL, hJ, hb14, hbj, ho, hbg.2, (leftN_le hbg.2), hbs9, hX9, (by omega), rfl⟩
              · refine L_yes rfl rfl rfl h9 ?_
                refine L_run (R_not rfl) rfl ?_
                refine L_run (R_pickF rfl h9 rfl) rfl ?_
                refine L_nil (N_then (C_condT rfl rfl (C_ret (R_then (R_in (R_then (R_in ?_)))))))
                refine ret0 Tryd.results20 ?_
                exact ⟨hB, .inr hSt⟩
          · refine N_then (C_seq (C_seq (C_reg rfl ?_)))
            refine L_run (R_move rfl) rfl ?_
            refine L_run (R_neq rfl rfl) rfl ?_
            refine L_run (R_move rfl) rfl ?_
            refine L_no rfl rfl rfl (decide_eq_true h8) rfl ?_
            refine L_no rfl rfl rfl (decide_eq_true h8) rfl ?_
            refine L_no rfl rfl rfl (decide_eq_true h8) rfl ?_
            refine L_no rfl rfl rfl (decide_eq_true h8) rfl ?_
            refine L_no rfl rfl rfl (decide_eq_true h8) rfl ?_
            refine L_no rfl rfl rfl (decide_eq_true h8) rfl ?_
            refine L_no rfl rfl rfl (decide_eq_true h8) rfl ?_
            refine L_run (R_pickT rfl (decide_eq_true h8) rfl) rfl ?_
            refine L_run (R_move rfl) rfl ?_
            refine L_no rfl rfl rfl rfl rfl ?_
            refine L_no rfl rfl rfl rfl rfl ?_
            refine L_no rfl rfl rfl rfl rfl ?_
            refine L_no rfl rfl rfl rfl rfl ?_
            refine L_no rfl rfl rfl rfl rfl ?_
            refine L_no rfl rfl rfl rfl rfl ?_
            refine L_no rfl rfl rfl rfl rfl ?_
            refine L_run (R_pickT rfl rfl rfl) rfl ?_
            refine L_nil (N_then (C_condT rfl rfl (C_ret (R_then (R_in (R_then (R_in ?_)))))))
            refine ret0 Tryd.results20 ?_
            exact ⟨hB, .inl ⟨by rw [← hX]; exact from_none (acc_err h8), hL, hJ⟩⟩
      · refine C_exit (X_then (X_then (X_hit ?_)))
        refine end0 Tryd.results20 ?_
        exact ⟨hB, .inl ⟨by rw [← hX]; exact from_none (acc_unc h2), hL, hJ⟩⟩
    · refine L_no rfl rfl rfl (decide_eq_false h1) rfl ?_
      refine L_no rfl rfl rfl (decide_eq_false h1) rfl ?_
      refine L_no rfl rfl rfl (decide_eq_false h1) rfl ?_
      refine L_no rfl rfl rfl (decide_eq_false h1) rfl ?_
      refine L_no rfl rfl rfl (decide_eq_false h1) rfl ?_
      refine L_run (R_pickF rfl (decide_eq_false h1) rfl) rfl ?_
      refine L_nil (N_then (C_condF rfl rfl (C_exit (X_then (X_then (X_hit ?_))))))
      refine end0 Tryd.results20 ?_
      exact ⟨hB, .inl ⟨by rw [← hX]; exact from_none (acc_far (by omega)), hL, hJ⟩⟩

end Go.Proofs.YtnggbodilhpohaaDoor
