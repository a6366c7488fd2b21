/-
  Contracts of the package fold: what batches come to.
-/
import Derived.Test.YtbmohojdlgedpaaHl
namespace Go.Proofs.Ytbmohojdlgedpaa
open Go.RowKit Gw Pl
set_option linter.unusedVariables false
set_option linter.unusedSimpArgs false
theorem cb30 : callB Try.prog 30 = true := by kernel_rfl
theorem cb31 : callB Try.prog 31 = true := by kernel_rfl
theorem cb33 : callB Try.prog 33 = true := by kernel_rfl
theorem cb86 : callB Try.prog 86 = true := by kernel_rfl
theorem cb93 : callB Try.prog 93 = true := by kernel_rfl
theorem scl29 : sclB Try.prog 29 = true := by kernel_rfl
theorem scl90 : sclB Try.prog 90 = true := by kernel_rfl
theorem sz29 : szB Try.prog 29 1 = true := by kernel_rfl
theorem zer29 : (Try.prog.info? 29).bind (·.zero) = some (.slice none 0 0) := by kernel_rfl
theorem treeF_lp {T hi L : Nat} {o : Obj} {w w' : World} : ∀ {t : Tr}, TreeF T hi w t → LpF w L o → w.grownBy w' (some L) → TreeF T hi w' t
  | .nil, _, _, _ => trivial
  | .node .., ⟨h1, h2, h3, h4⟩, hL, hs => ⟨h1, h2.lp hL hs, treeF_lp h3 hL hs, treeF_lp h4 hL hs⟩
def TabP (w : World) (gT gt : Nat) (t : Tr) (b : Int) : Prop := Blk w gT 120 [.pointer (some ⟨gt, 0, none⟩), .int .i64 b] ∧ Blk w gt 138 [.pointer (taddr t), .int .i64 (t.kvs.length : Int)] ∧ TreeF 148 w.heap.size w t
theorem kvs_b {ls : List OpsD} {t : Tr} {i : Nat} (h : i < ls.length) (hk : t.kvs = apL (ls.take i)) (hb : opsN ls ≤ 700000) : t.kvs.length + (ls[i]).xs.length ≤ 800000 := by
  have h1 := apL_len (l := ls.take i)
  have h2 := opsN_go h
  rw [hk]
  omega
theorem feach_ok {w : World} {A : Option Addr} {n c : Nat} :
    Runs Try.prog 86 #[.slice A n c] w (fun v_ w' => w.grownBy w' none ∧ ∃ gl, w.heap.size ≤ gl ∧ v_ = .func (.func 93) #[] #[.pointer (some ⟨gl, 0, none⟩)] ∧ Blk w' gl 90 [.slice A n c]) := by
  have hB := gb_refl w none
  refine enter Try.func86 Try.ntmps86 rfl rfl ?_
  refine C_seq (C_reg rfl ?_)
  refine L_box (cs := [.slice A n c]) rfl rfl rfl ?_
  intro g1 w1 eg1 hb1 hs1 hz1
  have ge1 : w.heap.size ≤ g1 := eg_ge hB eg1
  replace hB := gb_tr hB hs1
  refine L_run (R_assign rfl) rfl ?_
  refine L_nil (N_then (C_seq (C_reg rfl ?_)))
  refine L_run (R_makeFunc rfl rfl) rfl ?_
  refine L_run (R_assign rfl) rfl ?_
  refine L_nil (N_then (C_ret ?_))
  refine ret1 Try.results86 rfl ?_
  exact ⟨hB, g1, ge1, rfl, hb1⟩

theorem fe1 {w wa : World} {gl L c : Nat} {A : Option Addr} {ls : List OpsD} {rec : Obj} {J Stop : World → Prop} (hB : w.grownBy wa none) (hL : LpF wa L rec) (hJ : J wa) (hb : opsN ls ≤ 700000) (hb2 : ls.length ≤ 1000000)
    (hJn : ∀ w w', J w → w.grownBy w' none → J w') (hJa : ∀ w w' g T cs, J w → Blk w g T cs → wa.heap.size ≤ g → w.grownBy w' (some g) → J w')
    (hJE : ∀ w', J w' → Blk w' gl 90 [.slice A ls.length c] ∧ Sli 0 0 w'.heap.size w' A (fl encO2 ls) ∧ DeepO w'.heap.size w' ls)
    (hyY : ∀ (w2 : World) (gT gt : Nat) (t : Tr) (by_ : Int) (k_ : Nat), w.grownBy w2 none → LpF w2 L rec → J w2 → TabP w2 gT gt t by_ → wa.heap.size ≤ gT → wa.heap.size ≤ gt → t.kvs = apL (ls.take k_) → t.hok → k_ < ls.length → YieldR Try.prog L [.int .i64 (k_ : Int), .pointer (some ⟨gT, 0, none⟩)] w2 (fun v w3 => v = .bool true ∧ w.grownBy w3 none ∧ LpF w3 L rec ∧ J w3 ∧ TabP w3 gT gt t by_))
    (hyN : ∀ (w2 : World) (gT gt : Nat) (t : Tr) (by_ : Int) (k_ : Nat), w.grownBy w2 none → LpF w2 L rec → J w2 → TabP w2 gT gt t by_ → wa.heap.size ≤ gT → wa.heap.size ≤ gt → t.kvs = apL (ls.take k_) → t.hok → k_ = ls.length → YieldR Try.prog L [.int .i64 (k_ : Int), .pointer (some ⟨gT, 0, none⟩)] w2 (fun v w3 => v = .bool false ∧ w.grownBy w3 none ∧ Stop w3)) :
    Runs Try.prog 93 #[.func (.yield L) #[] #[], .pointer (some ⟨gl, 0, none⟩)] wa (fun _ w' => w.grownBy w' none ∧ Stop w') := by
  have hlt_ : wa.heap.size ≤ wa.heap.size := Nat.le_refl _
  refine enter Try.func93 Try.ntmps93 rfl rfl ?_
  refine C_seq (C_reg rfl ?_)
  have ge3 : w.heap.size ≤ wa.heap.size := hB.size
  refine L_call rfl cb30 (tabnew_ok) rfl ?_
  rintro _ w1 ⟨hs1, g1, g2, ge1, ge2, rfl, hb1, hb2⟩
  have lw1 : wa.heap.size ≤ g1 := Nat.le_trans hlt_ ge1
  have lw2 : wa.heap.size ≤ g2 := Nat.le_trans hlt_ ge2
  replace hB := gb_tr hB hs1
  replace hJ := hJn _ _ hJ hs1
  replace hL := hL.gb hs1
  replace hlt_ := Nat.le_trans hlt_ hs1.size
  refine L_run (R_assign rfl) rfl ?_
  refine L_nil (N_then (C_seq (C_seq (C_reg rfl ?_))))
  refine L_run (R_move rfl) rfl ?_
  refine L_run (R_move rfl) rfl ?_
  have hgT_ : wa.heap.size ≤ g1 := by omega
  have hgt_ : wa.heap.size ≤ g2 := by omega
  rcases Nat.lt_or_ge 0 ls.length with hkl | hkl
  · refine L_yield rfl rfl (hyY _ g1 g2 Tr.nil 0 0 hB hL hJ ⟨hb1, hb2, TreeF.nil⟩ hgT_ hgt_ (show ([] : List Kv) = apL (ls.take 0) from rfl) trivial hkl) rfl ?_
    rintro v9 w9 ⟨rfl, hB, hL, hJ, ⟨hbT, hbt, hT⟩⟩
    have hlt_ : wa.heap.size ≤ w9.heap.size := Nat.le_trans hgT_ (Nat.le_of_lt hbT.lt)
    refine L_run (R_not rfl) rfl ?_
    refine L_nil (N_then (C_condF rfl rfl (C_skip (N_then (C_seq (C_reg rfl ?_))))))
    obtain ⟨hbl, -, -⟩ := hJE _ hJ
    refine L_run (R_load1 rfl scl90 (hbl.cell (i := 0) rfl)) rfl ?_
    refine L_run (R_lenSl rfl slc90) rfl ?_
    refine L_run (R_move rfl) rfl ?_
    refine L_nil (N_then (C_block ?_))
    refine C_loop (fun m_ a_ w_ => ∃ (σ_ : Nat → Value) (tr : Tr) (by_ : Int) (i : Nat), a_ = Ac 28 σ_ [] [(0, .func (.yield L) #[] #[]), (1, .pointer (some ⟨gl, 0, none⟩)), (3, .pointer (some ⟨g1, 0, none⟩)), (11, .slice A ls.length c), (12, .int .i64 (ls.length : Int)), (13, .int .i64 (i : Int))] ∧ w.grownBy w_ none ∧ J w_ ∧ LpF w_ L rec ∧ wa.heap.size ≤ w_.heap.size ∧ Blk w_ g1 120 [.pointer (some ⟨g2, 0, none⟩), .int .i64 by_] ∧ Blk w_ g2 138 [.pointer (taddr tr), .int .i64 (tr.kvs.length : Int)] ∧ TreeF 148 w_.heap.size w_ tr ∧ (tr.kvs = apL (ls.take i)) ∧ (tr.hok) ∧ (i < ls.length) ∧ ls.length - i = m_) (ls.length - 0) ?_ ?_
    · exact ⟨_, Tr.nil, 0, 0, Ac_frg ⟨rfl, rfl, rfl, rfl, rfl, (agr rfl (by first | rfl | (congr 1; omega) | (congr 1; simp; done) | (congr 1; simp only [IntKind.wrap_u64, IntKind.wrap_i64, IntKind.wrap_u8]; omega) | (congr 1 <;> omega))), trivial⟩, hB, hJ, hL, hlt_, hbT, hbt, TreeF.nil, rfl, trivial, hkl, rfl⟩
    · clear hB
      clear hJ hL hlt_ hbT hbt hT
      rintro m_ a_ w2 ⟨σ_, tr, by_, i, rfl, hB, hJ, hL, hlt_, hbT, hbt, hT, hkv, hok_, hi_, rfl⟩
      refine C_seq (C_reg rfl ?_)
      refine L_run (R_lss rfl rfl) rfl ?_
      refine L_nil (N_then (C_seq ?_))
      refine C_if rfl (fun h1 => ?_) (fun h1 => ?_)
      · refine C_skip (N_then (C_seq (C_block (C_seq (C_reg rfl ?_)))))
        refine L_run (R_move rfl) rfl ?_
        have hlt : i < ls.length := by omega
        obtain ⟨-, hSx, -⟩ := hJE _ hJ
        have htb := kvs_b hlt hkv hb
        have hsx : SortK tr.kvs := by rw [hkv]; exact apL_sort
        have hl1 : i < ls.length := by first | omega | (simp; omega)
        refine T_index (xs := ls) (i := i) EncO2 rfl rfl (by first | rfl | omega) slc90 hl1 hSx rfl ?_
        intro g3 o1 ha1
        refine L_run (R_load1 rfl scl80 (ha1 0 _ rfl)) rfl ?_
        refine L_run (R_assign rfl) rfl ?_
        refine L_run (R_assign rfl) rfl ?_
        refine L_nil (N_then (C_seq (C_reg rfl ?_)))
        refine L_run (R_move rfl) rfl ?_
        refine L_run (R_move rfl) rfl ?_
        have hlo1 : w.heap.size ≤ w2.heap.size := hB.size
        have hBz_ := hB.size
        refine L_call rfl cb31 (tabapply_ok (l := (ls[i]).xs) (J := (fun w_ => J w_ ∧ LpF w_ L rec ∧ wa.heap.size ≤ w_.heap.size ∧ True)) hbT hbt hT hsx hok_ hB (Nat.le_trans ge3 ge1) (Nat.le_trans ge3 ge2) htb ⟨hJ, hL, hlt_, trivial⟩ (by rintro w_ w2_ ⟨hJ, hL, hlt_, _⟩ hs_; replace hJ := hJn _ _ hJ hs_; replace hL := hL.gb hs_; replace hlt_ := Nat.le_trans hlt_ hs_.size; exact ⟨hJ, hL, hlt_, trivial⟩) (by rintro w_ w2_ cs_ ⟨hJ, hL, hlt_, _⟩ hb_ hs_; replace hJ := hJa _ _ _ _ _ hJ hb_ (by omega) hs_; replace hL := hL.blk hb_ hs_; replace hlt_ := Nat.le_trans hlt_ hs_.size; exact ⟨hJ, hL, hlt_, trivial⟩) (by rintro w_ w2_ cs_ ⟨hJ, hL, hlt_, _⟩ hb_ hs_; replace hJ := hJa _ _ _ _ _ hJ hb_ (by omega) hs_; replace hL := hL.blk hb_ hs_; replace hlt_ := Nat.le_trans hlt_ hs_.size; exact ⟨hJ, hL, hlt_, trivial⟩) (by rintro w_ w2_ g_ cs_ ⟨hJ, hL, hlt_, _⟩ hb_ hg_ hs_; replace hJ := hJa _ _ _ _ _ hJ hb_ (by omega) hs_; replace hL := hL.blk hb_ hs_; replace hlt_ := Nat.le_trans hlt_ hs_.size; exact ⟨hJ, hL, hlt_, trivial⟩) (by rintro w_ ⟨hJ, hL, hlt_, _⟩; exact Sli.any ((hJE _ hJ).2.2.getX (i := i) hlt))) rfl ?_
        rintro _ w3 ⟨hB, ⟨hJ, hL, hlt_, _⟩, nn1, tr1, by1, rfl, hb3, hb4, ht1, hkv1, hok1⟩
        refine L_nil (N_then (C_seq (C_reg rfl ?_)))
        refine L_run (R_move rfl) rfl ?_
        refine L_run (R_move rfl) rfl ?_
        refine L_run (R_add64 rfl rfl (by omega)) rfl ?_
        refine L_run (R_move rfl) rfl ?_
        have hgT_ : wa.heap.size ≤ g1 := by omega
        have hgt_ : wa.heap.size ≤ g2 := by omega
        have hkn : tr1.kvs = apL (ls.take (i + 1)) := by rw [apL_go hlt, ← hkv]; exact hkv1
        rcases Nat.lt_or_ge (i + 1) ls.length with hkl | hkl
        · refine L_yield rfl rfl (hyY _ g1 g2 tr1 by1 (i + 1) hB hL hJ ⟨hb3, hb4, ht1.top⟩ hgT_ hgt_ hkn hok1 hkl) rfl ?_
          rintro v9 w9 ⟨rfl, hB, hL, hJ, ⟨hbT, hbt, hT⟩⟩
          have hlt_ : wa.heap.size ≤ w9.heap.size := Nat.le_trans hgT_ (Nat.le_of_lt hbT.lt)
          refine L_run (R_not rfl) rfl ?_
          refine L_nil (N_then (C_condF rfl rfl (C_skip (N_in (N_then (C_reg rfl ?_))))))
          refine L_run (R_add64 rfl rfl (by omega)) rfl ?_
          refine L_run (R_move rfl) rfl ?_
          refine L_nil (N_then ?_)
          exact ⟨ls.length - (i + 1), by omega, _, tr1, by1, (i + 1), Ac_frg ⟨rfl, rfl, rfl, rfl, rfl, (agr rfl (by first | rfl | (congr 1; omega) | (congr 1; simp; done) | (congr 1; simp only [IntKind.wrap_u64, IntKind.wrap_i64, IntKind.wrap_u8]; omega) | (congr 1 <;> omega))), trivial⟩, hB, hJ, hL, hlt_, hbT, hbt, hT.top, hkn, hok1, hkl, rfl⟩
        · have hke : (i + 1) = ls.length := by omega
          refine L_yield rfl rfl (hyN _ g1 g2 tr1 by1 (i + 1) hB hL hJ ⟨hb3, hb4, ht1.top⟩ hgT_ hgt_ hkn hok1 hke) rfl ?_
          rintro v9 w9 ⟨rfl, hB, hSt⟩
          refine L_run (R_not rfl) rfl ?_
          refine L_nil (N_then (C_condT rfl rfl (C_ret (R_in (R_then (R_then (R_in ?_)))))))
          refine ret0 Try.results93 ?_
          exact ⟨hB, hSt⟩
      · refine C_exit (X_then (X_then (X_hit ?_)))
        refine end0 Try.results93 ?_
        exfalso; omega
  · have hke : 0 = ls.length := by omega
    refine L_yield rfl rfl (hyN _ g1 g2 Tr.nil 0 0 hB hL hJ ⟨hb1, hb2, TreeF.nil⟩ hgT_ hgt_ (show ([] : List Kv) = apL (ls.take 0) from rfl) trivial hke) rfl ?_
    rintro v9 w9 ⟨rfl, hB, hSt⟩
    refine L_run (R_not rfl) rfl ?_
    refine L_nil (N_then (C_condT rfl rfl (C_ret (R_then ?_))))
    refine ret0 Try.results93 ?_
    exact ⟨hB, hSt⟩

theorem fafter_ok {w : World} {t1 lo hi : Nat} {A : Option Addr} {c : Nat} {ls : List OpsD} (hS : Sli t1 lo hi w A (fl encO2 ls)) (hD : DeepO w.heap.size w ls) (hbo : opsN ls ≤ 700000) (hbn : ls.length ≤ 1000000) :
    Runs Try.prog 71 #[.slice A ls.length c, .int .i64 (ls.length : Int)] w (fun v_ w' => w.grownBy w' none ∧ ∃ A' c', v_ = .slice A' (apL ls).length c' ∧ World.ownsRow w' w.heap.size 75 2 (.slice A' (apL ls).length c') (apL ls).length (fl encK (apL ls))) := by
  have hB := gb_refl w none
  replace hS := hS.top
  refine enterM Try.func71 Try.ntmps71 rfl rfl ?_
  refine C_seq (C_reg rfl ?_)
  refine L_box (cs := [.int .i64 (ls.length : Int)]) rfl rfl rfl ?_
  intro g1 w1 eg1 hb1 hs1 hz1
  have ge1 : w.heap.size ≤ g1 := eg_ge hB eg1
  replace hB := gb_tr hB hs1
  replace hS := hS.gb hs1
  replace hD := hD.gb hs1
  refine L_alloc (cs := [.slice none 0 0]) zer29 rfl rfl ?_
  intro g2 w2 eg2 hb2 hs2 hz2
  have ge2 : w.heap.size ≤ g2 := eg_ge hB eg2
  have lt1 : g1 < g2 := lt_of_eg hb1.lt eg2
  replace hB := gb_tr hB hs2
  replace hS := hS.gb hs2
  replace hD := hD.gb hs2
  replace hb1 := hb1.gb hs2
  refine L_nil (N_then (C_seq (C_reg rfl ?_)))
  refine L_run (R_load1 rfl scl3 (hb1.cell (i := 0) rfl)) rfl ?_
  refine L_run (R_move rfl) rfl ?_
  refine L_run (R_lenSl rfl slc90) rfl ?_
  refine L_run (R_min2 rfl rfl) rfl ?_
  refine L_run (R_eqv (R_max2 rfl rfl) (v' := .int .i64 (ls.length : Int)) ((congrArg _ (by omega)))) rfl ?_
  refine L_st1 rfl rfl rfl sz3 hb1 rfl ?_
  intro w3 hb3 hs3 hz3
  replace hB := gb_trg hB hs3 ge1
  replace hS := hS.old hs3 ge1
  replace hD := hD.old hs3 ge1
  replace hb2 := hb2.grown hs3 (ne_gt lt1)
  refine L_nil (N_then (C_seq (C_seq (C_reg rfl ?_))))
  refine L_run (R_move rfl) rfl ?_
  have ge3 : w.heap.size ≤ w3.heap.size := hB.size
  refine L_call rfl cb86 (feach_ok (A := A) (n := ls.length) (c := c)) rfl ?_
  rintro _ w4 ⟨hs4, gl, gl0, rfl, hbl⟩
  have lt2 : g1 < gl := Nat.lt_of_lt_of_le hb3.lt gl0
  have lt3 : g2 < gl := Nat.lt_of_lt_of_le hb2.lt gl0
  replace hB := gb_tr hB hs4
  replace hS := hS.gb hs4
  replace hD := hD.gb hs4
  replace hb3 := hb3.gb hs4
  replace hb2 := hb2.gb hs4
  refine L_nil (N_then (C_block ?_))
  refine W_frg (l' := [(3, .pointer (some ⟨g1, 0, none⟩)), (4, .pointer (some ⟨g2, 0, none⟩)), (13, .func (.func 93) #[] #[.pointer (some ⟨gl, 0, none⟩)])]) ⟨rfl, rfl, rfl, trivial⟩ (fun σ9 => ?_)
  refine C_range2 (fs := []) (cs := [.pointer (some ⟨gl, 0, none⟩)]) rfl cb93 (fun fn9 D L w8 rec hrec eD eL hD8 hL hs8 => ?_)
  have gD : w.heap.size ≤ D := eg_ge hB eD
  have gL : w.heap.size ≤ L := by have := hB.size; omega
  have hsz8 := hs8.size
  replace hB := gb_tr hB hs8
  replace hS := hS.gb hs8
  replace hD := hD.gb hs8
  replace hb3 := hb3.gb hs8
  replace hb2 := hb2.gb hs8
  replace hbl := hbl.gb hs8
  have hBz_ := hB.size
  have lt4 := hb3.lt
  have lt5 := hb2.lt
  have lt6 := hbl.lt
  have hB8_ := hB.size
  refine (fe1 (L := L) (rec := rec) (J := (fun w_ => Sli t1 lo w.heap.size w_ A (fl encO2 ls) ∧ DeepO w.heap.size w_ ls ∧ Blk w_ g1 3 [.int .i64 (ls.length : Int)] ∧ Blk w_ g2 29 [.slice none 0 0] ∧ Blk w_ gl 90 [.slice A ls.length c] ∧ LpF w_ D (.deferred (some [])) ∧ True)) (Stop := fun w_ => LpF w_ L (recSt rec .done (some .ret)) ∧ (∃ A_ c_, Blk w_ g2 29 [.slice A_ (apL ls).length c_] ∧ World.ownsRow w_ w.heap.size 75 2 (.slice A_ (apL ls).length c_) (apL ls).length (fl encK (apL ls))) ∧ LpF w_ D (.deferred (some []))) hB hL ⟨hS, hD, hb3, hb2, hbl, hD8, trivial⟩ hbo hbn (by rintro w_ w2_ ⟨hS, hD, hb3, hb2, hbl, hD8, _⟩ hs_; replace hS := hS.gb hs_; replace hD := hD.gb hs_; replace hb3 := hb3.gb hs_; replace hb2 := hb2.gb hs_; replace hbl := hbl.gb hs_; replace hD8 := hD8.gb hs_; exact ⟨hS, hD, hb3, hb2, hbl, hD8, trivial⟩) (by rintro w_ w2_ g_ T_ cs_ ⟨hS, hD, hb3, hb2, hbl, hD8, _⟩ hb_ hg_ hs_; replace hS := hS.old hs_ (by omega); replace hD := hD.old hs_ (by omega); replace hb3 := hb3.grown hs_ (by intro e; injection e; omega); replace hb2 := hb2.grown hs_ (by intro e; injection e; omega); replace hbl := hbl.grown hs_ (by intro e; injection e; omega); replace hD8 := hD8.blk hb_ hs_; exact ⟨hS, hD, hb3, hb2, hbl, hD8, trivial⟩) (by rintro w_ ⟨hS, hD, hb3, hb2, hbl, hD8, _⟩; exact ⟨hbl, Sli.any hS, hD.top⟩) ?_ ?_).mono ?_
  · intro w7 gT gt t7 by7 k7 hB hL hJ hT7 hgT hgt hkv hok hk7
    obtain ⟨hS, hD, hb3, hb2, hbl, hD8, _⟩ := hJ
    obtain ⟨hbT, hbt, hTt⟩ := hT7
    have gT0 : w.heap.size ≤ gT := by omega
    have gt0 : w.heap.size ≤ gt := by omega
    subst hrec
    refine yield_round2 hL rfl rfl ?_
    refine C_seq (C_reg rfl ?_)
    refine L_run (R_assign rfl) rfl ?_
    refine L_nil (N_then (C_reg rfl ?_))
    refine L_run (R_assign rfl) rfl ?_
    refine L_nil (N_then ?_)
    refine ⟨hL, fun w6 hs6 hL6 => ?_⟩
    replace hB := gb_trg hB hs6 gL
    replace hS := hS.lp hL hs6
    replace hD := hD.old hs6 gL
    replace hb3 := hb3.lp hL hs6
    replace hb2 := hb2.lp hL hs6
    replace hbl := hbl.lp hL hs6
    replace hD8 := hD8.grown hs6 (by intro e_; injection e_; omega)
    replace hbT := hbT.lp hL hs6
    replace hbt := hbt.lp hL hs6
    replace hTt := treeF_lp hTt hL hs6
    replace hL := hL6
    refine C_block (C_seq (C_reg rfl ?_))
    refine L_run (R_move rfl) rfl ?_
    refine L_run (R_load1 rfl scl3 (hb3.cell (i := 0) rfl)) rfl ?_
    refine L_run (R_eql rfl rfl) rfl ?_
    refine L_nil (N_then (C_condF rfl (decide_eq_false (by omega)) (C_skip (N_in ?_))))
    refine rd_n hL (fun w5 hs5 hL5 => ?_)
    replace hB := gb_trg hB hs5 gL
    replace hS := hS.lp hL hs5
    replace hD := hD.old hs5 gL
    replace hb3 := hb3.lp hL hs5
    replace hb2 := hb2.lp hL hs5
    replace hbl := hbl.lp hL hs5
    replace hD8 := hD8.grown hs5 (by intro e_; injection e_; omega)
    replace hbT := hbT.lp hL hs5
    replace hbt := hbt.lp hL hs5
    replace hTt := treeF_lp hTt hL hs5
    exact ⟨rfl, hB, hL5, ⟨hS, hD, hb3, hb2, hbl, hD8, trivial⟩, ⟨hbT, hbt, hTt.top⟩⟩
  · intro w7 gT gt t7 by7 k7 hB hL hJ hT7 hgT hgt hkv hok hk7
    obtain ⟨hS, hD, hb3, hb2, hbl, hD8, _⟩ := hJ
    obtain ⟨hbT, hbt, hTt⟩ := hT7
    have gT0 : w.heap.size ≤ gT := by omega
    have gt0 : w.heap.size ≤ gt := by omega
    subst hrec
    have hsx : SortK t7.kvs := by rw [hkv, List.take_of_length_le (by omega)]; exact apL_sort
    have hkv9 : t7.kvs = apL ls := by rw [hkv, List.take_of_length_le (by omega)]
    have hkx : ∀ p ∈ t7.kvs, p.1.size ≤ 1000000 := by rw [hkv9]; exact apL_key
    have hcx : t7.kvs.length ≤ 1000000 := by rw [hkv9]; exact Nat.le_trans apL_len (by omega)
    refine yield_round2 hL rfl rfl ?_
    refine C_seq (C_reg rfl ?_)
    refine L_run (R_assign rfl) rfl ?_
    refine L_nil (N_then (C_reg rfl ?_))
    refine L_run (R_assign rfl) rfl ?_
    refine L_nil (N_then ?_)
    refine ⟨hL, fun w6 hs6 hL6 => ?_⟩
    replace hB := gb_trg hB hs6 gL
    replace hS := hS.lp hL hs6
    replace hD := hD.old hs6 gL
    replace hb3 := hb3.lp hL hs6
    replace hb2 := hb2.lp hL hs6
    replace hbl := hbl.lp hL hs6
    replace hD8 := hD8.grown hs6 (by intro e_; injection e_; omega)
    replace hbT := hbT.lp hL hs6
    replace hbt := hbt.lp hL hs6
    replace hTt := treeF_lp hTt hL hs6
    replace hL := hL6
    refine C_block (C_seq (C_reg rfl ?_))
    refine L_run (R_move rfl) rfl ?_
    refine L_run (R_load1 rfl scl3 (hb3.cell (i := 0) rfl)) rfl ?_
    refine L_run (R_eql rfl rfl) rfl ?_
    refine L_nil (N_then (C_condT rfl (decide_eq_true (by omega)) (C_seq (C_reg rfl ?_))))
    refine L_run (R_move rfl) rfl ?_
    have ge4 : w.heap.size ≤ w6.heap.size := hB.size
    refine L_call rfl cb33 (tabpairs_ok (t := t7) hbT hbt hTt hsx hkx hcx) rfl ?_
    rintro _ w5 ⟨hs5, A_1, c_1, rfl, ho1⟩
    replace hB := gb_tr hB hs5
    replace hS := hS.gb hs5
    replace hD := hD.gb hs5
    replace hb3 := hb3.gb hs5
    replace hb2 := hb2.gb hs5
    replace hbl := hbl.gb hs5
    replace hD8 := hD8.gb hs5
    replace hL := hL.gb hs5
    replace hbT := hbT.gb hs5
    replace hbt := hbt.gb hs5
    replace hTt := hTt.gb hs5
    refine L_st1 rfl rfl rfl sz29 hb2 rfl ?_
    intro w6 hb4 hs6 hz4
    replace hB := gb_trg hB hs6 ge2
    replace hS := hS.old hs6 ge2
    replace hD := hD.old hs6 ge2
    replace hb3 := hb3.grown hs6 (ne_lt lt1)
    replace hbl := hbl.grown hs6 (ne_gt lt3)
    replace hD8 := hD8.blk hb2 hs6
    replace hL := hL.blk hb2 hs6
    replace hbT := hbT.grown hs6 (ne_ty hbT hb2 rfl)
    replace hbt := hbt.grown hs6 (ne_ty hbt hb2 rfl)
    replace hTt := hTt.other hb2 rfl hs6
    replace ho1 := own_other ho1 hb2 rfl hs6
    refine L_nil (N_then (C_ret (R_in ?_)))
    refine rd_r hL (fun w5 hs5 hL5 => ?_)
    replace hB := gb_trg hB hs5 gL
    replace hS := hS.lp hL hs5
    replace hD := hD.old hs5 gL
    replace hb3 := hb3.lp hL hs5
    replace hb4 := hb4.lp hL hs5
    replace hbl := hbl.lp hL hs5
    replace hD8 := hD8.grown hs5 (by intro e_; injection e_; omega)
    replace hbT := hbT.lp hL hs5
    replace hbt := hbt.lp hL hs5
    replace hTt := treeF_lp hTt hL hs5
    replace ho1 := own_lp ho1 hL hs5
    exact ⟨rfl, hB, hL5, ⟨_, _, (by rw [← hkv9]; exact hb4), (by rw [← hkv9]; exact (own_lo ho1 ge4))⟩, hD8⟩
  · rintro v9 w9 ⟨hB, hL, ⟨A9, c9, hc4, hoP⟩, hD9⟩
    subst hrec
    refine ⟨.done, some .ret, hL, (by intro e_; cases e_), fun w4 hs4 => ?_⟩
    replace hB := gb_trg hB hs4 gL
    replace hc4 := hc4.lp hL hs4
    replace hoP := own_lp hoP hL hs4
    replace hD9 := hD9.grown hs4 (by intro e_; injection e_; omega)
    refine C_ret (R_in (R_then ?_))
    refine leaveM2 (.inr rfl) hD9 (fun w99 hs99 => ?_)
    replace hB := gb_trg hB hs99 gD
    replace hc4 := hc4.lp hD9 hs99
    replace hoP := own_lp hoP hD9 hs99
    refine rv1 (.inr rfl) Try.results71 (rvC (v := .slice A9 ((apL ls).length) c9) rfl scl29 (hc4.cell (i := 0) rfl)) ?_
    exact ⟨hB, _, _, rfl, (own_lo hoP (Nat.le_refl _))⟩

end Go.Proofs.Ytbmohojdlgedpaa
