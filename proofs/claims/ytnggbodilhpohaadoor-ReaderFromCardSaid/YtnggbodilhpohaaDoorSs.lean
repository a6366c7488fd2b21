/-
  A plain call of the law ReaderFrom; sectors as arguments.
-/
import Derived.Test.YtnggbodilhpohaaDoorSw
import Derived.Test.YtnggbodilhpohaaDoorGr
namespace Go.Proofs.YtnggbodilhpohaaDoor
open Go.RowKit Gw Pl
set_option linter.unusedVariables false
set_option linter.unusedSimpArgs false
theorem cb5 : callB Tryd.prog 5 = true := by kernel_rfl
theorem cb8 : callB Tryd.prog 8 = true := by kernel_rfl
section
variable {H : Type} {enc : TypeId × Value → H} {P : Program} {W : World}
theorem Rdr.arrB {t e : TypeId} (ht : P.underlying t = some (.array 64 e)) (he : P.underlying e = some (.int .u8)) (hc : P.cellsOf e = 1) (hct : P.cellsOf t = 64) : Rdr enc P W t encX (fun _ => True) := by
  intro fuel cs x h hw
  obtain ⟨xs, m, rfl, rfl, hl, hx, hi⟩ := DataW.trod_array ht h
  rw [hct] at hl
  have key : ∀ i, i < 64 → ∃ b : UInt8, cs[i]? = some (.int .u8 (b.toNat : Int)) := by
    intro i hi'
    have h1 := hi i hi'
    rw [hc, List.getElem?_eq_getElem (by omega), Nat.mul_one] at h1
    obtain ⟨n, e0, _, w0⟩ := DataW.trod_int he h1
    have e2 : cs[i]? = some (.int .u8 n) := by
      have h2 := congrArg (fun l : List Value => l[0]?) e0
      simpa using h2
    have e3 := byte_of n w0
    simp only [encB, List.cons.injEq, and_true] at e3
    exact ⟨_, e2.trans (congrArg some e3)⟩
  obtain ⟨ys, hys, hyy⟩ := list_of_lt key
  refine ⟨⟨ys, hys⟩, ?_, trivial⟩
  show cs = fl encB ys
  refine List.ext_getElem? fun i => ?_
  rcases Nat.lt_or_ge i ys.length with h2 | h2
  · rw [hyy i _ (List.getElem?_eq_getElem h2), fl_atB h2]
  · rw [List.getElem?_eq_none (by omega), List.getElem?_eq_none (by rw [flB_len]; exact h2)]
end
theorem wfu {n : Int} (h : (Lit.int .u64 n).wf = true) : ∃ q : Nat, n = (q : Int) ∧ q < 18446744073709551616 := by
  simp [Lit.wf] at h
  have e1 : IntKind.u64.min = 0 := rfl
  have e2 : IntKind.u64.max = 18446744073709551615 := rfl
  exact ⟨n.toNat, by omega, by omega⟩
theorem halfT {w w' : World} (h : ∃ T fz, w.heap[0]? = some (.cells tblV.toArray T fz)) (hb : w.grownBy w' none) : ∃ T fz, w'.heap[0]? = some (.cells tblV.toArray T fz) := by
  obtain ⟨T, fz, h⟩ := h
  exact ⟨T, fz, (hb.block 0 (Array.getElem?_eq_some_iff.1 h).1 (by simp)).trans h⟩
theorem Tbw.of {w : World} (h : ∃ T fz, w.heap[0]? = some (.cells tblV.toArray T fz)) : Tbw w := by
  obtain ⟨T, fz, h⟩ := h
  exact ⟨[], T, fz, by simpa using h⟩
theorem awk {ss : List Sx} (h : bsOf ss = secsN 3 [[97], [98, 99]]) : fromR ss 3 12 = some ([98, 99], 25) := by
  unfold fromR
  rw [h]
  decide +kernel
theorem from_good {w : World} {t1 lo hi : Nat} {A : Option Addr} {c e en : Nat} {z : Int} {d : List UInt8} {ss : List Sx} (hS : Sli t1 lo hi w A (fl encX ss)) (he : e < 18446744073709551616) (hT : Tbw w) (hX : fromR ss e z = some (d, en)) :
    Runs Tryd.prog 5 #[.int .u64 (e : Int), .slice A ss.length c, .int .i64 z] w (fun v w' => w.grownBy w' none ∧ ∃ A' c', v = .tuple #[.slice A' d.length c', .int .i64 (en : Int), .bool true] ∧ World.ownsRow w' w.heap.size 5 1 (.slice A' d.length c') d.length (fl encB d)) :=
  (from_ok hS he hT).mono fun v w' h => by rw [hX] at h; exact h
theorem awakeT {w : World} (hW : ∃ T fz, w.heap[0]? = some (.cells tblV.toArray T fz)) :
    Runs Tryd.prog 4 #[] w (fun v w' => w.grownBy w' none ∧ v = .bool true) := by
  have hB := gb_refl w none
  have hT := Tbw.of hW
  refine enter Tryd.func4 Tryd.ntmps4 rfl rfl ?_
  refine C_seq (C_reg rfl ?_)
  refine L_run (R_assign rfl) rfl ?_
  refine L_nil (N_then (C_seq (C_reg rfl ?_)))
  refine L_buildSlice (pv := [(0, .int .u8 97)]) (cs := [.int .u8 97]) slc25 zer5 rfl rfl (by kernel_rfl) rfl ?_
  intro g1 w1 eg1 hb1 hs1 hz1
  have ge1 : w.heap.size ≤ g1 := eg_ge hB eg1
  replace hB := gb_tr hB hs1
  refine L_mark rfl slc25 int5 hb1 rfl ?_
  intro w2 hS_1 hs2 hz2
  replace hB := gb_trg hB hs2 ge1
  have hS_1 : Sli 5 g1 (g1 + 1) w2 (some ⟨g1, 0, none⟩) (fl encB [97]) := hS_1
  refine L_buildSlice (pv := [(0, .int .u8 98), (1, .int .u8 99)]) (cs := [.int .u8 98, .int .u8 99]) slc25 zer5 rfl rfl (by kernel_rfl) rfl ?_
  intro g2 w3 eg2 hb2 hs3 hz3
  have ge2 : w.heap.size ≤ g2 := eg_ge hB eg2
  replace hB := gb_tr hB hs3
  replace hS_1 := hS_1.gb hs3
  refine L_mark rfl slc25 int5 hb2 rfl ?_
  intro w4 hS_2 hs4 hz4
  replace hB := gb_trg hB hs4 ge2
  replace hS_1 := hS_1.grown hs4 (by rintro _ ⟨rfl⟩; omega)
  have hS_2 : Sli 5 g2 (g2 + 1) w4 (some ⟨g2, 0, none⟩) (fl encB [98, 99]) := hS_2
  refine L_buildSlice (pv := [(0, .slice (some ⟨g1, 0, none⟩) 1 1), (1, .slice (some ⟨g2, 0, none⟩) 2 2)]) (cs := [.slice (some ⟨g1, 0, none⟩) 1 1, .slice (some ⟨g2, 0, none⟩) 2 2]) slc28 zer25 rfl rfl (by kernel_rfl) rfl ?_
  intro g3 w5 eg3 hb3 hs5 hz5
  have ge3 : w.heap.size ≤ g3 := eg_ge hB eg3
  replace hB := gb_tr hB hs5
  replace hS_1 := hS_1.gb hs5
  replace hS_2 := hS_2.gb hs5
  have ge4 : w.heap.size ≤ w5.heap.size := hB.size
  refine L_call rfl cb8 (sectors_ok (e := 3) (ls := [(⟨some ⟨g1, 0, none⟩, 1, [97]⟩ : Bys), (⟨some ⟨g2, 0, none⟩, 2, [98, 99]⟩ : Bys)]) (Blk.sli (m := 0) hb3) ((DeepY.nil.snoc (y := (⟨some ⟨g1, 0, none⟩, 1, [97]⟩ : Bys)) hS_1).snoc (y := (⟨some ⟨g2, 0, none⟩, 2, [98, 99]⟩ : Bys)) hS_2) (show 2 ≤ 1000000 by decide) (by intro y hy; simp only [List.mem_cons, List.not_mem_nil, or_false] at hy; rcases hy with rfl | rfl; exact ⟨(show 1 ≤ 1000000 by decide), Nat.le_refl 1⟩; exact ⟨(show 2 ≤ 1000000 by decide), Nat.le_refl 2⟩) (by decide)) rfl ?_
  rintro _ w6 ⟨hs6, ss1, A_1, c_1, rfl, ho1, hw1⟩
  replace hB := gb_tr hB hs6
  replace hS_1 := hS_1.gb hs6
  replace hS_2 := hS_2.gb hs6
  replace hb3 := hb3.gb hs6
  have hlo1 : w5.heap.size ≤ w6.heap.size := hs6.size
  refine L_run (R_move rfl) rfl ?_
  refine L_run (R_extract rfl rfl) rfl ?_
  refine L_run (R_extract rfl rfl) rfl ?_
  refine L_run (R_assign rfl) rfl ?_
  refine L_run (R_assign rfl) rfl ?_
  refine L_nil (N_then (C_seq (C_reg rfl ?_)))
  refine L_run (R_move rfl) rfl ?_
  have ge5 : w.heap.size ≤ w6.heap.size := hB.size
  refine L_call rfl cb5 (from_good (e := 3) (ss := ss1) (z := 12) (d := [98, 99]) (en := 25) (own_of ho1).2.2 (by decide) (hT.gb hB) (awk hw1)) rfl ?_
  rintro _ w7 ⟨hs7, A_2, c_2, rfl, ho2⟩
  replace hB := gb_tr hB hs7
  replace hS_1 := hS_1.gb hs7
  replace hS_2 := hS_2.gb hs7
  replace hb3 := hb3.gb hs7
  replace ho1 := own_gb ho1 hs7
  replace hlo1 := Nat.le_trans hlo1 hs7.size
  have hlo2 : w6.heap.size ≤ w7.heap.size := hs7.size
  refine L_run (R_move rfl) rfl ?_
  refine L_run (R_extract rfl rfl) rfl ?_
  refine L_run (R_extract rfl rfl) rfl ?_
  refine L_run (R_extract rfl rfl) rfl ?_
  refine L_run (R_assign rfl) rfl ?_
  refine L_run (R_assign rfl) rfl ?_
  refine L_run (R_assign rfl) rfl ?_
  refine L_nil (N_then (C_seq (C_reg rfl ?_)))
  refine L_run (R_move rfl) rfl ?_
  refine L_run (R_move rfl) rfl ?_
  refine L_yes rfl rfl rfl rfl ?_
  refine L_run (R_move rfl) rfl ?_
  refine L_yes rfl rfl rfl rfl ?_
  refine L_run (R_b2s' (bs := ([98, 99] : List UInt8)) rfl slc25 int5 str9 (own_of ho2).2.2) rfl ?_
  refine L_yes rfl rfl rfl rfl ?_
  refine L_run (R_eqv (R_eqv (R_eqlS rfl rfl) (v' := .bool (decide (([98, 99] : List UInt8) = [98, 99]))) (bD ba_inj)) (v' := .bool true) (congrArg Value.bool (decide_eq_true rfl))) rfl ?_
  refine L_run (R_pickT rfl rfl rfl) rfl ?_
  refine L_run (R_move rfl) rfl ?_
  refine L_yes rfl rfl rfl rfl ?_
  refine L_run (R_move rfl) rfl ?_
  refine L_yes rfl rfl rfl rfl ?_
  refine L_run (R_eqv (R_eql rfl rfl) (v' := .bool true) rfl) rfl ?_
  refine L_run (R_pickT rfl rfl rfl) rfl ?_
  refine L_run (R_assign rfl) rfl ?_
  refine L_nil (N_then (C_ret ?_))
  refine ret1 Tryd.results4 rfl ?_
  exact ⟨hB, rfl⟩

end Go.Proofs.YtnggbodilhpohaaDoor
