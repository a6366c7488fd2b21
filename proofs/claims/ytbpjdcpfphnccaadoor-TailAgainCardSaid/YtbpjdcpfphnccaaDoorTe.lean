/-
  Contracts of fragments.
-/
import Derived.Test.YtbpjdcpfphnccaaDoorTd
namespace Go.Proofs.YtbpjdcpfphnccaaDoor
open Go.RowKit Gw Pl
set_option linter.unusedVariables false
set_option linter.unusedSimpArgs false
theorem any90 : anyB Tryd.prog 90 = true := by kernel_rfl
theorem cb54 : callB Tryd.prog 54 = true := by kernel_rfl
theorem cb55 : callB Tryd.prog 55 = true := by kernel_rfl
theorem fld92_0 : fldB Tryd.prog 92 0 0 = true := by kernel_rfl
theorem fld92_1 : fldB Tryd.prog 92 1 1 = true := by kernel_rfl
theorem fld92_2 : fldB Tryd.prog 92 2 2 = true := by kernel_rfl
theorem scl46 : sclB Tryd.prog 46 = true := by kernel_rfl
theorem fright {w : World} {k ep : Int} {A : Option Addr} {n c : Nat} :
    Runs Tryd.prog 60 #[.agg #[.int .i64 k, .int .u32 ep, .slice A n c]] w (fun v w' => w.grownBy w' none ∧ v = .bool (decide (1 ≤ k ∧ k ≤ 4 ∧ n ≤ 197))) := by
  have hB := gb_refl w none
  refine enter Tryd.func60 Tryd.ntmps60 rfl rfl ?_
  refine C_seq (C_reg rfl ?_)
  refine L_box (cs := [.int .i64 k, .int .u32 ep, .slice A n c]) rfl rfl rfl ?_
  intro g1 w1 eg1 hb1 hs1 hz1
  have ge1 : w.heap.size ≤ g1 := eg_ge hB eg1
  replace hB := gb_tr hB hs1
  refine L_run (R_assign rfl) rfl ?_
  refine L_nil (N_then (C_seq (C_reg rfl ?_)))
  refine L_run (R_field (r := 0) rfl fld92_0 rfl) rfl ?_
  refine L_run (R_load1 rfl scl3 (hb1.cell (i := 0) rfl)) rfl ?_
  refine L_run (R_geq rfl rfl) rfl ?_
  refine L_run (R_move rfl) rfl ?_
  refine L_splitD (p := 1 ≤ k) (fun h1 => ?_) (fun h1 => ?_)
  · refine L_yes rfl rfl rfl (decide_eq_true h1) ?_
    refine L_run (R_field (r := 0) rfl fld92_0 rfl) rfl ?_
    refine L_yes rfl rfl rfl (decide_eq_true h1) ?_
    refine L_run (R_load1 rfl scl3 (hb1.cell (i := 0) rfl)) rfl ?_
    refine L_yes rfl rfl rfl (decide_eq_true h1) ?_
    refine L_run (R_leq rfl rfl) rfl ?_
    refine L_run (R_pickT rfl (decide_eq_true h1) rfl) rfl ?_
    refine L_run (R_move rfl) rfl ?_
    refine L_splitD (p := k ≤ 4) (fun h2 => ?_) (fun h2 => ?_)
    · refine L_yes rfl rfl rfl (decide_eq_true h2) ?_
      refine L_run (R_field (r := 2) rfl fld92_2 rfl) rfl ?_
      refine L_yes rfl rfl rfl (decide_eq_true h2) ?_
      refine L_run (R_load1 rfl scl46 (hb1.cell (i := 2) rfl)) rfl ?_
      refine L_yes rfl rfl rfl (decide_eq_true h2) ?_
      refine L_run (R_lenSl rfl slc46) rfl ?_
      refine L_yes rfl rfl rfl (decide_eq_true h2) ?_
      refine L_run (R_leq rfl rfl) rfl ?_
      refine L_run (R_pickT rfl (decide_eq_true h2) rfl) rfl ?_
      refine L_run (R_assign rfl) rfl ?_
      refine L_nil (N_then (C_ret ?_))
      refine ret1 Tryd.results60 rfl ?_
      first
        | (exfalso; omega)
        | (exact ⟨hB, by first | (rw [bF' (by omega)]) | (rw [bT' (by omega)]) | exact bD (by omega)⟩)
    · refine L_no rfl rfl rfl (decide_eq_false h2) rfl ?_
      refine L_no rfl rfl rfl (decide_eq_false h2) rfl ?_
      refine L_no rfl rfl rfl (decide_eq_false h2) rfl ?_
      refine L_no rfl rfl rfl (decide_eq_false h2) rfl ?_
      refine L_run (R_pickF rfl (decide_eq_false h2) rfl) rfl ?_
      refine L_run (R_assign rfl) rfl ?_
      refine L_nil (N_then (C_ret ?_))
      refine ret1 Tryd.results60 rfl ?_
      first
        | (exfalso; omega)
        | (exact ⟨hB, by first | (rw [bF' (by omega)]) | (rw [bT' (by omega)]) | exact bD (by omega)⟩)
  · refine L_no rfl rfl rfl (decide_eq_false h1) rfl ?_
    refine L_no rfl rfl rfl (decide_eq_false h1) rfl ?_
    refine L_no rfl rfl rfl (decide_eq_false h1) rfl ?_
    refine L_run (R_pickF rfl (decide_eq_false h1) rfl) rfl ?_
    refine L_run (R_move rfl) rfl ?_
    refine L_no rfl rfl rfl rfl rfl ?_
    refine L_no rfl rfl rfl rfl rfl ?_
    refine L_no rfl rfl rfl rfl rfl ?_
    refine L_no rfl rfl rfl rfl rfl ?_
    refine L_run (R_pickF rfl rfl rfl) rfl ?_
    refine L_run (R_assign rfl) rfl ?_
    refine L_nil (N_then (C_ret ?_))
    refine ret1 Tryd.results60 rfl ?_
    first
      | (exfalso; omega)
      | (exact ⟨hB, by first | (rw [bF' (by omega)]) | (rw [bT' (by omega)]) | exact bD (by omega)⟩)

theorem bytes13 {w : World} {t1 lo hi : Nat} {A : Option Addr} {c k ep : Nat} {d : List UInt8} (hS : Sli t1 lo hi w A (fl encB d)) (hd : d.length ≤ 197) (hk : k < 256) (hep : ep < 4294967296) :
    Runs Tryd.prog 42 #[.agg #[.int .i64 ((k : Nat) : Int), .int .u32 (ep : Int), .slice A d.length c]] w (fun v w' => w.grownBy w' none ∧ ∃ A' c', v = .slice A' (putN (maskN (moreN 0 (((putN d.length 2 ++ [UInt8.ofNat k]) ++ putN ep 4) ++ d))) 4 ++ (((putN d.length 2 ++ [UInt8.ofNat k]) ++ putN ep 4) ++ d)).length c' ∧ World.ownsRow w' w.heap.size 5 1 (.slice A' (putN (maskN (moreN 0 (((putN d.length 2 ++ [UInt8.ofNat k]) ++ putN ep 4) ++ d))) 4 ++ (((putN d.length 2 ++ [UInt8.ofNat k]) ++ putN ep 4) ++ d)).length c') (putN (maskN (moreN 0 (((putN d.length 2 ++ [UInt8.ofNat k]) ++ putN ep 4) ++ d))) 4 ++ (((putN d.length 2 ++ [UInt8.ofNat k]) ++ putN ep 4) ++ d)).length (fl encB (putN (maskN (moreN 0 (((putN d.length 2 ++ [UInt8.ofNat k]) ++ putN ep 4) ++ d))) 4 ++ (((putN d.length 2 ++ [UInt8.ofNat k]) ++ putN ep 4) ++ d)))) := by
  have hB := gb_refl w none
  replace hS := hS.top
  refine enter Tryd.func42 Tryd.ntmps42 rfl rfl ?_
  refine C_seq (C_reg rfl ?_)
  refine L_box (cs := [.int .i64 ((k : Nat) : Int), .int .u32 (ep : Int), .slice A d.length c]) rfl rfl rfl ?_
  intro g1 w1 eg1 hb1 hs1 hz1
  have ge1 : w.heap.size ≤ g1 := eg_ge hB eg1
  replace hB := gb_tr hB hs1
  replace hS := hS.gb hs1
  refine L_run (R_assign rfl) rfl ?_
  refine L_nil (N_then (C_seq (C_reg rfl ?_)))
  refine L_run (R_field (r := 2) rfl fld92_2 rfl) rfl ?_
  refine L_run (R_load1 rfl scl46 (hb1.cell (i := 2) rfl)) rfl ?_
  refine L_run (R_lenSl rfl slc46) rfl ?_
  refine L_run (R_eqv (R_conv rfl any3 int22) (v' := .int .u64 (d.length : Int)) (congrArg _ (w64n (by omega)))) rfl ?_
  have ge2 : w.heap.size ≤ w1.heap.size := hB.size
  refine L_call rfl cb53 (ref1_put (n := d.length) (k := 2) (by omega) (by first | omega | (unfold maskN; omega))) rfl ?_
  rintro _ w2 ⟨hs2, A_1, c_1, rfl, ho1⟩
  replace hB := gb_tr hB hs2
  replace hS := hS.gb hs2
  replace hb1 := hb1.gb hs2
  have hlo1 : w1.heap.size ≤ w2.heap.size := hs2.size
  refine L_run (R_assign rfl) rfl ?_
  refine L_nil (N_then (C_seq (C_reg rfl ?_)))
  refine L_run (R_move rfl) rfl ?_
  refine L_run (R_field (r := 0) rfl fld92_0 rfl) rfl ?_
  refine L_run (R_load1 rfl scl3 (hb1.cell (i := 0) rfl)) rfl ?_
  refine L_run (R_eqv (R_conv rfl any3 int5) (v' := .int .u8 ((UInt8.ofNat k).toNat : Int)) (u8_of _ hk)) rfl ?_
  refine L_buildSlice (pv := [(0, .int .u8 ((UInt8.ofNat k).toNat : Int))]) (cs := [.int .u8 ((UInt8.ofNat k).toNat : Int)]) slc46 zer5 rfl rfl (by kernel_rfl) rfl ?_
  intro g2 w3 eg2 hb2 hs3 hz2
  have ge3 : w.heap.size ≤ g2 := eg_ge hB eg2
  have lt1 : g1 < g2 := lt_of_eg hb1.lt eg2
  have hap1 : ∀ k_, (Value.slice A_1 (putN d.length 2).length c_1).ownBlock = some k_ → k_ ≠ g2 := fun k_ hk => by have h_ := (World.ownsRow.lt ho1 k_ hk).2; omega
  replace hB := gb_tr hB hs3
  replace hS := hS.gb hs3
  replace hb1 := hb1.gb hs3
  replace ho1 := own_gb ho1 hs3
  replace hlo1 := Nat.le_trans hlo1 hs3.size
  refine T_append (xs := putN d.length 2) (ys := [(UInt8.ofNat k)]) EncB slc46 rfl rfl ho1 (Blk.sli (m := 0) hb2) (by simp only [List.length_append, putN_len, List.length_cons, List.length_nil]; omega) hlo1 rfl ?_
  intro A_2 c_2 w4 ho2 hs4 hat1
  replace hB := gb_tro hB ho1 hs4 ge2
  replace hS := hS.grown hs4 (fun k hk => .inr (Nat.le_trans ge2 (World.ownsRow.lt ho1 k hk).1))
  replace hb1 := blk_own hb1 ho1 rfl hs4
  replace hlo1 := Nat.le_trans hlo1 hs4.size
  refine L_run (R_assign rfl) rfl ?_
  refine L_nil (N_then (C_seq (C_reg rfl ?_)))
  refine L_run (R_move rfl) rfl ?_
  refine L_run (R_field (r := 1) rfl fld92_1 rfl) rfl ?_
  refine L_run (R_load1 rfl scl90 (hb1.cell (i := 1) rfl)) rfl ?_
  refine L_run (R_eqv (R_conv rfl any90 int22) (v' := .int .u64 (ep : Int)) (congrArg _ (w64n (by omega)))) rfl ?_
  have ge4 : w.heap.size ≤ w4.heap.size := hB.size
  refine L_call rfl cb53 (ref1_put (n := ep) (k := 4) (by omega) (by first | omega | (unfold maskN; omega))) rfl ?_
  rintro _ w5 ⟨hs5, A_3, c_3, rfl, ho3⟩
  replace hB := gb_tr hB hs5
  replace hS := hS.gb hs5
  replace hb1 := hb1.gb hs5
  replace hlo1 := Nat.le_trans hlo1 hs5.size
  replace ho2 := own_gb ho2 hs5
  have hlo2 : w4.heap.size ≤ w5.heap.size := hs5.size
  refine T_append (xs := (putN d.length 2) ++ ([(UInt8.ofNat k)])) (ys := putN ep 4) EncB slc46 rfl rfl ho2 (own_of ho3).2.2 (by simp only [List.length_append, putN_len, List.length_cons, List.length_nil]; omega) hlo1 rfl ?_
  intro A_4 c_4 w6 ho4 hs6 hat2
  replace hB := gb_tro hB ho2 hs6 ge2
  replace hS := hS.grown hs6 (fun k hk => .inr (Nat.le_trans ge2 (World.ownsRow.lt ho2 k hk).1))
  replace hb1 := blk_own hb1 ho2 rfl hs6
  replace hlo1 := Nat.le_trans hlo1 hs6.size
  replace hlo2 := Nat.le_trans hlo2 hs6.size
  refine L_run (R_assign rfl) rfl ?_
  refine L_nil (N_then (C_seq (C_reg rfl ?_)))
  refine L_run (R_move rfl) rfl ?_
  refine L_run (R_field (r := 2) rfl fld92_2 rfl) rfl ?_
  refine L_run (R_load1 rfl scl46 (hb1.cell (i := 2) rfl)) rfl ?_
  refine T_append (xs := ((putN d.length 2) ++ ([(UInt8.ofNat k)])) ++ (putN ep 4)) (ys := d) EncB slc46 rfl rfl ho4 hS (by simp only [List.length_append, putN_len, List.length_cons, List.length_nil]; omega) hlo1 rfl ?_
  intro A_5 c_5 w7 ho5 hs7 hat3
  replace hB := gb_tro hB ho4 hs7 ge2
  replace hS := hS.grown hs7 (fun k hk => .inr (Nat.le_trans ge2 (World.ownsRow.lt ho4 k hk).1))
  replace hb1 := blk_own hb1 ho4 rfl hs7
  replace hlo1 := Nat.le_trans hlo1 hs7.size
  replace hlo2 := Nat.le_trans hlo2 hs7.size
  refine L_run (R_assign rfl) rfl ?_
  refine L_nil (N_then (C_seq (C_reg rfl ?_)))
  refine L_run (R_move rfl) rfl ?_
  refine L_call rfl cb55 (of3 (bs := (((putN d.length 2) ++ ([(UInt8.ofNat k)])) ++ (putN ep 4)) ++ d) (own_of ho5).2.2 (by simp only [List.length_append, putN_len, List.length_cons, List.length_nil]; omega)) rfl ?_
  rintro _ w8 ⟨hs8, rfl⟩
  replace hB := gb_tr hB hs8
  replace hS := hS.gb hs8
  replace hb1 := hb1.gb hs8
  replace hlo1 := Nat.le_trans hlo1 hs8.size
  replace hlo2 := Nat.le_trans hlo2 hs8.size
  replace ho5 := own_gb ho5 hs8
  refine L_call rfl cb54 (mask3 (s := (moreN 0 ((((putN d.length 2) ++ ([(UInt8.ofNat k)])) ++ (putN ep 4)) ++ d))) (moreN_lt _ _ (by decide))) rfl ?_
  rintro _ w9 ⟨hs9, rfl⟩
  replace hB := gb_tr hB hs9
  replace hS := hS.gb hs9
  replace hb1 := hb1.gb hs9
  replace hlo1 := Nat.le_trans hlo1 hs9.size
  replace hlo2 := Nat.le_trans hlo2 hs9.size
  replace ho5 := own_gb ho5 hs9
  refine L_run (R_eqv (R_conv rfl any90 int22) (v' := .int .u64 ((maskN (moreN 0 (((putN d.length 2 ++ [UInt8.ofNat k]) ++ putN ep 4) ++ d)) : Nat) : Int)) (congrArg _ (w64n (by unfold maskN; omega)))) rfl ?_
  have ge5 : w.heap.size ≤ w9.heap.size := hB.size
  refine L_call rfl cb53 (ref1_put (n := (maskN (moreN 0 (((putN d.length 2 ++ [UInt8.ofNat k]) ++ putN ep 4) ++ d)))) (k := 4) (by omega) (by first | omega | (unfold maskN; omega))) rfl ?_
  rintro _ w10 ⟨hs10, A_6, c_6, rfl, ho6⟩
  replace hB := gb_tr hB hs10
  replace hS := hS.gb hs10
  replace hb1 := hb1.gb hs10
  replace hlo1 := Nat.le_trans hlo1 hs10.size
  replace hlo2 := Nat.le_trans hlo2 hs10.size
  replace ho5 := own_gb ho5 hs10
  have hlo3 : w9.heap.size ≤ w10.heap.size := hs10.size
  refine L_run (R_move rfl) rfl ?_
  refine T_append (xs := putN (maskN (moreN 0 (((putN d.length 2 ++ [UInt8.ofNat k]) ++ putN ep 4) ++ d))) 4) (ys := (((putN d.length 2) ++ ([(UInt8.ofNat k)])) ++ (putN ep 4)) ++ d) EncB slc46 rfl rfl ho6 (own_of ho5).2.2 (by simp only [List.length_append, putN_len, List.length_cons, List.length_nil]; omega) hlo3 rfl ?_
  intro A_7 c_7 w11 ho7 hs11 hat4
  replace hB := gb_tro hB ho6 hs11 ge5
  replace hS := hS.grown hs11 (fun k hk => .inr (Nat.le_trans ge5 (World.ownsRow.lt ho6 k hk).1))
  replace hb1 := blk_own hb1 ho6 rfl hs11
  replace hlo1 := Nat.le_trans hlo1 hs11.size
  replace hlo2 := Nat.le_trans hlo2 hs11.size
  replace hlo3 := Nat.le_trans hlo3 hs11.size
  refine L_run (R_assign rfl) rfl ?_
  refine L_nil (N_then (C_ret ?_))
  refine ret1 Tryd.results42 rfl ?_
  exact ⟨hB, _, _, rfl, (own_lo ho7 ge5)⟩

def encZ (n : Int) : List Value := [.int .i64 n]
theorem EncZ : Enc encZ 1 := ⟨fun _ => rfl, fun _ => rfl⟩
/-- Rows of bytes within a row, each in memory of its own kind. -/
def DeepY (t : Nat) (w : World) (ls : List Bys) : Prop := ∀ y ∈ ls, Sli t 0 w.heap.size w y.a (fl encB y.xs)
section
variable {t : Nat} {w w' : World} {ls : List Bys}
theorem DeepY.nil : DeepY t w [] := fun y hy => by cases hy
theorem DeepY.gb (h : DeepY t w ls) (hg : w.grownBy w' none) : DeepY t w' ls := fun y hy => sli_zero ((h y hy).gb hg)
theorem DeepY.other {g t' : Nat} {cs : List Value} (h : DeepY t w ls) (hb : Blk w g t' cs) (h0 : Nat.beq t 0 = false) (hne : Nat.beq t t' = false) (hg : w.grownBy w' (some g)) : DeepY t w' ls := fun y hy => sli_zero ((h y hy).other hb h0 hne hg)
theorem DeepY.otherO {base t' sz m : Nat} {v : Value} {us : List Value} (h : DeepY t w ls) (ho : w.ownsRow base t' sz v m us) (h0 : Nat.beq t 0 = false) (hne : Nat.beq t t' = false) (hg : w.grownBy w' v.ownBlock) : DeepY t w' ls := fun y hy => sli_zero ((h y hy).otherO ho h0 hne hg)
theorem DeepY.snoc {y : Bys} {lo hi : Nat} (h : DeepY t w ls) (h1 : Sli t lo hi w y.a (fl encB y.xs)) : DeepY t w (ls ++ [y]) := by
  intro z hz
  rcases List.mem_append.1 hz with hz | hz
  · exact h z hz
  · rw [List.mem_singleton] at hz
    subst hz
    exact sli_zero h1
theorem DeepY.get (h : DeepY t w ls) {i : Nat} (hi' : i < ls.length) : Sli t 0 w.heap.size w ls[i].a (fl encB ls[i].xs) := h _ (List.getElem_mem _)
end

end Go.Proofs.YtbpjdcpfphnccaaDoor
