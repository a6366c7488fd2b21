/-
  For every bytes, every operation and every bytes behind it the law OpPuts returns true, and changes nothing that was there.
-/
import Derived.Test.YtnggbodilhpohaaCb
import Derived.Test.YtnggbodilhpohaaVr
import Derived.WalkKit
import Derived.ProofKit
import Derived.OpenShut
import Derived.ShutString
import Derived.ChangeOld
import Derived.Below
import Derived.SizedLaws
namespace Go.Proofs.Ytnggbodilhpohaa.LOpPuts
open Go.RowKit Gw Pl
set_option linter.unusedVariables false
set_option linter.unusedSimpArgs false
theorem boo4 : Try.prog.underlying 4 = some .bool := by kernel_rfl
theorem cb14 : callB Try.prog 14 = true := by kernel_rfl
theorem cb15 : callB Try.prog 15 = true := by kernel_rfl
theorem cb16 : callB Try.prog 16 = true := by kernel_rfl
theorem cb40 : callB Try.prog 40 = true := by kernel_rfl
theorem cb41 : callB Try.prog 41 = true := by kernel_rfl
theorem walk1 {w : World} {A0 : Option Addr} {c0 : Nat} {xs0 : List UInt8} (hS0 : Sli 0 0 w.heap.size w A0 (fl encB xs0)) (hl0 : xs0.length ≤ c0) (hm0 : c0 * 1 ≤ 140737488351232) (hg0 : ∀ x ∈ xs0, True) {o : Opd} (hg1 : GoodOp o) {A2 : Option Addr} {c2 : Nat} {xs2 : List UInt8} (hS2 : Sli 0 0 w.heap.size w A2 (fl encB xs2)) (hl2 : xs2.length ≤ c2) (hm2 : c2 * 1 ≤ 140737488351232) (hg2 : ∀ x ∈ xs2, True) (hok : OkOp o.kind o.key o.val) :
    Runs Try.prog 7 #[.slice A0 xs0.length c0, .agg #[.int .i64 o.kind, .string o.key, .string o.val], .slice A2 xs2.length c2] w (fun v w' => w.grownBy w' none ∧ v = .bool true) := by
  have hB := gb_refl w none
  have hL : (xs0 ++ opEnc o.kind o.key o.val).length = xs0.length + (opEnc o.kind o.key o.val).length := List.length_append
  have hE := opEnc_len hok
  have hok' := hok
  unfold OkOp at hok'
  have hG : oget ((xs0 ++ opEnc o.kind o.key o.val).drop xs0.length ++ xs2) = ((o.kind, o.key, o.val), (opEnc o.kind o.key o.val).length, 0) := by rw [List.drop_left]; exact oget_opEnc _ hok
  refine enter Try.func7 Try.ntmps7 rfl rfl ?_
  refine C_seq (C_reg ?_)
  refine L_box (cs := [.int .i64 o.kind, .string o.key, .string o.val]) rfl rfl rfl ?_
  intro g1 w1 eg1 hb1 hs1 hz1
  have ge1 : w.heap.size ≤ g1 := eg_ge hB eg1
  replace hB := gb_tr hB hs1
  replace hS0 := hS0.gb hs1
  replace hS2 := hS2.gb hs1
  refine L_run (R_assign rfl) rfl ?_
  refine L_nil (N_then (C_seq (C_reg ?_)))
  refine L_run (R_move rfl) rfl ?_
  refine L_run (R_loadA (vs := [.int .i64 o.kind, .string o.key, .string o.val]) rfl agg44 (At.pre (hb1.at_ 0) rfl) rfl) rfl ?_
  have ge2 : w.heap.size ≤ w1.heap.size := hB.size
  refine L_call rfl cb37 (op_Put_ok (bs := xs0) hS0 (by first | omega | (simp; done) | (simp; omega)) hok) rfl ?_
  rintro _ w2 ⟨hs2, A_1, c_1, rfl, ho1⟩
  replace hB := gb_tr hB hs2
  replace hS0 := hS0.gb hs2
  replace hS2 := hS2.gb hs2
  replace hb1 := hb1.gb hs2
  have hlo1 : w1.heap.size ≤ w2.heap.size := hs2.size
  refine L_run (R_move rfl) rfl ?_
  refine L_run (R_extract rfl rfl) rfl ?_
  refine L_run (R_extract rfl rfl) rfl ?_
  refine L_run (R_assign rfl) rfl ?_
  refine L_run (R_assign rfl) rfl ?_
  refine L_nil (N_then (C_seq (C_seq ?_)))
  refine C_draw2 mix ?_
  intro w3 hs3 hz2
  replace hB := gb_tr hB hs3
  replace hS0 := hS0.gb hs3
  replace hS2 := hS2.gb hs3
  replace hb1 := hb1.gb hs3
  replace ho1 := own_gb ho1 hs3
  replace hlo1 := Nat.le_trans hlo1 hs3.size
  refine ⟨fun W_ => Blk W_ g1 44 [.int .i64 o.kind, .string o.key, .string o.val] ∧ True, [0, 2, 4, 5, 6, 8, 9], ?_⟩
  refine T_takeA (i := 0) rfl rfl (by kernel_rfl) (by kernel_rfl) (by kernel_rfl) (Y_of (fun _ ⟨hb1, _⟩ => R_loadA (vs := [.int .i64 o.kind, .string o.key, .string o.val]) rfl agg44 (At.pre (hb1.at_ 0) rfl) rfl)) ⟨hb1, trivial⟩ rfl ?_
  refine T_takeA (i := 2) rfl rfl (by kernel_rfl) (by kernel_rfl) (by kernel_rfl) (Y_of (fun _ ⟨hb1, _⟩ => R_loadA (vs := [.int .i64 o.kind, .string o.key, .string o.val]) rfl agg44 (At.pre (hb1.at_ 0) rfl) rfl)) ⟨hb1, trivial⟩ rfl ?_
  refine T_all (rs := [1]) (by kernel_rfl) rfl (all1 (O_one rfl ?_))
  refine L_call rfl cb38 (op_Right) rfl ?_
  rintro _ w4 ⟨hs4, rfl⟩
  replace hB := gb_tr hB hs4
  replace hS0 := hS0.gb hs4
  replace hS2 := hS2.gb hs4
  replace hb1 := hb1.gb hs4
  replace ho1 := own_gb ho1 hs4
  replace hlo1 := Nat.le_trans hlo1 hs4.size
  refine L_nil (N_then ⟨fun hN_ => ⟨hb1, trivial⟩, ?_⟩)
  refine T_all (rs := [3]) (by kernel_rfl) rfl (all1 (O_one rfl ?_))
  refine L_call rfl cb39 (ref10_Right) rfl ?_
  rintro _ w5 ⟨hs5, rfl⟩
  replace hB := gb_tr hB hs5
  replace hS0 := hS0.gb hs5
  replace hS2 := hS2.gb hs5
  replace hb1 := hb1.gb hs5
  replace ho1 := own_gb ho1 hs5
  replace hlo1 := Nat.le_trans hlo1 hs5.size
  refine L_nil (N_then ⟨fun hN_ => ⟨hb1, trivial⟩, ?_⟩)
  refine T_takeA (i := 4) rfl rfl (by kernel_rfl) (by kernel_rfl) (by kernel_rfl) (Y_of (fun _ ⟨hb1, _⟩ => R_eqv (R_neqB rfl rfl boo4) (v' := .bool false) (by simp))) ⟨hb1, trivial⟩ rfl ?_
  refine T_takeA (i := 5) rfl rfl (by kernel_rfl) (by kernel_rfl) (by kernel_rfl) (Y_of (fun _ ⟨hb1, _⟩ => R_move rfl)) ⟨hb1, trivial⟩ rfl ?_
  refine T_takeA (i := 6) rfl rfl (by kernel_rfl) (by kernel_rfl) (by kernel_rfl) (Y_yes rfl rfl rfl rfl (fun _ ⟨hb1, _⟩ => R_loadA (vs := [.int .i64 o.kind, .string o.key, .string o.val]) rfl agg44 (At.pre (hb1.at_ 0) rfl) rfl)) ⟨hb1, trivial⟩ rfl ?_
  refine T_all (rs := [7]) (by kernel_rfl) rfl (all1 (O_one rfl ?_))
  refine L_yes rfl rfl rfl rfl ?_
  refine L_call rfl cb39 (ref10_Right) rfl ?_
  rintro _ w6 ⟨hs6, rfl⟩
  replace hB := gb_tr hB hs6
  replace hS0 := hS0.gb hs6
  replace hS2 := hS2.gb hs6
  replace hb1 := hb1.gb hs6
  replace ho1 := own_gb ho1 hs6
  replace hlo1 := Nat.le_trans hlo1 hs6.size
  refine L_nil (N_then ⟨fun hN_ => ⟨hb1, trivial⟩, ?_⟩)
  refine T_takeA (i := 8) rfl rfl (by kernel_rfl) (by kernel_rfl) (by kernel_rfl) (Y_yes rfl rfl rfl rfl (fun _ ⟨hb1, _⟩ => R_notD rfl)) ⟨hb1, trivial⟩ rfl ?_
  refine T_takeA (i := 9) rfl rfl (by kernel_rfl) (by kernel_rfl) (by kernel_rfl) (Y_of (fun _ ⟨hb1, _⟩ => R_pickF rfl rfl rfl)) ⟨hb1, trivial⟩ rfl ?_
  refine T_done (by kernel_rfl) (NoPanic.normal ?_)
  refine N_then (C_condF rfl (decide_eq_false (fun hn => hn hok)) (C_skip (N_then (C_seq (C_seq ?_)))))
  refine C_draw2 mix ?_
  intro w7 hs7 hz3
  replace hB := gb_tr hB hs7
  replace hS0 := hS0.gb hs7
  replace hS2 := hS2.gb hs7
  replace hb1 := hb1.gb hs7
  replace ho1 := own_gb ho1 hs7
  replace hlo1 := Nat.le_trans hlo1 hs7.size
  refine ⟨fun W_ => Sli 0 0 w.heap.size W_ A0 (fl encB xs0) ∧ Blk W_ g1 44 [.int .i64 o.kind, .string o.key, .string o.val] ∧ World.ownsRow W_ w1.heap.size 5 1 (.slice A_1 (xs0 ++ opEnc o.kind o.key o.val).length c_1) (xs0 ++ opEnc o.kind o.key o.val).length (fl encB (xs0 ++ opEnc o.kind o.key o.val)) ∧ True, [0, 1, 2, 3, 4, 5, 6, 7, 10, 11, 12], ?_⟩
  refine T_takeA (i := 0) rfl rfl (by kernel_rfl) (by kernel_rfl) (by kernel_rfl) (Y_of (fun _ ⟨hS0, hb1, ho1, _⟩ => R_move rfl)) ⟨hS0, hb1, ho1, trivial⟩ rfl ?_
  refine T_takeA (i := 1) rfl rfl (by kernel_rfl) (by kernel_rfl) (by kernel_rfl) (Y_of (fun _ ⟨hS0, hb1, ho1, _⟩ => R_eqv (R_neq rfl rfl) (v' := .bool false) rfl)) ⟨hS0, hb1, ho1, trivial⟩ rfl ?_
  refine T_takeA (i := 2) rfl rfl (by kernel_rfl) (by kernel_rfl) (by kernel_rfl) (Y_of (fun _ ⟨hS0, hb1, ho1, _⟩ => R_move rfl)) ⟨hS0, hb1, ho1, trivial⟩ rfl ?_
  refine T_takeA (i := 3) rfl rfl (by kernel_rfl) (by kernel_rfl) (by kernel_rfl) (Y_yes rfl rfl rfl rfl (fun _ ⟨hS0, hb1, ho1, _⟩ => R_move rfl)) ⟨hS0, hb1, ho1, trivial⟩ rfl ?_
  refine T_takeA (i := 4) rfl rfl (by kernel_rfl) (by kernel_rfl) (by kernel_rfl) (Y_yes rfl rfl rfl rfl (fun _ ⟨hS0, hb1, ho1, _⟩ => R_b2s' (bs := xs0 ++ opEnc o.kind o.key o.val) rfl slc42 int5 str9 (own_of ho1).2.2)) ⟨hS0, hb1, ho1, trivial⟩ rfl ?_
  refine T_takeA (i := 5) rfl rfl (by kernel_rfl) (by kernel_rfl) (by kernel_rfl) (Y_yes rfl rfl rfl rfl (fun _ ⟨hS0, hb1, ho1, _⟩ => R_move rfl)) ⟨hS0, hb1, ho1, trivial⟩ rfl ?_
  refine T_takeA (i := 6) rfl rfl (by kernel_rfl) (by kernel_rfl) (by kernel_rfl) (Y_yes rfl rfl rfl rfl (fun _ ⟨hS0, hb1, ho1, _⟩ => R_b2s' (bs := xs0) rfl slc42 int5 str9 hS0)) ⟨hS0, hb1, ho1, trivial⟩ rfl ?_
  refine T_takeA (i := 7) rfl rfl (by kernel_rfl) (by kernel_rfl) (by kernel_rfl) (Y_yes rfl rfl rfl rfl (fun _ ⟨hS0, hb1, ho1, _⟩ => R_loadA (vs := [.int .i64 o.kind, .string o.key, .string o.val]) rfl agg44 (At.pre (hb1.at_ 0) rfl) rfl)) ⟨hS0, hb1, ho1, trivial⟩ rfl ?_
  refine T_all (rs := [8]) (by kernel_rfl) rfl (all1 (O_one rfl ?_))
  refine L_yes rfl rfl rfl rfl ?_
  have ge3 : w.heap.size ≤ w7.heap.size := hB.size
  refine L_call rfl cb40 (ref10_Bytes (k := o.kind) (key := o.key) (val := o.val) (by first | omega | (simp; done) | (simp; omega))) rfl ?_
  rintro _ w8 ⟨hs8, A_2, c_2, rfl, ho2⟩
  replace hB := gb_tr hB hs8
  replace hS0 := hS0.gb hs8
  replace hS2 := hS2.gb hs8
  replace hb1 := hb1.gb hs8
  replace ho1 := own_gb ho1 hs8
  replace hlo1 := Nat.le_trans hlo1 hs8.size
  have hlo2 : w7.heap.size ≤ w8.heap.size := hs8.size
  refine L_nil (N_then ⟨fun hN_ => ⟨hS0, hb1, ho1, trivial⟩, ?_⟩)
  refine T_all (rs := [9]) (by kernel_rfl) rfl (all1 (O_one rfl ?_))
  refine L_yes rfl rfl rfl rfl ?_
  refine L_run (R_b2s' (bs := opEnc o.kind o.key o.val) rfl slc42 int5 str9 (own_of ho2).2.2) rfl ?_
  refine L_nil (N_then ⟨fun hN_ => ⟨hS0, hb1, ho1, trivial⟩, ?_⟩)
  refine T_takeA (i := 10) rfl rfl (by kernel_rfl) (by kernel_rfl) (by kernel_rfl) (Y_yes rfl rfl rfl rfl (fun _ ⟨hS0, hb1, ho1, _⟩ => R_addS rfl rfl (by show (List.toArray _).size + (List.toArray _).size ≤ _; simp only [List.size_toArray]; omega))) ⟨hS0, hb1, ho1, trivial⟩ rfl ?_
  refine T_takeA (i := 11) rfl rfl (by kernel_rfl) (by kernel_rfl) (by kernel_rfl) (Y_yes rfl rfl rfl rfl (fun _ ⟨hS0, hb1, ho1, _⟩ => R_eqv (R_neqS rfl rfl) (v' := .bool false) (bF' (fun h => h (ba_app _ _))))) ⟨hS0, hb1, ho1, trivial⟩ rfl ?_
  refine T_takeA (i := 12) rfl rfl (by kernel_rfl) (by kernel_rfl) (by kernel_rfl) (Y_of (fun _ ⟨hS0, hb1, ho1, _⟩ => R_pickF rfl rfl rfl)) ⟨hS0, hb1, ho1, trivial⟩ rfl ?_
  refine T_done (by kernel_rfl) (NoPanic.normal ?_)
  refine N_then (C_condF rfl rfl (C_skip (N_then (C_seq (C_reg ?_)))))
  refine L_buildSlice (pv := []) (cs := []) slc42 zer5 rfl rfl (by kernel_rfl) rfl ?_
  intro g2 w9 eg2 hb2 hs9 hz4
  have ge4 : w.heap.size ≤ g2 := eg_ge hB eg2
  have lt1 : g1 < g2 := lt_of_eg hb1.lt eg2
  replace hB := gb_tr hB hs9
  replace hS0 := hS0.gb hs9
  replace hS2 := hS2.gb hs9
  replace hb1 := hb1.gb hs9
  replace ho1 := own_gb ho1 hs9
  replace hlo1 := Nat.le_trans hlo1 hs9.size
  replace ho2 := own_gb ho2 hs9
  replace hlo2 := Nat.le_trans hlo2 hs9.size
  refine L_run (R_move rfl) rfl ?_
  refine L_run (R_move rfl) rfl ?_
  refine L_run (R_lenSl rfl slc42) rfl ?_
  refine T_slL (xs := xs0 ++ opEnc o.kind o.key o.val) (i := xs0.length) EncB rfl rfl (by first | rfl | omega) slc42 (by first | omega | (simp; done) | (simp; omega)) (own_cap ho1) (own_of ho1).2.2 rfl ?_
  intro A_3 hS_1
  have hlo3 : g2 ≤ w9.heap.size := Nat.le_of_lt hb2.lt
  have ho3 : World.ownsRow w9 g2 5 1 (.slice (some ⟨g2, 0, none⟩) ([] : List UInt8).length 0) ([] : List UInt8).length (fl encB []) := Blk.own (sz := 1) (m := 0) hb2 (by decide) rfl (Nat.le_refl _)
  refine T_append (xs := []) (ys := (xs0 ++ opEnc o.kind o.key o.val).drop xs0.length) EncB slc42 rfl rfl ho3 hS_1 (by first | omega | (simp; done) | (simp; omega)) hlo3 rfl ?_
  intro A_4 c_3 w10 ho4 hs10 hat1
  replace hB := gb_tro hB ho3 hs10 ge4
  replace hS0 := hS0.grown hs10 (fun k hk => .inr (Nat.le_trans ge4 (World.ownsRow.lt ho3 k hk).1))
  replace hS2 := hS2.grown hs10 (fun k hk => .inr (Nat.le_trans ge4 (World.ownsRow.lt ho3 k hk).1))
  replace hb1 := blk_own hb1 ho3 rfl hs10
  replace hlo1 := Nat.le_trans hlo1 hs10.size
  replace hlo2 := Nat.le_trans hlo2 hs10.size
  replace hlo3 := Nat.le_trans hlo3 hs10.size
  simp only [List.nil_append] at ho4 ⊢
  refine L_run (R_move rfl) rfl ?_
  refine T_append (xs := (xs0 ++ opEnc o.kind o.key o.val).drop xs0.length) (ys := xs2) EncB slc42 rfl rfl ho4 hS2 (by first | omega | (simp; done) | (simp; omega)) hlo3 rfl ?_
  intro A_5 c_4 w11 ho5 hs11 hat2
  replace hB := gb_tro hB ho4 hs11 ge4
  replace hS0 := hS0.grown hs11 (fun k hk => .inr (Nat.le_trans ge4 (World.ownsRow.lt ho4 k hk).1))
  replace hS2 := hS2.grown hs11 (fun k hk => .inr (Nat.le_trans ge4 (World.ownsRow.lt ho4 k hk).1))
  replace hb1 := blk_own hb1 ho4 rfl hs11
  replace hlo1 := Nat.le_trans hlo1 hs11.size
  replace hlo2 := Nat.le_trans hlo2 hs11.size
  replace hlo3 := Nat.le_trans hlo3 hs11.size
  refine L_call rfl cb41 (op_Get (bs := (((xs0 ++ opEnc o.kind o.key o.val).drop xs0.length) ++ xs2)) (own_of ho5).2.2 (by first | omega | (simp; done) | (simp; omega)) (own_cap ho5)) rfl ?_
  rintro _ w12 ⟨hs12, rfl⟩
  replace hB := gb_tr hB hs12
  replace hS0 := hS0.gb hs12
  replace hS2 := hS2.gb hs12
  replace hb1 := hb1.gb hs12
  replace hlo1 := Nat.le_trans hlo1 hs12.size
  replace hlo2 := Nat.le_trans hlo2 hs12.size
  replace hlo3 := Nat.le_trans hlo3 hs12.size
  replace ho5 := own_gb ho5 hs12
  refine L_run (R_move rfl) rfl ?_
  refine L_run (R_extract rfl rfl) rfl ?_
  refine L_run (R_extract rfl rfl) rfl ?_
  refine L_run (R_extract rfl rfl) rfl ?_
  refine L_alloc (cs := [.int .i64 0, .string (⟨#[]⟩), .string (⟨#[]⟩)]) zer44 rfl rfl ?_
  intro g3 w13 eg3 hb3 hs13 hz5
  have ge5 : w.heap.size ≤ g3 := eg_ge hB eg3
  have lt2 : g1 < g3 := lt_of_eg hb1.lt eg3
  replace hB := gb_tr hB hs13
  replace hS0 := hS0.gb hs13
  replace hS2 := hS2.gb hs13
  replace hb1 := hb1.gb hs13
  replace hlo1 := Nat.le_trans hlo1 hs13.size
  replace hlo2 := Nat.le_trans hlo2 hs13.size
  replace hlo3 := Nat.le_trans hlo3 hs13.size
  replace ho5 := own_gb ho5 hs13
  refine L_stA (vs := [.int .i64 ((oget (((xs0 ++ opEnc o.kind o.key o.val).drop xs0.length) ++ xs2)).1.1), .string ((oget (((xs0 ++ opEnc o.kind o.key o.val).drop xs0.length) ++ xs2)).1.2.1), .string ((oget (((xs0 ++ opEnc o.kind o.key o.val).drop xs0.length) ++ xs2)).1.2.2)]) rfl rfl rfl sz44 rfl hb3 rfl ?_
  intro w14 hb4 hs14 hz6
  replace hB := gb_trg hB hs14 ge5
  replace hS0 := hS0.old hs14 ge5
  replace hS2 := hS2.old hs14 ge5
  replace hb1 := hb1.grown hs14 (ne_lt lt2)
  replace hlo1 := Nat.le_trans hlo1 hs14.size
  replace hlo2 := Nat.le_trans hlo2 hs14.size
  replace hlo3 := Nat.le_trans hlo3 hs14.size
  replace ho5 := own_other ho5 hb3 rfl hs14
  refine L_run (R_assign rfl) rfl ?_
  refine L_run (R_assign rfl) rfl ?_
  refine L_nil (N_then (C_seq (C_reg ?_)))
  refine L_run (R_loadA (vs := [.int .i64 ((oget (((xs0 ++ opEnc o.kind o.key o.val).drop xs0.length) ++ xs2)).1.1), .string ((oget (((xs0 ++ opEnc o.kind o.key o.val).drop xs0.length) ++ xs2)).1.2.1), .string ((oget (((xs0 ++ opEnc o.kind o.key o.val).drop xs0.length) ++ xs2)).1.2.2)]) rfl agg44 (At.pre (hb4.at_ 0) rfl) rfl) rfl ?_
  refine L_run (R_loadA (vs := [.int .i64 o.kind, .string o.key, .string o.val]) rfl agg44 (At.pre (hb1.at_ 0) rfl) rfl) rfl ?_
  refine L_run (R_eqv (R_eqlA rfl rfl eqg44 (eqs_struct und44 sih44 (eqf_cons (by decide) scl3 rfl rfl (eqs_int int3) (eqf_cons (by decide) scl9 rfl rfl (eqs_str str9) (eqf_cons (by decide) scl9 rfl rfl (eqs_str str9) eqf_nil))))) (v' := .bool true) (bT' (by rw [hG]; exact ⟨rfl, rfl, rfl, trivial⟩))) rfl ?_
  refine L_run (R_move rfl) rfl ?_
  refine L_yes rfl rfl rfl rfl ?_
  refine L_run (R_move rfl) rfl ?_
  refine L_yes rfl rfl rfl rfl ?_
  refine L_run (R_move rfl) rfl ?_
  refine L_yes rfl rfl rfl rfl ?_
  refine L_run (R_lenSl rfl slc42) rfl ?_
  refine L_yes rfl rfl rfl rfl ?_
  refine L_run (R_move rfl) rfl ?_
  refine L_yes rfl rfl rfl rfl ?_
  refine L_run (R_lenSl rfl slc42) rfl ?_
  refine L_yes rfl rfl rfl rfl ?_
  refine L_run (R_sub64 rfl rfl (by omega)) rfl ?_
  refine L_yes rfl rfl rfl rfl ?_
  refine L_run (R_eqv (R_eql rfl rfl) (v' := .bool true) (bT' (by rw [hG, hL]; simp only []; omega))) rfl ?_
  refine L_run (R_pickT rfl rfl rfl) rfl ?_
  refine L_run (R_move rfl) rfl ?_
  refine L_yes rfl rfl rfl rfl ?_
  refine L_run (R_move rfl) rfl ?_
  refine L_yes rfl rfl rfl rfl ?_
  refine L_run (R_eqv (R_eql rfl rfl) (v' := .bool true) (bT' (by rw [hG]))) rfl ?_
  refine L_run (R_pickT rfl rfl rfl) rfl ?_
  refine L_run (R_move rfl) rfl ?_
  refine L_yes rfl rfl rfl rfl ?_
  refine L_call rfl cb16 (awake10) rfl ?_
  rintro _ w15 ⟨hs15, rfl⟩
  replace hB := gb_tr hB hs15
  replace hS0 := hS0.gb hs15
  replace hS2 := hS2.gb hs15
  replace hb1 := hb1.gb hs15
  replace hlo1 := Nat.le_trans hlo1 hs15.size
  replace hlo2 := Nat.le_trans hlo2 hs15.size
  replace hlo3 := Nat.le_trans hlo3 hs15.size
  replace ho5 := own_gb ho5 hs15
  replace hb4 := hb4.gb hs15
  refine L_run (R_pickT rfl rfl rfl) rfl ?_
  refine L_run (R_assign rfl) rfl ?_
  refine L_nil (N_then (C_ret ?_))
  refine ret1 Try.results7 rfl ?_
  exact ⟨hB, rfl⟩

theorem walk2 {w : World} {A0 : Option Addr} {c0 : Nat} {xs0 : List UInt8} (hS0 : Sli 0 0 w.heap.size w A0 (fl encB xs0)) (hl0 : xs0.length ≤ c0) (hm0 : c0 * 1 ≤ 140737488351232) (hg0 : ∀ x ∈ xs0, True) {o : Opd} (hg1 : GoodOp o) {A2 : Option Addr} {c2 : Nat} {xs2 : List UInt8} (hS2 : Sli 0 0 w.heap.size w A2 (fl encB xs2)) (hl2 : xs2.length ≤ c2) (hm2 : c2 * 1 ≤ 140737488351232) (hg2 : ∀ x ∈ xs2, True) (hok : ¬ OkOp o.kind o.key o.val) :
    Runs Try.prog 7 #[.slice A0 xs0.length c0, .agg #[.int .i64 o.kind, .string o.key, .string o.val], .slice A2 xs2.length c2] w (fun v w' => w.grownBy w' none ∧ v = .bool true) := by
  have hB := gb_refl w none
  refine enter Try.func7 Try.ntmps7 rfl rfl ?_
  refine C_seq (C_reg ?_)
  refine L_box (cs := [.int .i64 o.kind, .string o.key, .string o.val]) rfl rfl rfl ?_
  intro g1 w1 eg1 hb1 hs1 hz1
  have ge1 : w.heap.size ≤ g1 := eg_ge hB eg1
  replace hB := gb_tr hB hs1
  replace hS0 := hS0.gb hs1
  replace hS2 := hS2.gb hs1
  refine L_run (R_assign rfl) rfl ?_
  refine L_nil (N_then (C_seq (C_reg ?_)))
  refine L_run (R_move rfl) rfl ?_
  refine L_run (R_loadA (vs := [.int .i64 o.kind, .string o.key, .string o.val]) rfl agg44 (At.pre (hb1.at_ 0) rfl) rfl) rfl ?_
  refine L_call rfl cb37 (op_Put_no (bs := xs0) hS0 (by first | omega | (simp; done) | (simp; omega)) hok) rfl ?_
  rintro _ w2 ⟨hs2, rfl⟩
  replace hB := gb_tr hB hs2
  replace hS0 := hS0.gb hs2
  replace hS2 := hS2.gb hs2
  replace hb1 := hb1.gb hs2
  refine L_run (R_move rfl) rfl ?_
  refine L_run (R_extract rfl rfl) rfl ?_
  refine L_run (R_extract rfl rfl) rfl ?_
  refine L_run (R_assign rfl) rfl ?_
  refine L_run (R_assign rfl) rfl ?_
  refine L_nil (N_then (C_seq (C_seq ?_)))
  refine C_draw2 mix ?_
  intro w3 hs3 hz2
  replace hB := gb_tr hB hs3
  replace hS0 := hS0.gb hs3
  replace hS2 := hS2.gb hs3
  replace hb1 := hb1.gb hs3
  refine ⟨fun W_ => Blk W_ g1 44 [.int .i64 o.kind, .string o.key, .string o.val] ∧ True, [0, 2, 4, 5, 6, 8, 9], ?_⟩
  refine T_takeA (i := 0) rfl rfl (by kernel_rfl) (by kernel_rfl) (by kernel_rfl) (Y_of (fun _ ⟨hb1, _⟩ => R_loadA (vs := [.int .i64 o.kind, .string o.key, .string o.val]) rfl agg44 (At.pre (hb1.at_ 0) rfl) rfl)) ⟨hb1, trivial⟩ rfl ?_
  refine T_takeA (i := 2) rfl rfl (by kernel_rfl) (by kernel_rfl) (by kernel_rfl) (Y_of (fun _ ⟨hb1, _⟩ => R_loadA (vs := [.int .i64 o.kind, .string o.key, .string o.val]) rfl agg44 (At.pre (hb1.at_ 0) rfl) rfl)) ⟨hb1, trivial⟩ rfl ?_
  refine T_all (rs := [1]) (by kernel_rfl) rfl (all1 (O_one rfl ?_))
  refine L_call rfl cb38 (op_Right) rfl ?_
  rintro _ w4 ⟨hs4, rfl⟩
  replace hB := gb_tr hB hs4
  replace hS0 := hS0.gb hs4
  replace hS2 := hS2.gb hs4
  replace hb1 := hb1.gb hs4
  refine L_nil (N_then ⟨fun hN_ => ⟨hb1, trivial⟩, ?_⟩)
  refine T_all (rs := [3]) (by kernel_rfl) rfl (all1 (O_one rfl ?_))
  refine L_call rfl cb39 (ref10_Right) rfl ?_
  rintro _ w5 ⟨hs5, rfl⟩
  replace hB := gb_tr hB hs5
  replace hS0 := hS0.gb hs5
  replace hS2 := hS2.gb hs5
  replace hb1 := hb1.gb hs5
  refine L_nil (N_then ⟨fun hN_ => ⟨hb1, trivial⟩, ?_⟩)
  refine T_takeA (i := 4) rfl rfl (by kernel_rfl) (by kernel_rfl) (by kernel_rfl) (Y_of (fun _ ⟨hb1, _⟩ => R_eqv (R_neqB rfl rfl boo4) (v' := .bool false) (by simp))) ⟨hb1, trivial⟩ rfl ?_
  refine T_takeA (i := 5) rfl rfl (by kernel_rfl) (by kernel_rfl) (by kernel_rfl) (Y_of (fun _ ⟨hb1, _⟩ => R_move rfl)) ⟨hb1, trivial⟩ rfl ?_
  refine T_takeA (i := 6) rfl rfl (by kernel_rfl) (by kernel_rfl) (by kernel_rfl) (Y_yes rfl rfl rfl rfl (fun _ ⟨hb1, _⟩ => R_loadA (vs := [.int .i64 o.kind, .string o.key, .string o.val]) rfl agg44 (At.pre (hb1.at_ 0) rfl) rfl)) ⟨hb1, trivial⟩ rfl ?_
  refine T_all (rs := [7]) (by kernel_rfl) rfl (all1 (O_one rfl ?_))
  refine L_yes rfl rfl rfl rfl ?_
  refine L_call rfl cb39 (ref10_Right) rfl ?_
  rintro _ w6 ⟨hs6, rfl⟩
  replace hB := gb_tr hB hs6
  replace hS0 := hS0.gb hs6
  replace hS2 := hS2.gb hs6
  replace hb1 := hb1.gb hs6
  refine L_nil (N_then ⟨fun hN_ => ⟨hb1, trivial⟩, ?_⟩)
  refine T_takeA (i := 8) rfl rfl (by kernel_rfl) (by kernel_rfl) (by kernel_rfl) (Y_yes rfl rfl rfl rfl (fun _ ⟨hb1, _⟩ => R_notD rfl)) ⟨hb1, trivial⟩ rfl ?_
  refine T_takeA (i := 9) rfl rfl (by kernel_rfl) (by kernel_rfl) (by kernel_rfl) (Y_of (fun _ ⟨hb1, _⟩ => R_pickF rfl rfl rfl)) ⟨hb1, trivial⟩ rfl ?_
  refine T_done (by kernel_rfl) (NoPanic.normal ?_)
  refine N_then (C_condT rfl (decide_eq_true hok) (C_seq ?_))
  refine C_draw2 mix ?_
  intro w7 hs7 hz3
  replace hB := gb_tr hB hs7
  replace hS0 := hS0.gb hs7
  replace hS2 := hS2.gb hs7
  replace hb1 := hb1.gb hs7
  refine ⟨fun W_ => Blk W_ g1 44 [.int .i64 o.kind, .string o.key, .string o.val] ∧ True, [0, 2, 4, 5, 6, 7, 8, 9, 10, 11, 12, 13, 14, 16, 17], ?_⟩
  refine T_takeA (i := 0) rfl rfl (by kernel_rfl) (by kernel_rfl) (by kernel_rfl) (Y_of (fun _ ⟨hb1, _⟩ => R_loadA (vs := [.int .i64 o.kind, .string o.key, .string o.val]) rfl agg44 (At.pre (hb1.at_ 0) rfl) rfl)) ⟨hb1, trivial⟩ rfl ?_
  refine T_takeA (i := 2) rfl rfl (by kernel_rfl) (by kernel_rfl) (by kernel_rfl) (Y_of (fun _ ⟨hb1, _⟩ => R_loadA (vs := [.int .i64 o.kind, .string o.key, .string o.val]) rfl agg44 (At.pre (hb1.at_ 0) rfl) rfl)) ⟨hb1, trivial⟩ rfl ?_
  refine T_all (rs := [1]) (by kernel_rfl) rfl (all1 (O_one rfl ?_))
  refine L_call rfl cb38 (op_Right) rfl ?_
  rintro _ w8 ⟨hs8, rfl⟩
  replace hB := gb_tr hB hs8
  replace hS0 := hS0.gb hs8
  replace hS2 := hS2.gb hs8
  replace hb1 := hb1.gb hs8
  refine L_nil (N_then ⟨fun hN_ => ⟨hb1, trivial⟩, ?_⟩)
  refine T_all (rs := [3]) (by kernel_rfl) rfl (all1 (O_one rfl ?_))
  refine L_call rfl cb39 (ref10_Right) rfl ?_
  rintro _ w9 ⟨hs9, rfl⟩
  replace hB := gb_tr hB hs9
  replace hS0 := hS0.gb hs9
  replace hS2 := hS2.gb hs9
  replace hb1 := hb1.gb hs9
  refine L_nil (N_then ⟨fun hN_ => ⟨hb1, trivial⟩, ?_⟩)
  refine T_takeA (i := 4) rfl rfl (by kernel_rfl) (by kernel_rfl) (by kernel_rfl) (Y_of (fun _ ⟨hb1, _⟩ => R_eqv (R_eqlB rfl rfl boo4) (v' := .bool true) (by simp))) ⟨hb1, trivial⟩ rfl ?_
  refine T_takeA (i := 5) rfl rfl (by kernel_rfl) (by kernel_rfl) (by kernel_rfl) (Y_of (fun _ ⟨hb1, _⟩ => R_move rfl)) ⟨hb1, trivial⟩ rfl ?_
  refine T_takeA (i := 6) rfl rfl (by kernel_rfl) (by kernel_rfl) (by kernel_rfl) (Y_yes rfl rfl rfl rfl (fun _ ⟨hb1, _⟩ => R_move rfl)) ⟨hb1, trivial⟩ rfl ?_
  refine T_takeA (i := 7) rfl rfl (by kernel_rfl) (by kernel_rfl) (by kernel_rfl) (Y_yes rfl rfl rfl rfl (fun _ ⟨hb1, _⟩ => R_eqv (R_eql rfl rfl) (v' := .bool true) rfl)) ⟨hb1, trivial⟩ rfl ?_
  refine T_takeA (i := 8) rfl rfl (by kernel_rfl) (by kernel_rfl) (by kernel_rfl) (Y_of (fun _ ⟨hb1, _⟩ => R_pickT rfl rfl rfl)) ⟨hb1, trivial⟩ rfl ?_
  refine T_takeA (i := 9) rfl rfl (by kernel_rfl) (by kernel_rfl) (by kernel_rfl) (Y_of (fun _ ⟨hb1, _⟩ => R_move rfl)) ⟨hb1, trivial⟩ rfl ?_
  refine T_takeA (i := 10) rfl rfl (by kernel_rfl) (by kernel_rfl) (by kernel_rfl) (Y_yes rfl rfl rfl rfl (fun _ ⟨hb1, _⟩ => R_move rfl)) ⟨hb1, trivial⟩ rfl ?_
  refine T_takeA (i := 11) rfl rfl (by kernel_rfl) (by kernel_rfl) (by kernel_rfl) (Y_yes rfl rfl rfl rfl (fun _ ⟨hb1, _⟩ => R_eqv (R_lenSl rfl slc42) (v' := .int .i64 0) rfl)) ⟨hb1, trivial⟩ rfl ?_
  refine T_takeA (i := 12) rfl rfl (by kernel_rfl) (by kernel_rfl) (by kernel_rfl) (Y_yes rfl rfl rfl rfl (fun _ ⟨hb1, _⟩ => R_eqv (R_eql rfl rfl) (v' := .bool true) rfl)) ⟨hb1, trivial⟩ rfl ?_
  refine T_takeA (i := 13) rfl rfl (by kernel_rfl) (by kernel_rfl) (by kernel_rfl) (Y_of (fun _ ⟨hb1, _⟩ => R_pickT rfl rfl rfl)) ⟨hb1, trivial⟩ rfl ?_
  refine T_takeA (i := 14) rfl rfl (by kernel_rfl) (by kernel_rfl) (by kernel_rfl) (Y_of (fun _ ⟨hb1, _⟩ => R_move rfl)) ⟨hb1, trivial⟩ rfl ?_
  refine T_all (rs := [15]) (by kernel_rfl) rfl (all1 (O_one rfl ?_))
  refine L_yes rfl rfl rfl rfl ?_
  refine L_call rfl cb16 (awake10) rfl ?_
  rintro _ w10 ⟨hs10, rfl⟩
  replace hB := gb_tr hB hs10
  replace hS0 := hS0.gb hs10
  replace hS2 := hS2.gb hs10
  replace hb1 := hb1.gb hs10
  refine L_nil (N_then ⟨fun hN_ => ⟨hb1, trivial⟩, ?_⟩)
  refine T_takeA (i := 16) rfl rfl (by kernel_rfl) (by kernel_rfl) (by kernel_rfl) (Y_of (fun _ ⟨hb1, _⟩ => R_pickT rfl rfl rfl)) ⟨hb1, trivial⟩ rfl ?_
  refine T_takeA (i := 17) rfl rfl (by kernel_rfl) (by kernel_rfl) (by kernel_rfl) (Y_of (fun _ ⟨hb1, _⟩ => R_assign rfl)) ⟨hb1, trivial⟩ rfl ?_
  refine T_done (by kernel_rfl) (NoPanic.normal ?_)
  refine N_then (C_ret (R_then ?_))
  refine ret1 Try.results7 rfl ?_
  exact ⟨hB, rfl⟩

theorem walk {w : World} {A0 : Option Addr} {c0 : Nat} {xs0 : List UInt8} (hS0 : Sli 0 0 w.heap.size w A0 (fl encB xs0)) (hl0 : xs0.length ≤ c0) (hm0 : c0 * 1 ≤ 140737488351232) (hg0 : ∀ x ∈ xs0, True) {o : Opd} (hg1 : GoodOp o) {A2 : Option Addr} {c2 : Nat} {xs2 : List UInt8} (hS2 : Sli 0 0 w.heap.size w A2 (fl encB xs2)) (hl2 : xs2.length ≤ c2) (hm2 : c2 * 1 ≤ 140737488351232) (hg2 : ∀ x ∈ xs2, True) : Runs Try.prog 7 #[.slice A0 xs0.length c0, .agg #[.int .i64 o.kind, .string o.key, .string o.val], .slice A2 xs2.length c2] w (fun v w' => w.grownBy w' none ∧ v = .bool true) := by
  by_cases hok : OkOp o.kind o.key o.val
  · exact walk1 hS0 hl0 hm0 hg0 hg1 hS2 hl2 hm2 hg2 hok
  · exact walk2 hS0 hl0 hm0 hg0 hg1 hS2 hl2 hm2 hg2 hok

open Go.ChangeShapes Go.WideShapes Go.ChangeAt
theorem own : ownKnob Try.prog.godebug = none := by kernel_rfl
theorem laidOut : laidOutB Try.prog = true := by kernel_rfl
set_option maxRecDepth 100000 in
theorem lifted (os : Os) (started : os.Started) (H : Type) (enc : TypeId × Value → H) :
    ReturnsInHanded {} Try.checked os 7 .any (Rows.opPutsSpec.pre6 enc Try.prog Try.f7 Rows.opPutsRow.domain false) (Rows.opPutsSpec.post enc Try.prog Try.f7 false true false false) := by
  refine returnsInHanded_of_change_sized (C := Try.checked) own started (by kernel_rfl) Try.func7
    (ChangeSpec.witness6 (enc := enc) (C := Try.checked) false ⟨#[], #[.slice none 0 0, .agg #[.int .i64 0, .string (⟨#[]⟩), .string (⟨#[]⟩)], .slice none 0 0], []⟩ 8 (by kernel_rfl) (by kernel_rfl) (by kernel_rfl) (by kernel_rfl)) ?_
  intro W base args ds gs before hval0 hW hcnd hsz0 _
  have hsz : (DataW.weightsEach Try.prog (Try.f7.params.toList ++ Rows.opPutsSpec.plain.varTypes Try.prog) (ds ++ gs)).all (· ≤ reachBytes) = true := hsz0
  have hval : ∀ (j : Nat) t v, Try.f7.params[j]? = some t → args[j]? = some v → Value.okWide Try.prog W .any base t v := hval0
  have hW' := hW
  obtain ⟨p, q, hA0, hV, rfl, hfz, hnd⟩ := hW
  have hA : DataW.TrodAll enc Try.prog W 0 (fun _ => true) true Try.f7.params.toList args.toList ds p := hA0
  rw [Try.params7] at hA hval hsz
  obtain ⟨v0, vs0, d0, ds0, p0, q0, hargs, rfl, rfl, h0, r0⟩ := trodAll_cons hA
  obtain ⟨v1, vs1, d1, ds1, p1, q1, rfl, rfl, rfl, h1, r1⟩ := trodAll_cons r0
  obtain ⟨v2, vs2, d2, ds2, p2, q2, rfl, rfl, rfl, h2, r2⟩ := trodAll_cons r1
  obtain ⟨rfl, rfl, rfl⟩ := trodAll_nil r2
  obtain rfl : args = #[v0, v1, v2] := by cases args; simp_all
  obtain ⟨rfl, rfl⟩ := trodVars_none hV
  have lt0 : ∀ x ∈ p0, x.block < W.heap.size := by obtain ⟨m, hm⟩ := h0; exact DataW.trod_lt m _ _ _ hm
  obtain ⟨⟨A0, c0, xs0⟩, e0, hS0, hl0, hm0, hg0⟩ := Rdr.arg (enc := enc) (P := Try.prog) (W := W) (Rdr.slice (ec := encB) (sz := 1) (by_ := 1) ((Rdr.int Try.underlying5).map (fun n => UInt8.ofNat n.toNat) byte_of (good' := fun _ => True) (fun _ _ => trivial)) EncB Try.underlying42 (by kernel_rfl) (by kernel_rfl)) hsz (j := 0) rfl rfl h0
  obtain rfl := of_cell e0 (by intro cs e_; obtain ⟨a_, l_, k_, e2_⟩ := okWide_slice Try.underlying42 (hval 0 42 v0 rfl rfl); rw [e2_] at e_; cases e_)
  have lt1 : ∀ x ∈ p1, x.block < W.heap.size := by obtain ⟨m, hm⟩ := h1; exact DataW.trod_lt m _ _ _ hm
  obtain ⟨o, e1, hg1⟩ := Rdr.arg (enc := enc) (P := Try.prog) (W := W) ((Rdr.struct Try.underlying44 rfl (by kernel_rfl) (Rds.cons (off := 0) (sz := 1) (Rdr.int Try.underlying3) (by kernel_rfl) rfl (by decide) (Rds.cons (off := 1) (sz := 1) (Rdr.str Try.underlying9) (by kernel_rfl) rfl (by decide) (Rds.cons (off := 2) (sz := 1) (Rdr.str Try.underlying9) (by kernel_rfl) rfl (by decide) (Rds.nil))))).map (fun y => (⟨y.1, y.2.1, y.2.2.1⟩ : Opd)) (e' := encOp) (fun _ _ => rfl) (good' := GoodOp) (fun _ h => ⟨h.1, h.2.1, h.2.2.1⟩)) hsz (j := 1) rfl rfl h1
  obtain ⟨cs1, rfl, _⟩ := okWide_struct Try.underlying44 (hval 1 44 v1 rfl rfl)
  obtain rfl := of_agg e1
  have lt2 : ∀ x ∈ p2, x.block < W.heap.size := by obtain ⟨m, hm⟩ := h2; exact DataW.trod_lt m _ _ _ hm
  obtain ⟨⟨A2, c2, xs2⟩, e2, hS2, hl2, hm2, hg2⟩ := Rdr.arg (enc := enc) (P := Try.prog) (W := W) (Rdr.slice (ec := encB) (sz := 1) (by_ := 1) ((Rdr.int Try.underlying5).map (fun n => UInt8.ofNat n.toNat) byte_of (good' := fun _ => True) (fun _ _ => trivial)) EncB Try.underlying42 (by kernel_rfl) (by kernel_rfl)) hsz (j := 2) rfl rfl h2
  obtain rfl := of_cell e2 (by intro cs e_; obtain ⟨a_, l_, k_, e2_⟩ := okWide_slice Try.underlying42 (hval 2 42 v2 rfl rfl); rw [e2_] at e_; cases e_)
  refine (walk (w := W) hS0 hl0 hm0 hg0 hg1 hS2 hl2 hm2 hg2).calls.mono fun e W' ⟨v_, he, hgb, hv_⟩ => ?_
  subst he
  subst hv_
  have bel := gb_below hgb
  exact ⟨_, rfl, _, _, _, [], _, [], hW', trodAll_mk1 (shut_bool Try.underlying4 _), (trodAll_cons_mk (Below.trod laidOut (by kernel_rfl) (of_decide_eq_true (by kernel_rfl)) h0 bel lt0) (trodAll_cons_mk (Below.trod laidOut (by kernel_rfl) (of_decide_eq_true (by kernel_rfl)) h1 bel lt1) (trodAll_cons_mk (Below.trod laidOut (by kernel_rfl) (of_decide_eq_true (by kernel_rfl)) h2 bel lt2) trodAll_mk0))), rfl, bel.frame _, fun h => by cases h⟩
theorem over : Rows.opPutsRow.holds Try.pinned (OpenSpec.ofChange Rows.opPutsSpec) :=
  OpenClaim.holds_of_wide 7 Try.f7 rfl rfl rfl rfl rfl rfl rfl ⟨rfl, rfl, rfl, rfl, rfl⟩ rfl rfl rfl rfl rfl (by kernel_rfl) Try.func7 (by kernel_rfl)
    (of_decide_eq_true (by kernel_rfl)) (by unfold Func.isWrapper; first | (rw [if_pos (by decide +kernel)]; kernel_rfl) | (rw [if_neg (by decide +kernel)]; exact ⟨rfl, rfl⟩))
    (fun os started H enc _ => lifted os started H enc)
/-- The given statement. -/
theorem proved : Rows.OpPutsSaid := over
#print axioms proved

end Go.Proofs.Ytnggbodilhpohaa.LOpPuts
