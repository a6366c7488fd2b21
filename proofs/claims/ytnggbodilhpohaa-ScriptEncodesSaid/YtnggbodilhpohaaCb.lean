/-
  Contracts of the packages field and op, the reference's own: their bytes, and what bytes begin with.
-/
import Derived.Test.YtnggbodilhpohaaCa
namespace Go.Proofs.Ytnggbodilhpohaa
open Go.RowKit Gw Pl
set_option linter.unusedVariables false
set_option linter.unusedSimpArgs false
theorem cb39 : callB Try.prog 39 = true := by kernel_rfl
theorem cb73 : callB Try.prog 73 = true := by kernel_rfl
theorem cb75 : callB Try.prog 75 = true := by kernel_rfl
theorem cb83 : callB Try.prog 83 = true := by kernel_rfl
theorem slc93 : slcB Try.prog 93 42 1 24 = true := by kernel_rfl
theorem zer42 : (Try.prog.info? 42).bind (·.zero) = some (.slice none 0 0) := by kernel_rfl
theorem ref04_Pack {w : World} {t1 lo hi : Nat} {A : Option Addr} {c : Nat} {ls : List Bys} (hS : Sli t1 lo hi w A (fl encY ls)) (hD : Deep w.heap.size w ls) (hb : (packE ls).length + 10 ≤ 140737488355328) (hn : ls.length ≤ 140737488355328) :
    Runs Try.prog 73 #[.slice A ls.length c] w (fun v w' => w.grownBy w' none ∧ ∃ A' c', v = .slice A' (packE ls).length c' ∧ World.ownsRow w' w.heap.size 5 1 (.slice A' (packE ls).length c') (packE ls).length (fl encB (packE ls))) := by
  have hB := gb_refl w none
  replace hS := hS.top
  refine enter Try.func73 Try.ntmps73 rfl rfl ?_
  refine C_seq (C_reg ?_)
  refine L_run (R_assign rfl) rfl ?_
  refine L_nil (N_then (C_seq (C_reg ?_)))
  refine L_run (R_assign rfl) rfl ?_
  refine L_nil (N_then (C_seq (C_seq (C_reg ?_))))
  refine L_run (R_assign rfl) rfl ?_
  refine L_nil (N_then (C_block ?_))
  refine C_loop (fun m_ a_ w_ => ∃ (σ_ : Nat → Value) (A' : Option Addr) (c' : Nat) (k : Nat), a_ = Ac 32 σ_ [] [(0, .slice A ls.length c), (2, .slice none 0 0), (3, .slice A' ((packE (ls.take k)).length) c'), (4, .int .i64 (k : Int))] ∧ w.grownBy w_ none ∧ Sli t1 lo w.heap.size w_ A (fl encY ls) ∧ Deep w.heap.size w_ ls ∧ World.ownsRow w_ w.heap.size 5 1 (.slice A' (packE (ls.take k)).length c') (packE (ls.take k)).length (fl encB (packE (ls.take k))) ∧ (k ≤ ls.length) ∧ ls.length - k = m_) (ls.length - 0) ?_ ?_
  · exact ⟨_, none, 0, 0, Ac_frg ⟨rfl, rfl, (agr rfl (by first | rfl | (congr 1; omega) | (congr 1; simp; done) | (congr 1; simp only [IntKind.wrap_u64, IntKind.wrap_i64, IntKind.wrap_u8]; omega) | (congr 1 <;> omega))), (agr rfl (by first | rfl | (congr 1; omega) | (congr 1; simp; done) | (congr 1; simp only [IntKind.wrap_u64, IntKind.wrap_i64, IntKind.wrap_u8]; omega) | (congr 1 <;> omega))), trivial⟩, hB, hS, hD, (own_nil w.heap.size 5 1 _), (Nat.zero_le _), rfl⟩
  · clear hB
    clear hS hD
    rintro m_ a_ w1 ⟨σ_, A', c', k, rfl, hB, hS, hD, ho, hk, rfl⟩
    refine C_seq (C_seq (C_reg ?_))
    refine L_run (R_move rfl) rfl ?_
    refine L_run (R_move rfl) rfl ?_
    refine L_run (R_lenSl rfl slc93) rfl ?_
    refine L_run (R_lss rfl rfl) rfl ?_
    refine L_nil (N_then ?_)
    refine C_if rfl (fun h1 => ?_) (fun h1 => ?_)
    · refine C_skip (N_then (C_seq (C_block (C_seq (C_reg ?_)))))
      refine L_run (R_move rfl) rfl ?_
      refine L_run (R_move rfl) rfl ?_
      have hl1 : k < ls.length := by first | omega | (simp; omega)
      refine T_index (xs := ls) (i := k) EncY rfl rfl (by first | rfl | omega) slc93 hl1 hS rfl ?_
      intro g1 o1 ha1
      refine L_run (R_load1 rfl scl42 (ha1 0 _ rfl)) rfl ?_
      refine L_run (R_lenSl rfl slc42) rfl ?_
      refine L_run (R_leq rfl rfl) rfl ?_
      refine L_nil (N_then ?_)
      refine C_if rfl (fun h2 => ?_) (fun h2 => ?_)
      · refine C_seq (C_reg ?_)
        refine L_run (R_move rfl) rfl ?_
        refine L_run (R_move rfl) rfl ?_
        refine L_run (R_move rfl) rfl ?_
        have hl2 : k < ls.length := by first | omega | (simp; omega)
        refine T_index (xs := ls) (i := k) EncY rfl rfl (by first | rfl | omega) slc93 hl2 hS rfl ?_
        intro g2 o2 ha2
        refine L_run (R_load1 rfl scl42 (ha2 0 _ rfl)) rfl ?_
        refine L_run (R_lenSl rfl slc42) rfl ?_
        refine L_run (R_eqv (R_conv rfl any3 int70) (v' := .int .u64 ((ls[k]).xs.length : Int)) (congrArg _ (w64n (by omega)))) rfl ?_
        have ge1 : w.heap.size ≤ w1.heap.size := hB.size
        refine L_call rfl cb83 (ref02_Put (bs := packE (ls.take k)) (m := ((ls[k]).xs.length)) (own_of ho).2.2 (by first | omega | (simp; done) | (simp; omega)) (by have := packE_le ls k; omega)) rfl ?_
        rintro _ w2 ⟨hs1, A_1, c_1, rfl, ho1⟩
        replace hB := gb_tr hB hs1
        replace hS := hS.gb hs1
        replace hD := hD.gb hs1
        replace ho := own_gb ho hs1
        replace ha1 := At.gb ha1 hs1 (by simp)
        replace ha2 := At.gb ha2 hs1 (by simp)
        have hlo1 : w1.heap.size ≤ w2.heap.size := hs1.size
        refine L_run (R_assign rfl) rfl ?_
        refine L_nil (N_then (C_reg ?_))
        refine L_run (R_move rfl) rfl ?_
        refine L_run (R_move rfl) rfl ?_
        refine L_run (R_move rfl) rfl ?_
        have hl3 : k < ls.length := by first | omega | (simp; omega)
        refine T_index (xs := ls) (i := k) EncY rfl rfl (by first | rfl | omega) slc93 hl3 hS rfl ?_
        intro g3 o3 ha3
        refine L_run (R_load1 rfl scl42 (ha3 0 _ rfl)) rfl ?_
        refine T_append (xs := packE (ls.take k) ++ vput ((ls[k]).xs.length)) (ys := (ls[k]).xs) EncB slc42 rfl rfl ho1 (hD.get (i := k) (by first | assumption | omega | (simp; omega))) (by have h1 := packE_le ls (k + 1); rw [packE_succ hl1, List.length_append, fenc, if_pos (by omega), List.length_append] at h1; simp; omega) hlo1 rfl ?_
        intro A_2 c_2 w3 ho2 hs2 hat1
        replace hB := gb_tro hB ho1 hs2 ge1
        replace hS := hS.grown hs2 (fun k hk => .inr (Nat.le_trans ge1 (World.ownsRow.lt ho1 k hk).1))
        replace hD := hD.own ho1 ge1 hs2
        replace hlo1 := Nat.le_trans hlo1 hs2.size
        refine L_run (R_assign rfl) rfl ?_
        refine L_nil (N_in (N_then (C_reg ?_)))
        refine L_run (R_move rfl) rfl ?_
        refine L_run (R_add64 rfl rfl (by omega)) rfl ?_
        refine L_run (R_assign rfl) rfl ?_
        refine L_nil (N_then ?_)
        have e_ : (packE (ls.take k) ++ vput ((ls[k]).xs.length)) ++ ((ls[k]).xs) = packE (ls.take (k + 1)) := by rw [packE_succ hl1]; unfold fenc; first | (rw [if_pos (by omega)]; simp; done) | (rw [if_neg (by omega)]; simp; done)
        rw [e_] at ho2 ⊢
        exact ⟨ls.length - (k + 1), by omega, _, A_2, c_2, (k + 1), Ac_frg ⟨rfl, rfl, rfl, (agr rfl (by first | rfl | (congr 1; omega) | (congr 1; simp; done) | (congr 1; simp only [IntKind.wrap_u64, IntKind.wrap_i64, IntKind.wrap_u8]; omega) | (congr 1 <;> omega))), trivial⟩, hB, hS, hD, (own_lo ho2 ge1), (by omega), rfl⟩
      · refine C_skip (N_in (N_then (C_reg ?_)))
        refine L_run (R_move rfl) rfl ?_
        refine L_run (R_add64 rfl rfl (by omega)) rfl ?_
        refine L_run (R_assign rfl) rfl ?_
        refine L_nil (N_then ?_)
        have e_ : packE (ls.take k) = packE (ls.take (k + 1)) := by rw [packE_succ hl1]; unfold fenc; first | (rw [if_pos (by omega)]; simp; done) | (rw [if_neg (by omega)]; simp; done)
        rw [e_] at ho ⊢
        exact ⟨ls.length - (k + 1), by omega, _, A', c', (k + 1), Ac_frg ⟨rfl, rfl, rfl, (agr rfl (by first | rfl | (congr 1; omega) | (congr 1; simp; done) | (congr 1; simp only [IntKind.wrap_u64, IntKind.wrap_i64, IntKind.wrap_u8]; omega) | (congr 1 <;> omega))), trivial⟩, hB, hS, hD, ho, (by omega), rfl⟩
    · refine C_exit (X_then (X_then (X_hit (N_then (C_seq (C_reg ?_))))))
      refine L_run (R_move rfl) rfl ?_
      refine L_run (R_assign rfl) rfl ?_
      refine L_nil (N_then (C_ret ?_))
      refine ret1 Try.results73 rfl ?_
      have e_ : packE (ls.take k) = packE ls := by rw [List.take_of_length_le (by omega)]
      rw [← e_]; exact ⟨hB, _, _, rfl, ho⟩
theorem ref04_Pack1 {w : World} {t1 lo hi t2 lo2 hi2 : Nat} {A A2 : Option Addr} {c c2 : Nat} {xs : List UInt8} (hS : Sli t1 lo hi w A (fl encY [⟨A2, c2, xs⟩])) (hF : Sli t2 lo2 hi2 w A2 (fl encB xs)) (hb : xs.length + 20 ≤ 140737488355328) :
    Runs Try.prog 73 #[.slice A 1 c] w (fun v w' => w.grownBy w' none ∧ ∃ A' c', v = .slice A' (fenc xs).length c' ∧ World.ownsRow w' w.heap.size 5 1 (.slice A' (fenc xs).length c') (fenc xs).length (fl encB (fenc xs))) := by
  have h := ref04_Pack (ls := [⟨A2, c2, xs⟩]) (c := c) hS (Deep.one hF) (by rw [packE_one]; have := fenc_len xs; omega) (by simp)
  rw [packE_one] at h
  exact h

theorem ref10_Bytes {w : World} {k : Int} {key val : ByteArray} (hb : key.size + val.size + 100 ≤ 140737488355328) :
    Runs Try.prog 40 #[.agg #[.int .i64 k, .string key, .string val]] w (fun v w' => w.grownBy w' none ∧ ∃ A' c', v = .slice A' (opEnc k key val).length c' ∧ World.ownsRow w' w.heap.size 5 1 (.slice A' (opEnc k key val).length c') (opEnc k key val).length (fl encB (opEnc k key val))) := by
  have hB := gb_refl w none
  have hk1 : key.data.toList.length = key.size := by cases key; simp [ByteArray.size]
  have hv1 : val.data.toList.length = val.size := by cases val; simp [ByteArray.size]
  refine enter Try.func40 Try.ntmps40 rfl rfl ?_
  refine C_seq (C_reg ?_)
  refine L_box (cs := [.int .i64 k, .string key, .string val]) rfl rfl rfl ?_
  intro g1 w1 eg1 hb1 hs1 hz1
  have ge1 : w.heap.size ≤ g1 := eg_ge hB eg1
  replace hB := gb_tr hB hs1
  refine L_run (R_assign rfl) rfl ?_
  refine L_nil (N_then (C_seq ?_))
  refine C_draw2 mix ?_
  intro w2 hs2 hz2
  replace hB := gb_tr hB hs2
  replace hb1 := hb1.gb hs2
  refine ⟨fun W_ => Blk W_ g1 44 [.int .i64 k, .string key, .string val] ∧ True, [0, 1, 2, 4, 5, 10], ?_⟩
  refine T_takeA (i := 0) rfl rfl (by kernel_rfl) (by kernel_rfl) (by kernel_rfl) (Y_of (fun _ ⟨hb1, _⟩ => R_field (r := 0) rfl fld44_0 rfl)) ⟨hb1, trivial⟩ rfl ?_
  refine T_takeA (i := 1) rfl rfl (by kernel_rfl) (by kernel_rfl) (by kernel_rfl) (Y_of (fun _ ⟨hb1, _⟩ => R_load1 rfl scl3 (hb1.cell (i := 0) rfl))) ⟨hb1, trivial⟩ rfl ?_
  refine T_takeA (i := 2) rfl rfl (by kernel_rfl) (by kernel_rfl) (by kernel_rfl) (Y_of (fun _ ⟨hb1, _⟩ => R_eqv (R_conv rfl any3 int5) (v' := .int .u8 ((UInt8.ofNat (k % 256).toNat).toNat : Int)) (u8_ofI k))) ⟨hb1, trivial⟩ rfl ?_
  refine T_takeA (i := 4) rfl rfl (by kernel_rfl) (by kernel_rfl) (by kernel_rfl) (Y_of (fun _ ⟨hb1, _⟩ => R_field (r := 1) rfl fld44_1 rfl)) ⟨hb1, trivial⟩ rfl ?_
  refine T_takeA (i := 5) rfl rfl (by kernel_rfl) (by kernel_rfl) (by kernel_rfl) (Y_of (fun _ ⟨hb1, _⟩ => R_load1 rfl scl9 (hb1.cell (i := 1) rfl))) ⟨hb1, trivial⟩ rfl ?_
  refine T_all (rs := [3, 6]) (by kernel_rfl) rfl (all2 (O_one rfl ?_) (O_one rfl ?_))
  · refine L_buildSlice (pv := [(0, .int .u8 ((UInt8.ofNat (k % 256).toNat).toNat : Int))]) (cs := [.int .u8 ((UInt8.ofNat (k % 256).toNat).toNat : Int)]) slc42 zer5 rfl rfl (by kernel_rfl) rfl ?_
    intro g2 w3 eg2 hb2 hs3 hz3
    have ge2 : w.heap.size ≤ g2 := eg_ge hB eg2
    have lt1 : g1 < g2 := lt_of_eg hb1.lt eg2
    replace hB := gb_tr hB hs3
    replace hb1 := hb1.gb hs3
    refine L_nil (N_then ⟨fun hN_ => ⟨hb1, trivial⟩, ?_⟩)
    refine T_all (rs := [6]) (by kernel_rfl) rfl (all1 (O_one rfl ?_))
    refine T_s2b rfl any9 slc42 int5 rfl ?_
    intro A_1 c_1 w4 hc1 hS_1 hs4 hz4
    replace hB := gb_tr hB hs4
    replace hb1 := hb1.gb hs4
    replace hb2 := hb2.gb hs4
    refine L_nil (N_then ⟨fun hN_ => ⟨hb1, trivial⟩, ?_⟩)
    refine T_all (rs := [7]) (by kernel_rfl) rfl (all1 (O_one rfl ?_))
    refine L_buildSlice (pv := [(0, .slice A_1 key.data.toList.length c_1)]) (cs := [.slice A_1 key.data.toList.length c_1]) slc93 zer42 rfl rfl (by kernel_rfl) rfl ?_
    intro g3 w5 eg3 hb3 hs5 hz5
    have ge3 : w.heap.size ≤ g3 := eg_ge hB eg3
    have lt2 : g1 < g3 := lt_of_eg hb1.lt eg3
    have lt3 : g2 < g3 := lt_of_eg hb2.lt eg3
    replace hB := gb_tr hB hs5
    replace hb1 := hb1.gb hs5
    replace hb2 := hb2.gb hs5
    replace hS_1 := hS_1.gb hs5
    refine L_nil (N_then ⟨fun hN_ => ⟨hb1, trivial⟩, ?_⟩)
    refine T_all (rs := [8]) (by kernel_rfl) rfl (all1 (O_one rfl ?_))
    have ge4 : w.heap.size ≤ w5.heap.size := hB.size
    refine L_call rfl cb73 (ref04_Pack1 (xs := key.data.toList) (Blk.sli (m := 0) hb3) hS_1 (by first | omega | (simp; done) | (simp; omega))) rfl ?_
    rintro _ w6 ⟨hs6, A_2, c_2, rfl, ho1⟩
    replace hB := gb_tr hB hs6
    replace hb1 := hb1.gb hs6
    replace hb2 := hb2.gb hs6
    replace hS_1 := hS_1.gb hs6
    replace hb3 := hb3.gb hs6
    have hlo1 : w5.heap.size ≤ w6.heap.size := hs6.size
    refine L_nil (N_then ⟨fun hN_ => ⟨hb1, trivial⟩, ?_⟩)
    refine T_all (rs := [9]) (by kernel_rfl) rfl (all1 (O_one rfl ?_))
    have hlo2 : g2 ≤ w6.heap.size := Nat.le_of_lt hb2.lt
    have ho2 : World.ownsRow w6 g2 5 1 (.slice (some ⟨g2, 0, none⟩) ([(UInt8.ofNat (k % 256).toNat)] : List UInt8).length 1) ([(UInt8.ofNat (k % 256).toNat)] : List UInt8).length (fl encB [(UInt8.ofNat (k % 256).toNat)]) := Blk.own (sz := 1) (m := 1) hb2 (by decide) rfl (Nat.le_refl _)
    refine T_append (xs := [(UInt8.ofNat (k % 256).toNat)]) (ys := fenc key.data.toList) EncB slc42 rfl rfl ho2 (own_of ho1).2.2 (by have h1_ := fenc_len key.data.toList; have h2_ := fenc_len val.data.toList; simp at *; omega) hlo2 rfl ?_
    intro A_3 c_3 w7 ho3 hs7 hat1
    replace hB := gb_tro hB ho2 hs7 ge2
    replace hb1 := blk_own hb1 ho2 rfl hs7
    replace hb3 := blk_own hb3 ho2 rfl hs7
    replace hlo1 := Nat.le_trans hlo1 hs7.size
    replace hlo2 := Nat.le_trans hlo2 hs7.size
    refine L_nil (N_then ⟨fun hN_ => ⟨hb1, trivial⟩, ?_⟩)
    refine T_takeA (i := 10) rfl rfl (by kernel_rfl) (by kernel_rfl) (by kernel_rfl) (Y_of (fun _ ⟨hb1, _⟩ => R_assign rfl)) ⟨hb1, trivial⟩ rfl ?_
    refine T_done (by kernel_rfl) (NoPanic.normal ?_)
    refine N_then (C_seq (C_seq (C_reg ?_)))
    refine L_run (R_field (r := 0) rfl fld44_0 rfl) rfl ?_
    refine L_run (R_load1 rfl scl3 (hb1.cell (i := 0) rfl)) rfl ?_
    refine L_run (R_eql rfl rfl) rfl ?_
    refine L_nil (N_then ?_)
    refine C_if rfl (fun h1 => ?_) (fun h1 => ?_)
    · refine C_reg ?_
      refine L_run (R_move rfl) rfl ?_
      refine L_run (R_field (r := 2) rfl fld44_2 rfl) rfl ?_
      refine L_run (R_load1 rfl scl9 (hb1.cell (i := 2) rfl)) rfl ?_
      refine T_s2b rfl any9 slc42 int5 rfl ?_
      intro A_4 c_4 w8 hc2 hS_2 hs8 hz6
      have ob1 := fun k hk => (World.ownsRow.lt ho3 k hk).2
      replace hB := gb_tr hB hs8
      replace hb1 := hb1.gb hs8
      replace hb3 := hb3.gb hs8
      replace hlo1 := Nat.le_trans hlo1 hs8.size
      replace hlo2 := Nat.le_trans hlo2 hs8.size
      replace ho3 := own_gb ho3 hs8
      refine L_buildSlice (pv := [(0, .slice A_4 val.data.toList.length c_4)]) (cs := [.slice A_4 val.data.toList.length c_4]) slc93 zer42 rfl rfl (by kernel_rfl) rfl ?_
      intro g4 w9 eg4 hb4 hs9 hz7
      have ge5 : w.heap.size ≤ g4 := eg_ge hB eg4
      have lt4 : g1 < g4 := lt_of_eg hb1.lt eg4
      have lt5 : g3 < g4 := lt_of_eg hb3.lt eg4
      replace hB := gb_tr hB hs9
      replace hb1 := hb1.gb hs9
      replace hb3 := hb3.gb hs9
      replace hlo1 := Nat.le_trans hlo1 hs9.size
      replace hlo2 := Nat.le_trans hlo2 hs9.size
      replace ho3 := own_gb ho3 hs9
      replace hS_2 := hS_2.gb hs9
      have ge6 : w.heap.size ≤ w9.heap.size := hB.size
      refine L_call rfl cb73 (ref04_Pack1 (xs := val.data.toList) (Blk.sli (m := 0) hb4) hS_2 (by first | omega | (simp; done) | (simp; omega))) rfl ?_
      rintro _ w10 ⟨hs10, A_5, c_5, rfl, ho4⟩
      replace hB := gb_tr hB hs10
      replace hb1 := hb1.gb hs10
      replace hb3 := hb3.gb hs10
      replace hlo1 := Nat.le_trans hlo1 hs10.size
      replace hlo2 := Nat.le_trans hlo2 hs10.size
      replace ho3 := own_gb ho3 hs10
      replace hS_2 := hS_2.gb hs10
      replace hb4 := hb4.gb hs10
      have hlo3 : w9.heap.size ≤ w10.heap.size := hs10.size
      refine T_append (xs := ([(UInt8.ofNat (k % 256).toNat)]) ++ (fenc key.data.toList)) (ys := fenc val.data.toList) EncB slc42 rfl rfl ho3 (own_of ho4).2.2 (by have h1_ := fenc_len key.data.toList; have h2_ := fenc_len val.data.toList; simp at *; omega) hlo2 rfl ?_
      intro A_6 c_6 w11 ho5 hs11 hat2
      replace hB := gb_tro hB ho3 hs11 ge2
      replace hb1 := blk_own hb1 ho3 rfl hs11
      replace hb3 := blk_own hb3 ho3 rfl hs11
      replace hlo1 := Nat.le_trans hlo1 hs11.size
      replace hlo2 := Nat.le_trans hlo2 hs11.size
      replace hS_2 := hS_2.grown hs11 (fun k hk => .inl (ob1 k hk))
      replace hb4 := blk_own hb4 ho3 rfl hs11
      replace hlo3 := Nat.le_trans hlo3 hs11.size
      refine L_run (R_assign rfl) rfl ?_
      refine L_nil (N_then (C_seq (C_reg ?_)))
      refine L_run (R_move rfl) rfl ?_
      refine L_run (R_assign rfl) rfl ?_
      refine L_nil (N_then (C_ret ?_))
      refine ret1 Try.results40 rfl ?_
      have e_ : (([(UInt8.ofNat (k % 256).toNat)]) ++ (fenc key.data.toList)) ++ (fenc val.data.toList) = opEnc k key val := by unfold opEnc; first | (rw [if_pos (by omega)]; simp; done) | (rw [if_neg (by omega)]; simp; done)
      rw [← e_]; exact ⟨hB, _, _, rfl, (own_lo ho5 ge2)⟩
    · refine C_skip (N_then (C_seq (C_reg ?_)))
      refine L_run (R_move rfl) rfl ?_
      refine L_run (R_assign rfl) rfl ?_
      refine L_nil (N_then (C_ret ?_))
      refine ret1 Try.results40 rfl ?_
      have e_ : ([(UInt8.ofNat (k % 256).toNat)]) ++ (fenc key.data.toList) = opEnc k key val := by unfold opEnc; first | (rw [if_pos (by omega)]; simp; done) | (rw [if_neg (by omega)]; simp; done)
      rw [← e_]; exact ⟨hB, _, _, rfl, (own_lo ho3 ge2)⟩
  · refine T_s2b rfl any9 slc42 int5 rfl ?_
    intro A_7 c_7 w12 hc3 hS_3 hs12 hz8
    replace hB := gb_tr hB hs12
    replace hb1 := hb1.gb hs12
    refine L_nil (N_then ⟨fun hN_ => ⟨hb1, trivial⟩, ?_⟩)
    refine T_all (rs := [3, 7]) (by kernel_rfl) rfl (all2 (O_one rfl ?_) (O_one rfl ?_))
    · refine L_buildSlice (pv := [(0, .int .u8 ((UInt8.ofNat (k % 256).toNat).toNat : Int))]) (cs := [.int .u8 ((UInt8.ofNat (k % 256).toNat).toNat : Int)]) slc42 zer5 rfl rfl (by kernel_rfl) rfl ?_
      intro g5 w13 eg5 hb5 hs13 hz9
      have ge7 : w.heap.size ≤ g5 := eg_ge hB eg5
      have lt6 : g1 < g5 := lt_of_eg hb1.lt eg5
      replace hB := gb_tr hB hs13
      replace hb1 := hb1.gb hs13
      replace hS_3 := hS_3.gb hs13
      refine L_nil (N_then ⟨fun hN_ => ⟨hb1, trivial⟩, ?_⟩)
      refine T_all (rs := [7]) (by kernel_rfl) rfl (all1 (O_one rfl ?_))
      refine L_buildSlice (pv := [(0, .slice A_7 key.data.toList.length c_7)]) (cs := [.slice A_7 key.data.toList.length c_7]) slc93 zer42 rfl rfl (by kernel_rfl) rfl ?_
      intro g6 w14 eg6 hb6 hs14 hz10
      have ge8 : w.heap.size ≤ g6 := eg_ge hB eg6
      have lt7 : g1 < g6 := lt_of_eg hb1.lt eg6
      have lt8 : g5 < g6 := lt_of_eg hb5.lt eg6
      replace hB := gb_tr hB hs14
      replace hb1 := hb1.gb hs14
      replace hS_3 := hS_3.gb hs14
      replace hb5 := hb5.gb hs14
      refine L_nil (N_then ⟨fun hN_ => ⟨hb1, trivial⟩, ?_⟩)
      refine T_all (rs := [8]) (by kernel_rfl) rfl (all1 (O_one rfl ?_))
      have ge9 : w.heap.size ≤ w14.heap.size := hB.size
      refine L_call rfl cb73 (ref04_Pack1 (xs := key.data.toList) (Blk.sli (m := 0) hb6) hS_3 (by first | omega | (simp; done) | (simp; omega))) rfl ?_
      rintro _ w15 ⟨hs15, A_8, c_8, rfl, ho6⟩
      replace hB := gb_tr hB hs15
      replace hb1 := hb1.gb hs15
      replace hS_3 := hS_3.gb hs15
      replace hb5 := hb5.gb hs15
      replace hb6 := hb6.gb hs15
      have hlo4 : w14.heap.size ≤ w15.heap.size := hs15.size
      refine L_nil (N_then ⟨fun hN_ => ⟨hb1, trivial⟩, ?_⟩)
      refine T_all (rs := [9]) (by kernel_rfl) rfl (all1 (O_one rfl ?_))
      have hlo5 : g5 ≤ w15.heap.size := Nat.le_of_lt hb5.lt
      have ho7 : World.ownsRow w15 g5 5 1 (.slice (some ⟨g5, 0, none⟩) ([(UInt8.ofNat (k % 256).toNat)] : List UInt8).length 1) ([(UInt8.ofNat (k % 256).toNat)] : List UInt8).length (fl encB [(UInt8.ofNat (k % 256).toNat)]) := Blk.own (sz := 1) (m := 1) hb5 (by decide) rfl (Nat.le_refl _)
      refine T_append (xs := [(UInt8.ofNat (k % 256).toNat)]) (ys := fenc key.data.toList) EncB slc42 rfl rfl ho7 (own_of ho6).2.2 (by have h1_ := fenc_len key.data.toList; have h2_ := fenc_len val.data.toList; simp at *; omega) hlo5 rfl ?_
      intro A_9 c_9 w16 ho8 hs16 hat3
      replace hB := gb_tro hB ho7 hs16 ge7
      replace hb1 := blk_own hb1 ho7 rfl hs16
      replace hb6 := blk_own hb6 ho7 rfl hs16
      replace hlo4 := Nat.le_trans hlo4 hs16.size
      replace hlo5 := Nat.le_trans hlo5 hs16.size
      refine L_nil (N_then ⟨fun hN_ => ⟨hb1, trivial⟩, ?_⟩)
      refine T_takeA (i := 10) rfl rfl (by kernel_rfl) (by kernel_rfl) (by kernel_rfl) (Y_of (fun _ ⟨hb1, _⟩ => R_assign rfl)) ⟨hb1, trivial⟩ rfl ?_
      refine T_done (by kernel_rfl) (NoPanic.normal ?_)
      refine N_then (C_seq (C_seq (C_reg ?_)))
      refine L_run (R_field (r := 0) rfl fld44_0 rfl) rfl ?_
      refine L_run (R_load1 rfl scl3 (hb1.cell (i := 0) rfl)) rfl ?_
      refine L_run (R_eql rfl rfl) rfl ?_
      refine L_nil (N_then ?_)
      refine C_if rfl (fun h2 => ?_) (fun h2 => ?_)
      · refine C_reg ?_
        refine L_run (R_move rfl) rfl ?_
        refine L_run (R_field (r := 2) rfl fld44_2 rfl) rfl ?_
        refine L_run (R_load1 rfl scl9 (hb1.cell (i := 2) rfl)) rfl ?_
        refine T_s2b rfl any9 slc42 int5 rfl ?_
        intro A_10 c_10 w17 hc4 hS_4 hs17 hz11
        have ob2 := fun k hk => (World.ownsRow.lt ho8 k hk).2
        replace hB := gb_tr hB hs17
        replace hb1 := hb1.gb hs17
        replace hb6 := hb6.gb hs17
        replace hlo4 := Nat.le_trans hlo4 hs17.size
        replace hlo5 := Nat.le_trans hlo5 hs17.size
        replace ho8 := own_gb ho8 hs17
        refine L_buildSlice (pv := [(0, .slice A_10 val.data.toList.length c_10)]) (cs := [.slice A_10 val.data.toList.length c_10]) slc93 zer42 rfl rfl (by kernel_rfl) rfl ?_
        intro g7 w18 eg7 hb7 hs18 hz12
        have ge10 : w.heap.size ≤ g7 := eg_ge hB eg7
        have lt9 : g1 < g7 := lt_of_eg hb1.lt eg7
        have lt10 : g6 < g7 := lt_of_eg hb6.lt eg7
        replace hB := gb_tr hB hs18
        replace hb1 := hb1.gb hs18
        replace hb6 := hb6.gb hs18
        replace hlo4 := Nat.le_trans hlo4 hs18.size
        replace hlo5 := Nat.le_trans hlo5 hs18.size
        replace ho8 := own_gb ho8 hs18
        replace hS_4 := hS_4.gb hs18
        have ge11 : w.heap.size ≤ w18.heap.size := hB.size
        refine L_call rfl cb73 (ref04_Pack1 (xs := val.data.toList) (Blk.sli (m := 0) hb7) hS_4 (by first | omega | (simp; done) | (simp; omega))) rfl ?_
        rintro _ w19 ⟨hs19, A_11, c_11, rfl, ho9⟩
        replace hB := gb_tr hB hs19
        replace hb1 := hb1.gb hs19
        replace hb6 := hb6.gb hs19
        replace hlo4 := Nat.le_trans hlo4 hs19.size
        replace hlo5 := Nat.le_trans hlo5 hs19.size
        replace ho8 := own_gb ho8 hs19
        replace hS_4 := hS_4.gb hs19
        replace hb7 := hb7.gb hs19
        have hlo6 : w18.heap.size ≤ w19.heap.size := hs19.size
        refine T_append (xs := ([(UInt8.ofNat (k % 256).toNat)]) ++ (fenc key.data.toList)) (ys := fenc val.data.toList) EncB slc42 rfl rfl ho8 (own_of ho9).2.2 (by have h1_ := fenc_len key.data.toList; have h2_ := fenc_len val.data.toList; simp at *; omega) hlo5 rfl ?_
        intro A_12 c_12 w20 ho10 hs20 hat4
        replace hB := gb_tro hB ho8 hs20 ge7
        replace hb1 := blk_own hb1 ho8 rfl hs20
        replace hb6 := blk_own hb6 ho8 rfl hs20
        replace hlo4 := Nat.le_trans hlo4 hs20.size
        replace hlo5 := Nat.le_trans hlo5 hs20.size
        replace hS_4 := hS_4.grown hs20 (fun k hk => .inl (ob2 k hk))
        replace hb7 := blk_own hb7 ho8 rfl hs20
        replace hlo6 := Nat.le_trans hlo6 hs20.size
        refine L_run (R_assign rfl) rfl ?_
        refine L_nil (N_then (C_seq (C_reg ?_)))
        refine L_run (R_move rfl) rfl ?_
        refine L_run (R_assign rfl) rfl ?_
        refine L_nil (N_then (C_ret ?_))
        refine ret1 Try.results40 rfl ?_
        have e_ : (([(UInt8.ofNat (k % 256).toNat)]) ++ (fenc key.data.toList)) ++ (fenc val.data.toList) = opEnc k key val := by unfold opEnc; first | (rw [if_pos (by omega)]; simp; done) | (rw [if_neg (by omega)]; simp; done)
        rw [← e_]; exact ⟨hB, _, _, rfl, (own_lo ho10 ge7)⟩
      · refine C_skip (N_then (C_seq (C_reg ?_)))
        refine L_run (R_move rfl) rfl ?_
        refine L_run (R_assign rfl) rfl ?_
        refine L_nil (N_then (C_ret ?_))
        refine ret1 Try.results40 rfl ?_
        have e_ : ([(UInt8.ofNat (k % 256).toNat)]) ++ (fenc key.data.toList) = opEnc k key val := by unfold opEnc; first | (rw [if_pos (by omega)]; simp; done) | (rw [if_neg (by omega)]; simp; done)
        rw [← e_]; exact ⟨hB, _, _, rfl, (own_lo ho8 ge7)⟩
    · refine L_buildSlice (pv := [(0, .slice A_7 key.data.toList.length c_7)]) (cs := [.slice A_7 key.data.toList.length c_7]) slc93 zer42 rfl rfl (by kernel_rfl) rfl ?_
      intro g8 w21 eg8 hb8 hs21 hz13
      have ge12 : w.heap.size ≤ g8 := eg_ge hB eg8
      have lt11 : g1 < g8 := lt_of_eg hb1.lt eg8
      replace hB := gb_tr hB hs21
      replace hb1 := hb1.gb hs21
      replace hS_3 := hS_3.gb hs21
      refine L_nil (N_then ⟨fun hN_ => ⟨hb1, trivial⟩, ?_⟩)
      refine T_all (rs := [3, 8]) (by kernel_rfl) rfl (all2 (O_one rfl ?_) (O_one rfl ?_))
      · refine L_buildSlice (pv := [(0, .int .u8 ((UInt8.ofNat (k % 256).toNat).toNat : Int))]) (cs := [.int .u8 ((UInt8.ofNat (k % 256).toNat).toNat : Int)]) slc42 zer5 rfl rfl (by kernel_rfl) rfl ?_
        intro g9 w22 eg9 hb9 hs22 hz14
        have ge13 : w.heap.size ≤ g9 := eg_ge hB eg9
        have lt12 : g1 < g9 := lt_of_eg hb1.lt eg9
        have lt13 : g8 < g9 := lt_of_eg hb8.lt eg9
        replace hB := gb_tr hB hs22
        replace hb1 := hb1.gb hs22
        replace hS_3 := hS_3.gb hs22
        replace hb8 := hb8.gb hs22
        refine L_nil (N_then ⟨fun hN_ => ⟨hb1, trivial⟩, ?_⟩)
        refine T_all (rs := [8]) (by kernel_rfl) rfl (all1 (O_one rfl ?_))
        have ge14 : w.heap.size ≤ w22.heap.size := hB.size
        refine L_call rfl cb73 (ref04_Pack1 (xs := key.data.toList) (Blk.sli (m := 0) hb8) hS_3 (by first | omega | (simp; done) | (simp; omega))) rfl ?_
        rintro _ w23 ⟨hs23, A_13, c_13, rfl, ho11⟩
        replace hB := gb_tr hB hs23
        replace hb1 := hb1.gb hs23
        replace hS_3 := hS_3.gb hs23
        replace hb8 := hb8.gb hs23
        replace hb9 := hb9.gb hs23
        have hlo7 : w22.heap.size ≤ w23.heap.size := hs23.size
        refine L_nil (N_then ⟨fun hN_ => ⟨hb1, trivial⟩, ?_⟩)
        refine T_all (rs := [9]) (by kernel_rfl) rfl (all1 (O_one rfl ?_))
        have hlo8 : g9 ≤ w23.heap.size := Nat.le_of_lt hb9.lt
        have ho12 : World.ownsRow w23 g9 5 1 (.slice (some ⟨g9, 0, none⟩) ([(UInt8.ofNat (k % 256).toNat)] : List UInt8).length 1) ([(UInt8.ofNat (k % 256).toNat)] : List UInt8).length (fl encB [(UInt8.ofNat (k % 256).toNat)]) := Blk.own (sz := 1) (m := 1) hb9 (by decide) rfl (Nat.le_refl _)
        refine T_append (xs := [(UInt8.ofNat (k % 256).toNat)]) (ys := fenc key.data.toList) EncB slc42 rfl rfl ho12 (own_of ho11).2.2 (by have h1_ := fenc_len key.data.toList; have h2_ := fenc_len val.data.toList; simp at *; omega) hlo8 rfl ?_
        intro A_14 c_14 w24 ho13 hs24 hat5
        replace hB := gb_tro hB ho12 hs24 ge13
        replace hb1 := blk_own hb1 ho12 rfl hs24
        replace hb8 := blk_own hb8 ho12 rfl hs24
        replace hlo7 := Nat.le_trans hlo7 hs24.size
        replace hlo8 := Nat.le_trans hlo8 hs24.size
        refine L_nil (N_then ⟨fun hN_ => ⟨hb1, trivial⟩, ?_⟩)
        refine T_takeA (i := 10) rfl rfl (by kernel_rfl) (by kernel_rfl) (by kernel_rfl) (Y_of (fun _ ⟨hb1, _⟩ => R_assign rfl)) ⟨hb1, trivial⟩ rfl ?_
        refine T_done (by kernel_rfl) (NoPanic.normal ?_)
        refine N_then (C_seq (C_seq (C_reg ?_)))
        refine L_run (R_field (r := 0) rfl fld44_0 rfl) rfl ?_
        refine L_run (R_load1 rfl scl3 (hb1.cell (i := 0) rfl)) rfl ?_
        refine L_run (R_eql rfl rfl) rfl ?_
        refine L_nil (N_then ?_)
        refine C_if rfl (fun h3 => ?_) (fun h3 => ?_)
        · refine C_reg ?_
          refine L_run (R_move rfl) rfl ?_
          refine L_run (R_field (r := 2) rfl fld44_2 rfl) rfl ?_
          refine L_run (R_load1 rfl scl9 (hb1.cell (i := 2) rfl)) rfl ?_
          refine T_s2b rfl any9 slc42 int5 rfl ?_
          intro A_15 c_15 w25 hc5 hS_5 hs25 hz15
          have ob3 := fun k hk => (World.ownsRow.lt ho13 k hk).2
          replace hB := gb_tr hB hs25
          replace hb1 := hb1.gb hs25
          replace hb8 := hb8.gb hs25
          replace hlo7 := Nat.le_trans hlo7 hs25.size
          replace hlo8 := Nat.le_trans hlo8 hs25.size
          replace ho13 := own_gb ho13 hs25
          refine L_buildSlice (pv := [(0, .slice A_15 val.data.toList.length c_15)]) (cs := [.slice A_15 val.data.toList.length c_15]) slc93 zer42 rfl rfl (by kernel_rfl) rfl ?_
          intro g10 w26 eg10 hb10 hs26 hz16
          have ge15 : w.heap.size ≤ g10 := eg_ge hB eg10
          have lt14 : g1 < g10 := lt_of_eg hb1.lt eg10
          have lt15 : g8 < g10 := lt_of_eg hb8.lt eg10
          replace hB := gb_tr hB hs26
          replace hb1 := hb1.gb hs26
          replace hb8 := hb8.gb hs26
          replace hlo7 := Nat.le_trans hlo7 hs26.size
          replace hlo8 := Nat.le_trans hlo8 hs26.size
          replace ho13 := own_gb ho13 hs26
          replace hS_5 := hS_5.gb hs26
          have ge16 : w.heap.size ≤ w26.heap.size := hB.size
          refine L_call rfl cb73 (ref04_Pack1 (xs := val.data.toList) (Blk.sli (m := 0) hb10) hS_5 (by first | omega | (simp; done) | (simp; omega))) rfl ?_
          rintro _ w27 ⟨hs27, A_16, c_16, rfl, ho14⟩
          replace hB := gb_tr hB hs27
          replace hb1 := hb1.gb hs27
          replace hb8 := hb8.gb hs27
          replace hlo7 := Nat.le_trans hlo7 hs27.size
          replace hlo8 := Nat.le_trans hlo8 hs27.size
          replace ho13 := own_gb ho13 hs27
          replace hS_5 := hS_5.gb hs27
          replace hb10 := hb10.gb hs27
          have hlo9 : w26.heap.size ≤ w27.heap.size := hs27.size
          refine T_append (xs := ([(UInt8.ofNat (k % 256).toNat)]) ++ (fenc key.data.toList)) (ys := fenc val.data.toList) EncB slc42 rfl rfl ho13 (own_of ho14).2.2 (by have h1_ := fenc_len key.data.toList; have h2_ := fenc_len val.data.toList; simp at *; omega) hlo8 rfl ?_
          intro A_17 c_17 w28 ho15 hs28 hat6
          replace hB := gb_tro hB ho13 hs28 ge13
          replace hb1 := blk_own hb1 ho13 rfl hs28
          replace hb8 := blk_own hb8 ho13 rfl hs28
          replace hlo7 := Nat.le_trans hlo7 hs28.size
          replace hlo8 := Nat.le_trans hlo8 hs28.size
          replace hS_5 := hS_5.grown hs28 (fun k hk => .inl (ob3 k hk))
          replace hb10 := blk_own hb10 ho13 rfl hs28
          replace hlo9 := Nat.le_trans hlo9 hs28.size
          refine L_run (R_assign rfl) rfl ?_
          refine L_nil (N_then (C_seq (C_reg ?_)))
          refine L_run (R_move rfl) rfl ?_
          refine L_run (R_assign rfl) rfl ?_
          refine L_nil (N_then (C_ret ?_))
          refine ret1 Try.results40 rfl ?_
          have e_ : (([(UInt8.ofNat (k % 256).toNat)]) ++ (fenc key.data.toList)) ++ (fenc val.data.toList) = opEnc k key val := by unfold opEnc; first | (rw [if_pos (by omega)]; simp; done) | (rw [if_neg (by omega)]; simp; done)
          rw [← e_]; exact ⟨hB, _, _, rfl, (own_lo ho15 ge13)⟩
        · refine C_skip (N_then (C_seq (C_reg ?_)))
          refine L_run (R_move rfl) rfl ?_
          refine L_run (R_assign rfl) rfl ?_
          refine L_nil (N_then (C_ret ?_))
          refine ret1 Try.results40 rfl ?_
          have e_ : ([(UInt8.ofNat (k % 256).toNat)]) ++ (fenc key.data.toList) = opEnc k key val := by unfold opEnc; first | (rw [if_pos (by omega)]; simp; done) | (rw [if_neg (by omega)]; simp; done)
          rw [← e_]; exact ⟨hB, _, _, rfl, (own_lo ho13 ge13)⟩
      · have ge17 : w.heap.size ≤ w21.heap.size := hB.size
        refine L_call rfl cb73 (ref04_Pack1 (xs := key.data.toList) (Blk.sli (m := 0) hb8) hS_3 (by first | omega | (simp; done) | (simp; omega))) rfl ?_
        rintro _ w29 ⟨hs29, A_18, c_18, rfl, ho16⟩
        replace hB := gb_tr hB hs29
        replace hb1 := hb1.gb hs29
        replace hS_3 := hS_3.gb hs29
        replace hb8 := hb8.gb hs29
        have hlo10 : w21.heap.size ≤ w29.heap.size := hs29.size
        refine L_nil (N_then ⟨fun hN_ => ⟨hb1, trivial⟩, ?_⟩)
        refine T_all (rs := [3]) (by kernel_rfl) rfl (all1 (O_one rfl ?_))
        refine L_buildSlice (pv := [(0, .int .u8 ((UInt8.ofNat (k % 256).toNat).toNat : Int))]) (cs := [.int .u8 ((UInt8.ofNat (k % 256).toNat).toNat : Int)]) slc42 zer5 rfl rfl (by kernel_rfl) rfl ?_
        intro g11 w30 eg11 hb11 hs30 hz17
        have ge18 : w.heap.size ≤ g11 := eg_ge hB eg11
        have lt16 : g1 < g11 := lt_of_eg hb1.lt eg11
        have lt17 : g8 < g11 := lt_of_eg hb8.lt eg11
        have hap1 : ∀ k_, (Value.slice A_18 (fenc key.data.toList).length c_18).ownBlock = some k_ → k_ ≠ g11 := fun k_ hk => by have h_ := (World.ownsRow.lt ho16 k_ hk).2; omega
        replace hB := gb_tr hB hs30
        replace hb1 := hb1.gb hs30
        replace hS_3 := hS_3.gb hs30
        replace hb8 := hb8.gb hs30
        replace ho16 := own_gb ho16 hs30
        replace hlo10 := Nat.le_trans hlo10 hs30.size
        refine L_nil (N_then ⟨fun hN_ => ⟨hb1, trivial⟩, ?_⟩)
        refine T_all (rs := [9]) (by kernel_rfl) rfl (all1 (O_one rfl ?_))
        have hlo11 : g11 ≤ w30.heap.size := Nat.le_of_lt hb11.lt
        have ho17 : World.ownsRow w30 g11 5 1 (.slice (some ⟨g11, 0, none⟩) ([(UInt8.ofNat (k % 256).toNat)] : List UInt8).length 1) ([(UInt8.ofNat (k % 256).toNat)] : List UInt8).length (fl encB [(UInt8.ofNat (k % 256).toNat)]) := Blk.own (sz := 1) (m := 1) hb11 (by decide) rfl (Nat.le_refl _)
        refine T_append (xs := [(UInt8.ofNat (k % 256).toNat)]) (ys := fenc key.data.toList) EncB slc42 rfl rfl ho17 (own_of ho16).2.2 (by have h1_ := fenc_len key.data.toList; have h2_ := fenc_len val.data.toList; simp at *; omega) hlo11 rfl ?_
        intro A_19 c_19 w31 ho18 hs31 hat7
        replace hB := gb_tro hB ho17 hs31 ge18
        replace hb1 := blk_own hb1 ho17 rfl hs31
        replace hb8 := blk_own hb8 ho17 rfl hs31
        replace hlo10 := Nat.le_trans hlo10 hs31.size
        replace hlo11 := Nat.le_trans hlo11 hs31.size
        refine L_nil (N_then ⟨fun hN_ => ⟨hb1, trivial⟩, ?_⟩)
        refine T_takeA (i := 10) rfl rfl (by kernel_rfl) (by kernel_rfl) (by kernel_rfl) (Y_of (fun _ ⟨hb1, _⟩ => R_assign rfl)) ⟨hb1, trivial⟩ rfl ?_
        refine T_done (by kernel_rfl) (NoPanic.normal ?_)
        refine N_then (C_seq (C_seq (C_reg ?_)))
        refine L_run (R_field (r := 0) rfl fld44_0 rfl) rfl ?_
        refine L_run (R_load1 rfl scl3 (hb1.cell (i := 0) rfl)) rfl ?_
        refine L_run (R_eql rfl rfl) rfl ?_
        refine L_nil (N_then ?_)
        refine C_if rfl (fun h4 => ?_) (fun h4 => ?_)
        · refine C_reg ?_
          refine L_run (R_move rfl) rfl ?_
          refine L_run (R_field (r := 2) rfl fld44_2 rfl) rfl ?_
          refine L_run (R_load1 rfl scl9 (hb1.cell (i := 2) rfl)) rfl ?_
          refine T_s2b rfl any9 slc42 int5 rfl ?_
          intro A_20 c_20 w32 hc6 hS_6 hs32 hz18
          have ob4 := fun k hk => (World.ownsRow.lt ho18 k hk).2
          replace hB := gb_tr hB hs32
          replace hb1 := hb1.gb hs32
          replace hb8 := hb8.gb hs32
          replace hlo10 := Nat.le_trans hlo10 hs32.size
          replace hlo11 := Nat.le_trans hlo11 hs32.size
          replace ho18 := own_gb ho18 hs32
          refine L_buildSlice (pv := [(0, .slice A_20 val.data.toList.length c_20)]) (cs := [.slice A_20 val.data.toList.length c_20]) slc93 zer42 rfl rfl (by kernel_rfl) rfl ?_
          intro g12 w33 eg12 hb12 hs33 hz19
          have ge19 : w.heap.size ≤ g12 := eg_ge hB eg12
          have lt18 : g1 < g12 := lt_of_eg hb1.lt eg12
          have lt19 : g8 < g12 := lt_of_eg hb8.lt eg12
          replace hB := gb_tr hB hs33
          replace hb1 := hb1.gb hs33
          replace hb8 := hb8.gb hs33
          replace hlo10 := Nat.le_trans hlo10 hs33.size
          replace hlo11 := Nat.le_trans hlo11 hs33.size
          replace ho18 := own_gb ho18 hs33
          replace hS_6 := hS_6.gb hs33
          have ge20 : w.heap.size ≤ w33.heap.size := hB.size
          refine L_call rfl cb73 (ref04_Pack1 (xs := val.data.toList) (Blk.sli (m := 0) hb12) hS_6 (by first | omega | (simp; done) | (simp; omega))) rfl ?_
          rintro _ w34 ⟨hs34, A_21, c_21, rfl, ho19⟩
          replace hB := gb_tr hB hs34
          replace hb1 := hb1.gb hs34
          replace hb8 := hb8.gb hs34
          replace hlo10 := Nat.le_trans hlo10 hs34.size
          replace hlo11 := Nat.le_trans hlo11 hs34.size
          replace ho18 := own_gb ho18 hs34
          replace hS_6 := hS_6.gb hs34
          replace hb12 := hb12.gb hs34
          have hlo12 : w33.heap.size ≤ w34.heap.size := hs34.size
          refine T_append (xs := ([(UInt8.ofNat (k % 256).toNat)]) ++ (fenc key.data.toList)) (ys := fenc val.data.toList) EncB slc42 rfl rfl ho18 (own_of ho19).2.2 (by have h1_ := fenc_len key.data.toList; have h2_ := fenc_len val.data.toList; simp at *; omega) hlo11 rfl ?_
          intro A_22 c_22 w35 ho20 hs35 hat8
          replace hB := gb_tro hB ho18 hs35 ge18
          replace hb1 := blk_own hb1 ho18 rfl hs35
          replace hb8 := blk_own hb8 ho18 rfl hs35
          replace hlo10 := Nat.le_trans hlo10 hs35.size
          replace hlo11 := Nat.le_trans hlo11 hs35.size
          replace hS_6 := hS_6.grown hs35 (fun k hk => .inl (ob4 k hk))
          replace hb12 := blk_own hb12 ho18 rfl hs35
          replace hlo12 := Nat.le_trans hlo12 hs35.size
          refine L_run (R_assign rfl) rfl ?_
          refine L_nil (N_then (C_seq (C_reg ?_)))
          refine L_run (R_move rfl) rfl ?_
          refine L_run (R_assign rfl) rfl ?_
          refine L_nil (N_then (C_ret ?_))
          refine ret1 Try.results40 rfl ?_
          have e_ : (([(UInt8.ofNat (k % 256).toNat)]) ++ (fenc key.data.toList)) ++ (fenc val.data.toList) = opEnc k key val := by unfold opEnc; first | (rw [if_pos (by omega)]; simp; done) | (rw [if_neg (by omega)]; simp; done)
          rw [← e_]; exact ⟨hB, _, _, rfl, (own_lo ho20 ge18)⟩
        · refine C_skip (N_then (C_seq (C_reg ?_)))
          refine L_run (R_move rfl) rfl ?_
          refine L_run (R_assign rfl) rfl ?_
          refine L_nil (N_then (C_ret ?_))
          refine ret1 Try.results40 rfl ?_
          have e_ : ([(UInt8.ofNat (k % 256).toNat)]) ++ (fenc key.data.toList) = opEnc k key val := by unfold opEnc; first | (rw [if_pos (by omega)]; simp; done) | (rw [if_neg (by omega)]; simp; done)
          rw [← e_]; exact ⟨hB, _, _, rfl, (own_lo ho18 ge18)⟩

theorem ref10_Get {w : World} {t1 lo hi : Nat} {A : Option Addr} {c : Nat} {bs : List UInt8} (hS : Sli t1 lo hi w A (fl encB bs)) (hl : bs.length ≤ 140737488355328) (hc : bs.length ≤ c) :
    Runs Try.prog 42 #[.slice A bs.length c] w (fun v w' => w.grownBy w' none ∧ v = .tuple #[.agg #[.int .i64 (oget bs).1.1, .string (oget bs).1.2.1, .string (oget bs).1.2.2], .int .i64 ((oget bs).2.1 : Int), .int .i64 (oget bs).2.2]) := by
  have hB := gb_refl w none
  obtain ⟨fb1, fb2, fb3, fb4⟩ := fget_bound (bs.drop 1)
  rw [List.length_drop] at fb1 fb4
  have fb5 := (fget_bound (bs.drop (1 + (fget (bs.drop 1)).2.1))).1
  rw [List.length_drop] at fb5
  replace hS := hS.top
  refine enter Try.func42 Try.ntmps42 rfl rfl ?_
  refine C_seq (C_reg ?_)
  refine L_alloc (cs := [.int .i64 0, .string (⟨#[]⟩), .string (⟨#[]⟩)]) zer44 rfl rfl ?_
  intro g1 w1 eg1 hb1 hs1 hz1
  have ge1 : w.heap.size ≤ g1 := eg_ge hB eg1
  replace hB := gb_tr hB hs1
  replace hS := hS.gb hs1
  refine L_run (R_assign rfl) rfl ?_
  refine L_run (R_assign rfl) rfl ?_
  refine L_nil (N_then (C_seq (C_seq (C_reg ?_))))
  refine L_run (R_move rfl) rfl ?_
  refine L_run (R_lenSl rfl slc42) rfl ?_
  refine L_run (R_eql rfl rfl) rfl ?_
  refine L_nil (N_then ?_)
  refine C_if rfl (fun h1 => ?_) (fun h1 => ?_)
  · refine C_seq (C_reg ?_)
    refine L_run (R_build (pv := []) (cs := [.int .i64 0, .string (⟨#[]⟩), .string (⟨#[]⟩)]) rfl (by kernel_rfl)) rfl ?_
    refine L_stA (vs := [.int .i64 0, .string (⟨#[]⟩), .string (⟨#[]⟩)]) rfl rfl rfl sz44 rfl hb1 rfl ?_
    intro w2 hb2 hs2 hz2
    replace hB := gb_trg hB hs2 ge1
    replace hS := hS.old hs2 ge1
    refine L_run (R_assign rfl) rfl ?_
    refine L_run (R_assign rfl) rfl ?_
    refine L_nil (N_then (C_ret (R_then ?_)))
    refine retC2 (vs := [.int .i64 0, .string (⟨#[]⟩), .string (⟨#[]⟩)]) Try.results42 rfl agg44 (At.pre (hb2.at_ 0) rfl) rfl rfl rfl ?_
    refine ⟨hB, ?_⟩
    have e_ : oget bs = ((0, ⟨#[]⟩, ⟨#[]⟩), 0, 1) := by
      have : bs = [] := List.eq_nil_of_length_eq_zero (by omega)
      subst this; rfl
    rw [e_]; rfl
  · refine C_skip (N_then (C_seq (C_seq (C_reg ?_))))
    refine L_run (R_move rfl) rfl ?_
    have hl1 : 0 < bs.length := by first | omega | (simp; omega)
    refine T_index (xs := bs) (i := 0) EncB rfl rfl (by first | rfl | omega) slc42 hl1 hS rfl ?_
    intro g2 o1 ha1
    refine L_run (R_load1 rfl scl5 (ha1 0 _ rfl)) rfl ?_
    refine L_run (R_neq rfl rfl) rfl ?_
    refine L_run (R_move rfl) rfl ?_
    refine L_splitD (p := ((bs[0]).toNat : Int) ≠ 1) (fun h2 => ?_) (fun h2 => ?_)
    · refine L_yes rfl rfl rfl (decide_eq_true h2) ?_
      refine L_run (R_move rfl) rfl ?_
      refine L_yes rfl rfl rfl (decide_eq_true h2) ?_
      have hl2 : 0 < bs.length := by first | omega | (simp; omega)
      refine T_index (xs := bs) (i := 0) EncB rfl rfl (by first | rfl | omega) slc42 hl2 hS rfl ?_
      intro g3 o2 ha2
      refine L_yes rfl rfl rfl (decide_eq_true h2) ?_
      refine L_run (R_load1 rfl scl5 (ha2 0 _ rfl)) rfl ?_
      refine L_yes rfl rfl rfl (decide_eq_true h2) ?_
      refine L_run (R_neq rfl rfl) rfl ?_
      refine L_run (R_pickT rfl (decide_eq_true h2) rfl) rfl ?_
      refine L_nil (N_then ?_)
      refine C_if rfl (fun h3 => ?_) (fun h3 => ?_)
      · refine C_seq (C_reg ?_)
        refine L_run (R_build (pv := []) (cs := [.int .i64 0, .string (⟨#[]⟩), .string (⟨#[]⟩)]) rfl (by kernel_rfl)) rfl ?_
        refine L_stA (vs := [.int .i64 0, .string (⟨#[]⟩), .string (⟨#[]⟩)]) rfl rfl rfl sz44 rfl hb1 rfl ?_
        intro w3 hb3 hs3 hz3
        replace hB := gb_trg hB hs3 ge1
        replace hS := hS.old hs3 ge1
        refine L_run (R_assign rfl) rfl ?_
        refine L_run (R_assign rfl) rfl ?_
        refine L_nil (N_then (C_ret (R_then ?_)))
        refine retC2 (vs := [.int .i64 0, .string (⟨#[]⟩), .string (⟨#[]⟩)]) Try.results42 rfl agg44 (At.pre (hb3.at_ 0) rfl) rfl rfl rfl ?_
        refine ⟨hB, ?_⟩
        first
          | (exfalso; omega)
          | (have e_ : oget bs = ((0, ⟨#[]⟩, ⟨#[]⟩), 0, 2) := by
               first
                 | exact oget_k (by omega) (by omega)
                 | exact rget_e (by omega) (by omega) (by omega)
                 | exact rget_1e (by omega) (by omega) (by omega) (by omega)
                 | exact rget_1n (by omega) (by omega) (by omega) (by omega) (by assumption)
                 | exact rget_1y (by omega) (by omega) (by omega) (by omega) (by assumption)
                 | exact rget_2n (by omega) (by omega) (by omega) (by omega) (by assumption)
                 | exact rget_2y (by omega) (by omega) (by omega) (by omega) (by assumption)
             rw [e_] <;> rfl)
      · refine C_skip (N_then (C_seq (C_reg ?_)))
        refine L_run (R_move rfl) rfl ?_
        refine T_slL (xs := bs) (i := 1) EncB rfl rfl (by first | rfl | omega) slc42 (by first | omega | (simp; done) | (simp; omega)) (by first | omega | (simp; done) | (simp; omega)) hS rfl ?_
        intro A_1 hS_1
        have ge2 : w.heap.size ≤ w1.heap.size := hB.size
        refine L_call rfl cb75 (ref04_Get (bs := (bs.drop 1)) hS_1 (by first | omega | (simp; done) | (simp; omega)) (by first | omega | (simp; done) | (simp; omega))) rfl ?_
        rintro _ w4 ⟨hs4, A_2, c_1, rfl, ho1⟩
        replace hB := gb_tr hB hs4
        replace hS := hS.gb hs4
        replace hb1 := hb1.gb hs4
        replace ha1 := At.gb ha1 hs4 (by simp)
        replace ha2 := At.gb ha2 hs4 (by simp)
        replace hS_1 := hS_1.gb hs4
        have hlo1 : w1.heap.size ≤ w4.heap.size := hs4.size
        refine L_run (R_move rfl) rfl ?_
        refine L_run (R_extract rfl rfl) rfl ?_
        refine L_run (R_extract rfl rfl) rfl ?_
        refine L_run (R_extract rfl rfl) rfl ?_
        refine L_run (R_assign rfl) rfl ?_
        refine L_run (R_assign rfl) rfl ?_
        refine L_run (R_assign rfl) rfl ?_
        refine L_nil (N_then (C_seq (C_seq (C_reg ?_))))
        refine L_run (R_move rfl) rfl ?_
        refine L_run (R_neq rfl rfl) rfl ?_
        refine L_nil (N_then ?_)
        refine C_if rfl (fun h4 => ?_) (fun h4 => ?_)
        · refine C_seq (C_reg ?_)
          refine L_run (R_build (pv := []) (cs := [.int .i64 0, .string (⟨#[]⟩), .string (⟨#[]⟩)]) rfl (by kernel_rfl)) rfl ?_
          refine L_run (R_move rfl) rfl ?_
          refine L_stA (vs := [.int .i64 0, .string (⟨#[]⟩), .string (⟨#[]⟩)]) rfl rfl rfl sz44 rfl hb1 rfl ?_
          intro w5 hb4 hs5 hz4
          replace hB := gb_trg hB hs5 ge1
          replace hS := hS.old hs5 ge1
          replace hS_1 := hS_1.old hs5 ge1
          replace ho1 := own_other ho1 hb1 rfl hs5
          replace hlo1 := Nat.le_trans hlo1 hs5.size
          refine L_run (R_assign rfl) rfl ?_
          refine L_run (R_assign rfl) rfl ?_
          refine L_nil (N_then (C_ret (R_then ?_)))
          refine retC2 (vs := [.int .i64 0, .string (⟨#[]⟩), .string (⟨#[]⟩)]) Try.results42 rfl agg44 (At.pre (hb4.at_ 0) rfl) rfl rfl rfl ?_
          refine ⟨hB, ?_⟩
          first
            | (exfalso; omega)
            | (have e_ : oget bs = ((0, ⟨#[]⟩, ⟨#[]⟩), 0, (fget (bs.drop 1)).2.2) := by
                 first
                   | exact oget_k (by omega) (by omega)
                   | exact rget_e (by omega) (by omega) (by omega)
                   | exact rget_1e (by omega) (by omega) (by omega) (by omega)
                   | exact rget_1n (by omega) (by omega) (by omega) (by omega) (by assumption)
                   | exact rget_1y (by omega) (by omega) (by omega) (by omega) (by assumption)
                   | exact rget_2n (by omega) (by omega) (by omega) (by omega) (by assumption)
                   | exact rget_2y (by omega) (by omega) (by omega) (by omega) (by assumption)
               rw [e_] <;> rfl)
        · refine C_skip (N_then (C_seq ?_))
          refine C_draw2 mix ?_
          intro w6 hs6 hz5
          replace hB := gb_tr hB hs6
          replace hS := hS.gb hs6
          replace hb1 := hb1.gb hs6
          replace ha1 := At.gb ha1 hs6 (by simp)
          replace ha2 := At.gb ha2 hs6 (by simp)
          replace hS_1 := hS_1.gb hs6
          replace ho1 := own_gb ho1 hs6
          replace hlo1 := Nat.le_trans hlo1 hs6.size
          have hl3 : 0 < bs.length := by first | omega | (simp; omega)
          obtain ⟨g4, o3, r1, eA1, er1, ha3⟩ := Sli.place' (xs := bs) (i := 0) EncB hS hl3 rfl
          refine ⟨fun W_ => World.ownsRow W_ w1.heap.size 5 1 (.slice A_2 ((fget (bs.drop 1)).1).length c_1) ((fget (bs.drop 1)).1).length (fl encB ((fget (bs.drop 1)).1)) ∧ At W_ g4 r1 [.int .u8 ((bs[0]).toNat : Int)] ∧ True, [0, 1, 2, 3, 4, 5, 6], ?_⟩
          refine T_takeA (i := 0) rfl rfl (by kernel_rfl) (by kernel_rfl) (by kernel_rfl) (Y_of (fun _ ⟨ho1, ha3, _⟩ => R_move rfl)) ⟨ho1, ha3, trivial⟩ rfl ?_
          refine T_takeA (i := 1) rfl rfl (by kernel_rfl) (by kernel_rfl) (by kernel_rfl) (Y_of (fun _ ⟨ho1, ha3, _⟩ => R_indexE rfl rfl (by first | rfl | omega) slc42 hl3 eA1 er1)) ⟨ho1, ha3, trivial⟩ rfl ?_
          refine T_takeA (i := 2) rfl rfl (by kernel_rfl) (by kernel_rfl) (by kernel_rfl) (Y_of (fun _ ⟨ho1, ha3, _⟩ => R_load1 rfl scl5 (ha3 0 _ rfl))) ⟨ho1, ha3, trivial⟩ rfl ?_
          refine T_takeA (i := 3) rfl rfl (by kernel_rfl) (by kernel_rfl) (by kernel_rfl) (Y_of (fun _ ⟨ho1, ha3, _⟩ => R_eqv (R_conv rfl any5 int3) (v' := .int .i64 (bs[0].toNat : Int)) (congrArg _ (i64_fit (by have := bs[0].toNat_lt; omega))))) ⟨ho1, ha3, trivial⟩ rfl ?_
          refine T_takeA (i := 4) rfl rfl (by kernel_rfl) (by kernel_rfl) (by kernel_rfl) (Y_of (fun _ ⟨ho1, ha3, _⟩ => R_move rfl)) ⟨ho1, ha3, trivial⟩ rfl ?_
          refine T_takeA (i := 5) rfl rfl (by kernel_rfl) (by kernel_rfl) (by kernel_rfl) (Y_of (fun _ ⟨ho1, ha3, _⟩ => R_b2s' (bs := (fget (bs.drop 1)).1) rfl slc42 int5 str9 (own_of ho1).2.2)) ⟨ho1, ha3, trivial⟩ rfl ?_
          refine T_takeA (i := 6) rfl rfl (by kernel_rfl) (by kernel_rfl) (by kernel_rfl) (Y_of (fun _ ⟨ho1, ha3, _⟩ => R_build (pv := [(0, .int .i64 (bs[0].toNat : Int)), (1, .string (⟨((fget (bs.drop 1)).1).toArray⟩))]) (cs := [.int .i64 (bs[0].toNat : Int), .string (⟨((fget (bs.drop 1)).1).toArray⟩), .string (⟨#[]⟩)]) rfl (by kernel_rfl))) ⟨ho1, ha3, trivial⟩ rfl ?_
          refine T_all (rs := [7]) (by kernel_rfl) rfl (all1 (O_one rfl ?_))
          refine L_alloc (cs := [.int .i64 0, .string (⟨#[]⟩), .string (⟨#[]⟩)]) zer44 rfl rfl ?_
          intro g5 w7 eg2 hb5 hs7 hz6
          have ge3 : w.heap.size ≤ g5 := eg_ge hB eg2
          have lt1 : g1 < g5 := lt_of_eg hb1.lt eg2
          replace hB := gb_tr hB hs7
          replace hS := hS.gb hs7
          replace hb1 := hb1.gb hs7
          replace ha1 := At.gb ha1 hs7 (by simp)
          replace ha2 := At.gb ha2 hs7 (by simp)
          replace hS_1 := hS_1.gb hs7
          replace ho1 := own_gb ho1 hs7
          replace hlo1 := Nat.le_trans hlo1 hs7.size
          replace ha3 := At.gb ha3 hs7 (by simp)
          refine L_nil (N_then ⟨fun hN_ => ⟨ho1, ha3, trivial⟩, ?_⟩)
          refine T_switch (S' := fun _ => True) (qs' := []) (by kernel_rfl) ?_
          refine T_all (rs := [8]) (by kernel_rfl) rfl (all1 (O_one rfl ?_))
          refine L_stA (vs := [.int .i64 (bs[0].toNat : Int), .string (⟨((fget (bs.drop 1)).1).toArray⟩), .string (⟨#[]⟩)]) rfl rfl rfl sz44 rfl hb5 rfl ?_
          intro w8 hb6 hs8 hz7
          replace hB := gb_trg hB hs8 ge3
          replace hS := hS.old hs8 ge3
          replace hb1 := hb1.grown hs8 (ne_lt lt1)
          replace hS_1 := hS_1.old hs8 ge3
          replace ho1 := own_other ho1 hb5 rfl hs8
          replace hlo1 := Nat.le_trans hlo1 hs8.size
          refine L_nil (N_then ⟨fun hN_ => trivial, ?_⟩)
          refine T_done (by kernel_rfl) (NoPanic.normal ?_)
          refine N_then (C_seq (C_reg ?_))
          refine L_run (R_move rfl) rfl ?_
          refine L_run (R_eqv (R_add64 rfl rfl (by omega)) (v' := .int .i64 ((1 + (fget (bs.drop 1)).2.1 : Nat) : Int)) (by congr 1; omega)) rfl ?_
          refine L_run (R_assign rfl) rfl ?_
          refine L_nil (N_then (C_seq (C_seq (C_reg ?_))))
          refine L_run (R_move rfl) rfl ?_
          have hl4 : 0 < bs.length := by first | omega | (simp; omega)
          refine T_index (xs := bs) (i := 0) EncB rfl rfl (by first | rfl | omega) slc42 hl4 hS rfl ?_
          intro g6 o4 ha4
          refine L_run (R_load1 rfl scl5 (ha4 0 _ rfl)) rfl ?_
          refine L_run (R_eql rfl rfl) rfl ?_
          refine L_nil (N_then (C_condF rfl (decide_eq_false h2) (C_skip (N_then (C_seq (C_seq (C_reg ?_)))))))
          refine L_run (R_loadA (vs := [.int .i64 (bs[0].toNat : Int), .string (⟨((fget (bs.drop 1)).1).toArray⟩), .string (⟨#[]⟩)]) rfl agg44 (At.pre (hb6.at_ 0) rfl) rfl) rfl ?_
          refine L_call rfl cb39 (ref10_Right) rfl ?_
          rintro _ w9 ⟨hs9, rfl⟩
          replace hB := gb_tr hB hs9
          replace hS := hS.gb hs9
          replace hb1 := hb1.gb hs9
          replace hS_1 := hS_1.gb hs9
          replace ho1 := own_gb ho1 hs9
          replace hlo1 := Nat.le_trans hlo1 hs9.size
          replace hb6 := hb6.gb hs9
          replace ha4 := At.gb ha4 hs9 (by simp)
          refine L_run (R_notD rfl) rfl ?_
          refine L_nil (N_then ?_)
          refine C_ifN rfl (fun h5 => ?_) (fun h5 => ?_)
          · refine C_seq (C_reg ?_)
            refine L_run (R_build (pv := []) (cs := [.int .i64 0, .string (⟨#[]⟩), .string (⟨#[]⟩)]) rfl (by kernel_rfl)) rfl ?_
            refine L_stA (vs := [.int .i64 0, .string (⟨#[]⟩), .string (⟨#[]⟩)]) rfl rfl rfl sz44 rfl hb1 rfl ?_
            intro w10 hb7 hs10 hz8
            replace hB := gb_trg hB hs10 ge1
            replace hS := hS.old hs10 ge1
            replace hS_1 := hS_1.old hs10 ge1
            replace ho1 := own_other ho1 hb1 rfl hs10
            replace hlo1 := Nat.le_trans hlo1 hs10.size
            replace hb6 := hb6.grown hs10 (ne_gt lt1)
            refine L_run (R_assign rfl) rfl ?_
            refine L_run (R_assign rfl) rfl ?_
            refine L_nil (N_then (C_ret (R_then ?_)))
            refine retC2 (vs := [.int .i64 0, .string (⟨#[]⟩), .string (⟨#[]⟩)]) Try.results42 rfl agg44 (At.pre (hb7.at_ 0) rfl) rfl rfl rfl ?_
            refine ⟨hB, ?_⟩
            first
              | (exfalso; omega)
              | (have e_ : oget bs = ((0, ⟨#[]⟩, ⟨#[]⟩), 0, 2) := by
                   first
                     | exact oget_k (by omega) (by omega)
                     | exact rget_e (by omega) (by omega) (by omega)
                     | exact rget_1e (by omega) (by omega) (by omega) (by omega)
                     | exact rget_1n (by omega) (by omega) (by omega) (by omega) (by assumption)
                     | exact rget_1y (by omega) (by omega) (by omega) (by omega) (by assumption)
                     | exact rget_2n (by omega) (by omega) (by omega) (by omega) (by assumption)
                     | exact rget_2y (by omega) (by omega) (by omega) (by omega) (by assumption)
                 rw [e_] <;> rfl)
          · refine C_skip (N_then (C_seq (C_reg ?_)))
            refine L_run (R_loadA (vs := [.int .i64 (bs[0].toNat : Int), .string (⟨((fget (bs.drop 1)).1).toArray⟩), .string (⟨#[]⟩)]) rfl agg44 (At.pre (hb6.at_ 0) rfl) rfl) rfl ?_
            refine L_run (R_move rfl) rfl ?_
            refine L_stA (vs := [.int .i64 (bs[0].toNat : Int), .string (⟨((fget (bs.drop 1)).1).toArray⟩), .string (⟨#[]⟩)]) rfl rfl rfl sz44 rfl hb1 rfl ?_
            intro w11 hb8 hs11 hz9
            replace hB := gb_trg hB hs11 ge1
            replace hS := hS.old hs11 ge1
            replace hS_1 := hS_1.old hs11 ge1
            replace ho1 := own_other ho1 hb1 rfl hs11
            replace hlo1 := Nat.le_trans hlo1 hs11.size
            replace hb6 := hb6.grown hs11 (ne_gt lt1)
            refine L_run (R_assign rfl) rfl ?_
            refine L_run (R_assign rfl) rfl ?_
            refine L_nil (N_then (C_ret ?_))
            refine retC2 (vs := [.int .i64 (bs[0].toNat : Int), .string (⟨((fget (bs.drop 1)).1).toArray⟩), .string (⟨#[]⟩)]) Try.results42 rfl agg44 (At.pre (hb8.at_ 0) rfl) rfl rfl rfl ?_
            refine ⟨hB, ?_⟩
            first
              | (exfalso; omega)
              | (have e_ : oget bs = (((bs[0].toNat : Int), ⟨((fget (bs.drop 1)).1).toArray⟩, ⟨#[]⟩), (1 + (fget (bs.drop 1)).2.1), 0) := by
                   first
                     | exact oget_k (by omega) (by omega)
                     | exact rget_e (by omega) (by omega) (by omega)
                     | exact rget_1e (by omega) (by omega) (by omega) (by omega)
                     | exact rget_1n (by omega) (by omega) (by omega) (by omega) (by assumption)
                     | exact rget_1y (by omega) (by omega) (by omega) (by omega) (by assumption)
                     | exact rget_2n (by omega) (by omega) (by omega) (by omega) (by assumption)
                     | exact rget_2y (by omega) (by omega) (by omega) (by omega) (by assumption)
                 rw [e_] <;> rfl)
    · refine L_no rfl rfl rfl (decide_eq_false h2) rfl ?_
      refine L_no rfl rfl rfl (decide_eq_false h2) rfl ?_
      refine L_no rfl rfl rfl (decide_eq_false h2) rfl ?_
      refine L_no rfl rfl rfl (decide_eq_false h2) rfl ?_
      refine L_run (R_pickF rfl (decide_eq_false h2) rfl) rfl ?_
      refine L_nil (N_then (C_condF rfl rfl (C_skip (N_then (C_seq (C_reg ?_))))))
      refine L_run (R_move rfl) rfl ?_
      refine T_slL (xs := bs) (i := 1) EncB rfl rfl (by first | rfl | omega) slc42 (by first | omega | (simp; done) | (simp; omega)) (by first | omega | (simp; done) | (simp; omega)) hS rfl ?_
      intro A_3 hS_2
      have ge4 : w.heap.size ≤ w1.heap.size := hB.size
      refine L_call rfl cb75 (ref04_Get (bs := (bs.drop 1)) hS_2 (by first | omega | (simp; done) | (simp; omega)) (by first | omega | (simp; done) | (simp; omega))) rfl ?_
      rintro _ w12 ⟨hs12, A_4, c_2, rfl, ho2⟩
      replace hB := gb_tr hB hs12
      replace hS := hS.gb hs12
      replace hb1 := hb1.gb hs12
      replace ha1 := At.gb ha1 hs12 (by simp)
      replace hS_2 := hS_2.gb hs12
      have hlo2 : w1.heap.size ≤ w12.heap.size := hs12.size
      refine L_run (R_move rfl) rfl ?_
      refine L_run (R_extract rfl rfl) rfl ?_
      refine L_run (R_extract rfl rfl) rfl ?_
      refine L_run (R_extract rfl rfl) rfl ?_
      refine L_run (R_assign rfl) rfl ?_
      refine L_run (R_assign rfl) rfl ?_
      refine L_run (R_assign rfl) rfl ?_
      refine L_nil (N_then (C_seq (C_seq (C_reg ?_))))
      refine L_run (R_move rfl) rfl ?_
      refine L_run (R_neq rfl rfl) rfl ?_
      refine L_nil (N_then ?_)
      refine C_if rfl (fun h6 => ?_) (fun h6 => ?_)
      · refine C_seq (C_reg ?_)
        refine L_run (R_build (pv := []) (cs := [.int .i64 0, .string (⟨#[]⟩), .string (⟨#[]⟩)]) rfl (by kernel_rfl)) rfl ?_
        refine L_run (R_move rfl) rfl ?_
        refine L_stA (vs := [.int .i64 0, .string (⟨#[]⟩), .string (⟨#[]⟩)]) rfl rfl rfl sz44 rfl hb1 rfl ?_
        intro w13 hb9 hs13 hz10
        replace hB := gb_trg hB hs13 ge1
        replace hS := hS.old hs13 ge1
        replace hS_2 := hS_2.old hs13 ge1
        replace ho2 := own_other ho2 hb1 rfl hs13
        replace hlo2 := Nat.le_trans hlo2 hs13.size
        refine L_run (R_assign rfl) rfl ?_
        refine L_run (R_assign rfl) rfl ?_
        refine L_nil (N_then (C_ret (R_then ?_)))
        refine retC2 (vs := [.int .i64 0, .string (⟨#[]⟩), .string (⟨#[]⟩)]) Try.results42 rfl agg44 (At.pre (hb9.at_ 0) rfl) rfl rfl rfl ?_
        refine ⟨hB, ?_⟩
        first
          | (exfalso; omega)
          | (have e_ : oget bs = ((0, ⟨#[]⟩, ⟨#[]⟩), 0, (fget (bs.drop 1)).2.2) := by
               first
                 | exact oget_k (by omega) (by omega)
                 | exact rget_e (by omega) (by omega) (by omega)
                 | exact rget_1e (by omega) (by omega) (by omega) (by omega)
                 | exact rget_1n (by omega) (by omega) (by omega) (by omega) (by assumption)
                 | exact rget_1y (by omega) (by omega) (by omega) (by omega) (by assumption)
                 | exact rget_2n (by omega) (by omega) (by omega) (by omega) (by assumption)
                 | exact rget_2y (by omega) (by omega) (by omega) (by omega) (by assumption)
             rw [e_] <;> rfl)
      · refine C_skip (N_then (C_seq ?_))
        refine C_draw2 mix ?_
        intro w14 hs14 hz11
        replace hB := gb_tr hB hs14
        replace hS := hS.gb hs14
        replace hb1 := hb1.gb hs14
        replace ha1 := At.gb ha1 hs14 (by simp)
        replace hS_2 := hS_2.gb hs14
        replace ho2 := own_gb ho2 hs14
        replace hlo2 := Nat.le_trans hlo2 hs14.size
        have hl5 : 0 < bs.length := by first | omega | (simp; omega)
        obtain ⟨g7, o5, r2, eA2, er2, ha5⟩ := Sli.place' (xs := bs) (i := 0) EncB hS hl5 rfl
        refine ⟨fun W_ => World.ownsRow W_ w1.heap.size 5 1 (.slice A_4 ((fget (bs.drop 1)).1).length c_2) ((fget (bs.drop 1)).1).length (fl encB ((fget (bs.drop 1)).1)) ∧ At W_ g7 r2 [.int .u8 ((bs[0]).toNat : Int)] ∧ True, [0, 1, 2, 3, 4, 5, 6], ?_⟩
        refine T_takeA (i := 0) rfl rfl (by kernel_rfl) (by kernel_rfl) (by kernel_rfl) (Y_of (fun _ ⟨ho2, ha5, _⟩ => R_move rfl)) ⟨ho2, ha5, trivial⟩ rfl ?_
        refine T_takeA (i := 1) rfl rfl (by kernel_rfl) (by kernel_rfl) (by kernel_rfl) (Y_of (fun _ ⟨ho2, ha5, _⟩ => R_indexE rfl rfl (by first | rfl | omega) slc42 hl5 eA2 er2)) ⟨ho2, ha5, trivial⟩ rfl ?_
        refine T_takeA (i := 2) rfl rfl (by kernel_rfl) (by kernel_rfl) (by kernel_rfl) (Y_of (fun _ ⟨ho2, ha5, _⟩ => R_load1 rfl scl5 (ha5 0 _ rfl))) ⟨ho2, ha5, trivial⟩ rfl ?_
        refine T_takeA (i := 3) rfl rfl (by kernel_rfl) (by kernel_rfl) (by kernel_rfl) (Y_of (fun _ ⟨ho2, ha5, _⟩ => R_eqv (R_conv rfl any5 int3) (v' := .int .i64 (bs[0].toNat : Int)) (congrArg _ (i64_fit (by have := bs[0].toNat_lt; omega))))) ⟨ho2, ha5, trivial⟩ rfl ?_
        refine T_takeA (i := 4) rfl rfl (by kernel_rfl) (by kernel_rfl) (by kernel_rfl) (Y_of (fun _ ⟨ho2, ha5, _⟩ => R_move rfl)) ⟨ho2, ha5, trivial⟩ rfl ?_
        refine T_takeA (i := 5) rfl rfl (by kernel_rfl) (by kernel_rfl) (by kernel_rfl) (Y_of (fun _ ⟨ho2, ha5, _⟩ => R_b2s' (bs := (fget (bs.drop 1)).1) rfl slc42 int5 str9 (own_of ho2).2.2)) ⟨ho2, ha5, trivial⟩ rfl ?_
        refine T_takeA (i := 6) rfl rfl (by kernel_rfl) (by kernel_rfl) (by kernel_rfl) (Y_of (fun _ ⟨ho2, ha5, _⟩ => R_build (pv := [(0, .int .i64 (bs[0].toNat : Int)), (1, .string (⟨((fget (bs.drop 1)).1).toArray⟩))]) (cs := [.int .i64 (bs[0].toNat : Int), .string (⟨((fget (bs.drop 1)).1).toArray⟩), .string (⟨#[]⟩)]) rfl (by kernel_rfl))) ⟨ho2, ha5, trivial⟩ rfl ?_
        refine T_all (rs := [7]) (by kernel_rfl) rfl (all1 (O_one rfl ?_))
        refine L_alloc (cs := [.int .i64 0, .string (⟨#[]⟩), .string (⟨#[]⟩)]) zer44 rfl rfl ?_
        intro g8 w15 eg3 hb10 hs15 hz12
        have ge5 : w.heap.size ≤ g8 := eg_ge hB eg3
        have lt2 : g1 < g8 := lt_of_eg hb1.lt eg3
        replace hB := gb_tr hB hs15
        replace hS := hS.gb hs15
        replace hb1 := hb1.gb hs15
        replace ha1 := At.gb ha1 hs15 (by simp)
        replace hS_2 := hS_2.gb hs15
        replace ho2 := own_gb ho2 hs15
        replace hlo2 := Nat.le_trans hlo2 hs15.size
        replace ha5 := At.gb ha5 hs15 (by simp)
        refine L_nil (N_then ⟨fun hN_ => ⟨ho2, ha5, trivial⟩, ?_⟩)
        refine T_switch (S' := fun _ => True) (qs' := []) (by kernel_rfl) ?_
        refine T_all (rs := [8]) (by kernel_rfl) rfl (all1 (O_one rfl ?_))
        refine L_stA (vs := [.int .i64 (bs[0].toNat : Int), .string (⟨((fget (bs.drop 1)).1).toArray⟩), .string (⟨#[]⟩)]) rfl rfl rfl sz44 rfl hb10 rfl ?_
        intro w16 hb11 hs16 hz13
        replace hB := gb_trg hB hs16 ge5
        replace hS := hS.old hs16 ge5
        replace hb1 := hb1.grown hs16 (ne_lt lt2)
        replace hS_2 := hS_2.old hs16 ge5
        replace ho2 := own_other ho2 hb10 rfl hs16
        replace hlo2 := Nat.le_trans hlo2 hs16.size
        refine L_nil (N_then ⟨fun hN_ => trivial, ?_⟩)
        refine T_done (by kernel_rfl) (NoPanic.normal ?_)
        refine N_then (C_seq (C_reg ?_))
        refine L_run (R_move rfl) rfl ?_
        refine L_run (R_eqv (R_add64 rfl rfl (by omega)) (v' := .int .i64 ((1 + (fget (bs.drop 1)).2.1 : Nat) : Int)) (by congr 1; omega)) rfl ?_
        refine L_run (R_assign rfl) rfl ?_
        refine L_nil (N_then (C_seq (C_seq (C_reg ?_))))
        refine L_run (R_move rfl) rfl ?_
        have hl6 : 0 < bs.length := by first | omega | (simp; omega)
        refine T_index (xs := bs) (i := 0) EncB rfl rfl (by first | rfl | omega) slc42 hl6 hS rfl ?_
        intro g9 o6 ha6
        refine L_run (R_load1 rfl scl5 (ha6 0 _ rfl)) rfl ?_
        refine L_run (R_eql rfl rfl) rfl ?_
        refine L_nil (N_then (C_condT rfl (decide_eq_true (Decidable.not_not.1 h2)) (C_seq (C_reg ?_))))
        refine L_run (R_move rfl) rfl ?_
        refine L_run (R_move rfl) rfl ?_
        refine T_slL (xs := bs) (i := (1 + (fget (bs.drop 1)).2.1)) EncB rfl rfl (by first | rfl | omega) slc42 (by first | omega | (simp; done) | (simp; omega)) (by first | omega | (simp; done) | (simp; omega)) hS rfl ?_
        intro A_5 hS_3
        have ge6 : w.heap.size ≤ w16.heap.size := hB.size
        refine L_call rfl cb75 (ref04_Get (bs := (bs.drop (1 + (fget (bs.drop 1)).2.1))) hS_3 (by first | omega | (simp; done) | (simp; omega)) (by first | omega | (simp; done) | (simp; omega))) rfl ?_
        rintro _ w17 ⟨hs17, A_6, c_3, rfl, ho3⟩
        replace hB := gb_tr hB hs17
        replace hS := hS.gb hs17
        replace hb1 := hb1.gb hs17
        replace hS_2 := hS_2.gb hs17
        replace ho2 := own_gb ho2 hs17
        replace hlo2 := Nat.le_trans hlo2 hs17.size
        replace hb11 := hb11.gb hs17
        replace ha6 := At.gb ha6 hs17 (by simp)
        replace hS_3 := hS_3.gb hs17
        have hlo3 : w16.heap.size ≤ w17.heap.size := hs17.size
        refine L_run (R_move rfl) rfl ?_
        refine L_run (R_extract rfl rfl) rfl ?_
        refine L_run (R_extract rfl rfl) rfl ?_
        refine L_run (R_extract rfl rfl) rfl ?_
        refine L_run (R_assign rfl) rfl ?_
        refine L_run (R_assign rfl) rfl ?_
        refine L_run (R_assign rfl) rfl ?_
        refine L_nil (N_then (C_seq (C_seq (C_reg ?_))))
        refine L_run (R_move rfl) rfl ?_
        refine L_run (R_neq rfl rfl) rfl ?_
        refine L_nil (N_then ?_)
        refine C_if rfl (fun h7 => ?_) (fun h7 => ?_)
        · refine C_seq (C_reg ?_)
          refine L_run (R_build (pv := []) (cs := [.int .i64 0, .string (⟨#[]⟩), .string (⟨#[]⟩)]) rfl (by kernel_rfl)) rfl ?_
          refine L_run (R_move rfl) rfl ?_
          refine L_stA (vs := [.int .i64 0, .string (⟨#[]⟩), .string (⟨#[]⟩)]) rfl rfl rfl sz44 rfl hb1 rfl ?_
          intro w18 hb12 hs18 hz14
          replace hB := gb_trg hB hs18 ge1
          replace hS := hS.old hs18 ge1
          replace hS_2 := hS_2.old hs18 ge1
          replace ho2 := own_other ho2 hb1 rfl hs18
          replace hlo2 := Nat.le_trans hlo2 hs18.size
          replace hb11 := hb11.grown hs18 (ne_gt lt2)
          replace hS_3 := hS_3.old hs18 ge1
          replace ho3 := own_other ho3 hb1 rfl hs18
          replace hlo3 := Nat.le_trans hlo3 hs18.size
          refine L_run (R_assign rfl) rfl ?_
          refine L_run (R_assign rfl) rfl ?_
          refine L_nil (N_then (C_ret (R_then (R_then ?_))))
          refine retC2 (vs := [.int .i64 0, .string (⟨#[]⟩), .string (⟨#[]⟩)]) Try.results42 rfl agg44 (At.pre (hb12.at_ 0) rfl) rfl rfl rfl ?_
          refine ⟨hB, ?_⟩
          first
            | (exfalso; omega)
            | (have e_ : oget bs = ((0, ⟨#[]⟩, ⟨#[]⟩), 0, (fget (bs.drop (1 + (fget (bs.drop 1)).2.1))).2.2) := by
                 first
                   | exact oget_k (by omega) (by omega)
                   | exact rget_e (by omega) (by omega) (by omega)
                   | exact rget_1e (by omega) (by omega) (by omega) (by omega)
                   | exact rget_1n (by omega) (by omega) (by omega) (by omega) (by assumption)
                   | exact rget_1y (by omega) (by omega) (by omega) (by omega) (by assumption)
                   | exact rget_2n (by omega) (by omega) (by omega) (by omega) (by assumption)
                   | exact rget_2y (by omega) (by omega) (by omega) (by omega) (by assumption)
               rw [e_] <;> rfl)
        · refine C_skip (N_then (C_seq (C_reg ?_)))
          refine L_run (R_move rfl) rfl ?_
          refine L_run (R_b2s' (bs := (fget (bs.drop (1 + (fget (bs.drop 1)).2.1))).1) rfl slc42 int5 str9 (own_of ho3).2.2) rfl ?_
          refine L_run (R_field (r := 2) rfl fld44_2 rfl) rfl ?_
          refine L_st1 rfl rfl rfl sz9 hb11 rfl ?_
          intro w19 hb13 hs19 hz15
          replace hB := gb_trg hB hs19 ge5
          replace hS := hS.old hs19 ge5
          replace hb1 := hb1.grown hs19 (ne_lt lt2)
          replace hS_2 := hS_2.old hs19 ge5
          replace ho2 := own_other ho2 hb11 rfl hs19
          replace hlo2 := Nat.le_trans hlo2 hs19.size
          replace hS_3 := hS_3.old hs19 ge5
          replace ho3 := own_other ho3 hb11 rfl hs19
          replace hlo3 := Nat.le_trans hlo3 hs19.size
          refine L_nil (N_then (C_reg ?_))
          refine L_run (R_move rfl) rfl ?_
          refine L_run (R_move rfl) rfl ?_
          refine L_run (R_add64 rfl rfl (by omega)) rfl ?_
          refine L_run (R_assign rfl) rfl ?_
          refine L_nil (N_then (C_seq (C_seq (C_reg ?_))))
          refine L_run (R_loadA (vs := [.int .i64 (bs[0].toNat : Int), .string (⟨((fget (bs.drop 1)).1).toArray⟩), .string (⟨((fget (bs.drop (1 + (fget (bs.drop 1)).2.1))).1).toArray⟩)]) rfl agg44 (At.pre (hb13.at_ 0) rfl) rfl) rfl ?_
          refine L_call rfl cb39 (ref10_Right) rfl ?_
          rintro _ w20 ⟨hs20, rfl⟩
          replace hB := gb_tr hB hs20
          replace hS := hS.gb hs20
          replace hb1 := hb1.gb hs20
          replace hS_2 := hS_2.gb hs20
          replace ho2 := own_gb ho2 hs20
          replace hlo2 := Nat.le_trans hlo2 hs20.size
          replace hb13 := hb13.gb hs20
          replace hS_3 := hS_3.gb hs20
          replace ho3 := own_gb ho3 hs20
          replace hlo3 := Nat.le_trans hlo3 hs20.size
          refine L_run (R_notD rfl) rfl ?_
          refine L_nil (N_then ?_)
          refine C_ifN rfl (fun h8 => ?_) (fun h8 => ?_)
          · refine C_seq (C_reg ?_)
            refine L_run (R_build (pv := []) (cs := [.int .i64 0, .string (⟨#[]⟩), .string (⟨#[]⟩)]) rfl (by kernel_rfl)) rfl ?_
            refine L_stA (vs := [.int .i64 0, .string (⟨#[]⟩), .string (⟨#[]⟩)]) rfl rfl rfl sz44 rfl hb1 rfl ?_
            intro w21 hb14 hs21 hz16
            replace hB := gb_trg hB hs21 ge1
            replace hS := hS.old hs21 ge1
            replace hS_2 := hS_2.old hs21 ge1
            replace ho2 := own_other ho2 hb1 rfl hs21
            replace hlo2 := Nat.le_trans hlo2 hs21.size
            replace hb13 := hb13.grown hs21 (ne_gt lt2)
            replace hS_3 := hS_3.old hs21 ge1
            replace ho3 := own_other ho3 hb1 rfl hs21
            replace hlo3 := Nat.le_trans hlo3 hs21.size
            refine L_run (R_assign rfl) rfl ?_
            refine L_run (R_assign rfl) rfl ?_
            refine L_nil (N_then (C_ret (R_then ?_)))
            refine retC2 (vs := [.int .i64 0, .string (⟨#[]⟩), .string (⟨#[]⟩)]) Try.results42 rfl agg44 (At.pre (hb14.at_ 0) rfl) rfl rfl rfl ?_
            refine ⟨hB, ?_⟩
            first
              | (exfalso; omega)
              | (have e_ : oget bs = ((0, ⟨#[]⟩, ⟨#[]⟩), 0, 2) := by
                   first
                     | exact oget_k (by omega) (by omega)
                     | exact rget_e (by omega) (by omega) (by omega)
                     | exact rget_1e (by omega) (by omega) (by omega) (by omega)
                     | exact rget_1n (by omega) (by omega) (by omega) (by omega) (by assumption)
                     | exact rget_1y (by omega) (by omega) (by omega) (by omega) (by assumption)
                     | exact rget_2n (by omega) (by omega) (by omega) (by omega) (by assumption)
                     | exact rget_2y (by omega) (by omega) (by omega) (by omega) (by assumption)
                 rw [e_] <;> rfl)
          · refine C_skip (N_then (C_seq (C_reg ?_)))
            refine L_run (R_loadA (vs := [.int .i64 (bs[0].toNat : Int), .string (⟨((fget (bs.drop 1)).1).toArray⟩), .string (⟨((fget (bs.drop (1 + (fget (bs.drop 1)).2.1))).1).toArray⟩)]) rfl agg44 (At.pre (hb13.at_ 0) rfl) rfl) rfl ?_
            refine L_run (R_move rfl) rfl ?_
            refine L_stA (vs := [.int .i64 (bs[0].toNat : Int), .string (⟨((fget (bs.drop 1)).1).toArray⟩), .string (⟨((fget (bs.drop (1 + (fget (bs.drop 1)).2.1))).1).toArray⟩)]) rfl rfl rfl sz44 rfl hb1 rfl ?_
            intro w22 hb15 hs22 hz17
            replace hB := gb_trg hB hs22 ge1
            replace hS := hS.old hs22 ge1
            replace hS_2 := hS_2.old hs22 ge1
            replace ho2 := own_other ho2 hb1 rfl hs22
            replace hlo2 := Nat.le_trans hlo2 hs22.size
            replace hb13 := hb13.grown hs22 (ne_gt lt2)
            replace hS_3 := hS_3.old hs22 ge1
            replace ho3 := own_other ho3 hb1 rfl hs22
            replace hlo3 := Nat.le_trans hlo3 hs22.size
            refine L_run (R_assign rfl) rfl ?_
            refine L_run (R_assign rfl) rfl ?_
            refine L_nil (N_then (C_ret ?_))
            refine retC2 (vs := [.int .i64 (bs[0].toNat : Int), .string (⟨((fget (bs.drop 1)).1).toArray⟩), .string (⟨((fget (bs.drop (1 + (fget (bs.drop 1)).2.1))).1).toArray⟩)]) Try.results42 rfl agg44 (At.pre (hb15.at_ 0) rfl) rfl rfl rfl ?_
            refine ⟨hB, ?_⟩
            first
              | (exfalso; omega)
              | (have e_ : oget bs = (((bs[0].toNat : Int), ⟨((fget (bs.drop 1)).1).toArray⟩, ⟨((fget (bs.drop (1 + (fget (bs.drop 1)).2.1))).1).toArray⟩), ((1 + (fget (bs.drop 1)).2.1) + ((fget (bs.drop (1 + (fget (bs.drop 1)).2.1))).2.1)), 0) := by
                   first
                     | exact oget_k (by omega) (by omega)
                     | exact rget_e (by omega) (by omega) (by omega)
                     | exact rget_1e (by omega) (by omega) (by omega) (by omega)
                     | exact rget_1n (by omega) (by omega) (by omega) (by omega) (by assumption)
                     | exact rget_1y (by omega) (by omega) (by omega) (by omega) (by assumption)
                     | exact rget_2n (by omega) (by omega) (by omega) (by omega) (by assumption)
                     | exact rget_2y (by omega) (by omega) (by omega) (by omega) (by assumption)
                 rw [e_] <;> rfl)

end Go.Proofs.Ytnggbodilhpohaa
