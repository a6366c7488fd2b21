/-
  Contracts of the packages word, stamp and plan: numbers in bytes, sectors stamped, a body as sectors.
-/
import Derived.Test.YtbpjdcpfphnccaaDoorTh
namespace Go.Proofs.YtbpjdcpfphnccaaDoor
open Go.RowKit Gw Pl
set_option linter.unusedVariables false
set_option linter.unusedSimpArgs false
theorem cb37 : callB Tryd.prog 37 = true := by kernel_rfl
theorem cb50 : callB Tryd.prog 50 = true := by kernel_rfl
theorem cb51 : callB Tryd.prog 51 = true := by kernel_rfl
theorem cb61 : callB Tryd.prog 61 = true := by kernel_rfl
theorem cb64 : callB Tryd.prog 64 = true := by kernel_rfl
theorem cb67 : callB Tryd.prog 67 = true := by kernel_rfl
theorem shr8 {n k : Nat} (hk : k ≤ 7) : Value.int .u64 ((n : Int).fdiv (2 ^ (min ((8 : Int) * (k : Int)).toNat (IntKind.bits .u64)))) = .int .u64 ((n / 256 ^ k : Nat) : Int) := by
  refine congrArg (Value.int .u64) ?_
  have h1 : ((8 : Int) * (k : Int)).toNat = 8 * k := by omega
  have h2 : min (8 * k) (IntKind.bits .u64) = 8 * k := by simp [IntKind.bits]; omega
  have h3 : (2 : Int) ^ (8 * k) = ((256 ^ k : Nat) : Int) := by
    rw [Int.natCast_pow, Int.pow_mul]; rfl
  rw [h1, h2, h3, Int.fdiv_eq_ediv_of_nonneg _ (Int.natCast_nonneg _)]
  rfl
theorem u8_wrap (n : Nat) : Value.int .u8 (IntKind.u8.wrap (n : Int)) = .int .u8 ((UInt8.ofNat (n % 256)).toNat : Int) := by
  refine congrArg (Value.int .u8) ?_
  rw [IntKind.wrap_u8, n256 _ (by omega)]
  omega
theorem app_rep {xs : List UInt8} {k : Nat} : (xs ++ List.replicate k 0).length = xs.length + k := by simp
theorem take_putN {n k : Nat} : (putN n k).take k = putN n k := List.take_of_length_le (by rw [putN_len]; omega)
theorem wnear {w : World} {k : Nat} (hk : k ≤ 8) :
    Runs Tryd.prog 67 #[.int .i64 ((k : Nat) : Int), .int .i64 0, .int .i64 8] w (fun v w' => w.grownBy w' none ∧ v = .int .i64 ((k : Nat) : Int)) := by
  have hB := gb_refl w none
  refine enter Tryd.func67 Tryd.ntmps67 rfl rfl ?_
  refine C_seq (C_reg rfl ?_)
  refine L_run (R_assign rfl) rfl ?_
  refine L_nil (N_then (C_seq (C_reg rfl ?_)))
  refine L_run (R_move rfl) rfl ?_
  refine L_run (R_move rfl) rfl ?_
  refine L_run (R_move rfl) rfl ?_
  refine L_run (R_min2 rfl rfl) rfl ?_
  refine L_run (R_max2 rfl rfl) rfl ?_
  refine L_run (R_assign rfl) rfl ?_
  refine L_nil (N_then (C_ret ?_))
  refine ret1 Tryd.results67 rfl ?_
  first
    | (exfalso; omega)
    | (refine ⟨hB, congrArg (Value.int .i64) ?_⟩
       omega)

theorem wput {w : World} {n k : Nat} (hk : k ≤ 8) :
    Runs Tryd.prog 61 #[.int .u64 (n : Int), .int .i64 ((k : Nat) : Int)] w (fun v w' => w.grownBy w' none ∧ ∃ A' c', v = .slice A' (putN n k).length c' ∧ World.ownsRow w' w.heap.size 5 1 (.slice A' (putN n k).length c') (putN n k).length (fl encB (putN n k))) := by
  have hB := gb_refl w none
  refine enter Tryd.func61 Tryd.ntmps61 rfl rfl ?_
  refine C_seq (C_reg rfl ?_)
  refine L_run (R_assign rfl) rfl ?_
  refine L_nil (N_then (C_seq (C_reg rfl ?_)))
  refine L_run (R_assign rfl) rfl ?_
  refine L_nil (N_then (C_seq (C_seq (C_reg rfl ?_))))
  refine L_run (R_move rfl) rfl ?_
  refine L_call rfl cb67 (wnear (k := k) (by omega)) rfl ?_
  rintro _ w1 ⟨hs1, rfl⟩
  replace hB := gb_tr hB hs1
  refine L_run (R_move rfl) rfl ?_
  refine L_nil (N_then (C_block ?_))
  refine C_loop (fun m_ a_ w_ => ∃ (σ_ : Nat → Value) (Aj : Option Addr) (cj : Nat) (i : Nat), a_ = Ac 22 σ_ [] [(0, .int .u64 (n : Int)), (4, .slice none 0 0), (5, .slice Aj ((putN n i).length) cj), (8, .int .i64 ((k : Nat) : Int)), (9, .int .i64 (i : Int))] ∧ w.grownBy w_ none ∧ World.ownsRow w_ w.heap.size 5 1 (.slice Aj (putN n i).length cj) (putN n i).length (fl encB (putN n i)) ∧ (i ≤ k) ∧ k - i = m_) (k - 0) ?_ ?_
  · exact ⟨_, none, 0, 0, Ac_frg ⟨rfl, rfl, (agr rfl (by first | rfl | (congr 1; omega) | (congr 1; simp; done) | (congr 1; simp only [IntKind.wrap_u64, IntKind.wrap_i64, IntKind.wrap_u8]; omega) | (congr 1 <;> omega))), rfl, (agr rfl (by first | rfl | (congr 1; omega) | (congr 1; simp; done) | (congr 1; simp only [IntKind.wrap_u64, IntKind.wrap_i64, IntKind.wrap_u8]; omega) | (congr 1 <;> omega))), trivial⟩, hB, (own_nil _ _ _ _), (by omega), rfl⟩
  · clear hB
    rintro m_ a_ w2 ⟨σ_, Aj, cj, i, rfl, hB, ho, hi, rfl⟩
    refine C_seq (C_reg rfl ?_)
    refine L_run (R_lss rfl rfl) rfl ?_
    refine L_nil (N_then (C_seq ?_))
    refine C_if rfl (fun h1 => ?_) (fun h1 => ?_)
    · refine C_skip (N_then (C_seq (C_block (C_seq (C_reg rfl ?_)))))
      refine L_run (R_move rfl) rfl ?_
      refine L_run (R_assign rfl) rfl ?_
      refine L_nil (N_then (C_reg rfl ?_))
      refine L_run (R_move rfl) rfl ?_
      refine L_run (R_move rfl) rfl ?_
      refine L_run (R_move rfl) rfl ?_
      refine L_run (R_mul64 rfl rfl (by omega)) rfl ?_
      refine L_run (R_eqv (R_shr rfl rfl (by first | decide | omega)) (v' := .int .u64 ((n / 256 ^ i : Nat) : Int)) (shr8 (by omega))) rfl ?_
      refine L_run (R_eqv (R_conv rfl any22 int5) (v' := .int .u8 ((UInt8.ofNat (n / 256 ^ i % 256)).toNat : Int)) (u8_wrap _)) rfl ?_
      refine L_buildSlice (pv := [(0, .int .u8 ((UInt8.ofNat (n / 256 ^ i % 256)).toNat : Int))]) (cs := [.int .u8 ((UInt8.ofNat (n / 256 ^ i % 256)).toNat : Int)]) slc46 zer5 rfl rfl (by kernel_rfl) rfl ?_
      intro g1 w3 eg1 hb1 hs2 hz1
      have ge1 : w.heap.size ≤ g1 := eg_ge hB eg1
      have hap1 : ∀ k_, (Value.slice Aj (putN n i).length cj).ownBlock = some k_ → k_ ≠ g1 := fun k_ hk => by have h_ := (World.ownsRow.lt ho k_ hk).2; omega
      replace hB := gb_tr hB hs2
      replace ho := own_gb ho hs2
      refine T_append (xs := putN n i) (ys := [(UInt8.ofNat (n / 256 ^ i % 256))]) EncB slc46 rfl rfl ho (Blk.sli (m := 0) hb1) (by simp only [putN_len, List.length_append, List.length_cons, List.length_nil]; omega) (by have := hB.size; omega) rfl ?_
      intro A_1 c_1 w4 ho1 hs3 hat1
      replace hB := gb_tro hB ho hs3 (Nat.le_refl _)
      refine L_run (R_assign rfl) rfl ?_
      refine L_nil (N_in (N_then (C_reg rfl ?_)))
      refine L_run (R_add64 rfl rfl (by omega)) rfl ?_
      refine L_run (R_move rfl) rfl ?_
      refine L_nil (N_then ?_)
      have e_ := putN_snoc i n
      exact ⟨k - (i + 1), by omega, _, A_1, c_1, (i + 1), Ac_frg ⟨rfl, rfl, (agr rfl (by rw [e_])), rfl, (agr rfl (by first | rfl | (congr 1; omega) | (congr 1; simp; done) | (congr 1; simp only [IntKind.wrap_u64, IntKind.wrap_i64, IntKind.wrap_u8]; omega) | (congr 1 <;> omega))), trivial⟩, hB, (by rw [e_]; exact (own_lo ho1 (Nat.le_refl _))), (by omega), rfl⟩
    · refine C_exit (X_then (X_then (X_hit (N_then (C_seq (C_reg rfl ?_))))))
      refine L_run (R_move rfl) rfl ?_
      refine L_run (R_assign rfl) rfl ?_
      refine L_nil (N_then (C_ret ?_))
      refine ret1 Tryd.results61 rfl ?_
      obtain rfl : i = k := by omega
      exact ⟨hB, _, _, rfl, (own_lo ho (Nat.le_refl _))⟩

theorem seal_cut {e i : Nat} {X : List UInt8} (hX : X.length = 52) : spl (spl (spl (List.replicate 64 (0 : UInt8)) 0 ((putN e 8).take 64)) 8 ((putN i 4).take 56)) 12 (X.take 52) = sealN e i X := by
  have h1 := putN_len 8 e
  have h2 := putN_len 4 i
  have t1 : (putN e 8).take 64 = putN e 8 := List.take_of_length_le (by omega)
  have t2 : (putN i 4).take 56 = putN i 4 := List.take_of_length_le (by omega)
  have t3 : X.take 52 = X := List.take_of_length_le (by omega)
  rw [t1, t2, t3]
  have a1 : spl (List.replicate 64 (0 : UInt8)) 0 (putN e 8) = putN e 8 ++ List.replicate 56 0 := by
    unfold spl
    rw [h1, List.take_zero, List.nil_append, List.drop_replicate]
  have a2 : spl (putN e 8 ++ List.replicate 56 0) 8 (putN i 4) = (putN e 8 ++ putN i 4) ++ List.replicate 52 0 := by
    unfold spl
    rw [List.take_left' h1, h2, List.drop_append, List.drop_of_length_le (by omega), List.nil_append, h1, List.drop_replicate]
  have a3 : spl ((putN e 8 ++ putN i 4) ++ List.replicate 52 0) 12 X = (putN e 8 ++ putN i 4) ++ X := by
    unfold spl
    rw [List.take_left' (by rw [List.length_append, h1, h2]), hX, List.drop_of_length_le (by simp [h1, h2]), List.append_nil]
  rw [a1, a2, a3]
  rfl
theorem seal_ok {w : World} {t1 lo hi : Nat} {A : Option Addr} {c e i : Nat} {X : List UInt8} (hS : Sli t1 lo hi w A (fl encB X)) (hX : X.length = 52) (he : e < 18446744073709551616) (hi4 : i < 4294967296) :
    Runs Tryd.prog 64 #[.int .u64 (e : Int), .int .i64 (i : Int), .slice A X.length c] w (fun v w' => w.grownBy w' none ∧ v = .agg (fl encB (sealN e i X)).toArray) := by
  have hB := gb_refl w none
  replace hS := hS.top
  refine enter Tryd.func64 Tryd.ntmps64 rfl rfl ?_
  refine C_seq (C_reg rfl ?_)
  refine L_alloc (cs := [.int .u8 0, .int .u8 0, .int .u8 0, .int .u8 0, .int .u8 0, .int .u8 0, .int .u8 0, .int .u8 0, .int .u8 0, .int .u8 0, .int .u8 0, .int .u8 0, .int .u8 0, .int .u8 0, .int .u8 0, .int .u8 0, .int .u8 0, .int .u8 0, .int .u8 0, .int .u8 0, .int .u8 0, .int .u8 0, .int .u8 0, .int .u8 0, .int .u8 0, .int .u8 0, .int .u8 0, .int .u8 0, .int .u8 0, .int .u8 0, .int .u8 0, .int .u8 0, .int .u8 0, .int .u8 0, .int .u8 0, .int .u8 0, .int .u8 0, .int .u8 0, .int .u8 0, .int .u8 0, .int .u8 0, .int .u8 0, .int .u8 0, .int .u8 0, .int .u8 0, .int .u8 0, .int .u8 0, .int .u8 0, .int .u8 0, .int .u8 0, .int .u8 0, .int .u8 0, .int .u8 0, .int .u8 0, .int .u8 0, .int .u8 0, .int .u8 0, .int .u8 0, .int .u8 0, .int .u8 0, .int .u8 0, .int .u8 0, .int .u8 0, .int .u8 0]) zer62 rfl rfl ?_
  intro g1 w1 eg1 hb1 hs1 hz1
  have ge1 : w.heap.size ≤ g1 := eg_ge hB eg1
  replace hB := gb_tr hB hs1
  replace hS := hS.gb hs1
  replace hb1 : Blk w1 g1 62 (fl encB (List.replicate 64 (0 : UInt8))) := hb1
  refine L_nil (N_then (C_seq (C_reg rfl ?_)))
  refine L_alloc (cs := [.int .u8 0, .int .u8 0, .int .u8 0, .int .u8 0, .int .u8 0, .int .u8 0, .int .u8 0, .int .u8 0, .int .u8 0, .int .u8 0, .int .u8 0, .int .u8 0, .int .u8 0, .int .u8 0, .int .u8 0, .int .u8 0, .int .u8 0, .int .u8 0, .int .u8 0, .int .u8 0, .int .u8 0, .int .u8 0, .int .u8 0, .int .u8 0, .int .u8 0, .int .u8 0, .int .u8 0, .int .u8 0, .int .u8 0, .int .u8 0, .int .u8 0, .int .u8 0, .int .u8 0, .int .u8 0, .int .u8 0, .int .u8 0, .int .u8 0, .int .u8 0, .int .u8 0, .int .u8 0, .int .u8 0, .int .u8 0, .int .u8 0, .int .u8 0, .int .u8 0, .int .u8 0, .int .u8 0, .int .u8 0, .int .u8 0, .int .u8 0, .int .u8 0, .int .u8 0, .int .u8 0, .int .u8 0, .int .u8 0, .int .u8 0, .int .u8 0, .int .u8 0, .int .u8 0, .int .u8 0, .int .u8 0, .int .u8 0, .int .u8 0, .int .u8 0]) zer62 rfl rfl ?_
  intro g2 w2 eg2 hb2 hs2 hz2
  have ge2 : w.heap.size ≤ g2 := eg_ge hB eg2
  have lt1 : g1 < g2 := lt_of_eg hb1.lt eg2
  replace hB := gb_tr hB hs2
  replace hS := hS.gb hs2
  replace hb1 := hb1.gb hs2
  replace hb2 : Blk w2 g2 62 (fl encB (List.replicate 64 (0 : UInt8))) := hb2
  refine L_nil (N_then (C_seq ?_))
  refine C_join (fun a_ w_ => (∃ (σ_ : Nat → Value), a_ = Ac 21 σ_ [] [(0, .int .u64 (e : Int)), (1, .int .i64 (i : Int)), (2, .slice A X.length c), (6, .pointer (some ⟨g1, 0, none⟩)), (7, .pointer (some ⟨g2, 0, none⟩))] ∧ w.grownBy w_ none ∧ Sli t1 lo w.heap.size w_ A (fl encB X) ∧ Blk w_ g1 62 (fl encB (List.replicate 64 (0 : UInt8))) ∧ Blk w_ g2 62 (fl encB (spl (List.replicate 64 (0 : UInt8)) 0 ((putN e 8).take 64))))) ?_ ?_
  · refine C_draw2 rfl mix ?_
    intro w3 hs3 hz3
    replace hB := gb_tr hB hs3
    replace hS := hS.gb hs3
    replace hb1 := hb1.gb hs3
    replace hb2 := hb2.gb hs3
    refine ⟨fun W_ => True, [1], ?_⟩
    refine T_takeA (i := 1) rfl rfl (by kernel_rfl) (by kernel_rfl) (by kernel_rfl) (Y_of (fun _ _ => R_move rfl)) trivial rfl ?_
    refine T_all (rs := [0, 2]) (by kernel_rfl) rfl (all2 (O_one rfl ?_) (O_one rfl ?_))
    · refine T_slArrP (i := 0) (j := 64) (r := 64) arr62 rfl (by decide) (by decide) (by decide) (by decide) rfl rfl rfl rfl ?_
      refine L_nil (N_then ⟨fun hN_ => trivial, ?_⟩)
      refine T_all (rs := [2]) (by kernel_rfl) rfl (all1 (O_one rfl ?_))
      have ge3 : w.heap.size ≤ w3.heap.size := hB.size
      refine L_call rfl cb61 (wput (n := e) (k := 8) (by decide)) rfl ?_
      rintro _ w4 ⟨hs4, A_1, c_1, rfl, ho1⟩
      have lb1 : g1 < w3.heap.size := hb1.lt
      have lb2 : g2 < w3.heap.size := hb2.lt
      replace hB := gb_tr hB hs4
      replace hS := hS.gb hs4
      replace hb1 := hb1.gb hs4
      replace hb2 := hb2.gb hs4
      have hlo1 : w3.heap.size ≤ w4.heap.size := hs4.size
      refine L_nil (N_then ⟨fun hN_ => trivial, ?_⟩)
      refine T_all (rs := [3]) (by kernel_rfl) rfl (all1 (O_one rfl ?_))
      refine T_copy (xs := (List.replicate 64 (0 : UInt8))) (ys := putN e 8) (o := 0) (m := 64) EncB slc46 rfl rfl hb2 (fun _ => rfl) (by rw [List.length_replicate]; first | omega | (simp; omega)) (own_of ho1).2.2 rfl ?_
      intro w5 hb3 hs5 hz4
      replace hB := gb_trg hB hs5 ge2
      replace hS := hS.old hs5 ge2
      replace hb1 := hb1.grown hs5 (ne_lt lt1)
      replace ho1 := own_other ho1 hb2 rfl hs5
      replace hlo1 := Nat.le_trans hlo1 hs5.size
      refine L_nil (N_then ⟨fun hN_ => trivial, ?_⟩)
      refine T_done (by kernel_rfl) (CalmE.normal ?_)
      exact ⟨rfl, ⟨_, Ac_frg ⟨rfl, rfl, rfl, rfl, rfl, trivial⟩, hB, hS, hb1, hb3⟩⟩
    · have ge4 : w.heap.size ≤ w3.heap.size := hB.size
      refine L_call rfl cb61 (wput (n := e) (k := 8) (by decide)) rfl ?_
      rintro _ w6 ⟨hs6, A_2, c_2, rfl, ho2⟩
      have lb3 : g1 < w3.heap.size := hb1.lt
      have lb4 : g2 < w3.heap.size := hb2.lt
      replace hB := gb_tr hB hs6
      replace hS := hS.gb hs6
      replace hb1 := hb1.gb hs6
      replace hb2 := hb2.gb hs6
      have hlo2 : w3.heap.size ≤ w6.heap.size := hs6.size
      refine L_nil (N_then ⟨fun hN_ => trivial, ?_⟩)
      refine T_all (rs := [0]) (by kernel_rfl) rfl (all1 (O_one rfl ?_))
      refine T_slArrP (i := 0) (j := 64) (r := 64) arr62 rfl (by decide) (by decide) (by decide) (by decide) rfl rfl rfl rfl ?_
      refine L_nil (N_then ⟨fun hN_ => trivial, ?_⟩)
      refine T_all (rs := [3]) (by kernel_rfl) rfl (all1 (O_one rfl ?_))
      refine T_copy (xs := (List.replicate 64 (0 : UInt8))) (ys := putN e 8) (o := 0) (m := 64) EncB slc46 rfl rfl hb2 (fun _ => rfl) (by rw [List.length_replicate]; first | omega | (simp; omega)) (own_of ho2).2.2 rfl ?_
      intro w7 hb4 hs7 hz5
      replace hB := gb_trg hB hs7 ge2
      replace hS := hS.old hs7 ge2
      replace hb1 := hb1.grown hs7 (ne_lt lt1)
      replace ho2 := own_other ho2 hb2 rfl hs7
      replace hlo2 := Nat.le_trans hlo2 hs7.size
      refine L_nil (N_then ⟨fun hN_ => trivial, ?_⟩)
      refine T_done (by kernel_rfl) (CalmE.normal ?_)
      exact ⟨rfl, ⟨_, Ac_frg ⟨rfl, rfl, rfl, rfl, rfl, trivial⟩, hB, hS, hb1, hb4⟩⟩
  · clear hB
    clear hS hb1 hb2
    rintro a_ w8 ⟨σ_, rfl, hB, hS, hb1, hj1⟩
    refine N_then (C_seq ?_)
    refine C_join (fun a_ w_ => (∃ (σ_ : Nat → Value), a_ = Ac 21 σ_ [] [(0, .int .u64 (e : Int)), (1, .int .i64 (i : Int)), (2, .slice A X.length c), (6, .pointer (some ⟨g1, 0, none⟩)), (7, .pointer (some ⟨g2, 0, none⟩))] ∧ w.grownBy w_ none ∧ Sli t1 lo w.heap.size w_ A (fl encB X) ∧ Blk w_ g1 62 (fl encB (List.replicate 64 (0 : UInt8))) ∧ Blk w_ g2 62 (fl encB (spl (spl (List.replicate 64 (0 : UInt8)) 0 ((putN e 8).take 64)) 8 ((putN i 4).take 56))))) ?_ ?_
    · refine C_draw2 rfl mix ?_
      intro w9 hs8 hz6
      replace hB := gb_tr hB hs8
      replace hS := hS.gb hs8
      replace hb1 := hb1.gb hs8
      replace hj1 := hj1.gb hs8
      refine ⟨fun W_ => True, [1, 2], ?_⟩
      refine T_takeA (i := 1) rfl rfl (by kernel_rfl) (by kernel_rfl) (by kernel_rfl) (Y_of (fun _ _ => R_move rfl)) trivial rfl ?_
      refine T_takeA (i := 2) rfl rfl (by kernel_rfl) (by kernel_rfl) (by kernel_rfl) (Y_of (fun _ _ => R_eqv (R_conv rfl any3 int22) (v' := .int .u64 ((i : Nat) : Int)) (congrArg _ (w64n (by omega))))) trivial rfl ?_
      refine T_all (rs := [0, 3]) (by kernel_rfl) rfl (all2 (O_one rfl ?_) (O_one rfl ?_))
      · refine T_slArrP (i := 8) (j := 64) (r := 64) arr62 rfl (by decide) (by decide) (by decide) (by decide) rfl ⟨_, rfl⟩ rfl rfl ?_
        refine L_nil (N_then ⟨fun hN_ => trivial, ?_⟩)
        refine T_all (rs := [3]) (by kernel_rfl) rfl (all1 (O_one rfl ?_))
        have ge5 : w.heap.size ≤ w9.heap.size := hB.size
        refine L_call rfl cb61 (wput (n := i) (k := 4) (by decide)) rfl ?_
        rintro _ w10 ⟨hs9, A_3, c_3, rfl, ho3⟩
        have lb5 : g1 < w9.heap.size := hb1.lt
        have lb6 : g2 < w9.heap.size := hj1.lt
        replace hB := gb_tr hB hs9
        replace hS := hS.gb hs9
        replace hb1 := hb1.gb hs9
        replace hj1 := hj1.gb hs9
        have hlo3 : w9.heap.size ≤ w10.heap.size := hs9.size
        refine L_nil (N_then ⟨fun hN_ => trivial, ?_⟩)
        refine T_all (rs := [4]) (by kernel_rfl) rfl (all1 (O_one rfl ?_))
        refine T_copy (xs := (spl (List.replicate 64 (0 : UInt8)) 0 ((putN e 8).take 64))) (ys := putN i 4) (o := 8) (m := 56) EncB slc46 rfl rfl hj1 (fun _ => rfl) (by rw [(spl_lenT List.length_replicate (by first | omega | (simp; omega)))]; first | omega | (simp; omega)) (own_of ho3).2.2 rfl ?_
        intro w11 hb5 hs10 hz7
        replace hB := gb_trg hB hs10 ge2
        replace hS := hS.old hs10 ge2
        replace hb1 := hb1.grown hs10 (ne_lt lt1)
        replace ho3 := own_other ho3 hj1 rfl hs10
        replace hlo3 := Nat.le_trans hlo3 hs10.size
        refine L_nil (N_then ⟨fun hN_ => trivial, ?_⟩)
        refine T_done (by kernel_rfl) (CalmE.normal ?_)
        exact ⟨rfl, ⟨_, Ac_frg ⟨rfl, rfl, rfl, rfl, rfl, trivial⟩, hB, hS, hb1, hb5⟩⟩
      · have ge6 : w.heap.size ≤ w9.heap.size := hB.size
        refine L_call rfl cb61 (wput (n := i) (k := 4) (by decide)) rfl ?_
        rintro _ w12 ⟨hs11, A_4, c_4, rfl, ho4⟩
        have lb7 : g1 < w9.heap.size := hb1.lt
        have lb8 : g2 < w9.heap.size := hj1.lt
        replace hB := gb_tr hB hs11
        replace hS := hS.gb hs11
        replace hb1 := hb1.gb hs11
        replace hj1 := hj1.gb hs11
        have hlo4 : w9.heap.size ≤ w12.heap.size := hs11.size
        refine L_nil (N_then ⟨fun hN_ => trivial, ?_⟩)
        refine T_all (rs := [0]) (by kernel_rfl) rfl (all1 (O_one rfl ?_))
        refine T_slArrP (i := 8) (j := 64) (r := 64) arr62 rfl (by decide) (by decide) (by decide) (by decide) rfl ⟨_, rfl⟩ rfl rfl ?_
        refine L_nil (N_then ⟨fun hN_ => trivial, ?_⟩)
        refine T_all (rs := [4]) (by kernel_rfl) rfl (all1 (O_one rfl ?_))
        refine T_copy (xs := (spl (List.replicate 64 (0 : UInt8)) 0 ((putN e 8).take 64))) (ys := putN i 4) (o := 8) (m := 56) EncB slc46 rfl rfl hj1 (fun _ => rfl) (by rw [(spl_lenT List.length_replicate (by first | omega | (simp; omega)))]; first | omega | (simp; omega)) (own_of ho4).2.2 rfl ?_
        intro w13 hb6 hs12 hz8
        replace hB := gb_trg hB hs12 ge2
        replace hS := hS.old hs12 ge2
        replace hb1 := hb1.grown hs12 (ne_lt lt1)
        replace ho4 := own_other ho4 hj1 rfl hs12
        replace hlo4 := Nat.le_trans hlo4 hs12.size
        refine L_nil (N_then ⟨fun hN_ => trivial, ?_⟩)
        refine T_done (by kernel_rfl) (CalmE.normal ?_)
        exact ⟨rfl, ⟨_, Ac_frg ⟨rfl, rfl, rfl, rfl, rfl, trivial⟩, hB, hS, hb1, hb6⟩⟩
    · clear hB
      clear hS hb1 hj1
      rintro a_ w14 ⟨σ_, rfl, hB, hS, hb1, hj2⟩
      refine N_then (C_seq (C_reg rfl ?_))
      refine T_slArrP (i := 12) (j := 64) (r := 64) arr62 rfl (by decide) (by decide) (by decide) (by decide) rfl ⟨_, rfl⟩ rfl rfl ?_
      refine L_run (R_move rfl) rfl ?_
      refine T_copy (xs := (spl (spl (List.replicate 64 (0 : UInt8)) 0 ((putN e 8).take 64)) 8 ((putN i 4).take 56))) (ys := X) (o := 12) (m := 52) EncB slc46 rfl rfl hj2 (fun _ => rfl) (by rw [(spl_lenT (spl_lenT List.length_replicate (by first | omega | (simp; omega))) (by first | omega | (simp; omega)))]; first | omega | (simp; omega)) hS rfl ?_
      intro w15 hb7 hs13 hz9
      replace hB := gb_trg hB hs13 ge2
      replace hS := hS.old hs13 ge2
      replace hb1 := hb1.grown hs13 (ne_lt lt1)
      refine L_nil (N_then (C_seq (C_reg rfl ?_)))
      refine L_run (R_loadA (vs := fl encB (spl (spl (spl (List.replicate 64 (0 : UInt8)) 0 ((putN e 8).take 64)) 8 ((putN i 4).take 56)) 12 (X.take 52))) rfl agg62 (hb7.at_ 0) (flB_lenE (spl_lenT (spl_lenT (spl_lenT List.length_replicate (by first | omega | (simp; omega))) (by first | omega | (simp; omega))) (by first | omega | (simp; omega))))) rfl ?_
      refine L_stA (vs := fl encB (spl (spl (spl (List.replicate 64 (0 : UInt8)) 0 ((putN e 8).take 64)) 8 ((putN i 4).take 56)) 12 (X.take 52))) rfl rfl (flB_one _) sz62 (flB_lenE (spl_lenT (spl_lenT (spl_lenT List.length_replicate (by first | omega | (simp; omega))) (by first | omega | (simp; omega))) (by first | omega | (simp; omega)))) hb1 (flB_lenE List.length_replicate) ?_
      intro w16 hb8 hs14 hz10
      replace hB := gb_trg hB hs14 ge1
      replace hS := hS.old hs14 ge1
      replace hb7 := hb7.grown hs14 (ne_gt lt1)
      refine L_nil (N_then (C_ret ?_))
      refine retC (vs := fl encB (spl (spl (spl (List.replicate 64 (0 : UInt8)) 0 ((putN e 8).take 64)) 8 ((putN i 4).take 56)) 12 (X.take 52))) Tryd.results64 rfl agg62 (hb8.at_ 0) (flB_lenE (spl_lenT (spl_lenT (spl_lenT List.length_replicate (by first | omega | (simp; omega))) (by first | omega | (simp; omega))) (by first | omega | (simp; omega)))) ?_
      exact ⟨hB, by rw [seal_cut hX]⟩

theorem psec_ok {w : World} {t1 lo hi : Nat} {A : Option Addr} {c e i : Nat} {body : List UInt8} (hS : Sli t1 lo hi w A (fl encB body)) (hbl : body.length = 832) (hc : body.length ≤ c) (he : e < 18446744073709551616) (hi16 : i < 16) :
    Runs Tryd.prog 51 #[.int .u64 (e : Int), .slice A body.length c, .int .i64 (i : Int)] w (fun v w' => w.grownBy w' none ∧ v = .agg (fl encB (sealN e i ((body.drop (52 * i)).take 52))).toArray) := by
  have hB := gb_refl w none
  replace hS := hS.top
  refine enter Tryd.func51 Tryd.ntmps51 rfl rfl ?_
  refine C_seq (C_reg rfl ?_)
  refine L_alloc (cs := [.int .u8 0, .int .u8 0, .int .u8 0, .int .u8 0, .int .u8 0, .int .u8 0, .int .u8 0, .int .u8 0, .int .u8 0, .int .u8 0, .int .u8 0, .int .u8 0, .int .u8 0, .int .u8 0, .int .u8 0, .int .u8 0, .int .u8 0, .int .u8 0, .int .u8 0, .int .u8 0, .int .u8 0, .int .u8 0, .int .u8 0, .int .u8 0, .int .u8 0, .int .u8 0, .int .u8 0, .int .u8 0, .int .u8 0, .int .u8 0, .int .u8 0, .int .u8 0, .int .u8 0, .int .u8 0, .int .u8 0, .int .u8 0, .int .u8 0, .int .u8 0, .int .u8 0, .int .u8 0, .int .u8 0, .int .u8 0, .int .u8 0, .int .u8 0, .int .u8 0, .int .u8 0, .int .u8 0, .int .u8 0, .int .u8 0, .int .u8 0, .int .u8 0, .int .u8 0, .int .u8 0, .int .u8 0, .int .u8 0, .int .u8 0, .int .u8 0, .int .u8 0, .int .u8 0, .int .u8 0, .int .u8 0, .int .u8 0, .int .u8 0, .int .u8 0]) zer62 rfl rfl ?_
  intro g1 w1 eg1 hb1 hs1 hz1
  have ge1 : w.heap.size ≤ g1 := eg_ge hB eg1
  replace hB := gb_tr hB hs1
  replace hS := hS.gb hs1
  replace hb1 : Blk w1 g1 62 (fl encB (List.replicate 64 (0 : UInt8))) := hb1
  refine L_nil (N_then (C_seq (C_reg rfl ?_)))
  refine L_run (R_move rfl) rfl ?_
  refine L_run (R_mul64 rfl rfl (by omega)) rfl ?_
  refine L_run (R_move rfl) rfl ?_
  refine L_run (R_lenSl rfl slc46) rfl ?_
  refine L_run (R_eqv (R_min2 rfl rfl) (v' := .int .i64 ((i * 52 : Nat) : Int)) (congrArg _ (by omega))) rfl ?_
  refine L_run (R_move rfl) rfl ?_
  refine L_run (R_add64 rfl rfl (by omega)) rfl ?_
  refine L_run (R_mul64 rfl rfl (by omega)) rfl ?_
  refine L_run (R_move rfl) rfl ?_
  refine L_run (R_lenSl rfl slc46) rfl ?_
  refine L_run (R_eqv (R_min2 rfl rfl) (v' := .int .i64 (((i + 1) * 52 : Nat) : Int)) (congrArg _ (by omega))) rfl ?_
  refine L_run (R_assign rfl) rfl ?_
  refine L_run (R_assign rfl) rfl ?_
  refine L_nil (N_then (C_seq (C_reg rfl ?_)))
  refine L_run (R_move rfl) rfl ?_
  refine L_run (R_move rfl) rfl ?_
  refine L_run (R_move rfl) rfl ?_
  refine L_run (R_move rfl) rfl ?_
  refine L_run (R_move rfl) rfl ?_
  refine L_run (R_move rfl) rfl ?_
  refine T_slLHM (xs := body) (i := (i * 52)) (j := ((i + 1) * 52)) (r := ((i + 1) * 52)) EncB rfl rfl rfl rfl (by first | rfl | omega) (by first | rfl | omega) (by first | rfl | omega) slc46 (by first | omega | (simp; done) | (simp; omega)) (by first | omega | (simp; done) | (simp; omega)) (by first | omega | (simp; done) | (simp; omega)) (by first | omega | (simp; done) | (simp; omega)) hS rfl ?_
  intro A_1 hS_1
  refine L_call rfl cb64 (seal_ok (e := e) (i := i) hS_1 (by rw [List.length_take, List.length_drop]; omega) he (by omega)) rfl ?_
  rintro _ w2 ⟨hs2, rfl⟩
  replace hB := gb_tr hB hs2
  replace hS := hS.gb hs2
  replace hb1 := hb1.gb hs2
  replace hS_1 := hS_1.gb hs2
  refine L_stA (vs := fl encB (sealN e i ((body.drop (i * 52)).take (((i + 1) * 52) - (i * 52))))) rfl rfl (flB_one _) sz62 (flB_lenE (sealN_len (by rw [List.length_take, List.length_drop]; omega))) hb1 (flB_lenE List.length_replicate) ?_
  intro w3 hb2 hs3 hz2
  replace hB := gb_trg hB hs3 ge1
  replace hS := hS.old hs3 ge1
  replace hS_1 := hS_1.old hs3 ge1
  refine L_nil (N_then (C_ret ?_))
  refine retC (vs := fl encB (sealN e i ((body.drop (i * 52)).take (((i + 1) * 52) - (i * 52))))) Tryd.results51 rfl agg62 (hb2.at_ 0) (flB_lenE (sealN_len (by rw [List.length_take, List.length_drop]; omega))) ?_
  have e_ : (body.drop (i * 52)).take ((i + 1) * 52 - i * 52) = (body.drop (52 * i)).take 52 := by rw [Nat.mul_comm i 52]; congr 1; omega
  exact ⟨hB, by rw [← e_]⟩

theorem touch_0 (en : Nat) : (touchN (min 0 832) (min en 832)).1 = 0 := by
  unfold touchN
  split
  · show min 0 832 / 52 = 0; omega
  · rfl
theorem pwrite_ok {w : World} {t1 lo hi : Nat} {A : Option Addr} {c e en : Nat} {body : List UInt8} (hS : Sli t1 lo hi w A (fl encB body)) (hbl : body.length = 832) (hc : body.length ≤ c) (he : e < 18446744073709551616) :
    Runs Tryd.prog 37 #[.int .u64 (e : Int), .slice A body.length c, .int .i64 ((0 : Nat) : Int), .int .i64 (en : Int)] w (fun v w' => w.grownBy w' none ∧ ∃ (ss : List Sx) (A' : Option Addr) (c' : Nat), v = .tuple #[.int .i64 0, .slice A' ss.length c'] ∧ World.ownsRow w' w.heap.size 62 64 (.slice A' ss.length c') ss.length (fl encX ss) ∧ bsOf ss = (List.range (touchN (min 0 832) (min en 832)).2).map (secN e body (touchN (min 0 832) (min en 832)).2) ∧ ss.length = (touchN (min 0 832) (min en 832)).2) := by
  have hB := gb_refl w none
  have ht := touch_le (a := 0) (b := en)
  have ht0 := touch_0 en
  replace hS := hS.top
  refine enter Tryd.func37 Tryd.ntmps37 rfl rfl ?_
  refine C_seq (C_reg rfl ?_)
  refine L_run (R_assign rfl) rfl ?_
  refine L_run (R_assign rfl) rfl ?_
  refine L_nil (N_then (C_seq (C_reg rfl ?_)))
  refine L_run (R_move rfl) rfl ?_
  refine L_run (R_move rfl) rfl ?_
  refine L_call rfl cb50 (touch_ok (a := 0) (b := en)) rfl ?_
  rintro _ w1 ⟨hs1, rfl⟩
  replace hB := gb_tr hB hs1
  replace hS := hS.gb hs1
  refine L_run (R_move rfl) rfl ?_
  refine L_run (R_eqv (R_extract rfl rfl) (v' := .int .i64 0) ((by show Value.int .i64 _ = _; rw [ht0]; rfl))) rfl ?_
  refine L_run (R_extract rfl rfl) rfl ?_
  refine L_run (R_assign rfl) rfl ?_
  refine L_run (R_assign rfl) rfl ?_
  refine L_nil (N_then (C_seq (C_reg rfl ?_)))
  refine L_run (R_assign rfl) rfl ?_
  refine L_nil (N_then (C_seq (C_seq (C_reg rfl ?_))))
  refine L_run (R_move rfl) rfl ?_
  refine L_run (R_move rfl) rfl ?_
  refine L_run (R_eqv (R_sub64 rfl rfl (by omega)) (v' := .int .i64 (((touchN (min 0 832) (min en 832)).2 : Nat) : Int)) (congrArg _ (by omega))) rfl ?_
  refine L_run (R_move rfl) rfl ?_
  refine L_nil (N_then (C_block ?_))
  refine C_loop (fun m_ a_ w_ => ∃ (σ_ : Nat → Value) (ss : List Sx) (Aj : Option Addr) (cj : Nat) (i : Nat), a_ = Ac 38 σ_ [] [(0, .int .u64 (e : Int)), (1, .slice A body.length c), (2, .int .i64 ((0 : Nat) : Int)), (3, .int .i64 (en : Int)), (8, .int .i64 0), (9, .slice none 0 0), (10, .int .i64 0), (12, .slice Aj ss.length cj), (22, .int .i64 (((touchN (min 0 832) (min en 832)).2 : Nat) : Int)), (23, .int .i64 (i : Int))] ∧ w.grownBy w_ none ∧ Sli t1 lo w.heap.size w_ A (fl encB body) ∧ World.ownsRow w_ w.heap.size 62 64 (.slice Aj ss.length cj) ss.length (fl encX ss) ∧ (i ≤ (touchN (min 0 832) (min en 832)).2) ∧ (bsOf ss = (List.range i).map (secN e body (touchN (min 0 832) (min en 832)).2)) ∧ (ss.length = i) ∧ 16 - i = m_) (16 - 0) ?_ ?_
  · exact ⟨_, [], none, 0, 0, Ac_frg ⟨rfl, rfl, rfl, rfl, rfl, rfl, rfl, (agr rfl (by first | rfl | (congr 1; omega) | (congr 1; simp; done) | (congr 1; simp only [IntKind.wrap_u64, IntKind.wrap_i64, IntKind.wrap_u8]; omega) | (congr 1 <;> omega))), rfl, (agr rfl (by first | rfl | (congr 1; omega) | (congr 1; simp; done) | (congr 1; simp only [IntKind.wrap_u64, IntKind.wrap_i64, IntKind.wrap_u8]; omega) | (congr 1 <;> omega))), trivial⟩, hB, hS, (own_nil _ _ _ _), (by omega), rfl, rfl, rfl⟩
  · clear hB
    clear hS
    rintro m_ a_ w2 ⟨σ_, ss, Aj, cj, i, rfl, hB, hS, ho, hi, hss, hsl, rfl⟩
    refine C_seq (C_reg rfl ?_)
    refine L_run (R_lss rfl rfl) rfl ?_
    refine L_nil (N_then (C_seq ?_))
    refine C_if rfl (fun h1 => ?_) (fun h1 => ?_)
    · refine C_skip (N_then (C_seq (C_block (C_seq (C_reg rfl ?_)))))
      refine L_run (R_move rfl) rfl ?_
      refine L_run (R_assign rfl) rfl ?_
      refine L_nil (N_then (C_reg rfl ?_))
      refine L_run (R_move rfl) rfl ?_
      refine L_run (R_move rfl) rfl ?_
      refine L_run (R_move rfl) rfl ?_
      refine L_run (R_move rfl) rfl ?_
      refine L_run (R_move rfl) rfl ?_
      refine L_run (R_eqv (R_add64 rfl rfl (by omega)) (v' := .int .i64 ((i : Nat) : Int)) (congrArg _ (by omega))) rfl ?_
      refine L_call rfl cb51 (psec_ok (e := e) (body := body) (i := i) hS hbl hc he (by omega)) rfl ?_
      rintro _ w3 ⟨hs2, rfl⟩
      replace hB := gb_tr hB hs2
      replace hS := hS.gb hs2
      replace ho := own_gb ho hs2
      refine T_bs1A (vs := fl encB (sealN e i ((body.drop (52 * i)).take 52))) slc34 zer62 rfl (by rw [flB_len]; exact (sealN_len (by rw [List.length_take, List.length_drop]; omega))) rfl rfl ?_
      intro g1 w4 eg1 hb1 hs3 hz1
      have ge1 : w.heap.size ≤ g1 := eg_ge hB eg1
      have hap1 : ∀ k_, (Value.slice Aj ss.length cj).ownBlock = some k_ → k_ ≠ g1 := fun k_ hk => by have h_ := (World.ownsRow.lt ho k_ hk).2; omega
      replace hB := gb_tr hB hs3
      replace hS := hS.gb hs3
      replace ho := own_gb ho hs3
      replace hb1 : Blk w4 g1 62 (fl encX [(⟨(sealN e i ((body.drop (52 * i)).take 52)), (sealN_len (by rw [List.length_take, List.length_drop]; omega))⟩ : Sx)]) := (show fl encX [(⟨(sealN e i ((body.drop (52 * i)).take 52)), (sealN_len (by rw [List.length_take, List.length_drop]; omega))⟩ : Sx)] = fl encB (sealN e i ((body.drop (52 * i)).take 52)) by rw [fl_cons]; exact List.append_nil _) ▸ hb1
      refine T_append (xs := ss) (ys := [(⟨(sealN e i ((body.drop (52 * i)).take 52)), (sealN_len (by rw [List.length_take, List.length_drop]; omega))⟩ : Sx)]) EncX slc34 rfl rfl ho (Blk.sli (m := 0) hb1) (by simp only [List.length_append, List.length_cons, List.length_nil] at *; omega) (by have := hB.size; omega) rfl ?_
      intro A_1 c_1 w5 ho1 hs4 hat1
      replace hB := gb_tro hB ho hs4 (Nat.le_refl _)
      replace hS := hS.grown hs4 (fun k hk => .inr (Nat.le_trans (Nat.le_refl _) (World.ownsRow.lt ho k hk).1))
      refine L_run (R_assign rfl) rfl ?_
      refine L_nil (N_in (N_then (C_reg rfl ?_)))
      refine L_run (R_add64 rfl rfl (by omega)) rfl ?_
      refine L_run (R_move rfl) rfl ?_
      refine L_nil (N_then ?_)
      have hsg := secs_go (s := (⟨(sealN e i ((body.drop (52 * i)).take 52)), (sealN_len (by rw [List.length_take, List.length_drop]; omega))⟩ : Sx)) hss (by show _ = secN e body (touchN (min 0 832) (min en 832)).2 i; unfold secN; rw [if_pos (by omega)])
      exact ⟨16 - (i + 1), by omega, _, ss ++ ([(⟨(sealN e i ((body.drop (52 * i)).take 52)), (sealN_len (by rw [List.length_take, List.length_drop]; omega))⟩ : Sx)]), A_1, c_1, (i + 1), Ac_frg ⟨rfl, rfl, rfl, rfl, rfl, rfl, rfl, rfl, rfl, (agr rfl (by first | rfl | (congr 1; omega) | (congr 1; simp; done) | (congr 1; simp only [IntKind.wrap_u64, IntKind.wrap_i64, IntKind.wrap_u8]; omega) | (congr 1 <;> omega))), trivial⟩, hB, hS, (own_lo ho1 (Nat.le_refl _)), (by omega), hsg, (by simp only [List.length_append, List.length_cons, List.length_nil]; omega), rfl⟩
    · refine C_exit (X_then (X_then (X_hit (N_then (C_seq (C_reg rfl ?_))))))
      refine L_run (R_move rfl) rfl ?_
      refine L_run (R_move rfl) rfl ?_
      refine L_run (R_assign rfl) rfl ?_
      refine L_run (R_assign rfl) rfl ?_
      refine L_nil (N_then (C_ret ?_))
      refine ret2 Tryd.results37 rfl rfl ?_
      obtain rfl : i = (touchN (min 0 832) (min en 832)).2 := by omega
      exact ⟨hB, ss, _, _, rfl, (own_lo ho (Nat.le_refl _)), hss, hsl⟩

theorem pwhole_ok {w : World} {t1 lo hi : Nat} {A : Option Addr} {c e en : Nat} {body : List UInt8} (hS : Sli t1 lo hi w A (fl encB body)) (hbl : body.length = 832) (hc : body.length ≤ c) (he : e < 18446744073709551616) :
    Runs Tryd.prog 26 #[.int .u64 (e : Int), .slice A body.length c, .int .i64 (en : Int)] w (fun v w' => w.grownBy w' none ∧ ∃ (ss : List Sx) (A' : Option Addr) (c' : Nat), v = .slice A' ss.length c' ∧ World.ownsRow w' w.heap.size 62 64 (.slice A' ss.length c') ss.length (fl encX ss) ∧ bsOf ss = wholeN e body en) := by
  have hB := gb_refl w none
  have ht := touch_le (a := 0) (b := en)
  have ht0 := touch_0 en
  replace hS := hS.top
  refine enter Tryd.func26 Tryd.ntmps26 rfl rfl ?_
  refine C_seq (C_reg rfl ?_)
  refine L_run (R_assign rfl) rfl ?_
  refine L_nil (N_then (C_seq (C_reg rfl ?_)))
  refine L_run (R_move rfl) rfl ?_
  refine L_run (R_move rfl) rfl ?_
  refine L_run (R_move rfl) rfl ?_
  have ge1 : w.heap.size ≤ w.heap.size := hB.size
  refine L_call rfl cb37 (pwrite_ok (e := e) (body := body) (en := en) hS hbl hc he) rfl ?_
  rintro _ w1 ⟨hs1, ss1, A_1, c_1, rfl, ho1, hw1, hsl1⟩
  replace hB := gb_tr hB hs1
  replace hS := hS.gb hs1
  have hlo1 : w.heap.size ≤ w1.heap.size := hs1.size
  refine L_run (R_move rfl) rfl ?_
  refine L_run (R_extract rfl rfl) rfl ?_
  refine L_run (R_extract rfl rfl) rfl ?_
  refine L_run (R_assign rfl) rfl ?_
  refine L_run (R_assign rfl) rfl ?_
  refine L_nil (N_then (C_seq (C_block ?_)))
  refine C_loop (fun m_ a_ w_ => ∃ (σ_ : Nat → Value) (ss : List Sx) (Aj : Option Addr) (cj : Nat) (i : Nat), a_ = Ac 24 σ_ [] [(6, .slice none 0 0), (8, .slice Aj ss.length cj)] ∧ w.grownBy w_ none ∧ Sli t1 lo w.heap.size w_ A (fl encB body) ∧ World.ownsRow w_ w.heap.size 62 64 (.slice Aj ss.length cj) ss.length (fl encX ss) ∧ (i ≤ 16 ∧ (touchN (min 0 832) (min en 832)).2 ≤ i) ∧ (bsOf ss = (List.range i).map (secN e body (touchN (min 0 832) (min en 832)).2)) ∧ (ss.length = i) ∧ 16 - i = m_) (16 - (touchN (min 0 832) (min en 832)).2) ?_ ?_
  · exact ⟨_, ss1, A_1, c_1, (touchN (min 0 832) (min en 832)).2, Ac_frg ⟨rfl, rfl, trivial⟩, hB, hS, (own_lo ho1 ge1), (by omega), hw1, hsl1, rfl⟩
  · clear hB
    clear hS ho1 hlo1
    rintro m_ a_ w2 ⟨σ_, ss, Aj, cj, i, rfl, hB, hS, ho, hi, hss, hsl, rfl⟩
    refine C_seq (C_seq (C_reg rfl ?_))
    refine L_run (R_move rfl) rfl ?_
    refine L_run (R_lenSl rfl slc34) rfl ?_
    refine L_run (R_lss rfl rfl) rfl ?_
    refine L_nil (N_then ?_)
    refine C_if rfl (fun h1 => ?_) (fun h1 => ?_)
    · refine C_skip (N_then (C_block (C_reg rfl ?_)))
      refine L_run (R_move rfl) rfl ?_
      refine L_run (R_build (pv := []) (cs := fl encB (List.replicate 64 (0 : UInt8))) rfl (by kernel_rfl)) rfl ?_
      refine T_bs1A (vs := fl encB (List.replicate 64 (0 : UInt8))) slc34 zer62 rfl (by rw [flB_len]; exact List.length_replicate) rfl rfl ?_
      intro g1 w3 eg1 hb1 hs2 hz1
      have ge2 : w.heap.size ≤ g1 := eg_ge hB eg1
      have hap1 : ∀ k_, (Value.slice Aj ss.length cj).ownBlock = some k_ → k_ ≠ g1 := fun k_ hk => by have h_ := (World.ownsRow.lt ho k_ hk).2; omega
      replace hB := gb_tr hB hs2
      replace hS := hS.gb hs2
      replace ho := own_gb ho hs2
      replace hb1 : Blk w3 g1 62 (fl encX [(⟨(List.replicate 64 (0 : UInt8)), List.length_replicate⟩ : Sx)]) := (show fl encX [(⟨(List.replicate 64 (0 : UInt8)), List.length_replicate⟩ : Sx)] = fl encB (List.replicate 64 (0 : UInt8)) by rw [fl_cons]; exact List.append_nil _) ▸ hb1
      refine T_append (xs := ss) (ys := [(⟨(List.replicate 64 (0 : UInt8)), List.length_replicate⟩ : Sx)]) EncX slc34 rfl rfl ho (Blk.sli (m := 0) hb1) (by simp only [List.length_append, List.length_cons, List.length_nil] at *; omega) (by have := hB.size; omega) rfl ?_
      intro A_2 c_2 w4 ho2 hs3 hat1
      replace hB := gb_tro hB ho hs3 (Nat.le_refl _)
      replace hS := hS.grown hs3 (fun k hk => .inr (Nat.le_trans (Nat.le_refl _) (World.ownsRow.lt ho k hk).1))
      refine L_run (R_assign rfl) rfl ?_
      refine L_nil (N_in (N_then ?_))
      have hsg := secs_go (s := (⟨(List.replicate 64 (0 : UInt8)), List.length_replicate⟩ : Sx)) hss (by show _ = secN e body (touchN (min 0 832) (min en 832)).2 i; unfold secN; rw [if_neg (by omega)])
      exact ⟨16 - (i + 1), by omega, _, ss ++ ([(⟨(List.replicate 64 (0 : UInt8)), List.length_replicate⟩ : Sx)]), A_2, c_2, (i + 1), Ac_frg ⟨rfl, rfl, trivial⟩, hB, hS, (own_lo ho2 (Nat.le_refl _)), (by omega), hsg, (by simp only [List.length_append, List.length_cons, List.length_nil]; omega), rfl⟩
    · refine C_exit (X_then (X_then (X_hit (N_then (C_seq (C_reg rfl ?_))))))
      refine L_run (R_move rfl) rfl ?_
      refine L_run (R_assign rfl) rfl ?_
      refine L_nil (N_then (C_ret ?_))
      refine ret1 Tryd.results26 rfl ?_
      obtain rfl : i = 16 := by omega
      exact ⟨hB, ss, _, _, rfl, (own_lo ho (Nat.le_refl _)), hss⟩

end Go.Proofs.YtbpjdcpfphnccaaDoor
