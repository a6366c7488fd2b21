/-
  Contracts of the package batch and of its reference: of each key of any operations the last one.
-/
import Derived.Test.YtoobcebmkfbdfaaDa
import Derived.Test.YtoobcebmkfbdfaaGh
import Derived.Test.YtoobcebmkfbdfaaSh
namespace Go.Proofs.Ytoobcebmkfbdfaa
open Go.RowKit Gw Pl
set_option linter.unusedVariables false
set_option linter.unusedSimpArgs false
theorem cb73 : callB Try.prog 73 = true := by kernel_rfl
theorem batch_Last {w : World} {t1 lo hi : Nat} {A : Option Addr} {c : Nat} {l : List Opd} (hS : Sli t1 lo hi w A (fl encOp l)) (hb : l.length ≤ 1000000) :
    Runs Try.prog 13 #[.slice A l.length c] w (fun v w' => w.grownBy w' none ∧ ∃ A' c', v = .slice A' (lastOf l).length c' ∧ World.ownsRow w' w.heap.size 128 3 (.slice A' (lastOf l).length c') (lastOf l).length (fl encOp (lastOf l))) := by
  have hB := gb_refl w none
  replace hS := hS.top
  refine enter Try.func13 Try.ntmps13 rfl rfl ?_
  refine C_seq (C_reg ?_)
  refine L_run (R_assign rfl) rfl ?_
  refine L_nil (N_then (C_seq (C_reg ?_)))
  refine L_makeMap .string strK natV rfl ?_
  intro g1 w1 eg1 hm1 hs1 hz1
  have ge1 : w.heap.size ≤ g1 := eg_ge hB eg1
  replace hB := gb_tr hB hs1
  replace hS := hS.gb hs1
  refine L_run (R_assign rfl) rfl ?_
  refine L_nil (N_then (C_seq (C_seq (C_reg ?_))))
  refine L_run (R_move rfl) rfl ?_
  refine L_run (R_lenSl rfl slc22) rfl ?_
  refine L_run (R_move rfl) rfl ?_
  refine L_nil (N_then (C_block ?_))
  refine C_loop (fun m_ a_ w_ => ∃ (σ_ : Nat → Value) (k : Nat) (m : List (ByteArray × Nat)), a_ = Ac 38 σ_ [] [(0, .slice A l.length c), (2, .slice none 0 0), (3, .map (some g1)), (10, .slice A l.length c), (11, .int .i64 (l.length : Int)), (12, .int .i64 (k : Int))] ∧ w.grownBy w_ none ∧ Sli t1 lo w.heap.size w_ A (fl encOp l) ∧ MapF w_ g1 .string strK natV m ∧ (k ≤ l.length) ∧ (LMap l k m) ∧ l.length - k = m_) (l.length - 0) ?_ ?_
  · exact ⟨_, 0, [], Ac_frg ⟨rfl, rfl, rfl, rfl, rfl, (agr rfl (by first | rfl | (congr 1; omega) | (congr 1; simp; done) | (congr 1; simp only [IntKind.wrap_u64, IntKind.wrap_i64, IntKind.wrap_u8]; omega) | (congr 1 <;> omega))), trivial⟩, hB, hS, hm1, (by omega), lmap_0, rfl⟩
  · clear hB
    clear hS hm1
    rintro m_ a_ w2 ⟨σ_, k, m, rfl, hB, hS, hmf, hk, hmi, rfl⟩
    refine C_seq (C_reg ?_)
    refine L_run (R_lss rfl rfl) rfl ?_
    refine L_nil (N_then (C_seq ?_))
    refine C_if rfl (fun h1 => ?_) (fun h1 => ?_)
    · refine C_skip (N_then (C_seq (C_block (C_seq (C_reg ?_)))))
      refine L_run (R_move rfl) rfl ?_
      have hl1 : k < l.length := by first | omega | (simp; omega)
      refine T_index (xs := l) (i := k) EncOp rfl rfl (by first | rfl | omega) slc22 hl1 hS rfl ?_
      intro g2 o1 ha1
      refine L_run (R_loadA (vs := [.int .i64 ((l[k]).kind), .string ((l[k]).key), .string ((l[k]).val)]) rfl agg128 (At.pre ha1 rfl) rfl) rfl ?_
      refine L_alloc (cs := [.int .i64 0, .string (⟨#[]⟩), .string (⟨#[]⟩)]) zer128 rfl rfl ?_
      intro g3 w3 eg2 hb1 hs2 hz2
      have ge2 : w.heap.size ≤ g3 := eg_ge hB eg2
      replace hB := gb_tr hB hs2
      replace hS := hS.gb hs2
      replace hmf := hmf.gb hs2
      replace ha1 := At.gb ha1 hs2 (by simp)
      refine L_run (R_assign rfl) rfl ?_
      refine L_stA (vs := [.int .i64 ((l[k]).kind), .string ((l[k]).key), .string ((l[k]).val)]) rfl rfl rfl sz128 rfl hb1 rfl ?_
      intro w4 hb2 hs3 hz3
      replace hB := gb_trg hB hs3 ge2
      replace hS := hS.old hs3 ge2
      replace hmf := hmf.blk hb1 hs3
      refine L_nil (N_then (C_reg ?_))
      refine L_run (R_move rfl) rfl ?_
      refine L_run (R_field (r := 1) rfl fld128_1 rfl) rfl ?_
      refine L_run (R_load1 rfl scl9 (hb2.cell (i := 1) rfl)) rfl ?_
      refine L_run (R_move rfl) rfl ?_
      refine L_mapUpdate (eK := strK) (eV := natV) (m := m) (k := (l[k]).key) (v := k) rfl rfl rfl Try.underlying129 Try.underlying9 strK_inj trivial hmf ?_
      intro w5 hm2 hs4 hz4
      replace hB := gb_trg hB hs4 ge1
      replace hS := hS.oth hmf.oth hs4
      replace hb2 := hb2.oth hmf.oth hs4
      refine L_nil (N_in (N_then (C_reg ?_)))
      refine L_run (R_add64 rfl rfl (by omega)) rfl ?_
      refine L_run (R_move rfl) rfl ?_
      refine L_nil (N_then ?_)
      have hst := lmap_step hmi (show k < l.length by omega)
      exact ⟨l.length - (k + 1), by omega, _, (k + 1), aput m ((l[k]).key) k, Ac_frg ⟨rfl, rfl, rfl, rfl, rfl, (agr rfl (by first | rfl | (congr 1; omega) | (congr 1; simp; done) | (congr 1; simp only [IntKind.wrap_u64, IntKind.wrap_i64, IntKind.wrap_u8]; omega) | (congr 1 <;> omega))), trivial⟩, hB, hS, hm2, (by omega), hst, rfl⟩
    · refine C_exit (X_then (X_then (X_hit (N_then (C_seq (C_reg ?_))))))
      refine L_run (R_assign rfl) rfl ?_
      refine L_nil (N_then (C_seq (C_seq (C_reg ?_))))
      refine L_run (R_move rfl) rfl ?_
      refine L_range rfl Try.underlying129 hmf rfl ?_
      intro g4 w6 eg3 hi1 hs5 hz5
      have ge3 : w.heap.size ≤ g4 := eg_ge hB eg3
      replace hB := gb_tr hB hs5
      replace hS := hS.gb hs5
      refine L_nil (N_then (C_block ?_))
      obtain rfl : k = l.length := by omega
      refine C_loop (fun m_ a_ w_ => ∃ (σ_ : Nat → Value) (A' : Option Addr) (c' : Nat) (dn : List (ByteArray × Nat)), a_ = Ac 38 σ_ [] [(0, .slice A l.length c), (2, .slice none 0 0), (3, .map (some g1)), (6, .slice A' ((dn.map fun p => lg l p.2).length) c'), (23, .pointer (some ⟨g4, 0, none⟩))] ∧ w.grownBy w_ none ∧ Sli t1 lo w.heap.size w_ A (fl encOp l) ∧ IterF w_ g4 g1 .string strK natV m dn ∧ World.ownsRow w_ w.heap.size 128 3 (.slice A' (dn.map fun p => lg l p.2).length c') (dn.map fun p => lg l p.2).length (fl encOp (dn.map fun p => lg l p.2)) ∧ m.length - dn.length = m_) (m.length - ([] : List (ByteArray × Nat)).length) ?_ ?_
      · exact ⟨_, none, 0, ([] : List (ByteArray × Nat)), Ac_frg ⟨rfl, rfl, rfl, (agr rfl (by first | rfl | (congr 1; omega) | (congr 1; simp; done) | (congr 1; simp only [IntKind.wrap_u64, IntKind.wrap_i64, IntKind.wrap_u8]; omega) | (congr 1 <;> omega))), rfl, trivial⟩, hB, hS, hi1, (own_nil w.heap.size 128 3 _), rfl⟩
      · clear hB
        clear hS hi1
        rintro m_ a_ w7 ⟨σ_, A', c', dn, rfl, hB, hS, hit, ho, rfl⟩
        refine C_seq (C_reg ?_)
        refine L_next rfl hit rfl ?_ ?_
        · intro hpm1
          refine L_run (R_extract rfl rfl) rfl ?_
          refine L_nil (N_then (C_seq (C_condF rfl rfl (C_exit (X_then (X_then (X_hit (N_then (C_seq (C_reg ?_))))))))))
          refine L_run (R_move rfl) rfl ?_
          refine L_call rfl cb73 (sort_ops ho (by have h_ := hpm1.length_eq; have h2_ := lmap_len hmi; rw [List.length_map]; omega)) rfl ?_
          rintro _ w9 ⟨hs7, rfl, ys1, hys1, hyr1, ho1⟩
          replace hB := gb_tro hB ho hs7 (Nat.le_refl _)
          replace hS := hS.grown hs7 (fun k hk => .inr (Nat.le_trans (Nat.le_refl _) (World.ownsRow.lt ho k hk).1))
          replace hit := hit.own ho hs7
          have ey : ys1 = lastOf l := last_of_sort hmi hpm1 hys1 hyr1
          rw [ey] at ho1
          have el : ((dn.map fun p => lg l p.2)).length = (lastOf l).length := by rw [← ey, hys1.length_eq]
          rw [el] at *
          refine L_nil (N_then (C_seq (C_reg ?_)))
          refine L_run (R_move rfl) rfl ?_
          refine L_run (R_assign rfl) rfl ?_
          refine L_nil (N_then (C_ret ?_))
          refine ret1 Try.results13 rfl ?_
          exact ⟨hB, _, _, rfl, (own_lo ho1 (Nat.le_refl _))⟩
        · intro pe1 w8 hpe1 hplt1 hi2 hs6 hz6
          replace hB := gb_trg hB hs6 ge3
          replace hS := hS.oth hit.oth hs6
          replace ho := own_oth ho hit.oth hs6
          refine L_run (R_extract rfl rfl) rfl ?_
          refine L_nil (N_then (C_seq (C_condT rfl rfl (C_skip (N_then (C_block (C_seq (C_reg ?_))))))))
          refine L_run (R_entry (dn := dn) rfl hi2) rfl ?_
          refine L_run (R_extract rfl rfl) rfl ?_
          refine L_run (R_assign rfl) rfl ?_
          refine L_nil (N_then (C_reg ?_))
          refine L_run (R_move rfl) rfl ?_
          refine L_run (R_move rfl) rfl ?_
          refine L_run (R_move rfl) rfl ?_
          have hpl : (pe1.2) < l.length := (lmap_lt hmi hpe1)
          refine T_index (xs := l) (i := (pe1.2)) EncOp rfl rfl (by first | rfl | omega) slc22 hpl hS rfl ?_
          intro g5 o2 ha2
          refine L_run (R_loadA (vs := [.int .i64 ((l[(pe1.2)]).kind), .string ((l[(pe1.2)]).key), .string ((l[(pe1.2)]).val)]) rfl agg128 (At.pre ha2 rfl) rfl) rfl ?_
          refine L_buildSlice (pv := [(0, .agg #[.int .i64 ((l[(pe1.2)]).kind), .string ((l[(pe1.2)]).key), .string ((l[(pe1.2)]).val)])]) (cs := [.int .i64 ((l[(pe1.2)]).kind), .string ((l[(pe1.2)]).key), .string ((l[(pe1.2)]).val)]) slc22 zer128 rfl rfl (by kernel_rfl) rfl ?_
          intro g6 w10 eg4 hb3 hs8 hz7
          have ge4 : w.heap.size ≤ g6 := eg_ge hB eg4
          have hap1 : ∀ k_, (Value.slice A' (dn.map fun p => lg l p.2).length c').ownBlock = some k_ → k_ ≠ g6 := fun k_ hk => by have h_ := (World.ownsRow.lt ho k_ hk).2; omega
          replace hB := gb_tr hB hs8
          replace hS := hS.gb hs8
          replace ho := own_gb ho hs8
          replace hi2 := hi2.gb hs8
          replace ha2 := At.gb ha2 hs8 (by simp)
          refine T_append (xs := (dn.map fun p => lg l p.2)) (ys := [(⟨(l[(pe1.2)]).kind, (l[(pe1.2)]).key, (l[(pe1.2)]).val⟩ : Opd)]) EncOp slc22 rfl rfl ho (Blk.sli (m := 0) hb3) (by have h_ := lmap_len hmi; simp; omega) (by have := hB.size; omega) rfl ?_
          intro A_1 c_1 w11 ho2 hs9 hat1
          replace hB := gb_tro hB ho hs9 (Nat.le_refl _)
          replace hS := hS.grown hs9 (fun k hk => .inr (Nat.le_trans (Nat.le_refl _) (World.ownsRow.lt ho k hk).1))
          replace hi2 := hi2.own ho hs9
          refine L_run (R_assign rfl) rfl ?_
          refine L_nil (N_in (N_then ?_))
          have e_ : (dn.map fun p => lg l p.2) ++ ([(⟨(l[(pe1.2)]).kind, (l[(pe1.2)]).key, (l[(pe1.2)]).val⟩ : Opd)]) = ((dn ++ [pe1]).map fun p => lg l p.2) := by rw [List.map_append]; simp [lg_get hpl]
          rw [e_] at ho2 ⊢
          exact ⟨m.length - (dn ++ [pe1]).length, by rw [List.length_append, List.length_singleton]; omega, _, A_1, c_1, (dn ++ [pe1]), Ac_frg ⟨rfl, rfl, rfl, rfl, rfl, trivial⟩, hB, hS, hi2, ho2, rfl⟩

theorem ref12_Last {w : World} {t1 lo hi : Nat} {A : Option Addr} {c : Nat} {l : List Opd} (hS : Sli t1 lo hi w A (fl encOp l)) (hb : l.length ≤ 1000000) :
    Runs Try.prog 15 #[.slice A l.length c] w (fun v w' => w.grownBy w' none ∧ ∃ A' c', v = .slice A' (lastOf l).length c' ∧ World.ownsRow w' w.heap.size 128 3 (.slice A' (lastOf l).length c') (lastOf l).length (fl encOp (lastOf l))) := by
  have hB := gb_refl w none
  replace hS := hS.top
  refine enter Try.func15 Try.ntmps15 rfl rfl ?_
  refine C_seq (C_reg ?_)
  refine L_run (R_assign rfl) rfl ?_
  refine L_nil (N_then (C_seq (C_reg ?_)))
  refine L_run (R_assign rfl) rfl ?_
  refine L_nil (N_then (C_seq (C_seq (C_reg ?_))))
  refine L_run (R_assign rfl) rfl ?_
  refine L_nil (N_then (C_block ?_))
  refine C_loop (fun m_ a_ w_ => ∃ (σ_ : Nat → Value) (A' : Option Addr) (c' : Nat) (k : Nat), a_ = Ac 71 σ_ [] [(0, .slice A l.length c), (2, .slice none 0 0), (3, .slice A' ((lastOf (l.take k)).length) c'), (4, .int .i64 (k : Int))] ∧ w.grownBy w_ none ∧ Sli t1 lo w.heap.size w_ A (fl encOp l) ∧ World.ownsRow w_ w.heap.size 128 3 (.slice A' (lastOf (l.take k)).length c') (lastOf (l.take k)).length (fl encOp (lastOf (l.take k))) ∧ (k ≤ l.length) ∧ ((lastOf (l.take k)).length ≤ k) ∧ l.length - k = m_) (l.length - 0) ?_ ?_
  · exact ⟨_, none, 0, 0, Ac_frg ⟨rfl, rfl, (agr rfl (by first | rfl | (congr 1; omega) | (congr 1; simp; done) | (congr 1; simp only [IntKind.wrap_u64, IntKind.wrap_i64, IntKind.wrap_u8]; omega) | (congr 1 <;> omega))), (agr rfl (by first | rfl | (congr 1; omega) | (congr 1; simp; done) | (congr 1; simp only [IntKind.wrap_u64, IntKind.wrap_i64, IntKind.wrap_u8]; omega) | (congr 1 <;> omega))), trivial⟩, hB, hS, (own_nil w.heap.size 128 3 _), (Nat.zero_le _), (Nat.zero_le _), rfl⟩
  · clear hB
    clear hS
    rintro m_ a_ w1 ⟨σ_, A', c', k, rfl, hB, hS, ho, hk, hll, rfl⟩
    refine C_seq (C_seq (C_reg ?_))
    refine L_run (R_move rfl) rfl ?_
    refine L_run (R_move rfl) rfl ?_
    refine L_run (R_lenSl rfl slc22) rfl ?_
    refine L_run (R_lss rfl rfl) rfl ?_
    refine L_nil (N_then ?_)
    refine C_if rfl (fun h1 => ?_) (fun h1 => ?_)
    · refine C_skip (N_then (C_seq (C_block (C_seq (C_reg ?_)))))
      refine L_run (R_assign rfl) rfl ?_
      refine L_nil (N_then (C_seq (C_reg ?_)))
      refine L_run (R_assign rfl) rfl ?_
      refine L_nil (N_then (C_seq (C_seq (C_reg ?_))))
      refine L_run (R_assign rfl) rfl ?_
      refine L_nil (N_then (C_block ?_))
      have hkl : k < l.length := by omega
      have hSo := (own_of ho).2.2
      have hlo9 : w1.heap.size ≤ w1.heap.size := Nat.le_refl _
      have hgeB : w.heap.size ≤ w1.heap.size := hB.size
      refine C_loop (fun m_ a_ w_ => ∃ (σ_ : Nat → Value) (A2 : Option Addr) (c2 : Nat) (q : Nat) (b : Bool) (acc : List Opd), a_ = Ac 71 σ_ [] [(0, .slice A l.length c), (2, .slice none 0 0), (3, .slice A' ((lastOf (l.take k)).length) c'), (4, .int .i64 (k : Int)), (5, .slice A2 acc.length c2), (6, .bool b), (7, .int .i64 (q : Int))] ∧ w.grownBy w_ none ∧ Sli t1 lo w.heap.size w_ A (fl encOp l) ∧ Sli 128 w.heap.size w1.heap.size w_ A' (fl encOp (lastOf (l.take k))) ∧ w1.heap.size ≤ w_.heap.size ∧ World.ownsRow w_ w1.heap.size 128 3 (.slice A2 acc.length c2) acc.length (fl encOp acc) ∧ (q ≤ (lastOf (l.take k)).length) ∧ (acc ++ rlx l[k] b ((lastOf (l.take k)).drop q) = rlx l[k] false (lastOf (l.take k))) ∧ (acc.length ≤ 2 * q) ∧ (lastOf (l.take k)).length - q = m_) ((lastOf (l.take k)).length - 0) ?_ ?_
      · exact ⟨_, none, 0, 0, false, ([] : List Opd), Ac_frg ⟨rfl, rfl, rfl, rfl, (agr rfl (by first | rfl | (congr 1; omega) | (congr 1; simp; done) | (congr 1; simp only [IntKind.wrap_u64, IntKind.wrap_i64, IntKind.wrap_u8]; omega) | (congr 1 <;> omega))), rfl, (agr rfl (by first | rfl | (congr 1; omega) | (congr 1; simp; done) | (congr 1; simp only [IntKind.wrap_u64, IntKind.wrap_i64, IntKind.wrap_u8]; omega) | (congr 1 <;> omega))), trivial⟩, hB, hS, hSo, hlo9, (own_nil w1.heap.size 128 3 _), (Nat.zero_le _), (by simp [rlx]), (by simp), rfl⟩
      · clear hB
        clear hS hSo hlo9
        rintro m_ a_ w2 ⟨σ_, A2, c2, q, b, acc, rfl, hB, hS, hSo, hlo9, ho2, hq, hri, hal, rfl⟩
        refine C_seq (C_seq (C_reg ?_))
        refine L_run (R_move rfl) rfl ?_
        refine L_run (R_move rfl) rfl ?_
        refine L_run (R_lenSl rfl slc22) rfl ?_
        refine L_run (R_lss rfl rfl) rfl ?_
        refine L_nil (N_then ?_)
        refine C_if rfl (fun h2 => ?_) (fun h2 => ?_)
        · refine C_skip (N_then (C_seq (C_block (C_seq (C_seq ?_)))))
          refine C_draw2 mix ?_
          intro w3 hs1 hz1
          replace hB := gb_tr hB hs1
          replace hS := hS.gb hs1
          replace hSo := hSo.gb hs1
          replace hlo9 := Nat.le_trans hlo9 hs1.size
          replace ho2 := own_gb ho2 hs1
          have hl1 : q < (lastOf (l.take k)).length := by first | omega | (simp; omega)
          obtain ⟨g1, o1, r1, eA1, er1, ha1⟩ := Sli.place' (xs := lastOf (l.take k)) (i := q) EncOp hSo hl1 rfl
          have hl2 : k < l.length := by first | omega | (simp; omega)
          obtain ⟨g2, o2, r2, eA2, er2, ha2⟩ := Sli.place' (xs := l) (i := k) EncOp hS hl2 rfl
          refine ⟨fun W_ => At W_ g1 r1 [.int .i64 (((lastOf (l.take k))[q]).kind), .string (((lastOf (l.take k))[q]).key), .string (((lastOf (l.take k))[q]).val)] ∧ At W_ g2 r2 [.int .i64 ((l[k]).kind), .string ((l[k]).key), .string ((l[k]).val)] ∧ True, [0, 1, 2, 3, 4, 5, 6, 7, 8, 9, 10, 11, 12, 13, 14], ?_⟩
          refine T_takeA (i := 0) rfl rfl (by kernel_rfl) (by kernel_rfl) (by kernel_rfl) (Y_of (fun _ ⟨ha1, ha2, _⟩ => R_move rfl)) ⟨ha1, ha2, trivial⟩ rfl ?_
          refine T_takeA (i := 1) rfl rfl (by kernel_rfl) (by kernel_rfl) (by kernel_rfl) (Y_of (fun _ ⟨ha1, ha2, _⟩ => R_not rfl)) ⟨ha1, ha2, trivial⟩ rfl ?_
          refine T_takeA (i := 2) rfl rfl (by kernel_rfl) (by kernel_rfl) (by kernel_rfl) (Y_of (fun _ ⟨ha1, ha2, _⟩ => R_move rfl)) ⟨ha1, ha2, trivial⟩ rfl ?_
          by_cases h3 : (!b) = true
          · refine T_takeA (i := 3) rfl rfl (by kernel_rfl) (by kernel_rfl) (by kernel_rfl) (Y_yes rfl rfl rfl h3 (fun _ ⟨ha1, ha2, _⟩ => R_move rfl)) ⟨ha1, ha2, trivial⟩ rfl ?_
            refine T_takeA (i := 4) rfl rfl (by kernel_rfl) (by kernel_rfl) (by kernel_rfl) (Y_yes rfl rfl rfl h3 (fun _ ⟨ha1, ha2, _⟩ => R_move rfl)) ⟨ha1, ha2, trivial⟩ rfl ?_
            refine T_takeA (i := 5) rfl rfl (by kernel_rfl) (by kernel_rfl) (by kernel_rfl) (Y_yes rfl rfl rfl h3 (fun _ ⟨ha1, ha2, _⟩ => R_indexE rfl rfl (by first | rfl | omega) slc22 hl1 eA1 er1)) ⟨ha1, ha2, trivial⟩ rfl ?_
            refine T_takeA (i := 6) rfl rfl (by kernel_rfl) (by kernel_rfl) (by kernel_rfl) (Y_yes rfl rfl rfl h3 (fun _ ⟨ha1, ha2, _⟩ => R_field rfl fld128_1 rfl)) ⟨ha1, ha2, trivial⟩ rfl ?_
            refine T_takeA (i := 7) rfl rfl (by kernel_rfl) (by kernel_rfl) (by kernel_rfl) (Y_yes rfl rfl rfl h3 (fun _ ⟨ha1, ha2, _⟩ => R_load1 rfl scl9 (ha1 1 _ rfl))) ⟨ha1, ha2, trivial⟩ rfl ?_
            refine T_takeA (i := 8) rfl rfl (by kernel_rfl) (by kernel_rfl) (by kernel_rfl) (Y_yes rfl rfl rfl h3 (fun _ ⟨ha1, ha2, _⟩ => R_move rfl)) ⟨ha1, ha2, trivial⟩ rfl ?_
            refine T_takeA (i := 9) rfl rfl (by kernel_rfl) (by kernel_rfl) (by kernel_rfl) (Y_yes rfl rfl rfl h3 (fun _ ⟨ha1, ha2, _⟩ => R_move rfl)) ⟨ha1, ha2, trivial⟩ rfl ?_
            refine T_takeA (i := 10) rfl rfl (by kernel_rfl) (by kernel_rfl) (by kernel_rfl) (Y_yes rfl rfl rfl h3 (fun _ ⟨ha1, ha2, _⟩ => R_indexE rfl rfl (by first | rfl | omega) slc22 hl2 eA2 er2)) ⟨ha1, ha2, trivial⟩ rfl ?_
            refine T_takeA (i := 11) rfl rfl (by kernel_rfl) (by kernel_rfl) (by kernel_rfl) (Y_yes rfl rfl rfl h3 (fun _ ⟨ha1, ha2, _⟩ => R_field rfl fld128_1 rfl)) ⟨ha1, ha2, trivial⟩ rfl ?_
            refine T_takeA (i := 12) rfl rfl (by kernel_rfl) (by kernel_rfl) (by kernel_rfl) (Y_yes rfl rfl rfl h3 (fun _ ⟨ha1, ha2, _⟩ => R_load1 rfl scl9 (ha2 1 _ rfl))) ⟨ha1, ha2, trivial⟩ rfl ?_
            refine T_takeA (i := 13) rfl rfl (by kernel_rfl) (by kernel_rfl) (by kernel_rfl) (Y_yes rfl rfl rfl h3 (fun _ ⟨ha1, ha2, _⟩ => R_geqS rfl rfl)) ⟨ha1, ha2, trivial⟩ rfl ?_
            refine T_takeA (i := 14) rfl rfl (by kernel_rfl) (by kernel_rfl) (by kernel_rfl) (Y_of (fun _ ⟨ha1, ha2, _⟩ => R_pickT rfl h3 rfl)) ⟨ha1, ha2, trivial⟩ rfl ?_
            refine T_done (by kernel_rfl) (NoPanic.normal ?_)
            refine N_then ?_
            refine C_ifN rfl (fun h4 => ?_) (fun h4 => ?_)
            · refine C_seq (C_reg ?_)
              refine L_run (R_move rfl) rfl ?_
              refine L_run (R_move rfl) rfl ?_
              refine L_run (R_move rfl) rfl ?_
              have hl3 : k < l.length := by first | omega | (simp; omega)
              refine T_index (xs := l) (i := k) EncOp rfl rfl (by first | rfl | omega) slc22 hl3 hS rfl ?_
              intro g3 o3 ha3
              refine L_run (R_loadA (vs := [.int .i64 ((l[k]).kind), .string ((l[k]).key), .string ((l[k]).val)]) rfl agg128 (At.pre ha3 rfl) rfl) rfl ?_
              refine L_buildSlice (pv := [(0, .agg #[.int .i64 ((l[k]).kind), .string ((l[k]).key), .string ((l[k]).val)])]) (cs := [.int .i64 ((l[k]).kind), .string ((l[k]).key), .string ((l[k]).val)]) slc22 zer128 rfl rfl (by kernel_rfl) rfl ?_
              intro g4 w4 eg1 hb1 hs2 hz2
              have ge1 : w.heap.size ≤ g4 := eg_ge hB eg1
              have hap1 : ∀ k_, (Value.slice A2 acc.length c2).ownBlock = some k_ → k_ ≠ g4 := fun k_ hk => by have h_ := (World.ownsRow.lt ho2 k_ hk).2; omega
              replace hB := gb_tr hB hs2
              replace hS := hS.gb hs2
              replace hSo := hSo.gb hs2
              replace hlo9 := Nat.le_trans hlo9 hs2.size
              replace ho2 := own_gb ho2 hs2
              replace ha1 := At.gb ha1 hs2 (by simp)
              replace ha2 := At.gb ha2 hs2 (by simp)
              replace ha3 := At.gb ha3 hs2 (by simp)
              refine T_append (xs := acc) (ys := [(⟨(l[k]).kind, (l[k]).key, (l[k]).val⟩ : Opd)]) EncOp slc22 rfl rfl ho2 (Blk.sli (m := 0) hb1) (by simp; omega) hlo9 rfl ?_
              intro A_1 c_1 w5 ho1 hs3 hat1
              replace hB := gb_tro hB ho2 hs3 hgeB
              replace hS := hS.grown hs3 (fun k hk => .inr (Nat.le_trans hgeB (World.ownsRow.lt ho2 k hk).1))
              replace hSo := hSo.grown hs3 (fun k hk => .inr (World.ownsRow.lt ho2 k hk).1)
              replace hlo9 := Nat.le_trans hlo9 hs3.size
              refine L_run (R_assign rfl) rfl ?_
              refine L_nil (N_then (C_reg ?_))
              refine L_run (R_assign rfl) rfl ?_
              refine L_nil (N_then (C_seq ?_))
              refine C_draw2 mix ?_
              intro w6 hs4 hz3
              replace hB := gb_tr hB hs4
              replace hS := hS.gb hs4
              replace hSo := hSo.gb hs4
              replace hlo9 := Nat.le_trans hlo9 hs4.size
              replace ho1 := own_gb ho1 hs4
              have hl4 : q < (lastOf (l.take k)).length := by first | omega | (simp; omega)
              obtain ⟨g5, o4, r3, eA3, er3, ha4⟩ := Sli.place' (xs := lastOf (l.take k)) (i := q) EncOp hSo hl4 rfl
              have hl5 : k < l.length := by first | omega | (simp; omega)
              obtain ⟨g6, o5, r4, eA4, er4, ha5⟩ := Sli.place' (xs := l) (i := k) EncOp hS hl5 rfl
              refine ⟨fun W_ => At W_ g5 r3 [.int .i64 (((lastOf (l.take k))[q]).kind), .string (((lastOf (l.take k))[q]).key), .string (((lastOf (l.take k))[q]).val)] ∧ At W_ g6 r4 [.int .i64 ((l[k]).kind), .string ((l[k]).key), .string ((l[k]).val)] ∧ True, [0, 1, 2, 3, 4, 5, 6, 7, 8, 9, 10], ?_⟩
              refine T_takeA (i := 0) rfl rfl (by kernel_rfl) (by kernel_rfl) (by kernel_rfl) (Y_of (fun _ ⟨ha4, ha5, _⟩ => R_move rfl)) ⟨ha4, ha5, trivial⟩ rfl ?_
              refine T_takeA (i := 1) rfl rfl (by kernel_rfl) (by kernel_rfl) (by kernel_rfl) (Y_of (fun _ ⟨ha4, ha5, _⟩ => R_move rfl)) ⟨ha4, ha5, trivial⟩ rfl ?_
              refine T_takeA (i := 2) rfl rfl (by kernel_rfl) (by kernel_rfl) (by kernel_rfl) (Y_of (fun _ ⟨ha4, ha5, _⟩ => R_indexE rfl rfl (by first | rfl | omega) slc22 hl4 eA3 er3)) ⟨ha4, ha5, trivial⟩ rfl ?_
              refine T_takeA (i := 3) rfl rfl (by kernel_rfl) (by kernel_rfl) (by kernel_rfl) (Y_of (fun _ ⟨ha4, ha5, _⟩ => R_field rfl fld128_1 rfl)) ⟨ha4, ha5, trivial⟩ rfl ?_
              refine T_takeA (i := 4) rfl rfl (by kernel_rfl) (by kernel_rfl) (by kernel_rfl) (Y_of (fun _ ⟨ha4, ha5, _⟩ => R_load1 rfl scl9 (ha4 1 _ rfl))) ⟨ha4, ha5, trivial⟩ rfl ?_
              refine T_takeA (i := 5) rfl rfl (by kernel_rfl) (by kernel_rfl) (by kernel_rfl) (Y_of (fun _ ⟨ha4, ha5, _⟩ => R_move rfl)) ⟨ha4, ha5, trivial⟩ rfl ?_
              refine T_takeA (i := 6) rfl rfl (by kernel_rfl) (by kernel_rfl) (by kernel_rfl) (Y_of (fun _ ⟨ha4, ha5, _⟩ => R_move rfl)) ⟨ha4, ha5, trivial⟩ rfl ?_
              refine T_takeA (i := 7) rfl rfl (by kernel_rfl) (by kernel_rfl) (by kernel_rfl) (Y_of (fun _ ⟨ha4, ha5, _⟩ => R_indexE rfl rfl (by first | rfl | omega) slc22 hl5 eA4 er4)) ⟨ha4, ha5, trivial⟩ rfl ?_
              refine T_takeA (i := 8) rfl rfl (by kernel_rfl) (by kernel_rfl) (by kernel_rfl) (Y_of (fun _ ⟨ha4, ha5, _⟩ => R_field rfl fld128_1 rfl)) ⟨ha4, ha5, trivial⟩ rfl ?_
              refine T_takeA (i := 9) rfl rfl (by kernel_rfl) (by kernel_rfl) (by kernel_rfl) (Y_of (fun _ ⟨ha4, ha5, _⟩ => R_load1 rfl scl9 (ha5 1 _ rfl))) ⟨ha4, ha5, trivial⟩ rfl ?_
              refine T_takeA (i := 10) rfl rfl (by kernel_rfl) (by kernel_rfl) (by kernel_rfl) (Y_of (fun _ ⟨ha4, ha5, _⟩ => R_neqS rfl rfl)) ⟨ha4, ha5, trivial⟩ rfl ?_
              refine T_done (by kernel_rfl) (NoPanic.normal ?_)
              refine N_then ?_
              refine C_if rfl (fun h5 => ?_) (fun h5 => ?_)
              · refine C_reg ?_
                refine L_run (R_move rfl) rfl ?_
                refine L_run (R_move rfl) rfl ?_
                refine L_run (R_move rfl) rfl ?_
                have hl6 : q < (lastOf (l.take k)).length := by first | omega | (simp; omega)
                refine T_index (xs := lastOf (l.take k)) (i := q) EncOp rfl rfl (by first | rfl | omega) slc22 hl6 hSo rfl ?_
                intro g7 o6 ha6
                refine L_run (R_loadA (vs := [.int .i64 (((lastOf (l.take k))[q]).kind), .string (((lastOf (l.take k))[q]).key), .string (((lastOf (l.take k))[q]).val)]) rfl agg128 (At.pre ha6 rfl) rfl) rfl ?_
                refine L_buildSlice (pv := [(0, .agg #[.int .i64 (((lastOf (l.take k))[q]).kind), .string (((lastOf (l.take k))[q]).key), .string (((lastOf (l.take k))[q]).val)])]) (cs := [.int .i64 (((lastOf (l.take k))[q]).kind), .string (((lastOf (l.take k))[q]).key), .string (((lastOf (l.take k))[q]).val)]) slc22 zer128 rfl rfl (by kernel_rfl) rfl ?_
                intro g8 w7 eg2 hb2 hs5 hz4
                have ge2 : w.heap.size ≤ g8 := eg_ge hB eg2
                have hap2 : ∀ k_, (Value.slice A_1 (acc ++ ([(⟨(l[k]).kind, (l[k]).key, (l[k]).val⟩ : Opd)])).length c_1).ownBlock = some k_ → k_ ≠ g8 := fun k_ hk => by have h_ := (World.ownsRow.lt ho1 k_ hk).2; omega
                replace hB := gb_tr hB hs5
                replace hS := hS.gb hs5
                replace hSo := hSo.gb hs5
                replace hlo9 := Nat.le_trans hlo9 hs5.size
                replace ho1 := own_gb ho1 hs5
                replace ha4 := At.gb ha4 hs5 (by simp)
                replace ha5 := At.gb ha5 hs5 (by simp)
                replace ha6 := At.gb ha6 hs5 (by simp)
                refine T_append (xs := acc ++ ([(⟨(l[k]).kind, (l[k]).key, (l[k]).val⟩ : Opd)])) (ys := [(⟨((lastOf (l.take k))[q]).kind, ((lastOf (l.take k))[q]).key, ((lastOf (l.take k))[q]).val⟩ : Opd)]) EncOp slc22 rfl rfl ho1 (Blk.sli (m := 0) hb2) (by simp; omega) hlo9 rfl ?_
                intro A_2 c_2 w8 ho2 hs6 hat2
                replace hB := gb_tro hB ho1 hs6 hgeB
                replace hS := hS.grown hs6 (fun k hk => .inr (Nat.le_trans hgeB (World.ownsRow.lt ho1 k hk).1))
                replace hSo := hSo.grown hs6 (fun k hk => .inr (World.ownsRow.lt ho1 k hk).1)
                replace hlo9 := Nat.le_trans hlo9 hs6.size
                refine L_run (R_assign rfl) rfl ?_
                refine L_nil (N_in (N_then (C_reg ?_)))
                refine L_run (R_move rfl) rfl ?_
                refine L_run (R_add64 rfl rfl (by omega)) rfl ?_
                refine L_run (R_assign rfl) rfl ?_
                refine L_nil (N_then ?_)
                have hst : ((acc ++ ([(⟨(l[k]).kind, (l[k]).key, (l[k]).val⟩ : Opd)])) ++ ([(⟨((lastOf (l.take k))[q]).kind, ((lastOf (l.take k))[q]).key, ((lastOf (l.take k))[q]).val⟩ : Opd)])) ++ rlx l[k] true ((lastOf (l.take k)).drop (q + 1)) = rlx l[k] false (lastOf (l.take k)) := by rw [← hri, rlx_drop (show q < (lastOf (l.take k)).length by omega)]; simp_all
                exact ⟨(lastOf (l.take k)).length - (q + 1), by omega, _, A_2, c_2, (q + 1), true, ((acc ++ ([(⟨(l[k]).kind, (l[k]).key, (l[k]).val⟩ : Opd)])) ++ ([(⟨((lastOf (l.take k))[q]).kind, ((lastOf (l.take k))[q]).key, ((lastOf (l.take k))[q]).val⟩ : Opd)])), Ac_frg ⟨rfl, rfl, rfl, rfl, rfl, rfl, (agr rfl (by first | rfl | (congr 1; omega) | (congr 1; simp; done) | (congr 1; simp only [IntKind.wrap_u64, IntKind.wrap_i64, IntKind.wrap_u8]; omega) | (congr 1 <;> omega))), trivial⟩, hB, hS, hSo, hlo9, ho2, (by omega), hst, (by first | (simp only [List.length_append, List.length_singleton] at *; omega) | omega), rfl⟩
              · refine C_skip (N_in (N_then (C_reg ?_)))
                refine L_run (R_move rfl) rfl ?_
                refine L_run (R_add64 rfl rfl (by omega)) rfl ?_
                refine L_run (R_assign rfl) rfl ?_
                refine L_nil (N_then ?_)
                have hst : (acc ++ ([(⟨(l[k]).kind, (l[k]).key, (l[k]).val⟩ : Opd)])) ++ rlx l[k] true ((lastOf (l.take k)).drop (q + 1)) = rlx l[k] false (lastOf (l.take k)) := by rw [← hri, rlx_drop (show q < (lastOf (l.take k)).length by omega)]; simp_all
                exact ⟨(lastOf (l.take k)).length - (q + 1), by omega, _, A_1, c_1, (q + 1), true, (acc ++ ([(⟨(l[k]).kind, (l[k]).key, (l[k]).val⟩ : Opd)])), Ac_frg ⟨rfl, rfl, rfl, rfl, rfl, rfl, (agr rfl (by first | rfl | (congr 1; omega) | (congr 1; simp; done) | (congr 1; simp only [IntKind.wrap_u64, IntKind.wrap_i64, IntKind.wrap_u8]; omega) | (congr 1 <;> omega))), trivial⟩, hB, hS, hSo, hlo9, ho1, (by omega), hst, (by first | (simp only [List.length_append, List.length_singleton] at *; omega) | omega), rfl⟩
            · refine C_skip (N_then (C_seq ?_))
              refine C_draw2 mix ?_
              intro w9 hs7 hz5
              replace hB := gb_tr hB hs7
              replace hS := hS.gb hs7
              replace hSo := hSo.gb hs7
              replace hlo9 := Nat.le_trans hlo9 hs7.size
              replace ho2 := own_gb ho2 hs7
              replace ha1 := At.gb ha1 hs7 (by simp)
              replace ha2 := At.gb ha2 hs7 (by simp)
              have hl7 : q < (lastOf (l.take k)).length := by first | omega | (simp; omega)
              obtain ⟨g9, o7, r5, eA5, er5, ha7⟩ := Sli.place' (xs := lastOf (l.take k)) (i := q) EncOp hSo hl7 rfl
              have hl8 : k < l.length := by first | omega | (simp; omega)
              obtain ⟨g10, o8, r6, eA6, er6, ha8⟩ := Sli.place' (xs := l) (i := k) EncOp hS hl8 rfl
              refine ⟨fun W_ => At W_ g9 r5 [.int .i64 (((lastOf (l.take k))[q]).kind), .string (((lastOf (l.take k))[q]).key), .string (((lastOf (l.take k))[q]).val)] ∧ At W_ g10 r6 [.int .i64 ((l[k]).kind), .string ((l[k]).key), .string ((l[k]).val)] ∧ True, [0, 1, 2, 3, 4, 5, 6, 7, 8, 9, 10], ?_⟩
              refine T_takeA (i := 0) rfl rfl (by kernel_rfl) (by kernel_rfl) (by kernel_rfl) (Y_of (fun _ ⟨ha7, ha8, _⟩ => R_move rfl)) ⟨ha7, ha8, trivial⟩ rfl ?_
              refine T_takeA (i := 1) rfl rfl (by kernel_rfl) (by kernel_rfl) (by kernel_rfl) (Y_of (fun _ ⟨ha7, ha8, _⟩ => R_move rfl)) ⟨ha7, ha8, trivial⟩ rfl ?_
              refine T_takeA (i := 2) rfl rfl (by kernel_rfl) (by kernel_rfl) (by kernel_rfl) (Y_of (fun _ ⟨ha7, ha8, _⟩ => R_indexE rfl rfl (by first | rfl | omega) slc22 hl7 eA5 er5)) ⟨ha7, ha8, trivial⟩ rfl ?_
              refine T_takeA (i := 3) rfl rfl (by kernel_rfl) (by kernel_rfl) (by kernel_rfl) (Y_of (fun _ ⟨ha7, ha8, _⟩ => R_field rfl fld128_1 rfl)) ⟨ha7, ha8, trivial⟩ rfl ?_
              refine T_takeA (i := 4) rfl rfl (by kernel_rfl) (by kernel_rfl) (by kernel_rfl) (Y_of (fun _ ⟨ha7, ha8, _⟩ => R_load1 rfl scl9 (ha7 1 _ rfl))) ⟨ha7, ha8, trivial⟩ rfl ?_
              refine T_takeA (i := 5) rfl rfl (by kernel_rfl) (by kernel_rfl) (by kernel_rfl) (Y_of (fun _ ⟨ha7, ha8, _⟩ => R_move rfl)) ⟨ha7, ha8, trivial⟩ rfl ?_
              refine T_takeA (i := 6) rfl rfl (by kernel_rfl) (by kernel_rfl) (by kernel_rfl) (Y_of (fun _ ⟨ha7, ha8, _⟩ => R_move rfl)) ⟨ha7, ha8, trivial⟩ rfl ?_
              refine T_takeA (i := 7) rfl rfl (by kernel_rfl) (by kernel_rfl) (by kernel_rfl) (Y_of (fun _ ⟨ha7, ha8, _⟩ => R_indexE rfl rfl (by first | rfl | omega) slc22 hl8 eA6 er6)) ⟨ha7, ha8, trivial⟩ rfl ?_
              refine T_takeA (i := 8) rfl rfl (by kernel_rfl) (by kernel_rfl) (by kernel_rfl) (Y_of (fun _ ⟨ha7, ha8, _⟩ => R_field rfl fld128_1 rfl)) ⟨ha7, ha8, trivial⟩ rfl ?_
              refine T_takeA (i := 9) rfl rfl (by kernel_rfl) (by kernel_rfl) (by kernel_rfl) (Y_of (fun _ ⟨ha7, ha8, _⟩ => R_load1 rfl scl9 (ha8 1 _ rfl))) ⟨ha7, ha8, trivial⟩ rfl ?_
              refine T_takeA (i := 10) rfl rfl (by kernel_rfl) (by kernel_rfl) (by kernel_rfl) (Y_of (fun _ ⟨ha7, ha8, _⟩ => R_neqS rfl rfl)) ⟨ha7, ha8, trivial⟩ rfl ?_
              refine T_done (by kernel_rfl) (NoPanic.normal ?_)
              refine N_then ?_
              refine C_if rfl (fun h6 => ?_) (fun h6 => ?_)
              · refine C_reg ?_
                refine L_run (R_move rfl) rfl ?_
                refine L_run (R_move rfl) rfl ?_
                refine L_run (R_move rfl) rfl ?_
                have hl9 : q < (lastOf (l.take k)).length := by first | omega | (simp; omega)
                refine T_index (xs := lastOf (l.take k)) (i := q) EncOp rfl rfl (by first | rfl | omega) slc22 hl9 hSo rfl ?_
                intro g11 o9 ha9
                refine L_run (R_loadA (vs := [.int .i64 (((lastOf (l.take k))[q]).kind), .string (((lastOf (l.take k))[q]).key), .string (((lastOf (l.take k))[q]).val)]) rfl agg128 (At.pre ha9 rfl) rfl) rfl ?_
                refine L_buildSlice (pv := [(0, .agg #[.int .i64 (((lastOf (l.take k))[q]).kind), .string (((lastOf (l.take k))[q]).key), .string (((lastOf (l.take k))[q]).val)])]) (cs := [.int .i64 (((lastOf (l.take k))[q]).kind), .string (((lastOf (l.take k))[q]).key), .string (((lastOf (l.take k))[q]).val)]) slc22 zer128 rfl rfl (by kernel_rfl) rfl ?_
                intro g12 w10 eg3 hb3 hs8 hz6
                have ge3 : w.heap.size ≤ g12 := eg_ge hB eg3
                have hap3 : ∀ k_, (Value.slice A2 acc.length c2).ownBlock = some k_ → k_ ≠ g12 := fun k_ hk => by have h_ := (World.ownsRow.lt ho2 k_ hk).2; omega
                replace hB := gb_tr hB hs8
                replace hS := hS.gb hs8
                replace hSo := hSo.gb hs8
                replace hlo9 := Nat.le_trans hlo9 hs8.size
                replace ho2 := own_gb ho2 hs8
                replace ha1 := At.gb ha1 hs8 (by simp)
                replace ha2 := At.gb ha2 hs8 (by simp)
                replace ha7 := At.gb ha7 hs8 (by simp)
                replace ha8 := At.gb ha8 hs8 (by simp)
                replace ha9 := At.gb ha9 hs8 (by simp)
                refine T_append (xs := acc) (ys := [(⟨((lastOf (l.take k))[q]).kind, ((lastOf (l.take k))[q]).key, ((lastOf (l.take k))[q]).val⟩ : Opd)]) EncOp slc22 rfl rfl ho2 (Blk.sli (m := 0) hb3) (by simp; omega) hlo9 rfl ?_
                intro A_3 c_3 w11 ho3 hs9 hat3
                replace hB := gb_tro hB ho2 hs9 hgeB
                replace hS := hS.grown hs9 (fun k hk => .inr (Nat.le_trans hgeB (World.ownsRow.lt ho2 k hk).1))
                replace hSo := hSo.grown hs9 (fun k hk => .inr (World.ownsRow.lt ho2 k hk).1)
                replace hlo9 := Nat.le_trans hlo9 hs9.size
                refine L_run (R_assign rfl) rfl ?_
                refine L_nil (N_in (N_then (C_reg ?_)))
                refine L_run (R_move rfl) rfl ?_
                refine L_run (R_add64 rfl rfl (by omega)) rfl ?_
                refine L_run (R_assign rfl) rfl ?_
                refine L_nil (N_then ?_)
                have hst : (acc ++ ([(⟨((lastOf (l.take k))[q]).kind, ((lastOf (l.take k))[q]).key, ((lastOf (l.take k))[q]).val⟩ : Opd)])) ++ rlx l[k] b ((lastOf (l.take k)).drop (q + 1)) = rlx l[k] false (lastOf (l.take k)) := by rw [← hri, rlx_drop (show q < (lastOf (l.take k)).length by omega)]; simp_all
                exact ⟨(lastOf (l.take k)).length - (q + 1), by omega, _, A_3, c_3, (q + 1), b, (acc ++ ([(⟨((lastOf (l.take k))[q]).kind, ((lastOf (l.take k))[q]).key, ((lastOf (l.take k))[q]).val⟩ : Opd)])), Ac_frg ⟨rfl, rfl, rfl, rfl, rfl, rfl, (agr rfl (by first | rfl | (congr 1; omega) | (congr 1; simp; done) | (congr 1; simp only [IntKind.wrap_u64, IntKind.wrap_i64, IntKind.wrap_u8]; omega) | (congr 1 <;> omega))), trivial⟩, hB, hS, hSo, hlo9, ho3, (by omega), hst, (by first | (simp only [List.length_append, List.length_singleton] at *; omega) | omega), rfl⟩
              · refine C_skip (N_in (N_then (C_reg ?_)))
                refine L_run (R_move rfl) rfl ?_
                refine L_run (R_add64 rfl rfl (by omega)) rfl ?_
                refine L_run (R_assign rfl) rfl ?_
                refine L_nil (N_then ?_)
                have hst : (acc) ++ rlx l[k] b ((lastOf (l.take k)).drop (q + 1)) = rlx l[k] false (lastOf (l.take k)) := by rw [← hri, rlx_drop (show q < (lastOf (l.take k)).length by omega)]; simp_all
                exact ⟨(lastOf (l.take k)).length - (q + 1), by omega, _, A2, c2, (q + 1), b, (acc), Ac_frg ⟨rfl, rfl, rfl, rfl, (agr rfl (by first | rfl | (congr 1; omega) | (congr 1; simp; done) | (congr 1; simp only [IntKind.wrap_u64, IntKind.wrap_i64, IntKind.wrap_u8]; omega) | (congr 1 <;> omega))), rfl, (agr rfl (by first | rfl | (congr 1; omega) | (congr 1; simp; done) | (congr 1; simp only [IntKind.wrap_u64, IntKind.wrap_i64, IntKind.wrap_u8]; omega) | (congr 1 <;> omega))), trivial⟩, hB, hS, hSo, hlo9, ho2, (by omega), hst, (by first | (simp only [List.length_append, List.length_singleton] at *; omega) | omega), rfl⟩
          · refine T_takeA (i := 3) rfl rfl (by kernel_rfl) (by kernel_rfl) (by kernel_rfl) (Y_no rfl rfl rfl (Bool.eq_false_iff.2 h3)) ⟨ha1, ha2, trivial⟩ rfl ?_
            refine T_takeA (i := 4) rfl rfl (by kernel_rfl) (by kernel_rfl) (by kernel_rfl) (Y_no rfl rfl rfl (Bool.eq_false_iff.2 h3)) ⟨ha1, ha2, trivial⟩ rfl ?_
            refine T_takeA (i := 5) rfl rfl (by kernel_rfl) (by kernel_rfl) (by kernel_rfl) (Y_no rfl rfl rfl (Bool.eq_false_iff.2 h3)) ⟨ha1, ha2, trivial⟩ rfl ?_
            refine T_takeA (i := 6) rfl rfl (by kernel_rfl) (by kernel_rfl) (by kernel_rfl) (Y_no rfl rfl rfl (Bool.eq_false_iff.2 h3)) ⟨ha1, ha2, trivial⟩ rfl ?_
            refine T_takeA (i := 7) rfl rfl (by kernel_rfl) (by kernel_rfl) (by kernel_rfl) (Y_no rfl rfl rfl (Bool.eq_false_iff.2 h3)) ⟨ha1, ha2, trivial⟩ rfl ?_
            refine T_takeA (i := 8) rfl rfl (by kernel_rfl) (by kernel_rfl) (by kernel_rfl) (Y_no rfl rfl rfl (Bool.eq_false_iff.2 h3)) ⟨ha1, ha2, trivial⟩ rfl ?_
            refine T_takeA (i := 9) rfl rfl (by kernel_rfl) (by kernel_rfl) (by kernel_rfl) (Y_no rfl rfl rfl (Bool.eq_false_iff.2 h3)) ⟨ha1, ha2, trivial⟩ rfl ?_
            refine T_takeA (i := 10) rfl rfl (by kernel_rfl) (by kernel_rfl) (by kernel_rfl) (Y_no rfl rfl rfl (Bool.eq_false_iff.2 h3)) ⟨ha1, ha2, trivial⟩ rfl ?_
            refine T_takeA (i := 11) rfl rfl (by kernel_rfl) (by kernel_rfl) (by kernel_rfl) (Y_no rfl rfl rfl (Bool.eq_false_iff.2 h3)) ⟨ha1, ha2, trivial⟩ rfl ?_
            refine T_takeA (i := 12) rfl rfl (by kernel_rfl) (by kernel_rfl) (by kernel_rfl) (Y_no rfl rfl rfl (Bool.eq_false_iff.2 h3)) ⟨ha1, ha2, trivial⟩ rfl ?_
            refine T_takeA (i := 13) rfl rfl (by kernel_rfl) (by kernel_rfl) (by kernel_rfl) (Y_no rfl rfl rfl (Bool.eq_false_iff.2 h3)) ⟨ha1, ha2, trivial⟩ rfl ?_
            refine T_takeA (i := 14) rfl rfl (by kernel_rfl) (by kernel_rfl) (by kernel_rfl) (Y_of (fun _ ⟨ha1, ha2, _⟩ => R_pickF rfl (Bool.eq_false_iff.2 h3) rfl)) ⟨ha1, ha2, trivial⟩ rfl ?_
            refine T_done (by kernel_rfl) (NoPanic.normal ?_)
            refine N_then (C_condF rfl rfl (C_skip (N_then (C_seq ?_))))
            refine C_draw2 mix ?_
            intro w12 hs10 hz7
            replace hB := gb_tr hB hs10
            replace hS := hS.gb hs10
            replace hSo := hSo.gb hs10
            replace hlo9 := Nat.le_trans hlo9 hs10.size
            replace ho2 := own_gb ho2 hs10
            replace ha1 := At.gb ha1 hs10 (by simp)
            replace ha2 := At.gb ha2 hs10 (by simp)
            have hl10 : q < (lastOf (l.take k)).length := by first | omega | (simp; omega)
            obtain ⟨g13, o10, r7, eA7, er7, ha10⟩ := Sli.place' (xs := lastOf (l.take k)) (i := q) EncOp hSo hl10 rfl
            have hl11 : k < l.length := by first | omega | (simp; omega)
            obtain ⟨g14, o11, r8, eA8, er8, ha11⟩ := Sli.place' (xs := l) (i := k) EncOp hS hl11 rfl
            refine ⟨fun W_ => At W_ g13 r7 [.int .i64 (((lastOf (l.take k))[q]).kind), .string (((lastOf (l.take k))[q]).key), .string (((lastOf (l.take k))[q]).val)] ∧ At W_ g14 r8 [.int .i64 ((l[k]).kind), .string ((l[k]).key), .string ((l[k]).val)] ∧ True, [0, 1, 2, 3, 4, 5, 6, 7, 8, 9, 10], ?_⟩
            refine T_takeA (i := 0) rfl rfl (by kernel_rfl) (by kernel_rfl) (by kernel_rfl) (Y_of (fun _ ⟨ha10, ha11, _⟩ => R_move rfl)) ⟨ha10, ha11, trivial⟩ rfl ?_
            refine T_takeA (i := 1) rfl rfl (by kernel_rfl) (by kernel_rfl) (by kernel_rfl) (Y_of (fun _ ⟨ha10, ha11, _⟩ => R_move rfl)) ⟨ha10, ha11, trivial⟩ rfl ?_
            refine T_takeA (i := 2) rfl rfl (by kernel_rfl) (by kernel_rfl) (by kernel_rfl) (Y_of (fun _ ⟨ha10, ha11, _⟩ => R_indexE rfl rfl (by first | rfl | omega) slc22 hl10 eA7 er7)) ⟨ha10, ha11, trivial⟩ rfl ?_
            refine T_takeA (i := 3) rfl rfl (by kernel_rfl) (by kernel_rfl) (by kernel_rfl) (Y_of (fun _ ⟨ha10, ha11, _⟩ => R_field rfl fld128_1 rfl)) ⟨ha10, ha11, trivial⟩ rfl ?_
            refine T_takeA (i := 4) rfl rfl (by kernel_rfl) (by kernel_rfl) (by kernel_rfl) (Y_of (fun _ ⟨ha10, ha11, _⟩ => R_load1 rfl scl9 (ha10 1 _ rfl))) ⟨ha10, ha11, trivial⟩ rfl ?_
            refine T_takeA (i := 5) rfl rfl (by kernel_rfl) (by kernel_rfl) (by kernel_rfl) (Y_of (fun _ ⟨ha10, ha11, _⟩ => R_move rfl)) ⟨ha10, ha11, trivial⟩ rfl ?_
            refine T_takeA (i := 6) rfl rfl (by kernel_rfl) (by kernel_rfl) (by kernel_rfl) (Y_of (fun _ ⟨ha10, ha11, _⟩ => R_move rfl)) ⟨ha10, ha11, trivial⟩ rfl ?_
            refine T_takeA (i := 7) rfl rfl (by kernel_rfl) (by kernel_rfl) (by kernel_rfl) (Y_of (fun _ ⟨ha10, ha11, _⟩ => R_indexE rfl rfl (by first | rfl | omega) slc22 hl11 eA8 er8)) ⟨ha10, ha11, trivial⟩ rfl ?_
            refine T_takeA (i := 8) rfl rfl (by kernel_rfl) (by kernel_rfl) (by kernel_rfl) (Y_of (fun _ ⟨ha10, ha11, _⟩ => R_field rfl fld128_1 rfl)) ⟨ha10, ha11, trivial⟩ rfl ?_
            refine T_takeA (i := 9) rfl rfl (by kernel_rfl) (by kernel_rfl) (by kernel_rfl) (Y_of (fun _ ⟨ha10, ha11, _⟩ => R_load1 rfl scl9 (ha11 1 _ rfl))) ⟨ha10, ha11, trivial⟩ rfl ?_
            refine T_takeA (i := 10) rfl rfl (by kernel_rfl) (by kernel_rfl) (by kernel_rfl) (Y_of (fun _ ⟨ha10, ha11, _⟩ => R_neqS rfl rfl)) ⟨ha10, ha11, trivial⟩ rfl ?_
            refine T_done (by kernel_rfl) (NoPanic.normal ?_)
            refine N_then ?_
            refine C_if rfl (fun h7 => ?_) (fun h7 => ?_)
            · refine C_reg ?_
              refine L_run (R_move rfl) rfl ?_
              refine L_run (R_move rfl) rfl ?_
              refine L_run (R_move rfl) rfl ?_
              have hl12 : q < (lastOf (l.take k)).length := by first | omega | (simp; omega)
              refine T_index (xs := lastOf (l.take k)) (i := q) EncOp rfl rfl (by first | rfl | omega) slc22 hl12 hSo rfl ?_
              intro g15 o12 ha12
              refine L_run (R_loadA (vs := [.int .i64 (((lastOf (l.take k))[q]).kind), .string (((lastOf (l.take k))[q]).key), .string (((lastOf (l.take k))[q]).val)]) rfl agg128 (At.pre ha12 rfl) rfl) rfl ?_
              refine L_buildSlice (pv := [(0, .agg #[.int .i64 (((lastOf (l.take k))[q]).kind), .string (((lastOf (l.take k))[q]).key), .string (((lastOf (l.take k))[q]).val)])]) (cs := [.int .i64 (((lastOf (l.take k))[q]).kind), .string (((lastOf (l.take k))[q]).key), .string (((lastOf (l.take k))[q]).val)]) slc22 zer128 rfl rfl (by kernel_rfl) rfl ?_
              intro g16 w13 eg4 hb4 hs11 hz8
              have ge4 : w.heap.size ≤ g16 := eg_ge hB eg4
              have hap4 : ∀ k_, (Value.slice A2 acc.length c2).ownBlock = some k_ → k_ ≠ g16 := fun k_ hk => by have h_ := (World.ownsRow.lt ho2 k_ hk).2; omega
              replace hB := gb_tr hB hs11
              replace hS := hS.gb hs11
              replace hSo := hSo.gb hs11
              replace hlo9 := Nat.le_trans hlo9 hs11.size
              replace ho2 := own_gb ho2 hs11
              replace ha1 := At.gb ha1 hs11 (by simp)
              replace ha2 := At.gb ha2 hs11 (by simp)
              replace ha10 := At.gb ha10 hs11 (by simp)
              replace ha11 := At.gb ha11 hs11 (by simp)
              replace ha12 := At.gb ha12 hs11 (by simp)
              refine T_append (xs := acc) (ys := [(⟨((lastOf (l.take k))[q]).kind, ((lastOf (l.take k))[q]).key, ((lastOf (l.take k))[q]).val⟩ : Opd)]) EncOp slc22 rfl rfl ho2 (Blk.sli (m := 0) hb4) (by simp; omega) hlo9 rfl ?_
              intro A_4 c_4 w14 ho4 hs12 hat4
              replace hB := gb_tro hB ho2 hs12 hgeB
              replace hS := hS.grown hs12 (fun k hk => .inr (Nat.le_trans hgeB (World.ownsRow.lt ho2 k hk).1))
              replace hSo := hSo.grown hs12 (fun k hk => .inr (World.ownsRow.lt ho2 k hk).1)
              replace hlo9 := Nat.le_trans hlo9 hs12.size
              refine L_run (R_assign rfl) rfl ?_
              refine L_nil (N_in (N_then (C_reg ?_)))
              refine L_run (R_move rfl) rfl ?_
              refine L_run (R_add64 rfl rfl (by omega)) rfl ?_
              refine L_run (R_assign rfl) rfl ?_
              refine L_nil (N_then ?_)
              have hst : (acc ++ ([(⟨((lastOf (l.take k))[q]).kind, ((lastOf (l.take k))[q]).key, ((lastOf (l.take k))[q]).val⟩ : Opd)])) ++ rlx l[k] b ((lastOf (l.take k)).drop (q + 1)) = rlx l[k] false (lastOf (l.take k)) := by rw [← hri, rlx_drop (show q < (lastOf (l.take k)).length by omega)]; simp_all
              exact ⟨(lastOf (l.take k)).length - (q + 1), by omega, _, A_4, c_4, (q + 1), b, (acc ++ ([(⟨((lastOf (l.take k))[q]).kind, ((lastOf (l.take k))[q]).key, ((lastOf (l.take k))[q]).val⟩ : Opd)])), Ac_frg ⟨rfl, rfl, rfl, rfl, rfl, rfl, (agr rfl (by first | rfl | (congr 1; omega) | (congr 1; simp; done) | (congr 1; simp only [IntKind.wrap_u64, IntKind.wrap_i64, IntKind.wrap_u8]; omega) | (congr 1 <;> omega))), trivial⟩, hB, hS, hSo, hlo9, ho4, (by omega), hst, (by first | (simp only [List.length_append, List.length_singleton] at *; omega) | omega), rfl⟩
            · refine C_skip (N_in (N_then (C_reg ?_)))
              refine L_run (R_move rfl) rfl ?_
              refine L_run (R_add64 rfl rfl (by omega)) rfl ?_
              refine L_run (R_assign rfl) rfl ?_
              refine L_nil (N_then ?_)
              have hst : (acc) ++ rlx l[k] b ((lastOf (l.take k)).drop (q + 1)) = rlx l[k] false (lastOf (l.take k)) := by rw [← hri, rlx_drop (show q < (lastOf (l.take k)).length by omega)]; simp_all
              exact ⟨(lastOf (l.take k)).length - (q + 1), by omega, _, A2, c2, (q + 1), b, (acc), Ac_frg ⟨rfl, rfl, rfl, rfl, (agr rfl (by first | rfl | (congr 1; omega) | (congr 1; simp; done) | (congr 1; simp only [IntKind.wrap_u64, IntKind.wrap_i64, IntKind.wrap_u8]; omega) | (congr 1 <;> omega))), rfl, (agr rfl (by first | rfl | (congr 1; omega) | (congr 1; simp; done) | (congr 1; simp only [IntKind.wrap_u64, IntKind.wrap_i64, IntKind.wrap_u8]; omega) | (congr 1 <;> omega))), trivial⟩, hB, hS, hSo, hlo9, ho2, (by omega), hst, (by first | (simp only [List.length_append, List.length_singleton] at *; omega) | omega), rfl⟩
        · refine C_exit (X_then (X_then (X_hit (N_then (C_seq (C_seq (C_reg ?_)))))))
          refine L_run (R_move rfl) rfl ?_
          refine L_run (R_not rfl) rfl ?_
          refine L_nil (N_then ?_)
          refine C_cond rfl (fun h8 => ?_) (fun h8 => ?_)
          · refine C_reg ?_
            refine L_run (R_move rfl) rfl ?_
            refine L_run (R_move rfl) rfl ?_
            refine L_run (R_move rfl) rfl ?_
            have hl13 : k < l.length := by first | omega | (simp; omega)
            refine T_index (xs := l) (i := k) EncOp rfl rfl (by first | rfl | omega) slc22 hl13 hS rfl ?_
            intro g17 o13 ha13
            refine L_run (R_loadA (vs := [.int .i64 ((l[k]).kind), .string ((l[k]).key), .string ((l[k]).val)]) rfl agg128 (At.pre ha13 rfl) rfl) rfl ?_
            refine L_buildSlice (pv := [(0, .agg #[.int .i64 ((l[k]).kind), .string ((l[k]).key), .string ((l[k]).val)])]) (cs := [.int .i64 ((l[k]).kind), .string ((l[k]).key), .string ((l[k]).val)]) slc22 zer128 rfl rfl (by kernel_rfl) rfl ?_
            intro g18 w15 eg5 hb5 hs13 hz9
            have ge5 : w.heap.size ≤ g18 := eg_ge hB eg5
            have hap5 : ∀ k_, (Value.slice A2 acc.length c2).ownBlock = some k_ → k_ ≠ g18 := fun k_ hk => by have h_ := (World.ownsRow.lt ho2 k_ hk).2; omega
            replace hB := gb_tr hB hs13
            replace hS := hS.gb hs13
            replace hSo := hSo.gb hs13
            replace hlo9 := Nat.le_trans hlo9 hs13.size
            replace ho2 := own_gb ho2 hs13
            replace ha13 := At.gb ha13 hs13 (by simp)
            refine T_append (xs := acc) (ys := [(⟨(l[k]).kind, (l[k]).key, (l[k]).val⟩ : Opd)]) EncOp slc22 rfl rfl ho2 (Blk.sli (m := 0) hb5) (by simp; omega) hlo9 rfl ?_
            intro A_5 c_5 w16 ho5 hs14 hat5
            replace hB := gb_tro hB ho2 hs14 hgeB
            replace hS := hS.grown hs14 (fun k hk => .inr (Nat.le_trans hgeB (World.ownsRow.lt ho2 k hk).1))
            replace hSo := hSo.grown hs14 (fun k hk => .inr (World.ownsRow.lt ho2 k hk).1)
            replace hlo9 := Nat.le_trans hlo9 hs14.size
            refine L_run (R_assign rfl) rfl ?_
            refine L_nil (N_then (C_reg ?_))
            refine L_run (R_move rfl) rfl ?_
            refine L_run (R_assign rfl) rfl ?_
            refine L_nil (N_in (N_then (C_reg ?_)))
            refine L_run (R_move rfl) rfl ?_
            refine L_run (R_add64 rfl rfl (by omega)) rfl ?_
            refine L_run (R_assign rfl) rfl ?_
            refine L_nil (N_then ?_)
            have e_ : acc ++ ([(⟨(l[k]).kind, (l[k]).key, (l[k]).val⟩ : Opd)]) = lastOf (l.take (k + 1)) := by
              rw [lastOf_take (show k < l.length by omega), ← rlx_ins (lastOf_rise _ _ rfl), ← hri, List.drop_of_length_le (by omega)]
              simp_all [rlx]
            rw [e_] at ho5 ⊢
            exact ⟨l.length - (k + 1), by omega, _, A_5, c_5, (k + 1), Ac_frg ⟨rfl, rfl, rfl, (agr rfl (by first | rfl | (congr 1; omega) | (congr 1; simp; done) | (congr 1; simp only [IntKind.wrap_u64, IntKind.wrap_i64, IntKind.wrap_u8]; omega) | (congr 1 <;> omega))), trivial⟩, hB, hS, (own_lo ho5 hgeB), (by omega), (by have h_ := lastOf_len (l.take (k + 1)); rw [List.length_take] at h_; omega), rfl⟩
          · refine C_skip (N_then (C_reg ?_))
            refine L_run (R_move rfl) rfl ?_
            refine L_run (R_assign rfl) rfl ?_
            refine L_nil (N_in (N_then (C_reg ?_)))
            refine L_run (R_move rfl) rfl ?_
            refine L_run (R_add64 rfl rfl (by omega)) rfl ?_
            refine L_run (R_assign rfl) rfl ?_
            refine L_nil (N_then ?_)
            have e_ : acc = lastOf (l.take (k + 1)) := by
              rw [lastOf_take (show k < l.length by omega), ← rlx_ins (lastOf_rise _ _ rfl), ← hri, List.drop_of_length_le (by omega)]
              simp_all [rlx]
            rw [e_] at ho2 ⊢
            exact ⟨l.length - (k + 1), by omega, _, A2, c2, (k + 1), Ac_frg ⟨rfl, rfl, rfl, (agr rfl (by first | rfl | (congr 1; omega) | (congr 1; simp; done) | (congr 1; simp only [IntKind.wrap_u64, IntKind.wrap_i64, IntKind.wrap_u8]; omega) | (congr 1 <;> omega))), trivial⟩, hB, hS, (own_lo ho2 hgeB), (by omega), (by have h_ := lastOf_len (l.take (k + 1)); rw [List.length_take] at h_; omega), rfl⟩
    · refine C_exit (X_then (X_then (X_hit (N_then (C_seq (C_reg ?_))))))
      refine L_run (R_move rfl) rfl ?_
      refine L_run (R_assign rfl) rfl ?_
      refine L_nil (N_then (C_ret ?_))
      refine ret1 Try.results15 rfl ?_
      have e_ : l.take k = l := List.take_of_length_le (by omega)
      rw [e_] at ho ⊢; exact ⟨hB, _, _, rfl, (own_lo ho (Nat.le_refl _))⟩

end Go.Proofs.Ytoobcebmkfbdfaa
