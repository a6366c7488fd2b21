/-
  Contracts of the reference of images: all records laid, as sectors.
-/
import Derived.Test.YtbpjdcpfphnccaaDoorTg
namespace Go.Proofs.YtbpjdcpfphnccaaDoor
open Go.RowKit Gw Pl
set_option linter.unusedVariables false
set_option linter.unusedSimpArgs false
theorem cb19 : callB Tryd.prog 19 = true := by kernel_rfl
theorem cb30 : callB Tryd.prog 30 = true := by kernel_rfl
theorem cb31 : callB Tryd.prog 31 = true := by kernel_rfl
theorem cb43 : callB Tryd.prog 43 = true := by kernel_rfl
theorem cb44 : callB Tryd.prog 44 = true := by kernel_rfl
theorem cb56 : callB Tryd.prog 56 = true := by kernel_rfl
theorem slc27 : slcB Tryd.prog 27 3 1 8 = true := by kernel_rfl
theorem slc34 : slcB Tryd.prog 34 62 64 64 = true := by kernel_rfl
theorem slc50 : slcB Tryd.prog 50 46 1 24 = true := by kernel_rfl
theorem zer3 : (Tryd.prog.info? 3).bind (·.zero) = some (.int .i64 0) := by kernel_rfl
theorem lay17_ok {w : World} {t1 lo hi : Nat} {A : Option Addr} {c e : Nat} {ls : List Bys} (hS : Sli t1 lo hi w A (fl encY ls)) (hD : DeepY 5 w ls) (hl : ls.length ≤ 1000000) (hds : ∀ y ∈ ls, y.xs.length ≤ 1000000 ∧ y.xs.length ≤ y.c) :
    Runs Tryd.prog 19 #[.int .u64 (e : Int), .slice A ls.length c] w (fun v w' => w.grownBy w' none ∧ ∃ A1 c1 A2 c2, v = .tuple #[.slice A1 (lB (layT e (xsOf ls))).length c1, .slice A2 (lP (layT e (xsOf ls))).length c2, .int .i64 ((lE (layT e (xsOf ls)) : Nat) : Int), .bool ((layT e (xsOf ls))).isSome] ∧ World.ownsRow w' w.heap.size 5 1 (.slice A1 (lB (layT e (xsOf ls))).length c1) (lB (layT e (xsOf ls))).length (fl encB (lB (layT e (xsOf ls)))) ∧ World.ownsRow w' w.heap.size 3 1 (.slice A2 (lP (layT e (xsOf ls))).length c2) (lP (layT e (xsOf ls))).length (fl encZ (lP (layT e (xsOf ls))))) := by
  have hB := gb_refl w none
  replace hS := hS.top
  refine enter Tryd.func19 Tryd.ntmps19 rfl rfl ?_
  refine C_seq (C_reg rfl ?_)
  refine L_run (R_assign rfl) rfl ?_
  refine L_run (R_assign rfl) rfl ?_
  refine L_run (R_assign rfl) rfl ?_
  refine L_run (R_assign rfl) rfl ?_
  refine L_nil (N_then (C_seq (C_reg rfl ?_)))
  refine L_make (enc := encB) (m := 832) (x0 := (0 : UInt8)) slc46 zer5 rfl rfl rfl EncB (by omega) (by omega) rfl ?_
  intro g1 w1 eg1 hb1 hs1 hz1
  have ge1 : w.heap.size ≤ g1 := eg_ge hB eg1
  replace hB := gb_tr hB hs1
  replace hS := hS.gb hs1
  replace hD := hD.gb hs1
  refine L_run (R_assign rfl) rfl ?_
  refine L_nil (N_then (C_seq (C_reg rfl ?_)))
  refine L_run (R_assign rfl) rfl ?_
  refine L_nil (N_then (C_seq (C_reg rfl ?_)))
  refine L_run (R_assign rfl) rfl ?_
  refine L_nil (N_then (C_seq (C_reg rfl ?_)))
  refine L_run (R_assign rfl) rfl ?_
  refine L_nil (N_then (C_seq (C_seq (C_reg rfl ?_))))
  refine L_run (R_assign rfl) rfl ?_
  refine L_nil (N_then (C_block ?_))
  refine C_loop (fun m_ a_ w_ => ∃ (σ_ : Nat → Value) (i : Nat) (b : List UInt8) (Aj : Option Addr) (cj : Nat) (P : List Int) (Ap : Option Addr) (cp : Nat) (en : Nat), a_ = Ac 42 σ_ [] [(0, .int .u64 (e : Int)), (1, .slice A ls.length c), (4, .slice none 0 0), (5, .slice none 0 0), (6, .int .i64 0), (7, .bool false), (8, .slice Aj b.length cj), (9, .slice Ap P.length cp), (10, .int .i64 (en : Int)), (12, .int .i64 (i : Int))] ∧ w.grownBy w_ none ∧ Sli t1 lo w.heap.size w_ A (fl encY ls) ∧ DeepY 5 w_ ls ∧ World.ownsRow w_ w.heap.size 5 1 (.slice Aj b.length cj) b.length (fl encB b) ∧ World.ownsRow w_ w.heap.size 3 1 (.slice Ap P.length cp) P.length (fl encZ P) ∧ (i ≤ ls.length) ∧ (b.length = 832) ∧ (en ≤ 832) ∧ (P.length ≤ 1000 + i) ∧ (layN e (xsOf (ls.drop i)) b P en = (layT e (xsOf ls))) ∧ ls.length - i = m_) (ls.length - 0) ?_ ?_
  · exact ⟨_, 0, (List.replicate 832 0), (some ⟨g1, 0, none⟩), 832, [], none, 0, 0, Ac_frg ⟨rfl, rfl, rfl, rfl, rfl, rfl, (agr rfl (by rw [List.length_replicate])), (agr rfl (by first | rfl | (congr 1; omega) | (congr 1; simp; done) | (congr 1; simp only [IntKind.wrap_u64, IntKind.wrap_i64, IntKind.wrap_u8]; omega) | (congr 1 <;> omega))), (agr rfl (by first | rfl | (congr 1; omega) | (congr 1; simp; done) | (congr 1; simp only [IntKind.wrap_u64, IntKind.wrap_i64, IntKind.wrap_u8]; omega) | (congr 1 <;> omega))), (agr rfl (by first | rfl | (congr 1; omega) | (congr 1; simp; done) | (congr 1; simp only [IntKind.wrap_u64, IntKind.wrap_i64, IntKind.wrap_u8]; omega) | (congr 1 <;> omega))), trivial⟩, hB, hS, hD, (by have h_ := Blk.own (sz := 1) (m := 832) hb1 (by decide) (by rw [fl_len EncB, List.length_replicate]) ge1; rw [List.length_replicate]; exact h_), (own_nil _ _ _ _), (by omega), List.length_replicate, (by omega), (by simp), (by rw [List.drop_zero]; rfl), rfl⟩
  · clear hB
    clear hS hD hb1
    rintro m_ a_ w2 ⟨σ_, i, b, Aj, cj, P, Ap, cp, en, rfl, hB, hS, hD, ho, hoP, hi, hbl, hen, hPl, hX, rfl⟩
    refine C_seq (C_seq (C_reg rfl ?_))
    refine L_run (R_move rfl) rfl ?_
    refine L_run (R_move rfl) rfl ?_
    refine L_run (R_lenSl rfl slc50) rfl ?_
    refine L_run (R_lss rfl rfl) rfl ?_
    refine L_nil (N_then ?_)
    refine C_if rfl (fun h1 => ?_) (fun h1 => ?_)
    · refine C_skip (N_then (C_seq (C_block (C_seq (C_reg rfl ?_)))))
      refine L_run (R_move rfl) rfl ?_
      refine L_run (R_move rfl) rfl ?_
      refine L_call rfl cb29 (begin7 (n := en) (by omega)) rfl ?_
      rintro _ w3 ⟨hs2, rfl⟩
      replace hB := gb_tr hB hs2
      replace hS := hS.gb hs2
      replace hD := hD.gb hs2
      replace ho := own_gb ho hs2
      replace hoP := own_gb hoP hs2
      refine L_buildSlice (pv := [(0, .int .i64 ((beginN en : Nat) : Int))]) (cs := [.int .i64 ((beginN en : Nat) : Int)]) slc27 zer3 rfl rfl (by kernel_rfl) rfl ?_
      intro g2 w4 eg2 hb2 hs3 hz2
      have ge2 : w.heap.size ≤ g2 := eg_ge hB eg2
      have hap1 : ∀ k_, (Value.slice Ap P.length cp).ownBlock = some k_ → k_ ≠ g2 := fun k_ hk => by have h_ := (World.ownsRow.lt hoP k_ hk).2; omega
      replace hB := gb_tr hB hs3
      replace hS := hS.gb hs3
      replace hD := hD.gb hs3
      replace ho := own_gb ho hs3
      replace hoP := own_gb hoP hs3
      refine T_append (xs := P) (ys := [((beginN en : Nat) : Int)]) EncZ slc27 rfl rfl hoP (Blk.sli (m := 0) hb2) (by simp only [List.length_append, List.length_cons, List.length_nil]; omega) (by have := hB.size; omega) rfl ?_
      intro A_1 c_1 w5 ho1 hs4 hat1
      replace hB := gb_tro hB hoP hs4 (Nat.le_refl _)
      replace hS := hS.grown hs4 (fun k hk => .inr (Nat.le_trans (Nat.le_refl _) (World.ownsRow.lt hoP k hk).1))
      replace hD := hD.otherO hoP rfl rfl hs4
      replace ho := ho.kept hs4 (own_type_ne' ho hoP rfl)
      refine L_run (R_assign rfl) rfl ?_
      refine L_nil (N_then (C_seq (C_reg rfl ?_)))
      refine L_run (R_move rfl) rfl ?_
      refine L_run (R_move rfl) rfl ?_
      refine L_run (R_move rfl) rfl ?_
      refine L_run (R_move rfl) rfl ?_
      refine L_run (R_move rfl) rfl ?_
      have hl1 : i < ls.length := by first | omega | (simp; omega)
      refine T_index (xs := ls) (i := i) EncY rfl rfl (by first | rfl | omega) slc50 hl1 hS rfl ?_
      intro g3 o1 ha1
      refine L_run (R_load1 rfl scl46 (ha1 0 _ rfl)) rfl ?_
      have ge3 : w.heap.size ≤ w5.heap.size := hB.size
      refine L_call rfl cb30 (add17_ok (e := e) (body := b) (a := en) (data := (ls[i]).xs) (own_of ho).2.2 (hD.get (i := i) (by first | assumption | omega | (simp; omega))) (hds _ (List.getElem_mem (by omega))).1 (hds _ (List.getElem_mem (by omega))).2 hen) rfl ?_
      rintro _ w6 ⟨hs5, A_2, c_2, rfl, ho2⟩
      replace hB := gb_tr hB hs5
      replace hS := hS.gb hs5
      replace hD := hD.gb hs5
      replace ho := own_gb ho hs5
      replace ho1 := own_gb ho1 hs5
      replace ha1 := At.gb ha1 hs5 (by simp)
      have hlo1 : w5.heap.size ≤ w6.heap.size := hs5.size
      refine L_run (R_move rfl) rfl ?_
      refine L_run (R_extract rfl rfl) rfl ?_
      refine L_run (R_extract rfl rfl) rfl ?_
      refine L_run (R_extract rfl rfl) rfl ?_
      refine L_run (R_assign rfl) rfl ?_
      refine L_run (R_assign rfl) rfl ?_
      refine L_run (R_assign rfl) rfl ?_
      refine L_nil (N_then (C_seq (C_reg rfl ?_)))
      refine L_run (R_move rfl) rfl ?_
      refine L_run (R_not rfl) rfl ?_
      refine L_nil (N_then ?_)
      refine C_cond rfl (fun h2 => ?_) (fun h2 => ?_)
      · refine C_seq (C_reg rfl ?_)
        refine L_run (R_assign rfl) rfl ?_
        refine L_run (R_assign rfl) rfl ?_
        refine L_run (R_assign rfl) rfl ?_
        refine L_run (R_assign rfl) rfl ?_
        refine L_nil (N_then (C_ret (R_in (R_then (R_then (R_in (R_then ?_)))))))
        refine rv4 (.inr rfl) Tryd.results19 (rvT rfl) (rvT rfl) (rvT rfl) (rvT rfl) ?_
        have hx_ : (layT e (xsOf ls)) = none := by rw [← hX, map_drop (i := i) (by omega), lay_no (by simpa using h2)]
        rw [hx_]; exact ⟨hB, none, 0, none, 0, rfl, own_nil _ _ _ _, own_nil _ _ _ _⟩
      · refine C_skip (N_in (N_then (C_reg rfl ?_)))
        refine L_run (R_move rfl) rfl ?_
        refine L_run (R_add64 rfl rfl (by omega)) rfl ?_
        refine L_run (R_assign rfl) rfl ?_
        refine L_nil (N_then ?_)
        have hsm : (addN e b en ((ls[i]).xs)).isSome = true := by simpa using h2
        have hok := addN_ok hen hsm
        exact ⟨ls.length - (i + 1), by omega, _, (i + 1), aB (addN e b en ((ls[i]).xs)), A_2, c_2, P ++ ([((beginN en : Nat) : Int)]), A_1, c_1, (cen (addN e b en ((ls[i]).xs))), Ac_frg ⟨rfl, rfl, rfl, rfl, rfl, rfl, rfl, rfl, (agr rfl (by first | rfl | (congr 1; omega) | (congr 1; simp; done) | (congr 1; simp only [IntKind.wrap_u64, IntKind.wrap_i64, IntKind.wrap_u8]; omega) | (congr 1 <;> omega))), (agr rfl (by first | rfl | (congr 1; omega) | (congr 1; simp; done) | (congr 1; simp only [IntKind.wrap_u64, IntKind.wrap_i64, IntKind.wrap_u8]; omega) | (congr 1 <;> omega))), trivial⟩, hB, hS, hD, (own_lo ho2 ge3), (own_lo ho1 (Nat.le_refl _)), (by omega), hok.1, hok.2, (by simp; omega), (by rw [← hX, map_drop (i := i) (by omega), lay_go hsm]), rfl⟩
    · refine C_exit (X_then (X_then (X_hit (N_then (C_seq (C_reg rfl ?_))))))
      refine L_run (R_move rfl) rfl ?_
      refine L_run (R_move rfl) rfl ?_
      refine L_run (R_move rfl) rfl ?_
      refine L_run (R_assign rfl) rfl ?_
      refine L_run (R_assign rfl) rfl ?_
      refine L_run (R_assign rfl) rfl ?_
      refine L_run (R_assign rfl) rfl ?_
      refine L_nil (N_then (C_ret ?_))
      refine rv4 (.inr rfl) Tryd.results19 (rvT rfl) (rvT rfl) (rvT rfl) (rvT rfl) ?_
      have hx_ : (layT e (xsOf ls)) = some (b, P, en) := by rw [← hX, List.drop_of_length_le (by omega)]; rfl
      rw [hx_]; exact ⟨hB, _, _, _, _, rfl, (own_lo ho (Nat.le_refl _)), (own_lo hoP (Nat.le_refl _))⟩

theorem sec16_ok {w : World} {t1 lo hi : Nat} {A : Option Addr} {c e i : Nat} {body : List UInt8} (hS : Sli t1 lo hi w A (fl encB body)) (hbl : body.length = 832) (he : e < 18446744073709551616) (hi16 : i < 16) :
    Runs Tryd.prog 44 #[.int .u64 (e : Int), .slice A body.length c, .int .i64 (i : Int)] w (fun v w' => w.grownBy w' none ∧ v = .agg (fl encB (sealN e i ((body.drop (52 * i)).take 52))).toArray) := by
  have hB := gb_refl w none
  replace hS := hS.top
  refine enter Tryd.func44 Tryd.ntmps44 rfl rfl ?_
  refine C_seq (C_reg rfl ?_)
  refine L_alloc (cs := [.int .u8 0, .int .u8 0, .int .u8 0, .int .u8 0, .int .u8 0, .int .u8 0, .int .u8 0, .int .u8 0, .int .u8 0, .int .u8 0, .int .u8 0, .int .u8 0, .int .u8 0, .int .u8 0, .int .u8 0, .int .u8 0, .int .u8 0, .int .u8 0, .int .u8 0, .int .u8 0, .int .u8 0, .int .u8 0, .int .u8 0, .int .u8 0, .int .u8 0, .int .u8 0, .int .u8 0, .int .u8 0, .int .u8 0, .int .u8 0, .int .u8 0, .int .u8 0, .int .u8 0, .int .u8 0, .int .u8 0, .int .u8 0, .int .u8 0, .int .u8 0, .int .u8 0, .int .u8 0, .int .u8 0, .int .u8 0, .int .u8 0, .int .u8 0, .int .u8 0, .int .u8 0, .int .u8 0, .int .u8 0, .int .u8 0, .int .u8 0, .int .u8 0, .int .u8 0, .int .u8 0, .int .u8 0, .int .u8 0, .int .u8 0, .int .u8 0, .int .u8 0, .int .u8 0, .int .u8 0, .int .u8 0, .int .u8 0, .int .u8 0, .int .u8 0]) zer62 rfl rfl ?_
  intro g1 w1 eg1 hb1 hs1 hz1
  have ge1 : w.heap.size ≤ g1 := eg_ge hB eg1
  replace hB := gb_tr hB hs1
  replace hS := hS.gb hs1
  replace hb1 : Blk w1 g1 62 (fl encB (List.replicate 64 (0 : UInt8))) := hb1
  refine L_nil (N_then (C_seq (C_reg rfl ?_)))
  refine L_run (R_assign rfl) rfl ?_
  refine L_nil (N_then (C_seq (C_seq (C_reg rfl ?_))))
  refine L_run (R_move rfl) rfl ?_
  refine L_run (R_eqv (R_mul64 rfl rfl (by omega)) (v' := .int .i64 ((52 * i : Nat) : Int)) (congrArg _ (by omega))) rfl ?_
  refine L_run (R_assign rfl) rfl ?_
  refine L_nil (N_then (C_block ?_))
  refine C_loop (fun m_ a_ w_ => ∃ (σ_ : Nat → Value) (Aj : Option Addr) (cj : Nat) (q : Nat), a_ = Ac 35 σ_ [] [(0, .int .u64 (e : Int)), (1, .slice A body.length c), (2, .int .i64 (i : Int)), (6, .pointer (some ⟨g1, 0, none⟩)), (7, .slice Aj (((body.drop (52 * i)).take (q - 52 * i)).length) cj), (8, .int .i64 (q : Int))] ∧ w.grownBy w_ none ∧ Sli t1 lo w.heap.size w_ A (fl encB body) ∧ Blk w_ g1 62 (fl encB (List.replicate 64 (0 : UInt8))) ∧ World.ownsRow w_ w.heap.size 5 1 (.slice Aj ((body.drop (52 * i)).take (q - 52 * i)).length cj) ((body.drop (52 * i)).take (q - 52 * i)).length (fl encB ((body.drop (52 * i)).take (q - 52 * i))) ∧ (52 * i ≤ q ∧ q ≤ 52 * i + 52) ∧ 832 - q = m_) (832 - (52 * i)) ?_ ?_
  · exact ⟨_, none, 0, (52 * i), Ac_frg ⟨rfl, rfl, rfl, rfl, (agr rfl (by rw [Nat.sub_self]; rfl)), (agr rfl (by first | rfl | (congr 1; omega) | (congr 1; simp; done) | (congr 1; simp only [IntKind.wrap_u64, IntKind.wrap_i64, IntKind.wrap_u8]; omega) | (congr 1 <;> omega))), trivial⟩, hB, hS, hb1, (by rw [Nat.sub_self]; exact own_nil _ _ _ _), (by omega), rfl⟩
  · clear hB
    clear hS hb1
    rintro m_ a_ w2 ⟨σ_, Aj, cj, q, rfl, hB, hS, hb1, ho, hq, rfl⟩
    refine C_seq (C_seq (C_reg rfl ?_))
    refine L_run (R_move rfl) rfl ?_
    refine L_run (R_move rfl) rfl ?_
    refine L_run (R_mul64 rfl rfl (by omega)) rfl ?_
    refine L_run (R_add64 rfl rfl (by omega)) rfl ?_
    refine L_run (R_lss rfl rfl) rfl ?_
    refine L_run (R_move rfl) rfl ?_
    refine L_splitD (p := (q : Int) < ((52 * (i : Int)) + 52)) (fun h1 => ?_) (fun h1 => ?_)
    · refine L_yes rfl rfl rfl (decide_eq_true h1) ?_
      refine L_run (R_move rfl) rfl ?_
      refine L_yes rfl rfl rfl (decide_eq_true h1) ?_
      refine L_run (R_move rfl) rfl ?_
      refine L_yes rfl rfl rfl (decide_eq_true h1) ?_
      refine L_run (R_lenSl rfl slc46) rfl ?_
      refine L_yes rfl rfl rfl (decide_eq_true h1) ?_
      refine L_run (R_lss rfl rfl) rfl ?_
      refine L_run (R_pickT rfl (decide_eq_true h1) rfl) rfl ?_
      refine L_nil (N_then ?_)
      refine C_if rfl (fun h2 => ?_) (fun h2 => ?_)
      · refine C_skip (N_then (C_seq (C_block (C_reg rfl ?_))))
        refine L_run (R_move rfl) rfl ?_
        refine L_run (R_move rfl) rfl ?_
        refine L_run (R_move rfl) rfl ?_
        have hl1 : q < body.length := by first | omega | (simp; omega)
        refine T_index (xs := body) (i := q) EncB rfl rfl (by first | rfl | omega) slc46 hl1 hS rfl ?_
        intro g2 o1 ha1
        refine L_run (R_load1 rfl scl5 (ha1 0 _ rfl)) rfl ?_
        refine L_buildSlice (pv := [(0, .int .u8 ((body[q]).toNat : Int))]) (cs := [.int .u8 ((body[q]).toNat : Int)]) slc46 zer5 rfl rfl (by kernel_rfl) rfl ?_
        intro g3 w3 eg2 hb2 hs2 hz2
        have ge2 : w.heap.size ≤ g3 := eg_ge hB eg2
        have lt1 : g1 < g3 := lt_of_eg hb1.lt eg2
        have hap1 : ∀ k_, (Value.slice Aj ((body.drop (52 * i)).take (q - 52 * i)).length cj).ownBlock = some k_ → k_ ≠ g3 := fun k_ hk => by have h_ := (World.ownsRow.lt ho k_ hk).2; omega
        replace hB := gb_tr hB hs2
        replace hS := hS.gb hs2
        replace hb1 := hb1.gb hs2
        replace ho := own_gb ho hs2
        replace ha1 := At.gb ha1 hs2 (by simp)
        refine T_append (xs := (body.drop (52 * i)).take (q - 52 * i)) (ys := [(body[q])]) EncB slc46 rfl rfl ho (Blk.sli (m := 0) hb2) (by simp only [List.length_append, List.length_take, List.length_drop, List.length_cons, List.length_nil]; omega) (by have := hB.size; omega) rfl ?_
        intro A_1 c_1 w4 ho1 hs3 hat1
        replace hB := gb_tro hB ho hs3 (Nat.le_refl _)
        replace hS := hS.grown hs3 (fun k hk => .inr (Nat.le_trans (Nat.le_refl _) (World.ownsRow.lt ho k hk).1))
        replace hb1 := blk_own hb1 ho rfl hs3
        refine L_run (R_assign rfl) rfl ?_
        refine L_nil (N_in (N_then (C_reg rfl ?_)))
        refine L_run (R_move rfl) rfl ?_
        refine L_run (R_add64 rfl rfl (by omega)) rfl ?_
        refine L_run (R_assign rfl) rfl ?_
        refine L_nil (N_then ?_)
        have et_ := room_go (b := body) (o := 52 * i) (k := q) (by omega) (by omega)
        exact ⟨832 - (q + 1), by omega, _, A_1, c_1, (q + 1), Ac_frg ⟨rfl, rfl, rfl, rfl, (agr rfl (by rw [← et_])), (agr rfl (by first | rfl | (congr 1; omega) | (congr 1; simp; done) | (congr 1; simp only [IntKind.wrap_u64, IntKind.wrap_i64, IntKind.wrap_u8]; omega) | (congr 1 <;> omega))), trivial⟩, hB, hS, hb1, (by rw [← et_]; exact (own_lo ho1 (Nat.le_refl _))), (by omega), rfl⟩
      · refine C_exit (X_then (X_then (X_hit (N_then (C_seq (C_reg rfl ?_))))))
        refine L_run (R_move rfl) rfl ?_
        refine L_run (R_move rfl) rfl ?_
        refine L_run (R_move rfl) rfl ?_
        refine L_call rfl cb56 (seal6 (e := e) (i := i) (own_of ho).2.2 (by rw [List.length_take, List.length_drop]; omega) he (by omega)) rfl ?_
        rintro _ w5 ⟨hs4, rfl⟩
        replace hB := gb_tr hB hs4
        replace hS := hS.gb hs4
        replace hb1 := hb1.gb hs4
        replace ho := own_gb ho hs4
        refine L_stA (vs := fl encB (sealN e i ((body.drop (52 * i)).take (q - 52 * i)))) rfl rfl (flB_one _) sz62 (flB_lenE (sealN_len (by rw [List.length_take, List.length_drop]; omega))) hb1 (flB_lenE List.length_replicate) ?_
        intro w6 hb3 hs5 hz3
        replace hB := gb_trg hB hs5 ge1
        replace hS := hS.old hs5 ge1
        replace ho := own_other ho hb1 rfl hs5
        refine L_nil (N_then (C_ret ?_))
        refine retC (vs := fl encB (sealN e i ((body.drop (52 * i)).take (q - 52 * i)))) Tryd.results44 rfl agg62 (hb3.at_ 0) (flB_lenE (sealN_len (by rw [List.length_take, List.length_drop]; omega))) ?_
        obtain rfl : q = 52 * i + 52 := by omega
        rw [show 52 * i + 52 - 52 * i = 52 by omega] at *
        exact ⟨hB, rfl⟩
    · refine L_no rfl rfl rfl (decide_eq_false h1) rfl ?_
      refine L_no rfl rfl rfl (decide_eq_false h1) rfl ?_
      refine L_no rfl rfl rfl (decide_eq_false h1) rfl ?_
      refine L_no rfl rfl rfl (decide_eq_false h1) rfl ?_
      refine L_run (R_pickF rfl (decide_eq_false h1) rfl) rfl ?_
      refine L_nil (N_then (C_condF rfl rfl (C_exit (X_then (X_then (X_hit (N_then (C_seq (C_reg rfl ?_)))))))))
      refine L_run (R_move rfl) rfl ?_
      refine L_run (R_move rfl) rfl ?_
      refine L_run (R_move rfl) rfl ?_
      refine L_call rfl cb56 (seal6 (e := e) (i := i) (own_of ho).2.2 (by rw [List.length_take, List.length_drop]; omega) he (by omega)) rfl ?_
      rintro _ w7 ⟨hs6, rfl⟩
      replace hB := gb_tr hB hs6
      replace hS := hS.gb hs6
      replace hb1 := hb1.gb hs6
      replace ho := own_gb ho hs6
      refine L_stA (vs := fl encB (sealN e i ((body.drop (52 * i)).take (q - 52 * i)))) rfl rfl (flB_one _) sz62 (flB_lenE (sealN_len (by rw [List.length_take, List.length_drop]; omega))) hb1 (flB_lenE List.length_replicate) ?_
      intro w8 hb4 hs7 hz4
      replace hB := gb_trg hB hs7 ge1
      replace hS := hS.old hs7 ge1
      replace ho := own_other ho hb1 rfl hs7
      refine L_nil (N_then (C_ret ?_))
      refine retC (vs := fl encB (sealN e i ((body.drop (52 * i)).take (q - 52 * i)))) Tryd.results44 rfl agg62 (hb4.at_ 0) (flB_lenE (sealN_len (by rw [List.length_take, List.length_drop]; omega))) ?_
      obtain rfl : q = 52 * i + 52 := by omega
      rw [show 52 * i + 52 - 52 * i = 52 by omega] at *
      exact ⟨hB, rfl⟩

theorem whole16_ok {w : World} {t1 lo hi : Nat} {A : Option Addr} {c e en : Nat} {body : List UInt8} (hS : Sli t1 lo hi w A (fl encB body)) (hbl : body.length = 832) (he : e < 18446744073709551616) :
    Runs Tryd.prog 31 #[.int .u64 (e : Int), .slice A body.length c, .int .i64 (en : Int)] w (fun v w' => w.grownBy w' none ∧ ∃ (ss : List Sx) (A' : Option Addr) (c' : Nat), v = .slice A' ss.length c' ∧ World.ownsRow w' w.heap.size 62 64 (.slice A' ss.length c') ss.length (fl encX ss) ∧ bsOf ss = wholeN e body en) := by
  have hB := gb_refl w none
  replace hS := hS.top
  refine enter Tryd.func31 Tryd.ntmps31 rfl rfl ?_
  refine C_seq (C_reg rfl ?_)
  refine L_run (R_assign rfl) rfl ?_
  refine L_nil (N_then (C_seq (C_reg rfl ?_)))
  refine L_run (R_move rfl) rfl ?_
  refine L_call rfl cb43 (touch7 (a := 0) (b := en)) rfl ?_
  rintro _ w1 ⟨hs1, rfl⟩
  replace hB := gb_tr hB hs1
  replace hS := hS.gb hs1
  refine L_run (R_move rfl) rfl ?_
  refine L_run (R_extract rfl rfl) rfl ?_
  refine L_run (R_extract rfl rfl) rfl ?_
  refine L_run (R_assign rfl) rfl ?_
  refine L_run (R_assign rfl) rfl ?_
  refine L_nil (N_then (C_seq (C_reg rfl ?_)))
  refine L_run (R_assign rfl) rfl ?_
  refine L_nil (N_then (C_seq (C_seq (C_reg rfl ?_))))
  refine L_run (R_assign rfl) rfl ?_
  refine L_nil (N_then (C_block ?_))
  refine C_loop (fun m_ a_ w_ => ∃ (σ_ : Nat → Value) (ss : List Sx) (Aj : Option Addr) (cj : Nat) (i : Nat), a_ = Ac 35 σ_ [] [(0, .int .u64 (e : Int)), (1, .slice A body.length c), (2, .int .i64 (en : Int)), (6, .slice none 0 0), (8, .int .i64 (((touchN (min 0 832) (min en 832)).2 : Nat) : Int)), (9, .slice Aj ss.length cj), (10, .int .i64 (i : Int))] ∧ w.grownBy w_ none ∧ Sli t1 lo w.heap.size w_ A (fl encB body) ∧ World.ownsRow w_ w.heap.size 62 64 (.slice Aj ss.length cj) ss.length (fl encX ss) ∧ (i ≤ 16) ∧ (bsOf ss = (List.range i).map (secN e body (touchN (min 0 832) (min en 832)).2)) ∧ (ss.length ≤ i) ∧ 16 - i = m_) (16 - 0) ?_ ?_
  · exact ⟨_, [], none, 0, 0, Ac_frg ⟨rfl, rfl, rfl, rfl, rfl, (agr rfl (by first | rfl | (congr 1; omega) | (congr 1; simp; done) | (congr 1; simp only [IntKind.wrap_u64, IntKind.wrap_i64, IntKind.wrap_u8]; omega) | (congr 1 <;> omega))), (agr rfl (by first | rfl | (congr 1; omega) | (congr 1; simp; done) | (congr 1; simp only [IntKind.wrap_u64, IntKind.wrap_i64, IntKind.wrap_u8]; omega) | (congr 1 <;> omega))), trivial⟩, hB, hS, (own_nil _ _ _ _), (by omega), rfl, (by simp), rfl⟩
  · clear hB
    clear hS
    rintro m_ a_ w2 ⟨σ_, ss, Aj, cj, i, rfl, hB, hS, ho, hi, hss, hsl, rfl⟩
    refine C_seq (C_seq (C_reg rfl ?_))
    refine L_run (R_move rfl) rfl ?_
    refine L_run (R_lss rfl rfl) rfl ?_
    refine L_nil (N_then ?_)
    refine C_if rfl (fun h1 => ?_) (fun h1 => ?_)
    · refine C_skip (N_then (C_seq (C_block (C_seq (C_reg rfl ?_)))))
      refine L_run (R_move rfl) rfl ?_
      refine L_run (R_move rfl) rfl ?_
      refine L_run (R_lss rfl rfl) rfl ?_
      refine L_nil (N_then ?_)
      refine C_if rfl (fun h2 => ?_) (fun h2 => ?_)
      · refine C_reg rfl ?_
        refine L_run (R_move rfl) rfl ?_
        refine L_run (R_move rfl) rfl ?_
        refine L_run (R_move rfl) rfl ?_
        refine L_run (R_move rfl) rfl ?_
        refine L_call rfl cb44 (sec16_ok (e := e) (body := body) (i := i) hS hbl he (by omega)) rfl ?_
        rintro _ w3 ⟨hs2, rfl⟩
        replace hB := gb_tr hB hs2
        replace hS := hS.gb hs2
        replace ho := own_gb ho hs2
        refine T_bs1A (vs := fl encB (sealN e i ((body.drop (52 * i)).take 52))) slc34 zer62 rfl (by rw [flB_len]; exact (sealN_len (by rw [List.length_take, List.length_drop]; omega))) rfl rfl ?_
        intro g1 w4 eg1 hb1 hs3 hz1
        have ge1 : w.heap.size ≤ g1 := eg_ge hB eg1
        have hap1 : ∀ k_, (Value.slice Aj ss.length cj).ownBlock = some k_ → k_ ≠ g1 := fun k_ hk => by have h_ := (World.ownsRow.lt ho k_ hk).2; omega
        replace hB := gb_tr hB hs3
        replace hS := hS.gb hs3
        replace ho := own_gb ho hs3
        replace hb1 : Blk w4 g1 62 (fl encX [(⟨(sealN e i ((body.drop (52 * i)).take 52)), (sealN_len (by rw [List.length_take, List.length_drop]; omega))⟩ : Sx)]) := (show fl encX [(⟨(sealN e i ((body.drop (52 * i)).take 52)), (sealN_len (by rw [List.length_take, List.length_drop]; omega))⟩ : Sx)] = fl encB (sealN e i ((body.drop (52 * i)).take 52)) by rw [fl_cons]; exact List.append_nil _) ▸ hb1
        refine T_append (xs := ss) (ys := [(⟨(sealN e i ((body.drop (52 * i)).take 52)), (sealN_len (by rw [List.length_take, List.length_drop]; omega))⟩ : Sx)]) EncX slc34 rfl rfl ho (Blk.sli (m := 0) hb1) (by simp only [List.length_append, List.length_cons, List.length_nil] at *; omega) (by have := hB.size; omega) rfl ?_
        intro A_1 c_1 w5 ho1 hs4 hat1
        replace hB := gb_tro hB ho hs4 (Nat.le_refl _)
        replace hS := hS.grown hs4 (fun k hk => .inr (Nat.le_trans (Nat.le_refl _) (World.ownsRow.lt ho k hk).1))
        refine L_run (R_assign rfl) rfl ?_
        refine L_nil (N_in (N_then (C_reg rfl ?_)))
        refine L_run (R_move rfl) rfl ?_
        refine L_run (R_add64 rfl rfl (by omega)) rfl ?_
        refine L_run (R_assign rfl) rfl ?_
        refine L_nil (N_then ?_)
        have hsg := secs_go (s := (⟨(sealN e i ((body.drop (52 * i)).take 52)), (sealN_len (by rw [List.length_take, List.length_drop]; omega))⟩ : Sx)) hss (by show _ = secN e body (touchN (min 0 832) (min en 832)).2 i; unfold secN; rw [if_pos (by omega)])
        exact ⟨16 - (i + 1), by omega, _, ss ++ ([(⟨(sealN e i ((body.drop (52 * i)).take 52)), (sealN_len (by rw [List.length_take, List.length_drop]; omega))⟩ : Sx)]), A_1, c_1, (i + 1), Ac_frg ⟨rfl, rfl, rfl, rfl, rfl, rfl, (agr rfl (by first | rfl | (congr 1; omega) | (congr 1; simp; done) | (congr 1; simp only [IntKind.wrap_u64, IntKind.wrap_i64, IntKind.wrap_u8]; omega) | (congr 1 <;> omega))), trivial⟩, hB, hS, (own_lo ho1 (Nat.le_refl _)), (by omega), hsg, (by simp only [List.length_append, List.length_cons, List.length_nil]; omega), rfl⟩
      · refine C_reg rfl ?_
        refine L_run (R_move rfl) rfl ?_
        refine L_run (R_build (pv := []) (cs := fl encB (List.replicate 64 (0 : UInt8))) rfl (by kernel_rfl)) rfl ?_
        refine T_bs1A (vs := fl encB (List.replicate 64 (0 : UInt8))) slc34 zer62 rfl (by rw [flB_len]; exact List.length_replicate) rfl rfl ?_
        intro g2 w6 eg2 hb2 hs5 hz2
        have ge2 : w.heap.size ≤ g2 := eg_ge hB eg2
        have hap2 : ∀ k_, (Value.slice Aj ss.length cj).ownBlock = some k_ → k_ ≠ g2 := fun k_ hk => by have h_ := (World.ownsRow.lt ho k_ hk).2; omega
        replace hB := gb_tr hB hs5
        replace hS := hS.gb hs5
        replace ho := own_gb ho hs5
        replace hb2 : Blk w6 g2 62 (fl encX [(⟨(List.replicate 64 (0 : UInt8)), List.length_replicate⟩ : Sx)]) := (show fl encX [(⟨(List.replicate 64 (0 : UInt8)), List.length_replicate⟩ : Sx)] = fl encB (List.replicate 64 (0 : UInt8)) by rw [fl_cons]; exact List.append_nil _) ▸ hb2
        refine T_append (xs := ss) (ys := [(⟨(List.replicate 64 (0 : UInt8)), List.length_replicate⟩ : Sx)]) EncX slc34 rfl rfl ho (Blk.sli (m := 0) hb2) (by simp only [List.length_append, List.length_cons, List.length_nil] at *; omega) (by have := hB.size; omega) rfl ?_
        intro A_2 c_2 w7 ho2 hs6 hat2
        replace hB := gb_tro hB ho hs6 (Nat.le_refl _)
        replace hS := hS.grown hs6 (fun k hk => .inr (Nat.le_trans (Nat.le_refl _) (World.ownsRow.lt ho k hk).1))
        refine L_run (R_assign rfl) rfl ?_
        refine L_nil (N_in (N_then (C_reg rfl ?_)))
        refine L_run (R_move rfl) rfl ?_
        refine L_run (R_add64 rfl rfl (by omega)) rfl ?_
        refine L_run (R_assign rfl) rfl ?_
        refine L_nil (N_then ?_)
        have hsg := secs_go (s := (⟨(List.replicate 64 (0 : UInt8)), List.length_replicate⟩ : Sx)) hss (by show _ = secN e body (touchN (min 0 832) (min en 832)).2 i; unfold secN; rw [if_neg (by omega)])
        exact ⟨16 - (i + 1), by omega, _, ss ++ ([(⟨(List.replicate 64 (0 : UInt8)), List.length_replicate⟩ : Sx)]), A_2, c_2, (i + 1), Ac_frg ⟨rfl, rfl, rfl, rfl, rfl, rfl, (agr rfl (by first | rfl | (congr 1; omega) | (congr 1; simp; done) | (congr 1; simp only [IntKind.wrap_u64, IntKind.wrap_i64, IntKind.wrap_u8]; omega) | (congr 1 <;> omega))), trivial⟩, hB, hS, (own_lo ho2 (Nat.le_refl _)), (by omega), hsg, (by simp only [List.length_append, List.length_cons, List.length_nil]; omega), rfl⟩
    · refine C_exit (X_then (X_then (X_hit (N_then (C_seq (C_reg rfl ?_))))))
      refine L_run (R_move rfl) rfl ?_
      refine L_run (R_assign rfl) rfl ?_
      refine L_nil (N_then (C_ret ?_))
      refine ret1 Tryd.results31 rfl ?_
      obtain rfl : i = 16 := by omega
      exact ⟨hB, ss, _, _, rfl, (own_lo ho (Nat.le_refl _)), hss⟩

def secsN (e : Nat) (l : List (List UInt8)) : List (List UInt8) := match layT e l with
  | some r => wholeN e r.1 r.2.2
  | none => []
theorem lay_len {e : Nat} : ∀ (l : List (List UInt8)) (b : List UInt8) (P : List Int) (en : Nat) (r : List UInt8 × List Int × Nat), b.length = 832 → en ≤ 832 → layN e l b P en = some r → r.1.length = 832 ∧ r.2.2 ≤ 832
  | [], b, P, en, r, hb, he, h => by obtain rfl := Option.some.inj h; exact ⟨hb, he⟩
  | d :: l, b, P, en, r, hb, he, h => by
    cases hs : (addN e b en d).isSome with
    | false => rw [lay_no hs] at h; cases h
    | true =>
      rw [lay_go hs] at h
      have := addN_ok he hs
      exact lay_len l _ _ _ r this.1 this.2 h
theorem layT_len {e : Nat} {l : List (List UInt8)} (h : (layT e l).isSome = true) : (lB (layT e l)).length = 832 ∧ secsN e l = wholeN e (lB (layT e l)) (lE (layT e l)) := by
  unfold secsN
  cases hx : layT e l with
  | none => rw [hx] at h; cases h
  | some r => exact ⟨(lay_len l _ _ _ r List.length_replicate (by omega) hx).1, rfl⟩
theorem layT_none {e : Nat} {l : List (List UInt8)} (h : (layT e l).isSome = false) : secsN e l = [] := by
  unfold secsN
  cases hx : layT e l with
  | none => rfl
  | some r => rw [hx] at h; cases h
theorem sectors_ok {w : World} {t1 lo hi : Nat} {A : Option Addr} {c e : Nat} {ls : List Bys} (hS : Sli t1 lo hi w A (fl encY ls)) (hD : DeepY 5 w ls) (hl : ls.length ≤ 1000000) (hds : ∀ y ∈ ls, y.xs.length ≤ 1000000 ∧ y.xs.length ≤ y.c) (he : e < 18446744073709551616) :
    Runs Tryd.prog 20 #[.int .u64 (e : Int), .slice A ls.length c] w (fun v w' => w.grownBy w' none ∧ ∃ (ss : List Sx) (A' : Option Addr) (c' : Nat), v = .tuple #[.slice A' ss.length c', .bool (layT e (xsOf ls)).isSome] ∧ World.ownsRow w' w.heap.size 62 64 (.slice A' ss.length c') ss.length (fl encX ss) ∧ bsOf ss = secsN e (xsOf ls)) := by
  have hB := gb_refl w none
  replace hS := hS.top
  refine enter Tryd.func20 Tryd.ntmps20 rfl rfl ?_
  refine C_seq (C_reg rfl ?_)
  refine L_run (R_assign rfl) rfl ?_
  refine L_run (R_assign rfl) rfl ?_
  refine L_nil (N_then (C_seq (C_reg rfl ?_)))
  refine L_run (R_move rfl) rfl ?_
  refine L_run (R_move rfl) rfl ?_
  have ge1 : w.heap.size ≤ w.heap.size := hB.size
  refine L_call rfl cb19 (lay17_ok (e := e) (ls := ls) hS hD hl hds) rfl ?_
  rintro _ w1 ⟨hs1, A_1, c_1, A_2, c_2, rfl, ho1, ho2⟩
  replace hB := gb_tr hB hs1
  replace hS := hS.gb hs1
  replace hD := hD.gb hs1
  have hlo1 : w.heap.size ≤ w1.heap.size := hs1.size
  refine L_run (R_move rfl) rfl ?_
  refine L_run (R_extract rfl rfl) rfl ?_
  refine L_run (R_extract rfl rfl) rfl ?_
  refine L_run (R_extract rfl rfl) rfl ?_
  refine L_run (R_extract rfl rfl) rfl ?_
  refine L_run (R_assign rfl) rfl ?_
  refine L_run (R_assign rfl) rfl ?_
  refine L_run (R_assign rfl) rfl ?_
  refine L_run (R_assign rfl) rfl ?_
  refine L_nil (N_then (C_seq (C_seq (C_reg rfl ?_))))
  refine L_run (R_move rfl) rfl ?_
  refine L_run (R_not rfl) rfl ?_
  refine L_nil (N_then ?_)
  refine C_cond rfl (fun h1 => ?_) (fun h1 => ?_)
  · refine C_seq (C_reg rfl ?_)
    refine L_run (R_assign rfl) rfl ?_
    refine L_run (R_assign rfl) rfl ?_
    refine L_nil (N_then (C_ret (R_then ?_)))
    refine ret2 Tryd.results20 rfl rfl ?_
    have hn_ : (layT e (xsOf ls)).isSome = false := by simpa using h1
    exact ⟨hB, [], none, 0, by rw [hn_]; first | done | rfl, own_nil _ _ _ _, by rw [layT_none hn_]; first | done | rfl⟩
  · refine C_skip (N_then (C_seq (C_reg rfl ?_)))
    refine L_run (R_move rfl) rfl ?_
    refine L_run (R_move rfl) rfl ?_
    refine L_run (R_move rfl) rfl ?_
    have hsm : (layT e (xsOf ls)).isSome = true := by simpa using h1
    have ge2 : w.heap.size ≤ w1.heap.size := hB.size
    refine L_call rfl cb31 (whole16_ok (e := e) (body := lB (layT e (xsOf ls))) (en := (lE (layT e (xsOf ls)))) (own_of ho1).2.2 (layT_len hsm).1 he) rfl ?_
    rintro _ w2 ⟨hs2, ss1, A_3, c_3, rfl, ho3, hw1⟩
    replace hB := gb_tr hB hs2
    replace hS := hS.gb hs2
    replace hD := hD.gb hs2
    replace ho1 := own_gb ho1 hs2
    replace ho2 := own_gb ho2 hs2
    replace hlo1 := Nat.le_trans hlo1 hs2.size
    have hlo2 : w1.heap.size ≤ w2.heap.size := hs2.size
    refine L_run (R_assign rfl) rfl ?_
    refine L_run (R_assign rfl) rfl ?_
    refine L_nil (N_then (C_ret ?_))
    refine ret2 Tryd.results20 rfl rfl ?_
    exact ⟨hB, ss1, _, _, by rw [hsm], (own_lo ho3 ge2), by rw [hw1, (layT_len hsm).2]⟩

end Go.Proofs.YtbpjdcpfphnccaaDoor
