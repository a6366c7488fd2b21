/-
  Contracts of the reference of tails: a segment laid anew.
-/
import Derived.Test.YtbpjdcpfphnccaaDoorTu
namespace Go.Proofs.YtbpjdcpfphnccaaDoor
open Go.RowKit Gw Pl
set_option linter.unusedVariables false
set_option linter.unusedSimpArgs false
theorem cb17 : callB Tryd.prog 17 = true := by kernel_rfl
theorem cb18 : callB Tryd.prog 18 = true := by kernel_rfl
theorem cb20 : callB Tryd.prog 20 = true := by kernel_rfl
theorem sz29 : szB Tryd.prog 29 11 = true := by kernel_rfl
theorem zer29 : (Tryd.prog.info? 29).bind (·.zero) = some (.agg #[.int .u64 0, .int .i64 0, .int .i64 0, .int .i64 0, .int .i64 0, .int .i64 0, .int .i64 0, .slice none 0 0, .slice none 0 0, .int .i64 0, .int .i64 0]) := by kernel_rfl
def OkI (e seq first : Int) (hs : Nat → Int) (rs : List RecX) (i : Nat) : Prop := OkH e seq first hs ∧ ∀ r ∈ rs.take i, FitX r
instance {e seq first : Int} {hs : Nat → Int} {rs : List RecX} {i : Nat} : Decidable (OkI e seq first hs rs i) := by unfold OkI; infer_instance
theorem fit_mono {rs : List RecX} {i : Nat} (h : ∀ r ∈ rs.take (i + 1), FitX r) : ∀ r ∈ rs.take i, FitX r := by
  intro r hr
  refine h r ?_
  rw [List.take_add_one]
  exact List.mem_append_left _ hr
theorem mem_take_succ {rs : List RecX} {i : Nat} (hi : i < rs.length) : rs[i] ∈ rs.take (i + 1) := by
  rw [List.take_succ_eq_append_getElem hi]
  exact List.mem_append_right _ (List.mem_singleton.2 rfl)
theorem ragain_ok {w : World} {t1 lo hi t2 lo2 hi2 e pn rc pc : Nat} {ra pa : Option Addr} {ep0 seq first en0 kind0 : Int} {hs : Nat → Int} {rs : List RecX} (hS : Sli t1 lo hi w ra (fl encRX rs)) (hQ : DeepX t2 lo2 hi2 w rs) (hl : rs.length ≤ 1000000) (hxl : ∀ r ∈ rs, r.xs.length ≤ 1000000) (he : e < 18446744073709551616) :
    Runs Tryd.prog 7 #[.agg #[.int .u64 ep0, .int .i64 seq, .int .i64 first, .int .i64 (hs 0), .int .i64 (hs 1), .int .i64 (hs 2), .int .i64 (hs 3), .slice ra rs.length rc, .slice pa pn pc, .int .i64 en0, .int .i64 kind0], .int .u64 (e : Int)] w (fun v w' => w.grownBy w' none ∧ ((AgnOk e seq first hs rs ∧ ∃ (A2 A3 : Option Addr) (c2 c3 : Nat) (ss : List Sx), v = .tuple #[.agg #[.int .u64 (e : Int), .int .i64 seq, .int .i64 first, .int .i64 (hs 0), .int .i64 (hs 1), .int .i64 (hs 2), .int .i64 (hs 3), .slice ra rs.length rc, .slice A2 ((lP (layT e (rs.map recYX))).length) c2, .int .i64 ((lE (layT e (rs.map recYX)) : Nat) : Int), .int .i64 1], .slice A3 ss.length c3, .int .i64 0] ∧ World.ownsRow w' w.heap.size 3 1 (.slice A2 (lP (layT e (rs.map recYX))).length c2) (lP (layT e (rs.map recYX))).length (fl encZ (lP (layT e (rs.map recYX)))) ∧ World.ownsRow w' w.heap.size 62 64 (.slice A3 ss.length c3) ss.length (fl encX ss) ∧ bsOf ss = secsN e (rs.map recYX)) ∨ (¬ AgnOk e seq first hs rs ∧ v = .tuple #[.agg #[.int .u64 0, .int .i64 0, .int .i64 0, .int .i64 0, .int .i64 0, .int .i64 0, .int .i64 0, .slice none 0 0, .slice none 0 0, .int .i64 0, .int .i64 0], .slice none 0 0, .int .i64 13]))) := by
  have hB := gb_refl w none
  replace hQ := hQ.top
  replace hS := hS.top
  refine enter Tryd.func7 Tryd.ntmps7 rfl rfl ?_
  refine C_seq (C_reg rfl ?_)
  refine L_box (cs := [.int .u64 ep0, .int .i64 seq, .int .i64 first, .int .i64 (hs 0), .int .i64 (hs 1), .int .i64 (hs 2), .int .i64 (hs 3), .slice ra rs.length rc, .slice pa pn pc, .int .i64 en0, .int .i64 kind0]) rfl rfl rfl ?_
  intro g1 w1 eg1 hb1 hs1 hz1
  have ge1 : w.heap.size ≤ g1 := eg_ge hB eg1
  replace hB := gb_tr hB hs1
  replace hS := hS.gb hs1
  replace hQ := hQ.gb hs1
  refine L_alloc (cs := [.int .u64 0, .int .i64 0, .int .i64 0, .int .i64 0, .int .i64 0, .int .i64 0, .int .i64 0, .slice none 0 0, .slice none 0 0, .int .i64 0, .int .i64 0]) zer29 rfl rfl ?_
  intro g2 w2 eg2 hb2 hs2 hz2
  have ge2 : w.heap.size ≤ g2 := eg_ge hB eg2
  have lt1 : g1 < g2 := lt_of_eg hb1.lt eg2
  replace hB := gb_tr hB hs2
  replace hS := hS.gb hs2
  replace hQ := hQ.gb hs2
  replace hb1 := hb1.gb hs2
  refine L_run (R_assign rfl) rfl ?_
  refine L_run (R_assign rfl) rfl ?_
  refine L_nil (N_then (C_seq (C_reg rfl ?_)))
  refine L_run (R_move rfl) rfl ?_
  refine L_run (R_field (r := 0) rfl fld29_0 rfl) rfl ?_
  refine L_run (R_field (r := 0) rfl fld25_0 rfl) rfl ?_
  refine L_st1 rfl rfl rfl sz22 hb1 rfl ?_
  intro w3 hb3 hs3 hz3
  replace hB := gb_trg hB hs3 ge1
  replace hS := hS.old hs3 ge1
  replace hQ := hQ.far hs3 (by omega)
  replace hb2 := hb2.grown hs3 (ne_gt lt1)
  refine L_nil (N_then (C_seq (C_reg rfl ?_)))
  refine L_run (R_assign rfl) rfl ?_
  refine L_nil (N_then (C_seq (C_reg rfl ?_)))
  refine L_run (R_field (r := 0) rfl fld29_0 rfl) rfl ?_
  refine L_run (R_loadA (vs := [.int .u64 (e : Int), .int .i64 seq, .int .i64 first, .int .i64 (hs 0), .int .i64 (hs 1), .int .i64 (hs 2), .int .i64 (hs 3)]) rfl agg25 (At.pre (hb3.at_ 0) rfl) rfl) rfl ?_
  refine L_call rfl cb17 (ref18_Right (ep := (e : Int)) (seq := seq) (first := first) (hs := hs) (by omega)) rfl ?_
  rintro _ w4 ⟨hs4, rfl⟩
  replace hB := gb_tr hB hs4
  replace hS := hS.gb hs4
  replace hQ := hQ.gb hs4
  replace hb3 := hb3.gb hs4
  replace hb2 := hb2.gb hs4
  refine L_run (R_assign rfl) rfl ?_
  refine L_nil (N_then (C_seq (C_seq (C_reg rfl ?_))))
  refine L_run (R_assign rfl) rfl ?_
  refine L_nil (N_then (C_block ?_))
  have e_ : Value.bool (decide (OkH (e : Int) seq first hs)) = .bool (decide (OkI (e : Int) seq first hs rs 0)) := bD (Iff.intro (fun q_ => ⟨q_, fun r hr => by cases hr⟩) (fun q_ => q_.1))
  refine C_loop (fun m_ a_ w_ => ∃ (σ_ : Nat → Value) (ls : List Bys) (Al : Option Addr) (cl : Nat) (i : Nat), a_ = Ac 77 σ_ [] [(1, .int .u64 (e : Int)), (2, .pointer (some ⟨g1, 0, none⟩)), (4, .pointer (some ⟨g2, 0, none⟩)), (7, .slice Al ls.length cl), (8, .bool (decide (OkI (e : Int) seq first hs rs i))), (9, .int .i64 (i : Int))] ∧ w.grownBy w_ none ∧ Sli t1 lo w.heap.size w_ ra (fl encRX rs) ∧ DeepX t2 lo2 w.heap.size w_ rs ∧ Blk w_ g1 29 [.int .u64 (e : Int), .int .i64 seq, .int .i64 first, .int .i64 (hs 0), .int .i64 (hs 1), .int .i64 (hs 2), .int .i64 (hs 3), .slice ra rs.length rc, .slice pa pn pc, .int .i64 en0, .int .i64 kind0] ∧ Blk w_ g2 29 [.int .u64 0, .int .i64 0, .int .i64 0, .int .i64 0, .int .i64 0, .int .i64 0, .int .i64 0, .slice none 0 0, .slice none 0 0, .int .i64 0, .int .i64 0] ∧ World.ownsRow w_ w.heap.size 46 1 (.slice Al ls.length cl) ls.length (fl encY ls) ∧ DeepV 5 w.heap.size w_.heap.size w_ ls ∧ (i ≤ rs.length) ∧ (xsOf ls = (rs.take i).map recYX) ∧ (∀ y ∈ ls, y.xs.length ≤ 1000000 ∧ y.xs.length ≤ y.c) ∧ (ls.length = i) ∧ rs.length - i = m_) (rs.length - 0) ?_ ?_
  · exact ⟨_, [], none, 0, 0, Ac_frg ⟨rfl, rfl, rfl, (agr rfl (by first | rfl | (congr 1; omega) | (congr 1; simp; done) | (congr 1; simp only [IntKind.wrap_u64, IntKind.wrap_i64, IntKind.wrap_u8]; omega) | (congr 1 <;> omega))), (agr rfl e_), (agr rfl (by first | rfl | (congr 1; omega) | (congr 1; simp; done) | (congr 1; simp only [IntKind.wrap_u64, IntKind.wrap_i64, IntKind.wrap_u8]; omega) | (congr 1 <;> omega))), trivial⟩, hB, hS, hQ, hb3, hb2, (own_nil _ _ _ _), DeepV.nil, (by omega), rfl, (fun y hy => by cases hy), rfl, rfl⟩
  · clear hB
    clear hS hQ hb3 hb2
    rintro m_ a_ w5 ⟨σ_, ls, Al, cl, i, rfl, hB, hS, hQ, hb3, hb2, hol, hDV, hi, hY, hds, hll, rfl⟩
    have hlt_ : w5.heap.size ≤ w5.heap.size := Nat.le_refl _
    refine C_seq (C_seq (C_reg rfl ?_))
    refine L_run (R_move rfl) rfl ?_
    refine L_run (R_field (r := 7) rfl fld29_1 rfl) rfl ?_
    refine L_run (R_load1 rfl scl26 (hb3.cell (i := 7) rfl)) rfl ?_
    refine L_run (R_lenSl rfl slc26) rfl ?_
    refine L_run (R_lss rfl rfl) rfl ?_
    refine L_nil (N_then ?_)
    refine C_if rfl (fun h1 => ?_) (fun h1 => ?_)
    · refine C_skip (N_then (C_seq (C_block (C_seq (C_reg rfl ?_)))))
      refine L_run (R_field (r := 7) rfl fld29_1 rfl) rfl ?_
      refine L_run (R_load1 rfl scl26 (hb3.cell (i := 7) rfl)) rfl ?_
      refine L_run (R_move rfl) rfl ?_
      have hl1 : i < rs.length := by first | omega | (simp; omega)
      refine T_index (xs := rs) (i := i) EncRX rfl rfl (by first | rfl | omega) slc26 hl1 hS rfl ?_
      intro g3 o1 ha1
      refine L_run (R_loadA (vs := [.int .i64 ((rs[i]).kind), .int .i64 ((rs[i]).chain), .int .i64 ((rs[i]).lsn), .int .i64 ((rs[i]).prev), .slice ((rs[i]).a) ((rs[i]).xs.length) ((rs[i]).c)]) rfl agg48 (At.pre ha1 rfl) rfl) rfl ?_
      have ge3 : w.heap.size ≤ w5.heap.size := hB.size
      refine L_call rfl cb18 (renc11_ok (kind := (rs[i]).kind) (chain := (rs[i]).chain) (lsn := (rs[i]).lsn) (prev := (rs[i]).prev) (xs := (rs[i]).xs) (hQ.get (i := i) (by first | assumption | omega | (simp; omega))) (hxl _ (List.getElem_mem (show i < rs.length by omega)))) rfl ?_
      rintro _ w6 ⟨hs5, A_1, c_1, E1, rfl, hft1, ho1⟩
      replace hB := gb_tr hB hs5
      replace hS := hS.gb hs5
      replace hQ := hQ.gb hs5
      replace hb3 := hb3.gb hs5
      replace hb2 := hb2.gb hs5
      replace hol := own_gb hol hs5
      replace hlt_ := Nat.le_trans hlt_ hs5.size
      replace hDV := hDV.gb hs5
      replace ha1 := At.gb ha1 hs5 (by simp)
      have hlo1 : w5.heap.size ≤ w6.heap.size := hs5.size
      refine L_run (R_move rfl) rfl ?_
      refine L_run (R_extract rfl rfl) rfl ?_
      refine L_run (R_extract rfl rfl) rfl ?_
      refine L_run (R_assign rfl) rfl ?_
      refine L_run (R_assign rfl) rfl ?_
      refine L_nil (N_then (C_seq (C_reg rfl ?_)))
      refine L_run (R_move rfl) rfl ?_
      refine L_run (R_move rfl) rfl ?_
      refine L_splitD (p := OkI (e : Int) seq first hs rs i) (fun h2 => ?_) (fun h2 => ?_)
      · refine L_yes rfl rfl rfl (decide_eq_true h2) ?_
        refine L_run (R_move rfl) rfl ?_
        refine L_yes rfl rfl rfl (decide_eq_true h2) ?_
        refine L_run (R_eql rfl rfl) rfl ?_
        refine L_run (R_pickT rfl (decide_eq_true h2) rfl) rfl ?_
        refine L_run (R_assign rfl) rfl ?_
        refine L_nil (N_then (C_reg rfl ?_))
        refine L_run (R_move rfl) rfl ?_
        refine L_run (R_move rfl) rfl ?_
        refine L_buildSlice (pv := [(0, .slice A_1 ((recY ((rs[i]).kind) ((rs[i]).chain) ((rs[i]).lsn) ((rs[i]).prev) ((rs[i]).xs)).length) c_1)]) (cs := [.slice A_1 ((recY ((rs[i]).kind) ((rs[i]).chain) ((rs[i]).lsn) ((rs[i]).prev) ((rs[i]).xs)).length) c_1]) slc50 zer46 rfl rfl (by kernel_rfl) rfl ?_
        intro g4 w7 eg3 hb4 hs6 hz4
        have ge4 : w.heap.size ≤ g4 := eg_ge hB eg3
        have lt2 : g1 < g4 := lt_of_eg hb3.lt eg3
        have lt3 : g2 < g4 := lt_of_eg hb2.lt eg3
        have hap1 : ∀ k_, (Value.slice Al ls.length cl).ownBlock = some k_ → k_ ≠ g4 := fun k_ hk => by have h_ := (World.ownsRow.lt hol k_ hk).2; omega
        replace hB := gb_tr hB hs6
        replace hS := hS.gb hs6
        replace hQ := hQ.gb hs6
        replace hb3 := hb3.gb hs6
        replace hb2 := hb2.gb hs6
        replace hol := own_gb hol hs6
        replace hlt_ := Nat.le_trans hlt_ hs6.size
        replace hDV := hDV.gb hs6
        replace ha1 := At.gb ha1 hs6 (by simp)
        replace ho1 := own_gb ho1 hs6
        replace hlo1 := Nat.le_trans hlo1 hs6.size
        refine T_append (xs := ls) (ys := [(⟨A_1, c_1, (recY ((rs[i]).kind) ((rs[i]).chain) ((rs[i]).lsn) ((rs[i]).prev) ((rs[i]).xs))⟩ : Bys)]) EncY slc50 rfl rfl hol (Blk.sli (m := 0) hb4) (by simp only [List.length_append, List.length_cons, List.length_nil]; omega) (by have := hB.size; omega) rfl ?_
        intro A_2 c_2 w8 ho2 hs7 hat1
        replace hB := gb_tro hB hol hs7 (Nat.le_refl _)
        replace hS := hS.grown hs7 (fun k hk => .inr (Nat.le_trans (Nat.le_refl _) (World.ownsRow.lt hol k hk).1))
        replace hQ := hQ.farO hol (by omega) hs7
        replace hb3 := blk_own hb3 hol rfl hs7
        replace hb2 := blk_own hb2 hol rfl hs7
        replace hlt_ := Nat.le_trans hlt_ hs7.size
        replace hDV := hDV.otherO hol rfl rfl hs7
        replace ho1 := ho1.kept hs7 (own_type_ne' ho1 hol rfl)
        replace hlo1 := Nat.le_trans hlo1 hs7.size
        refine L_run (R_assign rfl) rfl ?_
        refine L_nil (N_in (N_then (C_reg rfl ?_)))
        refine L_run (R_move rfl) rfl ?_
        refine L_run (R_add64 rfl rfl (by omega)) rfl ?_
        refine L_run (R_assign rfl) rfl ?_
        refine L_nil (N_then ?_)
        have hcap_ := own_cap ho1
        have hfit_ : E1 = 0 ↔ FitX rs[i] := hft1
        have e_ : Value.bool (decide (E1 = 0)) = .bool (decide (OkI (e : Int) seq first hs rs (i + 1))) := bD (Iff.intro (fun q_ => ⟨(h2).1, fit_snoc (h2).2 (by omega) (hfit_.1 q_)⟩) (fun q_ => hfit_.2 (q_.2 _ (mem_take_succ (by omega)))))
        exact ⟨rs.length - (i + 1), by omega, _, ls ++ ([(⟨A_1, c_1, (recY ((rs[i]).kind) ((rs[i]).chain) ((rs[i]).lsn) ((rs[i]).prev) ((rs[i]).xs))⟩ : Bys)]), A_2, c_2, (i + 1), Ac_frg ⟨rfl, rfl, rfl, rfl, (agr rfl e_), (agr rfl (by first | rfl | (congr 1; omega) | (congr 1; simp; done) | (congr 1; simp only [IntKind.wrap_u64, IntKind.wrap_i64, IntKind.wrap_u8]; omega) | (congr 1 <;> omega))), trivial⟩, hB, hS, hQ, hb3, hb2, (own_lo ho2 (Nat.le_refl _)), (hDV.snoc (y := (⟨A_1, c_1, (recY ((rs[i]).kind) ((rs[i]).chain) ((rs[i]).lsn) ((rs[i]).prev) ((rs[i]).xs))⟩ : Bys)) (own_of ho1).2.2 ge3), (by omega), (xsY_snoc (y := (⟨A_1, c_1, (recY ((rs[i]).kind) ((rs[i]).chain) ((rs[i]).lsn) ((rs[i]).prev) ((rs[i]).xs))⟩ : Bys)) hY (by omega) rfl), (bys_snoc (y := (⟨A_1, c_1, (recY ((rs[i]).kind) ((rs[i]).chain) ((rs[i]).lsn) ((rs[i]).prev) ((rs[i]).xs))⟩ : Bys)) hds ⟨Nat.le_trans recYX_len (by decide), hcap_⟩), (by simp only [List.length_append, List.length_cons, List.length_nil]; omega), rfl⟩
      · refine L_no rfl rfl rfl (decide_eq_false h2) rfl ?_
        refine L_no rfl rfl rfl (decide_eq_false h2) rfl ?_
        refine L_run (R_pickF rfl (decide_eq_false h2) rfl) rfl ?_
        refine L_run (R_assign rfl) rfl ?_
        refine L_nil (N_then (C_reg rfl ?_))
        refine L_run (R_move rfl) rfl ?_
        refine L_run (R_move rfl) rfl ?_
        refine L_buildSlice (pv := [(0, .slice A_1 ((recY ((rs[i]).kind) ((rs[i]).chain) ((rs[i]).lsn) ((rs[i]).prev) ((rs[i]).xs)).length) c_1)]) (cs := [.slice A_1 ((recY ((rs[i]).kind) ((rs[i]).chain) ((rs[i]).lsn) ((rs[i]).prev) ((rs[i]).xs)).length) c_1]) slc50 zer46 rfl rfl (by kernel_rfl) rfl ?_
        intro g5 w9 eg4 hb5 hs8 hz5
        have ge5 : w.heap.size ≤ g5 := eg_ge hB eg4
        have lt4 : g1 < g5 := lt_of_eg hb3.lt eg4
        have lt5 : g2 < g5 := lt_of_eg hb2.lt eg4
        have hap2 : ∀ k_, (Value.slice Al ls.length cl).ownBlock = some k_ → k_ ≠ g5 := fun k_ hk => by have h_ := (World.ownsRow.lt hol k_ hk).2; omega
        replace hB := gb_tr hB hs8
        replace hS := hS.gb hs8
        replace hQ := hQ.gb hs8
        replace hb3 := hb3.gb hs8
        replace hb2 := hb2.gb hs8
        replace hol := own_gb hol hs8
        replace hlt_ := Nat.le_trans hlt_ hs8.size
        replace hDV := hDV.gb hs8
        replace ha1 := At.gb ha1 hs8 (by simp)
        replace ho1 := own_gb ho1 hs8
        replace hlo1 := Nat.le_trans hlo1 hs8.size
        refine T_append (xs := ls) (ys := [(⟨A_1, c_1, (recY ((rs[i]).kind) ((rs[i]).chain) ((rs[i]).lsn) ((rs[i]).prev) ((rs[i]).xs))⟩ : Bys)]) EncY slc50 rfl rfl hol (Blk.sli (m := 0) hb5) (by simp only [List.length_append, List.length_cons, List.length_nil]; omega) (by have := hB.size; omega) rfl ?_
        intro A_3 c_3 w10 ho3 hs9 hat2
        replace hB := gb_tro hB hol hs9 (Nat.le_refl _)
        replace hS := hS.grown hs9 (fun k hk => .inr (Nat.le_trans (Nat.le_refl _) (World.ownsRow.lt hol k hk).1))
        replace hQ := hQ.farO hol (by omega) hs9
        replace hb3 := blk_own hb3 hol rfl hs9
        replace hb2 := blk_own hb2 hol rfl hs9
        replace hlt_ := Nat.le_trans hlt_ hs9.size
        replace hDV := hDV.otherO hol rfl rfl hs9
        replace ho1 := ho1.kept hs9 (own_type_ne' ho1 hol rfl)
        replace hlo1 := Nat.le_trans hlo1 hs9.size
        refine L_run (R_assign rfl) rfl ?_
        refine L_nil (N_in (N_then (C_reg rfl ?_)))
        refine L_run (R_move rfl) rfl ?_
        refine L_run (R_add64 rfl rfl (by omega)) rfl ?_
        refine L_run (R_assign rfl) rfl ?_
        refine L_nil (N_then ?_)
        have hcap_ := own_cap ho1
        have hfit_ : E1 = 0 ↔ FitX rs[i] := hft1
        have e_ : Value.bool false = .bool (decide (OkI (e : Int) seq first hs rs (i + 1))) := bF (fun q_ => (h2) ⟨q_.1, fit_mono q_.2⟩)
        exact ⟨rs.length - (i + 1), by omega, _, ls ++ ([(⟨A_1, c_1, (recY ((rs[i]).kind) ((rs[i]).chain) ((rs[i]).lsn) ((rs[i]).prev) ((rs[i]).xs))⟩ : Bys)]), A_3, c_3, (i + 1), Ac_frg ⟨rfl, rfl, rfl, rfl, (agr rfl e_), (agr rfl (by first | rfl | (congr 1; omega) | (congr 1; simp; done) | (congr 1; simp only [IntKind.wrap_u64, IntKind.wrap_i64, IntKind.wrap_u8]; omega) | (congr 1 <;> omega))), trivial⟩, hB, hS, hQ, hb3, hb2, (own_lo ho3 (Nat.le_refl _)), (hDV.snoc (y := (⟨A_1, c_1, (recY ((rs[i]).kind) ((rs[i]).chain) ((rs[i]).lsn) ((rs[i]).prev) ((rs[i]).xs))⟩ : Bys)) (own_of ho1).2.2 ge3), (by omega), (xsY_snoc (y := (⟨A_1, c_1, (recY ((rs[i]).kind) ((rs[i]).chain) ((rs[i]).lsn) ((rs[i]).prev) ((rs[i]).xs))⟩ : Bys)) hY (by omega) rfl), (bys_snoc (y := (⟨A_1, c_1, (recY ((rs[i]).kind) ((rs[i]).chain) ((rs[i]).lsn) ((rs[i]).prev) ((rs[i]).xs))⟩ : Bys)) hds ⟨Nat.le_trans recYX_len (by decide), hcap_⟩), (by simp only [List.length_append, List.length_cons, List.length_nil]; omega), rfl⟩
    · refine C_exit (X_then (X_then (X_hit (N_then (C_seq (C_seq (C_reg rfl ?_)))))))
      refine L_run (R_move rfl) rfl ?_
      refine L_run (R_notD rfl) rfl ?_
      refine L_nil (N_then ?_)
      refine C_ifN rfl (fun h3 => ?_) (fun h3 => ?_)
      · refine C_seq (C_reg rfl ?_)
        refine L_run (R_build (pv := []) (cs := [.int .u64 0, .int .i64 0, .int .i64 0, .int .i64 0, .int .i64 0, .int .i64 0, .int .i64 0, .slice none 0 0, .slice none 0 0, .int .i64 0, .int .i64 0]) rfl (by kernel_rfl)) rfl ?_
        refine L_stA (vs := [.int .u64 0, .int .i64 0, .int .i64 0, .int .i64 0, .int .i64 0, .int .i64 0, .int .i64 0, .slice none 0 0, .slice none 0 0, .int .i64 0, .int .i64 0]) rfl rfl rfl sz29 rfl hb2 rfl ?_
        intro w11 hb6 hs10 hz6
        replace hB := gb_trg hB hs10 ge2
        replace hS := hS.old hs10 ge2
        replace hQ := hQ.far hs10 (by omega)
        replace hb3 := hb3.grown hs10 (ne_lt lt1)
        replace hol := own_other hol hb2 rfl hs10
        replace hlt_ := Nat.le_trans hlt_ hs10.size
        replace hDV := hDV.other hb2 rfl rfl hs10
        refine L_run (R_assign rfl) rfl ?_
        refine L_run (R_assign rfl) rfl ?_
        refine L_nil (N_then (C_ret (R_then ?_)))
        refine retC2 (vs := [.int .u64 0, .int .i64 0, .int .i64 0, .int .i64 0, .int .i64 0, .int .i64 0, .int .i64 0, .slice none 0 0, .slice none 0 0, .int .i64 0, .int .i64 0]) Tryd.results7 rfl agg29 (At.pre (hb6.at_ 0) rfl) rfl rfl rfl ?_
        refine ⟨hB, .inr ⟨?_, rfl⟩⟩
        intro q_; exact (h3) ⟨q_.1, fun r hr => q_.2.1 r (List.mem_of_mem_take hr)⟩
      · refine C_skip (N_then (C_seq (C_reg rfl ?_)))
        refine L_run (R_move rfl) rfl ?_
        refine L_run (R_move rfl) rfl ?_
        have hYY : xsOf ls = rs.map recYX := by rw [hY, List.take_of_length_le (by omega)]
        have hDY := hDV.y
        have ge6 : w.heap.size ≤ w5.heap.size := hB.size
        refine L_call rfl cb19 (lay17_ok (e := e) (ls := ls) (own_of hol).2.2 hDY (by omega) hds) rfl ?_
        rintro _ w12 ⟨hs11, A_4, c_4, A_5, c_5, rfl, ho4, ho5⟩
        replace hB := gb_tr hB hs11
        replace hS := hS.gb hs11
        replace hQ := hQ.gb hs11
        replace hb3 := hb3.gb hs11
        replace hb2 := hb2.gb hs11
        replace hol := own_gb hol hs11
        replace hlt_ := Nat.le_trans hlt_ hs11.size
        replace hDV := hDV.gb hs11
        replace hDY := hDY.gb hs11
        have hlo2 : w5.heap.size ≤ w12.heap.size := hs11.size
        refine L_run (R_move rfl) rfl ?_
        refine L_run (R_extract rfl rfl) rfl ?_
        refine L_run (R_extract rfl rfl) rfl ?_
        refine L_run (R_extract rfl rfl) rfl ?_
        refine L_run (R_extract rfl rfl) rfl ?_
        refine L_run (R_assign rfl) rfl ?_
        refine L_run (R_assign rfl) rfl ?_
        refine L_run (R_assign rfl) rfl ?_
        refine L_run (R_assign rfl) rfl ?_
        refine L_nil (N_then (C_seq (C_seq (C_reg rfl ?_))))
        refine L_run (R_move rfl) rfl ?_
        refine L_run (R_not rfl) rfl ?_
        refine L_nil (N_then ?_)
        refine C_cond rfl (fun h4 => ?_) (fun h4 => ?_)
        · refine C_seq (C_reg rfl ?_)
          refine L_run (R_build (pv := []) (cs := [.int .u64 0, .int .i64 0, .int .i64 0, .int .i64 0, .int .i64 0, .int .i64 0, .int .i64 0, .slice none 0 0, .slice none 0 0, .int .i64 0, .int .i64 0]) rfl (by kernel_rfl)) rfl ?_
          refine L_stA (vs := [.int .u64 0, .int .i64 0, .int .i64 0, .int .i64 0, .int .i64 0, .int .i64 0, .int .i64 0, .slice none 0 0, .slice none 0 0, .int .i64 0, .int .i64 0]) rfl rfl rfl sz29 rfl hb2 rfl ?_
          intro w13 hb7 hs12 hz7
          replace hB := gb_trg hB hs12 ge2
          replace hS := hS.old hs12 ge2
          replace hQ := hQ.far hs12 (by omega)
          replace hb3 := hb3.grown hs12 (ne_lt lt1)
          replace hol := own_other hol hb2 rfl hs12
          replace hlt_ := Nat.le_trans hlt_ hs12.size
          replace hDV := hDV.other hb2 rfl rfl hs12
          replace hDY := hDY.other hb2 rfl rfl hs12
          replace ho4 := own_other ho4 hb2 rfl hs12
          replace ho5 := own_other ho5 hb2 rfl hs12
          replace hlo2 := Nat.le_trans hlo2 hs12.size
          refine L_run (R_assign rfl) rfl ?_
          refine L_run (R_assign rfl) rfl ?_
          refine L_nil (N_then (C_ret (R_then ?_)))
          refine retC2 (vs := [.int .u64 0, .int .i64 0, .int .i64 0, .int .i64 0, .int .i64 0, .int .i64 0, .int .i64 0, .slice none 0 0, .slice none 0 0, .int .i64 0, .int .i64 0]) Tryd.results7 rfl agg29 (At.pre (hb7.at_ 0) rfl) rfl rfl rfl ?_
          refine ⟨hB, .inr ⟨?_, rfl⟩⟩
          have hn_ : (layT e (xsOf ls)).isSome = false := by first | exact h4 | exact not_t h4
          exact no_lay (fun h_ => by rw [← hYY, hn_] at h_; cases h_)
        · refine C_skip (N_then (C_seq (C_reg rfl ?_)))
          refine L_run (R_move rfl) rfl ?_
          refine L_run (R_move rfl) rfl ?_
          have ge7 : w.heap.size ≤ w12.heap.size := hB.size
          refine L_call rfl cb20 (sectors_ok (e := e) (ls := ls) (own_of hol).2.2 hDY (by omega) hds he) rfl ?_
          rintro _ w14 ⟨hs13, ss1, A_6, c_6, rfl, ho6, hw1⟩
          replace hB := gb_tr hB hs13
          replace hS := hS.gb hs13
          replace hQ := hQ.gb hs13
          replace hb3 := hb3.gb hs13
          replace hb2 := hb2.gb hs13
          replace hol := own_gb hol hs13
          replace hlt_ := Nat.le_trans hlt_ hs13.size
          replace hDV := hDV.gb hs13
          replace hDY := hDY.gb hs13
          replace ho4 := own_gb ho4 hs13
          replace ho5 := own_gb ho5 hs13
          replace hlo2 := Nat.le_trans hlo2 hs13.size
          have hlo3 : w12.heap.size ≤ w14.heap.size := hs13.size
          refine L_run (R_move rfl) rfl ?_
          refine L_run (R_extract rfl rfl) rfl ?_
          refine L_run (R_extract rfl rfl) rfl ?_
          refine L_run (R_assign rfl) rfl ?_
          refine L_run (R_assign rfl) rfl ?_
          refine L_nil (N_then (C_seq (C_reg rfl ?_)))
          refine L_run (R_field (r := 0) rfl fld29_0 rfl) rfl ?_
          refine L_run (R_loadA (vs := [.int .u64 (e : Int), .int .i64 seq, .int .i64 first, .int .i64 (hs 0), .int .i64 (hs 1), .int .i64 (hs 2), .int .i64 (hs 3)]) rfl agg25 (At.pre (hb3.at_ 0) rfl) rfl) rfl ?_
          refine L_run (R_field (r := 7) rfl fld29_1 rfl) rfl ?_
          refine L_run (R_load1 rfl scl26 (hb3.cell (i := 7) rfl)) rfl ?_
          refine L_run (R_move rfl) rfl ?_
          refine L_run (R_move rfl) rfl ?_
          refine L_run (R_build (pv := [(0, .agg #[.int .u64 (e : Int), .int .i64 seq, .int .i64 first, .int .i64 (hs 0), .int .i64 (hs 1), .int .i64 (hs 2), .int .i64 (hs 3)]), (1, .slice ra rs.length rc), (2, .slice A_5 ((lP (layT e (xsOf ls))).length) c_5), (3, .int .i64 ((lE (layT e (xsOf ls)) : Nat) : Int)), (4, .int .i64 1)]) (cs := [.int .u64 (e : Int), .int .i64 seq, .int .i64 first, .int .i64 (hs 0), .int .i64 (hs 1), .int .i64 (hs 2), .int .i64 (hs 3), .slice ra rs.length rc, .slice A_5 ((lP (layT e (xsOf ls))).length) c_5, .int .i64 ((lE (layT e (xsOf ls)) : Nat) : Int), .int .i64 1]) rfl (by kernel_rfl)) rfl ?_
          refine L_run (R_move rfl) rfl ?_
          refine L_stA (vs := [.int .u64 (e : Int), .int .i64 seq, .int .i64 first, .int .i64 (hs 0), .int .i64 (hs 1), .int .i64 (hs 2), .int .i64 (hs 3), .slice ra rs.length rc, .slice A_5 ((lP (layT e (xsOf ls))).length) c_5, .int .i64 ((lE (layT e (xsOf ls)) : Nat) : Int), .int .i64 1]) rfl rfl rfl sz29 rfl hb2 rfl ?_
          intro w15 hb8 hs14 hz8
          replace hB := gb_trg hB hs14 ge2
          replace hS := hS.old hs14 ge2
          replace hQ := hQ.far hs14 (by omega)
          replace hb3 := hb3.grown hs14 (ne_lt lt1)
          replace hol := own_other hol hb2 rfl hs14
          replace hlt_ := Nat.le_trans hlt_ hs14.size
          replace hDV := hDV.other hb2 rfl rfl hs14
          replace hDY := hDY.other hb2 rfl rfl hs14
          replace ho4 := own_other ho4 hb2 rfl hs14
          replace ho5 := own_other ho5 hb2 rfl hs14
          replace hlo2 := Nat.le_trans hlo2 hs14.size
          replace ho6 := own_other ho6 hb2 rfl hs14
          replace hlo3 := Nat.le_trans hlo3 hs14.size
          refine L_run (R_assign rfl) rfl ?_
          refine L_run (R_assign rfl) rfl ?_
          refine L_nil (N_then (C_ret ?_))
          refine retC2 (vs := [.int .u64 (e : Int), .int .i64 seq, .int .i64 first, .int .i64 (hs 0), .int .i64 (hs 1), .int .i64 (hs 2), .int .i64 (hs 3), .slice ra rs.length rc, .slice A_5 ((lP (layT e (xsOf ls))).length) c_5, .int .i64 ((lE (layT e (xsOf ls)) : Nat) : Int), .int .i64 1]) Tryd.results7 rfl agg29 (At.pre (hb8.at_ 0) rfl) rfl rfl rfl ?_
          have hs0 : (layT e (xsOf ls)).isSome = true := by first | exact h4 | exact not_f h4
          have hF_ : ∀ r ∈ rs, FitX r := by have q_ := (h3).2; rw [List.take_of_length_le (by omega)] at q_; exact q_
          refine ⟨hB, .inl ⟨⟨(h3).1, hF_, by rw [← hYY]; exact hs0⟩, A_5, A_6, c_5, c_6, ss1, ?_, ?_, (own_lo ho6 ge7), by rw [← hYY]; exact hw1⟩⟩
          · rw [← hYY]; rfl
          · rw [← hYY]; exact (own_lo ho5 ge6)

end Go.Proofs.YtbpjdcpfphnccaaDoor
