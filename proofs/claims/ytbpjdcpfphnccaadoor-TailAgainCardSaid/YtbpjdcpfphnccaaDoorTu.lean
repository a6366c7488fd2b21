/-
  Contracts of the package tail: a segment laid anew.
-/
import Derived.Test.YtbpjdcpfphnccaaDoorTt
namespace Go.Proofs.YtbpjdcpfphnccaaDoor
open Go.RowKit Gw Pl
set_option linter.unusedVariables false
set_option linter.unusedSimpArgs false
theorem agg33 : aggB Tryd.prog 33 11 = true := by kernel_rfl
theorem cb12 : callB Tryd.prog 12 = true := by kernel_rfl
theorem cb13 : callB Tryd.prog 13 = true := by kernel_rfl
theorem cb14 : callB Tryd.prog 14 = true := by kernel_rfl
theorem cb16 : callB Tryd.prog 16 = true := by kernel_rfl
theorem fld33_0 : fldB Tryd.prog 33 0 0 = true := by kernel_rfl
theorem fld33_1 : fldB Tryd.prog 33 1 7 = true := by kernel_rfl
theorem sz22 : szB Tryd.prog 22 1 = true := by kernel_rfl
theorem sz25 : szB Tryd.prog 25 7 = true := by kernel_rfl
theorem sz33 : szB Tryd.prog 33 11 = true := by kernel_rfl
theorem sz46 : szB Tryd.prog 46 1 = true := by kernel_rfl
theorem sz48 : szB Tryd.prog 48 5 = true := by kernel_rfl
theorem zer25 : (Tryd.prog.info? 25).bind (·.zero) = some (.agg #[.int .u64 0, .int .i64 0, .int .i64 0, .int .i64 0, .int .i64 0, .int .i64 0, .int .i64 0]) := by kernel_rfl
theorem zer46 : (Tryd.prog.info? 46).bind (·.zero) = some (.slice none 0 0) := by kernel_rfl
theorem zer48 : (Tryd.prog.info? 48).bind (·.zero) = some (.agg #[.int .i64 0, .int .i64 0, .int .i64 0, .int .i64 0, .slice none 0 0]) := by kernel_rfl
/-! ### a segment laid anew -/
def recYX (r : RecX) : List UInt8 := recY r.kind r.chain r.lsn r.prev r.xs
def FitX (r : RecX) : Prop := RecFit r.kind r.chain r.lsn r.prev r.xs
instance (r : RecX) : Decidable (FitX r) := by unfold FitX; infer_instance
def AgnOk (e : Nat) (seq first : Int) (hs : Nat → Int) (rs : List RecX) : Prop := OkH (e : Int) seq first hs ∧ (∀ r ∈ rs, FitX r) ∧ (layT e (rs.map recYX)).isSome = true
instance {e : Nat} {seq first : Int} {hs : Nat → Int} {rs : List RecX} : Decidable (AgnOk e seq first hs rs) := by unfold AgnOk; infer_instance
theorem addN_cen {e e' a : Nat} {b b' d : List UInt8} : (addN e b a d).map (fun r => r.2) = (addN e' b' a d).map (fun r => r.2) := by
  unfold addN
  generalize cutN a d.length = z
  cases z <;> simp only [Option.map_none, Option.map_some]
theorem not_f {b : Bool} (h : (!b) = false) : b = true := by
  cases b
  · cases h
  · rfl
theorem not_t {b : Bool} (h : (!b) = true) : b = false := by
  cases b
  · rfl
  · cases h
theorem lay_ep {e e' : Nat} : ∀ (l : List (List UInt8)) (b b' : List UInt8) (P : List Int) (en : Nat), (layN e l b P en).map (fun r => r.2) = (layN e' l b' P en).map (fun r => r.2)
  | [], b, b', P, en => rfl
  | d :: l, b, b', P, en => by
    have h := addN_cen (e := e) (e' := e') (a := en) (b := b) (b' := b') (d := d)
    rw [layN, layN]
    cases h1 : addN e b en d with
    | none =>
      cases h2 : addN e' b' en d with
      | none => rfl
      | some y => rw [h1, h2] at h; cases h
    | some x =>
      cases h2 : addN e' b' en d with
      | none => rw [h1, h2] at h; cases h
      | some y =>
        rw [h1, h2] at h
        have h3 : x.2 = y.2 := by simpa using h
        show (layN e l x.1 _ x.2).map _ = (layN e' l y.1 _ y.2).map _
        rw [h3]
        exact lay_ep l x.1 y.1 _ y.2
theorem layT_ep {e : Nat} {l : List (List UInt8)} : (layT 0 l).isSome = (layT e l).isSome ∧ lP (layT 0 l) = lP (layT e l) ∧ lE (layT 0 l) = lE (layT e l) := by
  have h := lay_ep (e := 0) (e' := e) l (List.replicate 832 0) (List.replicate 832 0) [] 0
  have h' : (layT 0 l).map (fun r => r.2) = (layT e l).map (fun r => r.2) := h
  cases h1 : layT 0 l with
  | none =>
    cases h2 : layT e l with
    | none => exact ⟨rfl, rfl, rfl⟩
    | some y => rw [h1, h2] at h'; cases h'
  | some x =>
    cases h2 : layT e l with
    | none => rw [h1, h2] at h'; cases h'
    | some y =>
      rw [h1, h2] at h'
      have h3 : x.2 = y.2 := by simpa using h'
      exact ⟨rfl, congrArg (fun z => z.1) h3, congrArg (fun z => z.2) h3⟩
theorem xsY_snoc {ls : List Bys} {rs : List RecX} {i : Nat} {y : Bys} (h : xsOf ls = (rs.take i).map recYX) (hi : i < rs.length) (hy : y.xs = recYX rs[i]) : xsOf (ls ++ [y]) = (rs.take (i + 1)).map recYX := by
  unfold xsOf at *
  rw [List.take_succ_eq_append_getElem hi, List.map_append, List.map_append, h, List.map_singleton, List.map_singleton, hy]
theorem fit_snoc {rs : List RecX} {i : Nat} (h : ∀ r ∈ rs.take i, FitX r) (hi : i < rs.length) (hy : FitX rs[i]) : ∀ r ∈ rs.take (i + 1), FitX r := by
  intro r hr
  rw [List.take_succ_eq_append_getElem hi] at hr
  rcases List.mem_append.1 hr with hr | hr
  · exact h r hr
  · rw [List.mem_singleton] at hr; subst hr; exact hy
theorem bys_snoc {ls : List Bys} {y : Bys} (h : ∀ y ∈ ls, y.xs.length ≤ 1000000 ∧ y.xs.length ≤ y.c) (hy : y.xs.length ≤ 1000000 ∧ y.xs.length ≤ y.c) : ∀ z ∈ ls ++ [y], z.xs.length ≤ 1000000 ∧ z.xs.length ≤ z.c := by
  intro z hz
  rcases List.mem_append.1 hz with hz | hz
  · exact h z hz
  · rw [List.mem_singleton] at hz; subst hz; exact hy
theorem recYX_len {r : RecX} : (recYX r).length ≤ 512 := recY_len
theorem no_hdr {e : Nat} {seq first : Int} {hs : Nat → Int} {rs : List RecX} (h : ¬ OkH (e : Int) seq first hs) : ¬ AgnOk e seq first hs rs := fun q => h q.1
theorem no_fit {e : Nat} {seq first : Int} {hs : Nat → Int} {rs : List RecX} {i : Nat} (hi : i < rs.length) (h : ¬ FitX rs[i]) : ¬ AgnOk e seq first hs rs := fun q => h (q.2.1 _ (List.getElem_mem hi))
theorem no_lay {e : Nat} {seq first : Int} {hs : Nat → Int} {rs : List RecX} (h : ¬ (layT e (rs.map recYX)).isSome = true) : ¬ AgnOk e seq first hs rs := fun q => h q.2.2
theorem again_ok {w : World} {t1 lo hi t2 lo2 hi2 e pn rc pc : Nat} {ra pa : Option Addr} {ep0 seq first en0 kind0 : Int} {hs : Nat → Int} {rs : List RecX} (hT : Tbw w) (hS : Sli t1 lo hi w ra (fl encRX rs)) (hQ : DeepX t2 lo2 hi2 w rs) (hl : rs.length ≤ 1000000) (hxl : ∀ r ∈ rs, r.xs.length ≤ 1000000) (he : e < 18446744073709551616) :
    Runs Tryd.prog 6 #[.agg #[.int .u64 ep0, .int .i64 seq, .int .i64 first, .int .i64 (hs 0), .int .i64 (hs 1), .int .i64 (hs 2), .int .i64 (hs 3), .slice ra rs.length rc, .slice pa pn pc, .int .i64 en0, .int .i64 kind0], .int .u64 (e : Int)] w (fun v w' => w.grownBy w' none ∧ ((AgnOk e seq first hs rs ∧ ∃ (rs2 : List RecX) (A1 A2 A3 : Option Addr) (c1 c2 c3 : Nat) (ss : List Sx), v = .tuple #[.agg #[.int .u64 (e : Int), .int .i64 seq, .int .i64 first, .int .i64 (hs 0), .int .i64 (hs 1), .int .i64 (hs 2), .int .i64 (hs 3), .slice A1 rs2.length c1, .slice A2 ((lP (layT e (rs.map recYX))).length) c2, .int .i64 ((lE (layT e (rs.map recYX)) : Nat) : Int), .int .i64 1], .slice A3 ss.length c3, .int .i64 0] ∧ RsEq rs2 rs ∧ World.ownsRow w' w.heap.size 48 5 (.slice A1 rs2.length c1) rs2.length (fl encRX rs2) ∧ DeepX 5 w.heap.size w'.heap.size w' rs2 ∧ World.ownsRow w' w.heap.size 3 1 (.slice A2 (lP (layT e (rs.map recYX))).length c2) (lP (layT e (rs.map recYX))).length (fl encZ (lP (layT e (rs.map recYX)))) ∧ World.ownsRow w' w.heap.size 62 64 (.slice A3 ss.length c3) ss.length (fl encX ss) ∧ bsOf ss = secsN e (rs.map recYX)) ∨ (¬ AgnOk e seq first hs rs ∧ v = .tuple #[.agg #[.int .u64 0, .int .i64 0, .int .i64 0, .int .i64 0, .int .i64 0, .int .i64 0, .int .i64 0, .slice none 0 0, .slice none 0 0, .int .i64 0, .int .i64 0], .slice none 0 0, .int .i64 13]))) := by
  have hB := gb_refl w none
  replace hQ := hQ.top
  replace hS := hS.top
  refine enter Tryd.func6 Tryd.ntmps6 rfl rfl ?_
  refine C_seq (C_reg rfl ?_)
  refine L_box (cs := [.int .u64 ep0, .int .i64 seq, .int .i64 first, .int .i64 (hs 0), .int .i64 (hs 1), .int .i64 (hs 2), .int .i64 (hs 3), .slice ra rs.length rc, .slice pa pn pc, .int .i64 en0, .int .i64 kind0]) rfl rfl rfl ?_
  intro g1 w1 eg1 hb1 hs1 hz1
  have ge1 : w.heap.size ≤ g1 := eg_ge hB eg1
  replace hB := gb_tr hB hs1
  replace hS := hS.gb hs1
  replace hQ := hQ.gb hs1
  refine L_alloc (cs := [.int .u64 0, .int .i64 0, .int .i64 0, .int .i64 0, .int .i64 0, .int .i64 0, .int .i64 0, .slice none 0 0, .slice none 0 0, .int .i64 0, .int .i64 0]) zer33 rfl rfl ?_
  intro g2 w2 eg2 hb2 hs2 hz2
  have ge2 : w.heap.size ≤ g2 := eg_ge hB eg2
  have lt1 : g1 < g2 := lt_of_eg hb1.lt eg2
  replace hB := gb_tr hB hs2
  replace hS := hS.gb hs2
  replace hQ := hQ.gb hs2
  replace hb1 := hb1.gb hs2
  refine L_run (R_assign rfl) rfl ?_
  refine L_run (R_assign rfl) rfl ?_
  refine L_nil (N_then (C_seq (C_reg rfl ?_)))
  refine L_run (R_field (r := 0) rfl fld33_0 rfl) rfl ?_
  refine L_run (R_loadA (vs := [.int .u64 ep0, .int .i64 seq, .int .i64 first, .int .i64 (hs 0), .int .i64 (hs 1), .int .i64 (hs 2), .int .i64 (hs 3)]) rfl agg25 (At.pre (hb1.at_ 0) rfl) rfl) rfl ?_
  refine L_alloc (cs := [.int .u64 0, .int .i64 0, .int .i64 0, .int .i64 0, .int .i64 0, .int .i64 0, .int .i64 0]) zer25 rfl rfl ?_
  intro g3 w3 eg3 hb3 hs3 hz3
  have ge3 : w.heap.size ≤ g3 := eg_ge hB eg3
  have lt2 : g1 < g3 := lt_of_eg hb1.lt eg3
  have lt3 : g2 < g3 := lt_of_eg hb2.lt eg3
  replace hB := gb_tr hB hs3
  replace hS := hS.gb hs3
  replace hQ := hQ.gb hs3
  replace hb1 := hb1.gb hs3
  replace hb2 := hb2.gb hs3
  refine L_stA (vs := [.int .u64 ep0, .int .i64 seq, .int .i64 first, .int .i64 (hs 0), .int .i64 (hs 1), .int .i64 (hs 2), .int .i64 (hs 3)]) rfl rfl rfl sz25 rfl hb3 rfl ?_
  intro w4 hb4 hs4 hz4
  replace hB := gb_trg hB hs4 ge3
  replace hS := hS.old hs4 ge3
  replace hQ := hQ.far hs4 (by omega)
  replace hb1 := hb1.grown hs4 (ne_lt lt2)
  replace hb2 := hb2.grown hs4 (ne_lt lt3)
  refine L_nil (N_then (C_seq (C_reg rfl ?_)))
  refine L_run (R_move rfl) rfl ?_
  refine L_run (R_field (r := 0) rfl fld25_0 rfl) rfl ?_
  refine L_st1 rfl rfl rfl sz22 hb4 rfl ?_
  intro w5 hb5 hs5 hz5
  replace hB := gb_trg hB hs5 ge3
  replace hS := hS.old hs5 ge3
  replace hQ := hQ.far hs5 (by omega)
  replace hb1 := hb1.grown hs5 (ne_lt lt2)
  replace hb2 := hb2.grown hs5 (ne_lt lt3)
  refine L_nil (N_then (C_seq (C_seq (C_reg rfl ?_))))
  refine L_run (R_loadA (vs := [.int .u64 (e : Int), .int .i64 seq, .int .i64 first, .int .i64 (hs 0), .int .i64 (hs 1), .int .i64 (hs 2), .int .i64 (hs 3)]) rfl agg25 (At.pre (hb5.at_ 0) rfl) rfl) rfl ?_
  refine L_call rfl cb12 (header_Right (ep := (e : Int)) (seq := seq) (first := first) (hs := hs)) rfl ?_
  rintro _ w6 ⟨hs6, rfl⟩
  replace hB := gb_tr hB hs6
  replace hS := hS.gb hs6
  replace hQ := hQ.gb hs6
  replace hb1 := hb1.gb hs6
  replace hb2 := hb2.gb hs6
  replace hb5 := hb5.gb hs6
  refine L_run (R_notD rfl) rfl ?_
  refine L_nil (N_then ?_)
  refine C_ifN rfl (fun h1 => ?_) (fun h1 => ?_)
  · refine C_seq (C_reg rfl ?_)
    refine L_run (R_build (pv := []) (cs := [.int .u64 0, .int .i64 0, .int .i64 0, .int .i64 0, .int .i64 0, .int .i64 0, .int .i64 0, .slice none 0 0, .slice none 0 0, .int .i64 0, .int .i64 0]) rfl (by kernel_rfl)) rfl ?_
    refine L_stA (vs := [.int .u64 0, .int .i64 0, .int .i64 0, .int .i64 0, .int .i64 0, .int .i64 0, .int .i64 0, .slice none 0 0, .slice none 0 0, .int .i64 0, .int .i64 0]) rfl rfl rfl sz33 rfl hb2 rfl ?_
    intro w7 hb6 hs7 hz6
    replace hB := gb_trg hB hs7 ge2
    replace hS := hS.old hs7 ge2
    replace hQ := hQ.far hs7 (by omega)
    replace hb1 := hb1.grown hs7 (ne_lt lt1)
    replace hb5 := hb5.grown hs7 (ne_gt lt3)
    refine L_run (R_assign rfl) rfl ?_
    refine L_run (R_assign rfl) rfl ?_
    refine L_nil (N_then (C_ret (R_then ?_)))
    refine retC2 (vs := [.int .u64 0, .int .i64 0, .int .i64 0, .int .i64 0, .int .i64 0, .int .i64 0, .int .i64 0, .slice none 0 0, .slice none 0 0, .int .i64 0, .int .i64 0]) Tryd.results6 rfl agg33 (At.pre (hb6.at_ 0) rfl) rfl rfl rfl ?_
    refine ⟨hB, .inr ⟨?_, rfl⟩⟩
    first | exact no_hdr (by assumption) | exact no_fit (show i < rs.length by omega) (fun h_ => absurd (hB.2 h_) (by assumption)) | (refine no_lay (fun h_ => ?_); rw [← (layT_ep (e := e)).1, ← hYY] at h_; simp_all)
  · refine C_skip (N_then (C_seq (C_reg rfl ?_)))
    refine L_run (R_assign rfl) rfl ?_
    refine L_nil (N_then (C_seq (C_reg rfl ?_)))
    refine L_run (R_assign rfl) rfl ?_
    refine L_nil (N_then (C_seq (C_seq (C_reg rfl ?_))))
    refine L_run (R_field (r := 7) rfl fld33_1 rfl) rfl ?_
    refine L_run (R_load1 rfl scl26 (hb1.cell (i := 7) rfl)) rfl ?_
    refine L_run (R_lenSl rfl slc26) rfl ?_
    refine L_run (R_move rfl) rfl ?_
    refine L_nil (N_then (C_block ?_))
    refine C_loop (fun m_ a_ w_ => ∃ (σ_ : Nat → Value) (ls : List Bys) (Al : Option Addr) (cl : Nat) (rs2 : List RecX) (Ar : Option Addr) (cr : Nat) (i : Nat), a_ = Ac 85 σ_ [] [(1, .int .u64 (e : Int)), (2, .pointer (some ⟨g1, 0, none⟩)), (4, .pointer (some ⟨g2, 0, none⟩)), (7, .pointer (some ⟨g3, 0, none⟩)), (8, .slice Al ls.length cl), (9, .slice Ar rs2.length cr), (30, .slice ra rs.length rc), (31, .int .i64 (rs.length : Int)), (32, .int .i64 (i : Int))] ∧ w.grownBy w_ none ∧ Sli t1 lo w.heap.size w_ ra (fl encRX rs) ∧ DeepX t2 lo2 w.heap.size w_ rs ∧ Blk w_ g1 33 [.int .u64 ep0, .int .i64 seq, .int .i64 first, .int .i64 (hs 0), .int .i64 (hs 1), .int .i64 (hs 2), .int .i64 (hs 3), .slice ra rs.length rc, .slice pa pn pc, .int .i64 en0, .int .i64 kind0] ∧ Blk w_ g2 33 [.int .u64 0, .int .i64 0, .int .i64 0, .int .i64 0, .int .i64 0, .int .i64 0, .int .i64 0, .slice none 0 0, .slice none 0 0, .int .i64 0, .int .i64 0] ∧ Blk w_ g3 25 [.int .u64 (e : Int), .int .i64 seq, .int .i64 first, .int .i64 (hs 0), .int .i64 (hs 1), .int .i64 (hs 2), .int .i64 (hs 3)] ∧ World.ownsRow w_ w.heap.size 46 1 (.slice Al ls.length cl) ls.length (fl encY ls) ∧ World.ownsRow w_ w.heap.size 48 5 (.slice Ar rs2.length cr) rs2.length (fl encRX rs2) ∧ DeepV 5 w.heap.size w_.heap.size w_ ls ∧ DeepX 5 w.heap.size w_.heap.size w_ rs2 ∧ (i ≤ rs.length) ∧ (xsOf ls = (rs.take i).map recYX) ∧ (∀ r ∈ rs.take i, FitX r) ∧ (RsEq rs2 (rs.take i)) ∧ (∀ y ∈ ls, y.xs.length ≤ 1000000 ∧ y.xs.length ≤ y.c) ∧ (ls.length = i) ∧ (rs2.length = i) ∧ rs.length - i = m_) (rs.length - 0) ?_ ?_
    · exact ⟨_, [], none, 0, [], none, 0, 0, Ac_frg ⟨rfl, rfl, rfl, rfl, (agr rfl (by first | rfl | (congr 1; omega) | (congr 1; simp; done) | (congr 1; simp only [IntKind.wrap_u64, IntKind.wrap_i64, IntKind.wrap_u8]; omega) | (congr 1 <;> omega))), (agr rfl (by first | rfl | (congr 1; omega) | (congr 1; simp; done) | (congr 1; simp only [IntKind.wrap_u64, IntKind.wrap_i64, IntKind.wrap_u8]; omega) | (congr 1 <;> omega))), rfl, rfl, (agr rfl (by first | rfl | (congr 1; omega) | (congr 1; simp; done) | (congr 1; simp only [IntKind.wrap_u64, IntKind.wrap_i64, IntKind.wrap_u8]; omega) | (congr 1 <;> omega))), trivial⟩, hB, hS, hQ, hb1, hb2, hb5, (own_nil _ _ _ _), (own_nil _ _ _ _), DeepV.nil, DeepX.nil, (by omega), rfl, (fun r hr => by cases hr), rfl, (fun y hy => by cases hy), rfl, rfl, rfl⟩
    · clear hB
      clear hS hQ hb1 hb2 hb5
      rintro m_ a_ w8 ⟨σ_, ls, Al, cl, rs2, Ar, cr, i, rfl, hB, hS, hQ, hb1, hb2, hb5, hol, hor, hDV, hDX, hi, hY, hF, hR, hds, hll, hlr, rfl⟩
      have hlt_ : w8.heap.size ≤ w8.heap.size := Nat.le_refl _
      refine C_seq (C_reg rfl ?_)
      refine L_run (R_lss rfl rfl) rfl ?_
      refine L_nil (N_then (C_seq ?_))
      refine C_if rfl (fun h2 => ?_) (fun h2 => ?_)
      · refine C_skip (N_then (C_seq (C_block (C_seq (C_reg rfl ?_)))))
        have hl1 : i < rs.length := by first | omega | (simp; omega)
        refine T_index (xs := rs) (i := i) EncRX rfl rfl (by first | rfl | omega) slc26 hl1 hS rfl ?_
        intro g4 o1 ha1
        refine L_run (R_loadA (vs := [.int .i64 ((rs[i]).kind), .int .i64 ((rs[i]).chain), .int .i64 ((rs[i]).lsn), .int .i64 ((rs[i]).prev), .slice ((rs[i]).a) ((rs[i]).xs.length) ((rs[i]).c)]) rfl agg48 (At.pre ha1 rfl) rfl) rfl ?_
        refine L_alloc (cs := [.int .i64 0, .int .i64 0, .int .i64 0, .int .i64 0, .slice none 0 0]) zer48 rfl rfl ?_
        intro g5 w9 eg4 hb7 hs8 hz7
        have ge4 : w.heap.size ≤ g5 := eg_ge hB eg4
        have lt4 : g1 < g5 := lt_of_eg hb1.lt eg4
        have lt5 : g2 < g5 := lt_of_eg hb2.lt eg4
        have lt6 : g3 < g5 := lt_of_eg hb5.lt eg4
        have hap1 : ∀ k_, (Value.slice Ar rs2.length cr).ownBlock = some k_ → k_ ≠ g5 := fun k_ hk => by have h_ := (World.ownsRow.lt hor k_ hk).2; omega
        replace hB := gb_tr hB hs8
        replace hS := hS.gb hs8
        replace hQ := hQ.gb hs8
        replace hb1 := hb1.gb hs8
        replace hb2 := hb2.gb hs8
        replace hb5 := hb5.gb hs8
        replace hol := own_gb hol hs8
        replace hor := own_gb hor hs8
        replace hlt_ := Nat.le_trans hlt_ hs8.size
        replace hDV := hDV.gb hs8
        replace hDX := hDX.gb hs8
        replace ha1 := At.gb ha1 hs8 (by simp)
        refine L_stA (vs := [.int .i64 ((rs[i]).kind), .int .i64 ((rs[i]).chain), .int .i64 ((rs[i]).lsn), .int .i64 ((rs[i]).prev), .slice ((rs[i]).a) ((rs[i]).xs.length) ((rs[i]).c)]) rfl rfl rfl sz48 rfl hb7 rfl ?_
        intro w10 hb8 hs9 hz8
        replace hB := gb_trg hB hs9 ge4
        replace hS := hS.old hs9 ge4
        replace hQ := hQ.far hs9 (by omega)
        replace hb1 := hb1.grown hs9 (ne_lt lt4)
        replace hb2 := hb2.grown hs9 (ne_lt lt5)
        replace hb5 := hb5.grown hs9 (ne_lt lt6)
        replace hol := own_other hol hb7 rfl hs9
        replace hor := hor.kept hs9 (.inr (fun e_ => hap1 _ e_ rfl))
        replace hlt_ := Nat.le_trans hlt_ hs9.size
        replace hDV := hDV.other hb7 rfl rfl hs9
        replace hDX := hDX.other hb7 rfl rfl hs9
        refine L_nil (N_then (C_seq (C_reg rfl ?_)))
        refine L_run (R_loadA (vs := [.int .i64 ((rs[i]).kind), .int .i64 ((rs[i]).chain), .int .i64 ((rs[i]).lsn), .int .i64 ((rs[i]).prev), .slice ((rs[i]).a) ((rs[i]).xs.length) ((rs[i]).c)]) rfl agg48 (At.pre (hb8.at_ 0) rfl) rfl) rfl ?_
        have ge5 : w.heap.size ≤ w10.heap.size := hB.size
        refine L_call rfl cb13 (renc_ok (kind := (rs[i]).kind) (chain := (rs[i]).chain) (lsn := (rs[i]).lsn) (prev := (rs[i]).prev) (xs := (rs[i]).xs) (hQ.get (i := i) (by first | assumption | omega | (simp; omega))) (hxl _ (List.getElem_mem (show i < rs.length by omega)))) rfl ?_
        rintro _ w11 ⟨hs10, A_1, c_1, E1, rfl, hft1, ho1⟩
        replace hB := gb_tr hB hs10
        replace hS := hS.gb hs10
        replace hQ := hQ.gb hs10
        replace hb1 := hb1.gb hs10
        replace hb2 := hb2.gb hs10
        replace hb5 := hb5.gb hs10
        replace hol := own_gb hol hs10
        replace hor := own_gb hor hs10
        replace hlt_ := Nat.le_trans hlt_ hs10.size
        replace hDV := hDV.gb hs10
        replace hDX := hDX.gb hs10
        replace hb8 := hb8.gb hs10
        have hlo1 : w10.heap.size ≤ w11.heap.size := hs10.size
        refine L_run (R_move rfl) rfl ?_
        refine L_run (R_extract rfl rfl) rfl ?_
        refine L_run (R_extract rfl rfl) rfl ?_
        refine L_run (R_assign rfl) rfl ?_
        refine L_run (R_assign rfl) rfl ?_
        refine L_nil (N_then (C_seq (C_seq (C_reg rfl ?_))))
        refine L_run (R_move rfl) rfl ?_
        refine L_run (R_neq rfl rfl) rfl ?_
        refine L_nil (N_then ?_)
        refine C_if rfl (fun h3 => ?_) (fun h3 => ?_)
        · refine C_seq (C_reg rfl ?_)
          refine L_run (R_build (pv := []) (cs := [.int .u64 0, .int .i64 0, .int .i64 0, .int .i64 0, .int .i64 0, .int .i64 0, .int .i64 0, .slice none 0 0, .slice none 0 0, .int .i64 0, .int .i64 0]) rfl (by kernel_rfl)) rfl ?_
          refine L_stA (vs := [.int .u64 0, .int .i64 0, .int .i64 0, .int .i64 0, .int .i64 0, .int .i64 0, .int .i64 0, .slice none 0 0, .slice none 0 0, .int .i64 0, .int .i64 0]) rfl rfl rfl sz33 rfl hb2 rfl ?_
          intro w12 hb9 hs11 hz9
          replace hB := gb_trg hB hs11 ge2
          replace hS := hS.old hs11 ge2
          replace hQ := hQ.far hs11 (by omega)
          replace hb1 := hb1.grown hs11 (ne_lt lt1)
          replace hb5 := hb5.grown hs11 (ne_gt lt3)
          replace hol := own_other hol hb2 rfl hs11
          replace hor := own_other hor hb2 rfl hs11
          replace hlt_ := Nat.le_trans hlt_ hs11.size
          replace hDV := hDV.other hb2 rfl rfl hs11
          replace hDX := hDX.other hb2 rfl rfl hs11
          replace hb8 := hb8.grown hs11 (ne_gt lt5)
          replace ho1 := own_other ho1 hb2 rfl hs11
          replace hlo1 := Nat.le_trans hlo1 hs11.size
          refine L_run (R_assign rfl) rfl ?_
          refine L_run (R_assign rfl) rfl ?_
          refine L_nil (N_then (C_ret (R_then (R_in (R_then (R_then (R_in (R_then ?_))))))))
          refine retC2 (vs := [.int .u64 0, .int .i64 0, .int .i64 0, .int .i64 0, .int .i64 0, .int .i64 0, .int .i64 0, .slice none 0 0, .slice none 0 0, .int .i64 0, .int .i64 0]) Tryd.results6 rfl agg33 (At.pre (hb9.at_ 0) rfl) rfl rfl rfl ?_
          refine ⟨hB, .inr ⟨?_, rfl⟩⟩
          first | exact no_hdr (by assumption) | exact no_fit (show i < rs.length by omega) (fun h_ => absurd (hft1.2 h_) (by assumption)) | (refine no_lay (fun h_ => ?_); rw [← (layT_ep (e := e)).1, ← hYY] at h_; simp_all)
        · refine C_skip (N_then (C_seq (C_reg rfl ?_)))
          have hfar1 : Sli 5 w.heap.size w11.heap.size w11 A_1 (fl encB (recY ((rs[i]).kind) ((rs[i]).chain) ((rs[i]).lsn) ((rs[i]).prev) ((rs[i]).xs))) := (own_of ho1).2.2.wide ge5 (Nat.le_refl _)
          have hcap_ := own_cap ho1
          refine L_buildSlice (pv := []) (cs := []) slc46 zer5 rfl rfl (by kernel_rfl) rfl ?_
          intro g6 w13 eg5 hb10 hs12 hz10
          have ge6 : w.heap.size ≤ g6 := eg_ge hB eg5
          have lt7 : g1 < g6 := lt_of_eg hb1.lt eg5
          have lt8 : g2 < g6 := lt_of_eg hb2.lt eg5
          have lt9 : g3 < g6 := lt_of_eg hb5.lt eg5
          have lt10 : g5 < g6 := lt_of_eg hb8.lt eg5
          replace hB := gb_tr hB hs12
          replace hS := hS.gb hs12
          replace hQ := hQ.gb hs12
          replace hb1 := hb1.gb hs12
          replace hb2 := hb2.gb hs12
          replace hb5 := hb5.gb hs12
          replace hol := own_gb hol hs12
          replace hor := own_gb hor hs12
          replace hlt_ := Nat.le_trans hlt_ hs12.size
          replace hDV := hDV.gb hs12
          replace hDX := hDX.gb hs12
          replace hb8 := hb8.gb hs12
          replace hlo1 := Nat.le_trans hlo1 hs12.size
          replace hfar1 := hfar1.gb hs12
          refine L_run (R_field (r := 4) rfl fld48_4 rfl) rfl ?_
          refine L_run (R_load1 rfl scl46 (hb8.cell (i := 4) rfl)) rfl ?_
          have hlo2 : g6 ≤ w13.heap.size := Nat.le_of_lt hb10.lt
          have ho2 : World.ownsRow w13 g6 5 1 (.slice (some ⟨g6, 0, none⟩) ([] : List UInt8).length 0) ([] : List UInt8).length (fl encB []) := Blk.own (sz := 1) (m := 0) hb10 (by decide) rfl (Nat.le_refl _)
          refine T_append (xs := []) (ys := (rs[i]).xs) EncB slc46 rfl rfl ho2 (hQ.get (i := i) (by first | assumption | omega | (simp; omega))) (by have h_ := hxl _ (List.getElem_mem (show i < rs.length by omega)); simp only [List.length_append, List.length_nil]; omega) hlo2 rfl ?_
          intro A_2 c_2 w14 ho3 hs13 hat1
          replace hB := gb_tro hB ho2 hs13 ge6
          replace hS := hS.grown hs13 (fun k hk => .inr (Nat.le_trans ge6 (World.ownsRow.lt ho2 k hk).1))
          replace hQ := hQ.farO ho2 (by omega) hs13
          replace hb1 := blk_own hb1 ho2 rfl hs13
          replace hb2 := blk_own hb2 ho2 rfl hs13
          replace hb5 := blk_own hb5 ho2 rfl hs13
          replace hol := hol.kept hs13 (own_type_ne' hol ho2 rfl)
          replace hor := hor.kept hs13 (own_type_ne' hor ho2 rfl)
          replace hlt_ := Nat.le_trans hlt_ hs13.size
          replace hDV := hDV.farO ho2 (by omega) hs13
          replace hDX := hDX.farO ho2 (by omega) hs13
          replace hb8 := blk_own hb8 ho2 rfl hs13
          replace hlo1 := Nat.le_trans hlo1 hs13.size
          replace hfar1 := hfar1.grown hs13 (fun k hk => by have := World.ownsRow.lt ho2 k hk; omega)
          replace hlo2 := Nat.le_trans hlo2 hs13.size
          simp only [List.nil_append] at ho3 ⊢
          refine L_run (R_field (r := 4) rfl fld48_4 rfl) rfl ?_
          refine L_st1 rfl rfl rfl sz46 hb8 rfl ?_
          intro w15 hb11 hs14 hz11
          replace hB := gb_trg hB hs14 ge4
          replace hS := hS.old hs14 ge4
          replace hQ := hQ.far hs14 (by omega)
          replace hb1 := hb1.grown hs14 (ne_lt lt4)
          replace hb2 := hb2.grown hs14 (ne_lt lt5)
          replace hb5 := hb5.grown hs14 (ne_lt lt6)
          replace hol := own_other hol hb8 rfl hs14
          replace hor := hor.kept hs14 (.inr (fun e_ => hap1 _ e_ rfl))
          replace hlt_ := Nat.le_trans hlt_ hs14.size
          replace hDV := hDV.other hb8 rfl rfl hs14
          replace hDX := hDX.other hb8 rfl rfl hs14
          replace hlo1 := Nat.le_trans hlo1 hs14.size
          replace hfar1 := hfar1.other hb8 rfl rfl hs14
          replace hlo2 := Nat.le_trans hlo2 hs14.size
          replace ho3 := own_other ho3 hb8 rfl hs14
          refine L_nil (N_then ?_)
          refine C_join (fun a_ w_ => (∃ (σ_ : Nat → Value) (A_3 : Option Addr) (c_3 : Nat) (A_4 : Option Addr) (c_4 : Nat), a_ = Ac 85 σ_ [] [(1, .int .u64 (e : Int)), (2, .pointer (some ⟨g1, 0, none⟩)), (4, .pointer (some ⟨g2, 0, none⟩)), (7, .pointer (some ⟨g3, 0, none⟩)), (8, .slice A_3 ((ls ++ ([(⟨A_1, c_1, (recY ((rs[i]).kind) ((rs[i]).chain) ((rs[i]).lsn) ((rs[i]).prev) ((rs[i]).xs))⟩ : Bys)])).length) c_3), (9, .slice A_4 ((rs2 ++ ([(⟨(rs[i]).kind, (rs[i]).chain, (rs[i]).lsn, (rs[i]).prev, A_2, c_2, ((rs[i]).xs)⟩ : RecX)])).length) c_4), (11, .pointer (some ⟨g5, 0, none⟩)), (12, .slice A_1 ((recY ((rs[i]).kind) ((rs[i]).chain) ((rs[i]).lsn) ((rs[i]).prev) ((rs[i]).xs)).length) c_1), (13, .int .i64 E1), (30, .slice ra rs.length rc), (31, .int .i64 (rs.length : Int)), (32, .int .i64 (i : Int)), (33, .bool (decide ((i : Int) < (rs.length : Int)))), (34, .pointer (some ⟨g4, o1, none⟩)), (35, .agg #[.int .i64 ((rs[i]).kind), .int .i64 ((rs[i]).chain), .int .i64 ((rs[i]).lsn), .int .i64 ((rs[i]).prev), .slice ((rs[i]).a) ((rs[i]).xs.length) ((rs[i]).c)]), (36, .tuple #[.slice A_1 ((recY ((rs[i]).kind) ((rs[i]).chain) ((rs[i]).lsn) ((rs[i]).prev) ((rs[i]).xs)).length) c_1, .int .i64 E1]), (37, .agg #[.int .i64 ((rs[i]).kind), .int .i64 ((rs[i]).chain), .int .i64 ((rs[i]).lsn), .int .i64 ((rs[i]).prev), .slice ((rs[i]).a) ((rs[i]).xs.length) ((rs[i]).c)]), (38, .tuple #[.slice A_1 ((recY ((rs[i]).kind) ((rs[i]).chain) ((rs[i]).lsn) ((rs[i]).prev) ((rs[i]).xs)).length) c_1, .int .i64 E1]), (39, .slice A_1 ((recY ((rs[i]).kind) ((rs[i]).chain) ((rs[i]).lsn) ((rs[i]).prev) ((rs[i]).xs)).length) c_1), (40, .int .i64 E1), (41, .int .i64 E1), (42, .bool (decide (E1 ≠ 0))), (44, .slice (some ⟨g6, 0, none⟩) 0 0), (45, .pointer (some ⟨g5, 4, none⟩)), (46, .slice ((rs[i]).a) ((rs[i]).xs.length) ((rs[i]).c)), (47, .slice A_2 (((rs[i]).xs).length) c_2), (48, .pointer (some ⟨g5, 4, none⟩))] ∧ w.grownBy w_ none ∧ Sli t1 lo w.heap.size w_ ra (fl encRX rs) ∧ DeepX t2 lo2 w.heap.size w_ rs ∧ Blk w_ g1 33 [.int .u64 ep0, .int .i64 seq, .int .i64 first, .int .i64 (hs 0), .int .i64 (hs 1), .int .i64 (hs 2), .int .i64 (hs 3), .slice ra rs.length rc, .slice pa pn pc, .int .i64 en0, .int .i64 kind0] ∧ Blk w_ g2 33 [.int .u64 0, .int .i64 0, .int .i64 0, .int .i64 0, .int .i64 0, .int .i64 0, .int .i64 0, .slice none 0 0, .slice none 0 0, .int .i64 0, .int .i64 0] ∧ Blk w_ g3 25 [.int .u64 (e : Int), .int .i64 seq, .int .i64 first, .int .i64 (hs 0), .int .i64 (hs 1), .int .i64 (hs 2), .int .i64 (hs 3)] ∧ DeepV 5 w.heap.size w8.heap.size w_ ls ∧ DeepX 5 w.heap.size w8.heap.size w_ rs2 ∧ Blk w_ g5 48 [.int .i64 ((rs[i]).kind), .int .i64 ((rs[i]).chain), .int .i64 ((rs[i]).lsn), .int .i64 ((rs[i]).prev), .slice A_2 (((rs[i]).xs).length) c_2] ∧ Sli 5 w.heap.size w11.heap.size w_ A_1 (fl encB (recY ((rs[i]).kind) ((rs[i]).chain) ((rs[i]).lsn) ((rs[i]).prev) ((rs[i]).xs))) ∧ World.ownsRow w_ w.heap.size 5 1 (.slice A_2 ((rs[i]).xs).length c_2) ((rs[i]).xs).length (fl encB ((rs[i]).xs)) ∧ World.ownsRow w_ w.heap.size 46 1 (.slice A_3 (ls ++ ([(⟨A_1, c_1, (recY ((rs[i]).kind) ((rs[i]).chain) ((rs[i]).lsn) ((rs[i]).prev) ((rs[i]).xs))⟩ : Bys)])).length c_3) (ls ++ ([(⟨A_1, c_1, (recY ((rs[i]).kind) ((rs[i]).chain) ((rs[i]).lsn) ((rs[i]).prev) ((rs[i]).xs))⟩ : Bys)])).length (fl encY (ls ++ ([(⟨A_1, c_1, (recY ((rs[i]).kind) ((rs[i]).chain) ((rs[i]).lsn) ((rs[i]).prev) ((rs[i]).xs))⟩ : Bys)]))) ∧ World.ownsRow w_ w.heap.size 48 5 (.slice A_4 (rs2 ++ ([(⟨(rs[i]).kind, (rs[i]).chain, (rs[i]).lsn, (rs[i]).prev, A_2, c_2, ((rs[i]).xs)⟩ : RecX)])).length c_4) (rs2 ++ ([(⟨(rs[i]).kind, (rs[i]).chain, (rs[i]).lsn, (rs[i]).prev, A_2, c_2, ((rs[i]).xs)⟩ : RecX)])).length (fl encRX (rs2 ++ ([(⟨(rs[i]).kind, (rs[i]).chain, (rs[i]).lsn, (rs[i]).prev, A_2, c_2, ((rs[i]).xs)⟩ : RecX)]))) ∧ (∀ k_, (Value.slice A_4 (rs2 ++ ([(⟨(rs[i]).kind, (rs[i]).chain, (rs[i]).lsn, (rs[i]).prev, A_2, c_2, ((rs[i]).xs)⟩ : RecX)])).length c_4).ownBlock = some k_ → k_ ≠ g5))) ?_ ?_
          · refine C_draw2 rfl mix ?_
            intro w16 hs15 hz12
            replace hB := gb_tr hB hs15
            replace hS := hS.gb hs15
            replace hQ := hQ.gb hs15
            replace hb1 := hb1.gb hs15
            replace hb2 := hb2.gb hs15
            replace hb5 := hb5.gb hs15
            replace hol := own_gb hol hs15
            replace hor := own_gb hor hs15
            replace hlt_ := Nat.le_trans hlt_ hs15.size
            replace hDV := hDV.gb hs15
            replace hDX := hDX.gb hs15
            replace hb11 := hb11.gb hs15
            replace hlo1 := Nat.le_trans hlo1 hs15.size
            replace hfar1 := hfar1.gb hs15
            replace hlo2 := Nat.le_trans hlo2 hs15.size
            replace ho3 := own_gb ho3 hs15
            refine ⟨fun W_ => Blk W_ g5 48 [.int .i64 ((rs[i]).kind), .int .i64 ((rs[i]).chain), .int .i64 ((rs[i]).lsn), .int .i64 ((rs[i]).prev), .slice A_2 (((rs[i]).xs).length) c_2] ∧ True, [0, 1, 4, 5, 8, 9], ?_⟩
            refine T_takeA (i := 0) rfl rfl (by kernel_rfl) (by kernel_rfl) (by kernel_rfl) (Y_of (fun _ ⟨hb11, _⟩ => R_move rfl)) ⟨hb11, trivial⟩ rfl ?_
            refine T_takeA (i := 1) rfl rfl (by kernel_rfl) (by kernel_rfl) (by kernel_rfl) (Y_of (fun _ ⟨hb11, _⟩ => R_move rfl)) ⟨hb11, trivial⟩ rfl ?_
            refine T_takeA (i := 4) rfl rfl (by kernel_rfl) (by kernel_rfl) (by kernel_rfl) (Y_of (fun _ ⟨hb11, _⟩ => R_move rfl)) ⟨hb11, trivial⟩ rfl ?_
            refine T_takeA (i := 5) rfl rfl (by kernel_rfl) (by kernel_rfl) (by kernel_rfl) (Y_of (fun _ ⟨hb11, _⟩ => R_loadA (vs := [.int .i64 ((rs[i]).kind), .int .i64 ((rs[i]).chain), .int .i64 ((rs[i]).lsn), .int .i64 ((rs[i]).prev), .slice A_2 (((rs[i]).xs).length) c_2]) rfl agg48 (At.pre (hb11.at_ 0) rfl) rfl)) ⟨hb11, trivial⟩ rfl ?_
            refine T_all (rs := [2, 6]) (by kernel_rfl) rfl (all2 (O_one rfl ?_) (O_one rfl ?_))
            · refine L_buildSlice (pv := [(0, .slice A_1 ((recY ((rs[i]).kind) ((rs[i]).chain) ((rs[i]).lsn) ((rs[i]).prev) ((rs[i]).xs)).length) c_1)]) (cs := [.slice A_1 ((recY ((rs[i]).kind) ((rs[i]).chain) ((rs[i]).lsn) ((rs[i]).prev) ((rs[i]).xs)).length) c_1]) slc50 zer46 rfl rfl (by kernel_rfl) rfl ?_
              intro g7 w17 eg6 hb12 hs16 hz13
              have ge7 : w.heap.size ≤ g7 := eg_ge hB eg6
              have lt11 : g1 < g7 := lt_of_eg hb1.lt eg6
              have lt12 : g2 < g7 := lt_of_eg hb2.lt eg6
              have lt13 : g3 < g7 := lt_of_eg hb5.lt eg6
              have lt14 : g5 < g7 := lt_of_eg hb11.lt eg6
              have hap2 : ∀ k_, (Value.slice Al ls.length cl).ownBlock = some k_ → k_ ≠ g7 := fun k_ hk => by have h_ := (World.ownsRow.lt hol k_ hk).2; omega
              replace hB := gb_tr hB hs16
              replace hS := hS.gb hs16
              replace hQ := hQ.gb hs16
              replace hb1 := hb1.gb hs16
              replace hb2 := hb2.gb hs16
              replace hb5 := hb5.gb hs16
              replace hol := own_gb hol hs16
              replace hor := own_gb hor hs16
              replace hlt_ := Nat.le_trans hlt_ hs16.size
              replace hDV := hDV.gb hs16
              replace hDX := hDX.gb hs16
              replace hb11 := hb11.gb hs16
              replace hlo1 := Nat.le_trans hlo1 hs16.size
              replace hfar1 := hfar1.gb hs16
              replace hlo2 := Nat.le_trans hlo2 hs16.size
              replace ho3 := own_gb ho3 hs16
              refine L_nil (N_then ⟨fun hN_ => ⟨hb11, trivial⟩, ?_⟩)
              refine T_all (rs := [3, 6]) (by kernel_rfl) rfl (all2 (O_one rfl ?_) (O_one rfl ?_))
              · refine T_append (xs := ls) (ys := [(⟨A_1, c_1, (recY ((rs[i]).kind) ((rs[i]).chain) ((rs[i]).lsn) ((rs[i]).prev) ((rs[i]).xs))⟩ : Bys)]) EncY slc50 rfl rfl hol (Blk.sli (m := 0) hb12) (by simp only [List.length_append, List.length_cons, List.length_nil]; omega) (by have := hB.size; omega) rfl ?_
                intro A_3 c_3 w18 ho4 hs17 hat2
                replace hB := gb_tro hB hol hs17 (Nat.le_refl _)
                replace hS := hS.grown hs17 (fun k hk => .inr (Nat.le_trans (Nat.le_refl _) (World.ownsRow.lt hol k hk).1))
                replace hQ := hQ.farO hol (by omega) hs17
                replace hb1 := blk_own hb1 hol rfl hs17
                replace hb2 := blk_own hb2 hol rfl hs17
                replace hb5 := blk_own hb5 hol rfl hs17
                replace hor := hor.kept hs17 (own_type_ne' hor hol rfl)
                replace hlt_ := Nat.le_trans hlt_ hs17.size
                replace hDV := hDV.otherO hol rfl rfl hs17
                replace hDX := hDX.otherO hol rfl rfl hs17
                replace hb11 := blk_own hb11 hol rfl hs17
                replace hlo1 := Nat.le_trans hlo1 hs17.size
                replace hfar1 := hfar1.otherO hol rfl rfl hs17
                replace hlo2 := Nat.le_trans hlo2 hs17.size
                replace ho3 := ho3.kept hs17 (own_type_ne' ho3 hol rfl)
                refine L_nil (N_then ⟨fun hN_ => ⟨hb11, trivial⟩, ?_⟩)
                refine T_all (rs := [6]) (by kernel_rfl) rfl (all1 (O_one rfl ?_))
                refine L_buildSlice (pv := [(0, .agg #[.int .i64 ((rs[i]).kind), .int .i64 ((rs[i]).chain), .int .i64 ((rs[i]).lsn), .int .i64 ((rs[i]).prev), .slice A_2 (((rs[i]).xs).length) c_2])]) (cs := [.int .i64 ((rs[i]).kind), .int .i64 ((rs[i]).chain), .int .i64 ((rs[i]).lsn), .int .i64 ((rs[i]).prev), .slice A_2 (((rs[i]).xs).length) c_2]) slc26 zer48 rfl rfl (by kernel_rfl) rfl ?_
                intro g8 w19 eg7 hb13 hs18 hz14
                have ge8 : w.heap.size ≤ g8 := eg_ge hB eg7
                have lt15 : g1 < g8 := lt_of_eg hb1.lt eg7
                have lt16 : g2 < g8 := lt_of_eg hb2.lt eg7
                have lt17 : g3 < g8 := lt_of_eg hb5.lt eg7
                have lt18 : g5 < g8 := lt_of_eg hb11.lt eg7
                have hap3 : ∀ k_, (Value.slice Ar rs2.length cr).ownBlock = some k_ → k_ ≠ g8 := fun k_ hk => by have h_ := (World.ownsRow.lt hor k_ hk).2; omega
                replace hB := gb_tr hB hs18
                replace hS := hS.gb hs18
                replace hQ := hQ.gb hs18
                replace hb1 := hb1.gb hs18
                replace hb2 := hb2.gb hs18
                replace hb5 := hb5.gb hs18
                replace hor := own_gb hor hs18
                replace hlt_ := Nat.le_trans hlt_ hs18.size
                replace hDV := hDV.gb hs18
                replace hDX := hDX.gb hs18
                replace hb11 := hb11.gb hs18
                replace hlo1 := Nat.le_trans hlo1 hs18.size
                replace hfar1 := hfar1.gb hs18
                replace hlo2 := Nat.le_trans hlo2 hs18.size
                replace ho3 := own_gb ho3 hs18
                replace ho4 := own_gb ho4 hs18
                refine L_nil (N_then ⟨fun hN_ => ⟨hb11, trivial⟩, ?_⟩)
                refine T_all (rs := [7]) (by kernel_rfl) rfl (all1 (O_one rfl ?_))
                refine T_append (xs := rs2) (ys := [(⟨(rs[i]).kind, (rs[i]).chain, (rs[i]).lsn, (rs[i]).prev, A_2, c_2, ((rs[i]).xs)⟩ : RecX)]) EncRX slc26 rfl rfl hor (Blk.sli (m := 0) hb13) (by simp only [List.length_append, List.length_cons, List.length_nil]; omega) (by have := hB.size; omega) rfl ?_
                intro A_4 c_4 w20 ho5 hs19 hat3
                have lt19 := hb11.lt
                replace hB := gb_tro hB hor hs19 (Nat.le_refl _)
                replace hS := hS.grown hs19 (fun k hk => .inr (Nat.le_trans (Nat.le_refl _) (World.ownsRow.lt hor k hk).1))
                replace hQ := hQ.farO hor (by omega) hs19
                replace hb1 := blk_own hb1 hor rfl hs19
                replace hb2 := blk_own hb2 hor rfl hs19
                replace hb5 := blk_own hb5 hor rfl hs19
                replace hlt_ := Nat.le_trans hlt_ hs19.size
                replace hDV := hDV.otherO hor rfl rfl hs19
                replace hDX := hDX.otherO hor rfl rfl hs19
                replace hb11 := hb11.grown hs19 (fun e_ => hap1 _ e_.symm rfl)
                replace hlo1 := Nat.le_trans hlo1 hs19.size
                replace hfar1 := hfar1.otherO hor rfl rfl hs19
                replace hlo2 := Nat.le_trans hlo2 hs19.size
                replace ho3 := ho3.kept hs19 (own_type_ne' ho3 hor rfl)
                replace ho4 := ho4.kept hs19 (own_type_ne' ho4 hor rfl)
                have hap4 : ∀ k_, (Value.slice A_4 (rs2 ++ ([(⟨(rs[i]).kind, (rs[i]).chain, (rs[i]).lsn, (rs[i]).prev, A_2, c_2, ((rs[i]).xs)⟩ : RecX)])).length c_4).ownBlock = some k_ → k_ ≠ g5 := fun k_ hk => by rcases hat3 with h_ | h_ <;> rw [h_] at hk <;> first | exact hap1 k_ hk | (injection hk with hk; omega)
                refine L_nil (N_then ⟨fun hN_ => ⟨hb11, trivial⟩, ?_⟩)
                refine T_takeA (i := 8) rfl rfl (by kernel_rfl) (by kernel_rfl) (by kernel_rfl) (Y_of (fun _ ⟨hb11, _⟩ => R_assign rfl)) ⟨hb11, trivial⟩ rfl ?_
                refine T_takeA (i := 9) rfl rfl (by kernel_rfl) (by kernel_rfl) (by kernel_rfl) (Y_of (fun _ ⟨hb11, _⟩ => R_assign rfl)) ⟨hb11, trivial⟩ rfl ?_
                refine T_done (by kernel_rfl) (CalmE.normal ?_)
                exact ⟨rfl, ⟨_, A_3, c_3, A_4, c_4, Ac_frg ⟨rfl, rfl, rfl, rfl, rfl, rfl, rfl, rfl, rfl, rfl, rfl, rfl, rfl, rfl, rfl, rfl, rfl, rfl, rfl, rfl, rfl, rfl, rfl, rfl, rfl, rfl, rfl, trivial⟩, hB, hS, hQ, hb1, hb2, hb5, hDV, hDX, hb11, hfar1, (own_lo ho3 ge6), ho4, ho5, hap4⟩⟩
              · refine L_buildSlice (pv := [(0, .agg #[.int .i64 ((rs[i]).kind), .int .i64 ((rs[i]).chain), .int .i64 ((rs[i]).lsn), .int .i64 ((rs[i]).prev), .slice A_2 (((rs[i]).xs).length) c_2])]) (cs := [.int .i64 ((rs[i]).kind), .int .i64 ((rs[i]).chain), .int .i64 ((rs[i]).lsn), .int .i64 ((rs[i]).prev), .slice A_2 (((rs[i]).xs).length) c_2]) slc26 zer48 rfl rfl (by kernel_rfl) rfl ?_
                intro g9 w21 eg8 hb14 hs20 hz15
                have ge9 : w.heap.size ≤ g9 := eg_ge hB eg8
                have lt20 : g1 < g9 := lt_of_eg hb1.lt eg8
                have lt21 : g2 < g9 := lt_of_eg hb2.lt eg8
                have lt22 : g3 < g9 := lt_of_eg hb5.lt eg8
                have lt23 : g5 < g9 := lt_of_eg hb11.lt eg8
                have lt24 : g7 < g9 := lt_of_eg hb12.lt eg8
                have hap5 : ∀ k_, (Value.slice Ar rs2.length cr).ownBlock = some k_ → k_ ≠ g9 := fun k_ hk => by have h_ := (World.ownsRow.lt hor k_ hk).2; omega
                replace hB := gb_tr hB hs20
                replace hS := hS.gb hs20
                replace hQ := hQ.gb hs20
                replace hb1 := hb1.gb hs20
                replace hb2 := hb2.gb hs20
                replace hb5 := hb5.gb hs20
                replace hol := own_gb hol hs20
                replace hor := own_gb hor hs20
                replace hlt_ := Nat.le_trans hlt_ hs20.size
                replace hDV := hDV.gb hs20
                replace hDX := hDX.gb hs20
                replace hb11 := hb11.gb hs20
                replace hlo1 := Nat.le_trans hlo1 hs20.size
                replace hfar1 := hfar1.gb hs20
                replace hlo2 := Nat.le_trans hlo2 hs20.size
                replace ho3 := own_gb ho3 hs20
                replace hb12 := hb12.gb hs20
                refine L_nil (N_then ⟨fun hN_ => ⟨hb11, trivial⟩, ?_⟩)
                refine T_all (rs := [3]) (by kernel_rfl) rfl (all1 (O_one rfl ?_))
                refine T_append (xs := ls) (ys := [(⟨A_1, c_1, (recY ((rs[i]).kind) ((rs[i]).chain) ((rs[i]).lsn) ((rs[i]).prev) ((rs[i]).xs))⟩ : Bys)]) EncY slc50 rfl rfl hol (Blk.sli (m := 0) hb12) (by simp only [List.length_append, List.length_cons, List.length_nil]; omega) (by have := hB.size; omega) rfl ?_
                intro A_5 c_5 w22 ho6 hs21 hat4
                replace hB := gb_tro hB hol hs21 (Nat.le_refl _)
                replace hS := hS.grown hs21 (fun k hk => .inr (Nat.le_trans (Nat.le_refl _) (World.ownsRow.lt hol k hk).1))
                replace hQ := hQ.farO hol (by omega) hs21
                replace hb1 := blk_own hb1 hol rfl hs21
                replace hb2 := blk_own hb2 hol rfl hs21
                replace hb5 := blk_own hb5 hol rfl hs21
                replace hor := hor.kept hs21 (own_type_ne' hor hol rfl)
                replace hlt_ := Nat.le_trans hlt_ hs21.size
                replace hDV := hDV.otherO hol rfl rfl hs21
                replace hDX := hDX.otherO hol rfl rfl hs21
                replace hb11 := blk_own hb11 hol rfl hs21
                replace hlo1 := Nat.le_trans hlo1 hs21.size
                replace hfar1 := hfar1.otherO hol rfl rfl hs21
                replace hlo2 := Nat.le_trans hlo2 hs21.size
                replace ho3 := ho3.kept hs21 (own_type_ne' ho3 hol rfl)
                replace hb14 := blk_own hb14 hol rfl hs21
                refine L_nil (N_then ⟨fun hN_ => ⟨hb11, trivial⟩, ?_⟩)
                refine T_all (rs := [7]) (by kernel_rfl) rfl (all1 (O_one rfl ?_))
                refine T_append (xs := rs2) (ys := [(⟨(rs[i]).kind, (rs[i]).chain, (rs[i]).lsn, (rs[i]).prev, A_2, c_2, ((rs[i]).xs)⟩ : RecX)]) EncRX slc26 rfl rfl hor (Blk.sli (m := 0) hb14) (by simp only [List.length_append, List.length_cons, List.length_nil]; omega) (by have := hB.size; omega) rfl ?_
                intro A_6 c_6 w23 ho7 hs22 hat5
                have lt25 := hb11.lt
                replace hB := gb_tro hB hor hs22 (Nat.le_refl _)
                replace hS := hS.grown hs22 (fun k hk => .inr (Nat.le_trans (Nat.le_refl _) (World.ownsRow.lt hor k hk).1))
                replace hQ := hQ.farO hor (by omega) hs22
                replace hb1 := blk_own hb1 hor rfl hs22
                replace hb2 := blk_own hb2 hor rfl hs22
                replace hb5 := blk_own hb5 hor rfl hs22
                replace hlt_ := Nat.le_trans hlt_ hs22.size
                replace hDV := hDV.otherO hor rfl rfl hs22
                replace hDX := hDX.otherO hor rfl rfl hs22
                replace hb11 := hb11.grown hs22 (fun e_ => hap1 _ e_.symm rfl)
                replace hlo1 := Nat.le_trans hlo1 hs22.size
                replace hfar1 := hfar1.otherO hor rfl rfl hs22
                replace hlo2 := Nat.le_trans hlo2 hs22.size
                replace ho3 := ho3.kept hs22 (own_type_ne' ho3 hor rfl)
                replace ho6 := ho6.kept hs22 (own_type_ne' ho6 hor rfl)
                have hap6 : ∀ k_, (Value.slice A_6 (rs2 ++ ([(⟨(rs[i]).kind, (rs[i]).chain, (rs[i]).lsn, (rs[i]).prev, A_2, c_2, ((rs[i]).xs)⟩ : RecX)])).length c_6).ownBlock = some k_ → k_ ≠ g5 := fun k_ hk => by rcases hat5 with h_ | h_ <;> rw [h_] at hk <;> first | exact hap1 k_ hk | (injection hk with hk; omega)
                refine L_nil (N_then ⟨fun hN_ => ⟨hb11, trivial⟩, ?_⟩)
                refine T_takeA (i := 8) rfl rfl (by kernel_rfl) (by kernel_rfl) (by kernel_rfl) (Y_of (fun _ ⟨hb11, _⟩ => R_assign rfl)) ⟨hb11, trivial⟩ rfl ?_
                refine T_takeA (i := 9) rfl rfl (by kernel_rfl) (by kernel_rfl) (by kernel_rfl) (Y_of (fun _ ⟨hb11, _⟩ => R_assign rfl)) ⟨hb11, trivial⟩ rfl ?_
                refine T_done (by kernel_rfl) (CalmE.normal ?_)
                exact ⟨rfl, ⟨_, A_5, c_5, A_6, c_6, Ac_frg ⟨rfl, rfl, rfl, rfl, rfl, rfl, rfl, rfl, rfl, rfl, rfl, rfl, rfl, rfl, rfl, rfl, rfl, rfl, rfl, rfl, rfl, rfl, rfl, rfl, rfl, rfl, rfl, trivial⟩, hB, hS, hQ, hb1, hb2, hb5, hDV, hDX, hb11, hfar1, (own_lo ho3 ge6), ho6, ho7, hap6⟩⟩
            · refine L_buildSlice (pv := [(0, .agg #[.int .i64 ((rs[i]).kind), .int .i64 ((rs[i]).chain), .int .i64 ((rs[i]).lsn), .int .i64 ((rs[i]).prev), .slice A_2 (((rs[i]).xs).length) c_2])]) (cs := [.int .i64 ((rs[i]).kind), .int .i64 ((rs[i]).chain), .int .i64 ((rs[i]).lsn), .int .i64 ((rs[i]).prev), .slice A_2 (((rs[i]).xs).length) c_2]) slc26 zer48 rfl rfl (by kernel_rfl) rfl ?_
              intro g10 w24 eg9 hb15 hs23 hz16
              have ge10 : w.heap.size ≤ g10 := eg_ge hB eg9
              have lt26 : g1 < g10 := lt_of_eg hb1.lt eg9
              have lt27 : g2 < g10 := lt_of_eg hb2.lt eg9
              have lt28 : g3 < g10 := lt_of_eg hb5.lt eg9
              have lt29 : g5 < g10 := lt_of_eg hb11.lt eg9
              have hap7 : ∀ k_, (Value.slice Ar rs2.length cr).ownBlock = some k_ → k_ ≠ g10 := fun k_ hk => by have h_ := (World.ownsRow.lt hor k_ hk).2; omega
              replace hB := gb_tr hB hs23
              replace hS := hS.gb hs23
              replace hQ := hQ.gb hs23
              replace hb1 := hb1.gb hs23
              replace hb2 := hb2.gb hs23
              replace hb5 := hb5.gb hs23
              replace hol := own_gb hol hs23
              replace hor := own_gb hor hs23
              replace hlt_ := Nat.le_trans hlt_ hs23.size
              replace hDV := hDV.gb hs23
              replace hDX := hDX.gb hs23
              replace hb11 := hb11.gb hs23
              replace hlo1 := Nat.le_trans hlo1 hs23.size
              replace hfar1 := hfar1.gb hs23
              replace hlo2 := Nat.le_trans hlo2 hs23.size
              replace ho3 := own_gb ho3 hs23
              refine L_nil (N_then ⟨fun hN_ => ⟨hb11, trivial⟩, ?_⟩)
              refine T_all (rs := [2]) (by kernel_rfl) rfl (all1 (O_one rfl ?_))
              refine L_buildSlice (pv := [(0, .slice A_1 ((recY ((rs[i]).kind) ((rs[i]).chain) ((rs[i]).lsn) ((rs[i]).prev) ((rs[i]).xs)).length) c_1)]) (cs := [.slice A_1 ((recY ((rs[i]).kind) ((rs[i]).chain) ((rs[i]).lsn) ((rs[i]).prev) ((rs[i]).xs)).length) c_1]) slc50 zer46 rfl rfl (by kernel_rfl) rfl ?_
              intro g11 w25 eg10 hb16 hs24 hz17
              have ge11 : w.heap.size ≤ g11 := eg_ge hB eg10
              have lt30 : g1 < g11 := lt_of_eg hb1.lt eg10
              have lt31 : g2 < g11 := lt_of_eg hb2.lt eg10
              have lt32 : g3 < g11 := lt_of_eg hb5.lt eg10
              have lt33 : g5 < g11 := lt_of_eg hb11.lt eg10
              have lt34 : g10 < g11 := lt_of_eg hb15.lt eg10
              have hap8 : ∀ k_, (Value.slice Al ls.length cl).ownBlock = some k_ → k_ ≠ g11 := fun k_ hk => by have h_ := (World.ownsRow.lt hol k_ hk).2; omega
              replace hB := gb_tr hB hs24
              replace hS := hS.gb hs24
              replace hQ := hQ.gb hs24
              replace hb1 := hb1.gb hs24
              replace hb2 := hb2.gb hs24
              replace hb5 := hb5.gb hs24
              replace hol := own_gb hol hs24
              replace hor := own_gb hor hs24
              replace hlt_ := Nat.le_trans hlt_ hs24.size
              replace hDV := hDV.gb hs24
              replace hDX := hDX.gb hs24
              replace hb11 := hb11.gb hs24
              replace hlo1 := Nat.le_trans hlo1 hs24.size
              replace hfar1 := hfar1.gb hs24
              replace hlo2 := Nat.le_trans hlo2 hs24.size
              replace ho3 := own_gb ho3 hs24
              replace hb15 := hb15.gb hs24
              refine L_nil (N_then ⟨fun hN_ => ⟨hb11, trivial⟩, ?_⟩)
              refine T_all (rs := [3]) (by kernel_rfl) rfl (all1 (O_one rfl ?_))
              refine T_append (xs := ls) (ys := [(⟨A_1, c_1, (recY ((rs[i]).kind) ((rs[i]).chain) ((rs[i]).lsn) ((rs[i]).prev) ((rs[i]).xs))⟩ : Bys)]) EncY slc50 rfl rfl hol (Blk.sli (m := 0) hb16) (by simp only [List.length_append, List.length_cons, List.length_nil]; omega) (by have := hB.size; omega) rfl ?_
              intro A_7 c_7 w26 ho8 hs25 hat6
              replace hB := gb_tro hB hol hs25 (Nat.le_refl _)
              replace hS := hS.grown hs25 (fun k hk => .inr (Nat.le_trans (Nat.le_refl _) (World.ownsRow.lt hol k hk).1))
              replace hQ := hQ.farO hol (by omega) hs25
              replace hb1 := blk_own hb1 hol rfl hs25
              replace hb2 := blk_own hb2 hol rfl hs25
              replace hb5 := blk_own hb5 hol rfl hs25
              replace hor := hor.kept hs25 (own_type_ne' hor hol rfl)
              replace hlt_ := Nat.le_trans hlt_ hs25.size
              replace hDV := hDV.otherO hol rfl rfl hs25
              replace hDX := hDX.otherO hol rfl rfl hs25
              replace hb11 := blk_own hb11 hol rfl hs25
              replace hlo1 := Nat.le_trans hlo1 hs25.size
              replace hfar1 := hfar1.otherO hol rfl rfl hs25
              replace hlo2 := Nat.le_trans hlo2 hs25.size
              replace ho3 := ho3.kept hs25 (own_type_ne' ho3 hol rfl)
              replace hb15 := blk_own hb15 hol rfl hs25
              refine L_nil (N_then ⟨fun hN_ => ⟨hb11, trivial⟩, ?_⟩)
              refine T_all (rs := [7]) (by kernel_rfl) rfl (all1 (O_one rfl ?_))
              refine T_append (xs := rs2) (ys := [(⟨(rs[i]).kind, (rs[i]).chain, (rs[i]).lsn, (rs[i]).prev, A_2, c_2, ((rs[i]).xs)⟩ : RecX)]) EncRX slc26 rfl rfl hor (Blk.sli (m := 0) hb15) (by simp only [List.length_append, List.length_cons, List.length_nil]; omega) (by have := hB.size; omega) rfl ?_
              intro A_8 c_8 w27 ho9 hs26 hat7
              have lt35 := hb11.lt
              replace hB := gb_tro hB hor hs26 (Nat.le_refl _)
              replace hS := hS.grown hs26 (fun k hk => .inr (Nat.le_trans (Nat.le_refl _) (World.ownsRow.lt hor k hk).1))
              replace hQ := hQ.farO hor (by omega) hs26
              replace hb1 := blk_own hb1 hor rfl hs26
              replace hb2 := blk_own hb2 hor rfl hs26
              replace hb5 := blk_own hb5 hor rfl hs26
              replace hlt_ := Nat.le_trans hlt_ hs26.size
              replace hDV := hDV.otherO hor rfl rfl hs26
              replace hDX := hDX.otherO hor rfl rfl hs26
              replace hb11 := hb11.grown hs26 (fun e_ => hap1 _ e_.symm rfl)
              replace hlo1 := Nat.le_trans hlo1 hs26.size
              replace hfar1 := hfar1.otherO hor rfl rfl hs26
              replace hlo2 := Nat.le_trans hlo2 hs26.size
              replace ho3 := ho3.kept hs26 (own_type_ne' ho3 hor rfl)
              replace ho8 := ho8.kept hs26 (own_type_ne' ho8 hor rfl)
              have hap9 : ∀ k_, (Value.slice A_8 (rs2 ++ ([(⟨(rs[i]).kind, (rs[i]).chain, (rs[i]).lsn, (rs[i]).prev, A_2, c_2, ((rs[i]).xs)⟩ : RecX)])).length c_8).ownBlock = some k_ → k_ ≠ g5 := fun k_ hk => by rcases hat7 with h_ | h_ <;> rw [h_] at hk <;> first | exact hap1 k_ hk | (injection hk with hk; omega)
              refine L_nil (N_then ⟨fun hN_ => ⟨hb11, trivial⟩, ?_⟩)
              refine T_takeA (i := 8) rfl rfl (by kernel_rfl) (by kernel_rfl) (by kernel_rfl) (Y_of (fun _ ⟨hb11, _⟩ => R_assign rfl)) ⟨hb11, trivial⟩ rfl ?_
              refine T_takeA (i := 9) rfl rfl (by kernel_rfl) (by kernel_rfl) (by kernel_rfl) (Y_of (fun _ ⟨hb11, _⟩ => R_assign rfl)) ⟨hb11, trivial⟩ rfl ?_
              refine T_done (by kernel_rfl) (CalmE.normal ?_)
              exact ⟨rfl, ⟨_, A_7, c_7, A_8, c_8, Ac_frg ⟨rfl, rfl, rfl, rfl, rfl, rfl, rfl, rfl, rfl, rfl, rfl, rfl, rfl, rfl, rfl, rfl, rfl, rfl, rfl, rfl, rfl, rfl, rfl, rfl, rfl, rfl, rfl, trivial⟩, hB, hS, hQ, hb1, hb2, hb5, hDV, hDX, hb11, hfar1, (own_lo ho3 ge6), ho8, ho9, hap9⟩⟩
          · clear hB
            clear hS hQ hb1 hb2 hb5 hol hor hlt_ hDV hDX hb11 hlo1 hfar1 hlo2 ho3
            rintro a_ w28 ⟨σ_, A_3, c_3, A_4, c_4, rfl, hB, hS, hQ, hb1, hb2, hb5, hDV, hDX, hb11, hfar1, ho3, hj1, hj2, ap1⟩
            refine N_in (N_then (C_reg rfl ?_))
            refine L_run (R_add64 rfl rfl (by omega)) rfl ?_
            refine L_run (R_move rfl) rfl ?_
            refine L_nil (N_then ?_)
            have hft_ : FitX rs[i] := hft1.1 (by omega)
            exact ⟨rs.length - (i + 1), by omega, _, ls ++ ([(⟨A_1, c_1, (recY ((rs[i]).kind) ((rs[i]).chain) ((rs[i]).lsn) ((rs[i]).prev) ((rs[i]).xs))⟩ : Bys)]), A_3, c_3, rs2 ++ ([(⟨(rs[i]).kind, (rs[i]).chain, (rs[i]).lsn, (rs[i]).prev, A_2, c_2, ((rs[i]).xs)⟩ : RecX)]), A_4, c_4, (i + 1), Ac_frg ⟨rfl, rfl, rfl, rfl, rfl, rfl, rfl, rfl, (agr rfl (by first | rfl | (congr 1; omega) | (congr 1; simp; done) | (congr 1; simp only [IntKind.wrap_u64, IntKind.wrap_i64, IntKind.wrap_u8]; omega) | (congr 1 <;> omega))), trivial⟩, hB, hS, hQ, hb1, hb2, hb5, (own_lo hj1 (Nat.le_refl _)), (own_lo hj2 (Nat.le_refl _)), (hDV.snoc (y := (⟨A_1, c_1, (recY ((rs[i]).kind) ((rs[i]).chain) ((rs[i]).lsn) ((rs[i]).prev) ((rs[i]).xs))⟩ : Bys)) hfar1 (Nat.le_refl _)), (hDX.snoc (y := (⟨(rs[i]).kind, (rs[i]).chain, (rs[i]).lsn, (rs[i]).prev, A_2, c_2, ((rs[i]).xs)⟩ : RecX)) (own_of ho3).2.2 (Nat.le_refl _)), (by omega), (xsY_snoc (y := (⟨A_1, c_1, (recY ((rs[i]).kind) ((rs[i]).chain) ((rs[i]).lsn) ((rs[i]).prev) ((rs[i]).xs))⟩ : Bys)) hY (by omega) rfl), (fit_snoc hF (by omega) hft_), (hR.snoc (y := (⟨(rs[i]).kind, (rs[i]).chain, (rs[i]).lsn, (rs[i]).prev, A_2, c_2, ((rs[i]).xs)⟩ : RecX)) (by omega) rfl), (bys_snoc (y := (⟨A_1, c_1, (recY ((rs[i]).kind) ((rs[i]).chain) ((rs[i]).lsn) ((rs[i]).prev) ((rs[i]).xs))⟩ : Bys)) hds ⟨Nat.le_trans recYX_len (by decide), hcap_⟩), (by simp only [List.length_append, List.length_cons, List.length_nil]; omega), (by simp only [List.length_append, List.length_cons, List.length_nil]; omega), rfl⟩
      · refine C_exit (X_then (X_then (X_hit (N_then (C_seq (C_reg rfl ?_))))))
        refine L_run (R_move rfl) rfl ?_
        have hYY : xsOf ls = rs.map recYX := by rw [hY, List.take_of_length_le (by omega)]
        have hDY := hDV.y
        have ge12 : w.heap.size ≤ w8.heap.size := hB.size
        refine L_call rfl cb14 (places_ok (ls := ls) (hT.gb hB) (own_of hol).2.2 hDY (by omega) hds) rfl ?_
        rintro _ w29 ⟨hs27, A_9, c_9, rfl, ho10⟩
        replace hB := gb_tr hB hs27
        replace hS := hS.gb hs27
        replace hQ := hQ.gb hs27
        replace hb1 := hb1.gb hs27
        replace hb2 := hb2.gb hs27
        replace hb5 := hb5.gb hs27
        replace hol := own_gb hol hs27
        replace hor := own_gb hor hs27
        replace hlt_ := Nat.le_trans hlt_ hs27.size
        replace hDV := hDV.gb hs27
        replace hDX := hDX.gb hs27
        replace hDY := hDY.gb hs27
        have hlo3 : w8.heap.size ≤ w29.heap.size := hs27.size
        refine L_run (R_move rfl) rfl ?_
        refine L_run (R_extract rfl rfl) rfl ?_
        refine L_run (R_extract rfl rfl) rfl ?_
        refine L_run (R_assign rfl) rfl ?_
        refine L_run (R_assign rfl) rfl ?_
        refine L_nil (N_then (C_seq (C_seq (C_reg rfl ?_))))
        refine L_run (R_move rfl) rfl ?_
        refine L_run (R_not rfl) rfl ?_
        refine L_nil (N_then ?_)
        refine C_cond rfl (fun h4 => ?_) (fun h4 => ?_)
        · refine C_seq (C_reg rfl ?_)
          refine L_run (R_build (pv := []) (cs := [.int .u64 0, .int .i64 0, .int .i64 0, .int .i64 0, .int .i64 0, .int .i64 0, .int .i64 0, .slice none 0 0, .slice none 0 0, .int .i64 0, .int .i64 0]) rfl (by kernel_rfl)) rfl ?_
          refine L_stA (vs := [.int .u64 0, .int .i64 0, .int .i64 0, .int .i64 0, .int .i64 0, .int .i64 0, .int .i64 0, .slice none 0 0, .slice none 0 0, .int .i64 0, .int .i64 0]) rfl rfl rfl sz33 rfl hb2 rfl ?_
          intro w30 hb17 hs28 hz18
          replace hB := gb_trg hB hs28 ge2
          replace hS := hS.old hs28 ge2
          replace hQ := hQ.far hs28 (by omega)
          replace hb1 := hb1.grown hs28 (ne_lt lt1)
          replace hb5 := hb5.grown hs28 (ne_gt lt3)
          replace hol := own_other hol hb2 rfl hs28
          replace hor := own_other hor hb2 rfl hs28
          replace hlt_ := Nat.le_trans hlt_ hs28.size
          replace hDV := hDV.other hb2 rfl rfl hs28
          replace hDX := hDX.other hb2 rfl rfl hs28
          replace hDY := hDY.other hb2 rfl rfl hs28
          replace ho10 := own_other ho10 hb2 rfl hs28
          replace hlo3 := Nat.le_trans hlo3 hs28.size
          refine L_run (R_assign rfl) rfl ?_
          refine L_run (R_assign rfl) rfl ?_
          refine L_nil (N_then (C_ret (R_then ?_)))
          refine retC2 (vs := [.int .u64 0, .int .i64 0, .int .i64 0, .int .i64 0, .int .i64 0, .int .i64 0, .int .i64 0, .slice none 0 0, .slice none 0 0, .int .i64 0, .int .i64 0]) Tryd.results6 rfl agg33 (At.pre (hb17.at_ 0) rfl) rfl rfl rfl ?_
          refine ⟨hB, .inr ⟨?_, rfl⟩⟩
          have hn_ : (layT 0 (xsOf ls)).isSome = false := by first | exact h4 | exact Bool.eq_false_of_not_eq_true h4 | exact not_t h4
          exact no_lay (fun h_ => by rw [← (layT_ep (e := e)).1, ← hYY, hn_] at h_; cases h_)
        · refine C_skip (N_then (C_seq (C_reg rfl ?_)))
          refine L_run (R_move rfl) rfl ?_
          refine L_run (R_move rfl) rfl ?_
          have ge13 : w.heap.size ≤ w29.heap.size := hB.size
          refine L_call rfl cb15 (body_ok (e := e) (ls := ls) (hT.gb hB) (own_of hol).2.2 hDY (by omega) hds) rfl ?_
          rintro _ w31 ⟨hs29, A_10, c_10, rfl, ho11⟩
          replace hB := gb_tr hB hs29
          replace hS := hS.gb hs29
          replace hQ := hQ.gb hs29
          replace hb1 := hb1.gb hs29
          replace hb2 := hb2.gb hs29
          replace hb5 := hb5.gb hs29
          replace hol := own_gb hol hs29
          replace hor := own_gb hor hs29
          replace hlt_ := Nat.le_trans hlt_ hs29.size
          replace hDV := hDV.gb hs29
          replace hDX := hDX.gb hs29
          replace hDY := hDY.gb hs29
          replace ho10 := own_gb ho10 hs29
          replace hlo3 := Nat.le_trans hlo3 hs29.size
          have hlo4 : w29.heap.size ≤ w31.heap.size := hs29.size
          refine L_run (R_move rfl) rfl ?_
          refine L_run (R_extract rfl rfl) rfl ?_
          refine L_run (R_extract rfl rfl) rfl ?_
          refine L_run (R_extract rfl rfl) rfl ?_
          refine L_run (R_assign rfl) rfl ?_
          refine L_run (R_assign rfl) rfl ?_
          refine L_run (R_assign rfl) rfl ?_
          refine L_nil (N_then (C_seq (C_reg rfl ?_)))
          refine L_run (R_move rfl) rfl ?_
          refine L_run (R_move rfl) rfl ?_
          have ge14 : w.heap.size ≤ w31.heap.size := hB.size
          refine L_call rfl cb16 (isectors_ok (hT := hT.gb hB) (e := e) (ls := ls) (own_of hol).2.2 hDY (by omega) hds he) rfl ?_
          rintro _ w32 ⟨hs30, ss1, A_11, c_11, rfl, ho12, hw1⟩
          replace hB := gb_tr hB hs30
          replace hS := hS.gb hs30
          replace hQ := hQ.gb hs30
          replace hb1 := hb1.gb hs30
          replace hb2 := hb2.gb hs30
          replace hb5 := hb5.gb hs30
          replace hol := own_gb hol hs30
          replace hor := own_gb hor hs30
          replace hlt_ := Nat.le_trans hlt_ hs30.size
          replace hDV := hDV.gb hs30
          replace hDX := hDX.gb hs30
          replace hDY := hDY.gb hs30
          replace ho10 := own_gb ho10 hs30
          replace hlo3 := Nat.le_trans hlo3 hs30.size
          replace ho11 := own_gb ho11 hs30
          replace hlo4 := Nat.le_trans hlo4 hs30.size
          have hlo5 : w31.heap.size ≤ w32.heap.size := hs30.size
          refine L_run (R_move rfl) rfl ?_
          refine L_run (R_extract rfl rfl) rfl ?_
          refine L_run (R_extract rfl rfl) rfl ?_
          refine L_run (R_assign rfl) rfl ?_
          refine L_run (R_assign rfl) rfl ?_
          refine L_nil (N_then (C_seq (C_reg rfl ?_)))
          refine L_run (R_loadA (vs := [.int .u64 (e : Int), .int .i64 seq, .int .i64 first, .int .i64 (hs 0), .int .i64 (hs 1), .int .i64 (hs 2), .int .i64 (hs 3)]) rfl agg25 (At.pre (hb5.at_ 0) rfl) rfl) rfl ?_
          refine L_run (R_move rfl) rfl ?_
          refine L_run (R_move rfl) rfl ?_
          refine L_run (R_move rfl) rfl ?_
          refine L_run (R_build (pv := [(0, .agg #[.int .u64 (e : Int), .int .i64 seq, .int .i64 first, .int .i64 (hs 0), .int .i64 (hs 1), .int .i64 (hs 2), .int .i64 (hs 3)]), (1, .slice Ar rs2.length cr), (2, .slice A_9 ((lP (layT 0 (xsOf ls))).length) c_9), (3, .int .i64 ((lE (layT e (xsOf ls)) : Nat) : Int)), (4, .int .i64 1)]) (cs := [.int .u64 (e : Int), .int .i64 seq, .int .i64 first, .int .i64 (hs 0), .int .i64 (hs 1), .int .i64 (hs 2), .int .i64 (hs 3), .slice Ar rs2.length cr, .slice A_9 ((lP (layT 0 (xsOf ls))).length) c_9, .int .i64 ((lE (layT e (xsOf ls)) : Nat) : Int), .int .i64 1]) rfl (by kernel_rfl)) rfl ?_
          refine L_run (R_move rfl) rfl ?_
          refine L_stA (vs := [.int .u64 (e : Int), .int .i64 seq, .int .i64 first, .int .i64 (hs 0), .int .i64 (hs 1), .int .i64 (hs 2), .int .i64 (hs 3), .slice Ar rs2.length cr, .slice A_9 ((lP (layT 0 (xsOf ls))).length) c_9, .int .i64 ((lE (layT e (xsOf ls)) : Nat) : Int), .int .i64 1]) rfl rfl rfl sz33 rfl hb2 rfl ?_
          intro w33 hb18 hs31 hz19
          replace hB := gb_trg hB hs31 ge2
          replace hS := hS.old hs31 ge2
          replace hQ := hQ.far hs31 (by omega)
          replace hb1 := hb1.grown hs31 (ne_lt lt1)
          replace hb5 := hb5.grown hs31 (ne_gt lt3)
          replace hol := own_other hol hb2 rfl hs31
          replace hor := own_other hor hb2 rfl hs31
          replace hlt_ := Nat.le_trans hlt_ hs31.size
          replace hDV := hDV.other hb2 rfl rfl hs31
          replace hDX := hDX.other hb2 rfl rfl hs31
          replace hDY := hDY.other hb2 rfl rfl hs31
          replace ho10 := own_other ho10 hb2 rfl hs31
          replace hlo3 := Nat.le_trans hlo3 hs31.size
          replace ho11 := own_other ho11 hb2 rfl hs31
          replace hlo4 := Nat.le_trans hlo4 hs31.size
          replace ho12 := own_other ho12 hb2 rfl hs31
          replace hlo5 := Nat.le_trans hlo5 hs31.size
          refine L_run (R_assign rfl) rfl ?_
          refine L_run (R_assign rfl) rfl ?_
          refine L_nil (N_then (C_ret ?_))
          refine retC2 (vs := [.int .u64 (e : Int), .int .i64 seq, .int .i64 first, .int .i64 (hs 0), .int .i64 (hs 1), .int .i64 (hs 2), .int .i64 (hs 3), .slice Ar rs2.length cr, .slice A_9 ((lP (layT 0 (xsOf ls))).length) c_9, .int .i64 ((lE (layT e (xsOf ls)) : Nat) : Int), .int .i64 1]) Tryd.results6 rfl agg33 (At.pre (hb18.at_ 0) rfl) rfl rfl rfl ?_
          have hs0 : (layT 0 (xsOf ls)).isSome = true := by first | exact h4 | exact not_f h4
          have hE := layT_ep (e := e) (l := xsOf ls)
          have hR_ : RsEq rs2 rs := by have q_ := hR; rw [List.take_of_length_le (by omega)] at q_; exact q_
          have hF_ : ∀ r ∈ rs, FitX r := by have q_ := hF; rw [List.take_of_length_le (by omega)] at q_; exact q_
          refine ⟨hB, .inl ⟨⟨by assumption, hF_, by rw [← hYY, ← hE.1]; exact hs0⟩, rs2, Ar, A_9, A_11, cr, c_9, c_11, ss1, ?_, hR_, (own_lo hor (Nat.le_refl _)), hDX.top, ?_, (own_lo ho12 ge14), by rw [← hYY]; exact hw1⟩⟩
          · rw [← hYY, ← hE.2.1]; rfl
          · rw [← hYY, ← hE.2.1]; exact (own_lo ho10 ge12)

end Go.Proofs.YtbpjdcpfphnccaaDoor
