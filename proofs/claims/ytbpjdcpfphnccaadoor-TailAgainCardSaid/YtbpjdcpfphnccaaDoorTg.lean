/-
  Contracts of the reference of images: a record laid.
-/
import Derived.Test.YtbpjdcpfphnccaaDoorTf
namespace Go.Proofs.YtbpjdcpfphnccaaDoor
open Go.RowKit Gw Pl
set_option linter.unusedVariables false
set_option linter.unusedSimpArgs false
theorem cb41 : callB Tryd.prog 41 = true := by kernel_rfl
theorem cb42 : callB Tryd.prog 42 = true := by kernel_rfl
theorem fld89_0 : fldB Tryd.prog 89 0 0 = true := by kernel_rfl
theorem fld89_2 : fldB Tryd.prog 89 2 2 = true := by kernel_rfl
theorem fld89_3 : fldB Tryd.prog 89 3 3 = true := by kernel_rfl
theorem mix : Tryd.prog.follows .mixedOrders = true := by kernel_rfl
/-! ### records laid -/
def fragB (k ep : Nat) (d : List UInt8) : List UInt8 := putN (maskN (moreN 0 (((putN d.length 2 ++ [UInt8.ofNat k]) ++ putN ep 4) ++ d))) 4 ++ (((putN d.length 2 ++ [UInt8.ofNat k]) ++ putN ep 4) ++ d)
theorem fragB_len {k ep : Nat} {d : List UInt8} : (fragB k ep d).length = 11 + d.length := by simp only [fragB, List.length_append, putN_len, List.length_cons, List.length_nil]; omega
def padI (b : List UInt8) (i : Nat) : List UInt8 := b.take i ++ List.replicate (832 - i) 0
def padN (b : List UInt8) : List UInt8 := padI b (min b.length 832)
theorem padI_len {b : List UInt8} {i : Nat} (h1 : i ≤ b.length) (h2 : i ≤ 832) : (padI b i).length = 832 := by simp only [padI, List.length_append, List.length_take, List.length_replicate]; omega
theorem padI_set {b : List UInt8} {i : Nat} (h1 : i < b.length) (h2 : i < 832) : (padI b i).set i b[i] = padI b (i + 1) := by
  unfold padI
  rw [List.set_append_right _ _ (by rw [List.length_take]; omega), List.length_take, Nat.min_eq_left (by omega), Nat.sub_self, show 832 - i = (832 - (i + 1)) + 1 by omega, List.replicate_succ, List.set_cons_zero, List.take_succ_eq_append_getElem h1, List.append_assoc]
  rfl
theorem padN_len {b : List UInt8} : (padN b).length = 832 := padI_len (by omega) (by omega)
theorem padN_full {b : List UInt8} (h : b.length = 832) : padN b = b := by
  unfold padN padI
  rw [h, List.take_of_length_le (by omega)]; simp
theorem spl_set {X b : List UInt8} {o q : Nat} (hq : q < b.length) (h : o + b.length ≤ X.length) : (spl X o (b.take q)).set (o + q) b[q] = spl X o (b.take (q + 1)) := by
  unfold spl
  have h1 : (X.take o ++ b.take q).length = o + q := by rw [List.length_append, List.length_take, List.length_take]; omega
  rw [List.set_append_right _ _ (by omega), h1, Nat.sub_self, List.length_take, Nat.min_eq_left (by omega), List.length_take, Nat.min_eq_left (by omega), List.drop_eq_getElem_cons (by omega : o + q < X.length), List.set_cons_zero, List.take_succ_eq_append_getElem hq]
  simp only [List.append_assoc, List.singleton_append, Nat.add_assoc]
theorem spl_lenQ {X b : List UInt8} {o q : Nat} (h : o + b.length ≤ X.length) : (spl X o (b.take q)).length = X.length := spl_len (by rw [List.length_take]; omega)
def layP (e : Nat) (d : List UInt8) (X : List UInt8) (p : Nat × Nat × Nat × Nat) : List UInt8 := spl X p.1 (fragB p.2.1 (e % 4294967296) ((d.drop p.2.2.1).take (p.2.2.2 - p.2.2.1)))
def layI (e : Nat) (b d : List UInt8) (ps : List (Nat × Nat × Nat × Nat)) (i : Nat) : List UInt8 := (ps.take i).foldl (layP e d) (padN b)
theorem piece_fit {e n i : Nat} {d X : List UInt8} {ps : List (Nat × Nat × Nat × Nat)} (h : POk n ps) (hd : d.length = n) (hi : i < ps.length) (hX : X.length = 832) : ps[i].1 + (fragB ps[i].2.1 (e % 4294967296) ((d.drop ps[i].2.2.1).take (ps[i].2.2.2 - ps[i].2.2.1))).length ≤ X.length := by
  have := h.get hi
  rw [fragB_len, List.length_take, List.length_drop]
  omega
theorem layI_succ {e i : Nat} {b d : List UInt8} {ps : List (Nat × Nat × Nat × Nat)} (hi : i < ps.length) : layI e b d ps (i + 1) = layP e d (layI e b d ps i) ps[i] := by
  unfold layI
  rw [List.take_succ_eq_append_getElem hi, List.foldl_append]
  rfl
theorem layI_len {e n : Nat} {b d : List UInt8} {ps : List (Nat × Nat × Nat × Nat)} (h : POk n ps) (hd : d.length = n) : ∀ i, i ≤ ps.length → (layI e b d ps i).length = 832
  | 0, _ => by simp [layI, padN_len]
  | i + 1, hi => by
    have ih := layI_len (e := e) (b := b) h hd i (by omega)
    rw [layI_succ (by omega)]
    unfold layP
    rw [spl_len (piece_fit h hd (by omega) ih)]
    exact ih
def addN (e : Nat) (b : List UInt8) (a : Nat) (d : List UInt8) : Option (List UInt8 × Nat) := (cutN a d.length).map fun r => (layI e b d r.1 r.1.length, r.2)
def aB : Option (List UInt8 × Nat) → List UInt8
  | some r => r.1
  | none => []
theorem addN_ok {e a : Nat} {b d : List UInt8} (ha : a ≤ 832) (h : (addN e b a d).isSome = true) : (aB (addN e b a d)).length = 832 ∧ cen (addN e b a d) ≤ 832 := by
  unfold addN at *
  cases hc : cutN a d.length with
  | none => rw [hc] at h; cases h
  | some r =>
    have := cutN_ok ha hc
    exact ⟨layI_len this.1 rfl _ (Nat.le_refl _), this.2⟩
/-- The laid body, the places, the end. -/
def layN (e : Nat) : List (List UInt8) → List UInt8 → List Int → Nat → Option (List UInt8 × List Int × Nat)
  | [], b, P, en => some (b, P, en)
  | d :: r, b, P, en => match addN e b en d with
    | some x => layN e r x.1 (P ++ [((beginN en : Nat) : Int)]) x.2
    | none => none
def lB : Option (List UInt8 × List Int × Nat) → List UInt8
  | some r => r.1
  | none => []
def lP : Option (List UInt8 × List Int × Nat) → List Int
  | some r => r.2.1
  | none => []
def lE : Option (List UInt8 × List Int × Nat) → Nat
  | some r => r.2.2
  | none => 0
theorem lay_no {e en : Nat} {d : List UInt8} {r : List (List UInt8)} {b : List UInt8} {P : List Int} (h : (addN e b en d).isSome = false) : layN e (d :: r) b P en = none := by
  unfold layN
  cases hx : addN e b en d with
  | none => rfl
  | some x => rw [hx] at h; cases h
theorem lay_go {e en : Nat} {d : List UInt8} {r : List (List UInt8)} {b : List UInt8} {P : List Int} (h : (addN e b en d).isSome = true) : layN e (d :: r) b P en = layN e r (aB (addN e b en d)) (P ++ [((beginN en : Nat) : Int)]) (cen (addN e b en d)) := by
  rw [layN]
  cases hx : addN e b en d with
  | none => rw [hx] at h; cases h
  | some x => rfl
def layT (e : Nat) (l : List (List UInt8)) : Option (List UInt8 × List Int × Nat) := layN e l (List.replicate 832 0) [] 0
def secN (e : Nat) (b : List UInt8) (k i : Nat) : List UInt8 := if i < k then sealN e i ((b.drop (52 * i)).take 52) else List.replicate 64 0
def wholeN (e : Nat) (b : List UInt8) (en : Nat) : List (List UInt8) := (List.range 16).map (secN e b (touchN (min 0 832) (min en 832)).2)
theorem room_go {b : List UInt8} {o k : Nat} (h1 : o ≤ k) (hk : k < b.length) : (b.drop o).take (k - o) ++ [b[k]] = (b.drop o).take (k + 1 - o) := by
  have hl : k - o < (b.drop o).length := by rw [List.length_drop]; omega
  rw [show k + 1 - o = (k - o) + 1 by omega, List.take_succ_eq_append_getElem hl]
  congr 2
  rw [List.getElem_drop]
  congr 1
  omega
theorem secs_go {e i k : Nat} {b : List UInt8} {ss : List Sx} {s : Sx} (h : bsOf ss = (List.range i).map (secN e b k)) (hs : s.b = secN e b k i) : bsOf (ss ++ [s]) = (List.range (i + 1)).map (secN e b k) := by
  rw [List.range_succ, List.map_append, ← h, List.map_singleton, ← hs]
  simp [bsOf]
def xsOf (ls : List Bys) : List (List UInt8) := ls.map (·.xs)
theorem map_drop {ls : List Bys} {i : Nat} (h : i < ls.length) : xsOf (ls.drop i) = ls[i].xs :: xsOf (ls.drop (i + 1)) := by
  rw [List.drop_eq_getElem_cons h]; rfl
theorem add17_ok {w : World} {t1 lo hi t2 lo2 hi2 : Nat} {A A2 : Option Addr} {c c2 e a : Nat} {body data : List UInt8} (hS : Sli t1 lo hi w A (fl encB body)) (hD : Sli t2 lo2 hi2 w A2 (fl encB data)) (hd : data.length ≤ 1000000) (hc2 : data.length ≤ c2) (ha : a ≤ 832) :
    Runs Tryd.prog 30 #[.int .u64 (e : Int), .slice A body.length c, .int .i64 (a : Int), .slice A2 data.length c2] w (fun v w' => w.grownBy w' none ∧ ∃ A' c', v = .tuple #[.slice A' (aB (addN e body a data)).length c', .int .i64 ((cen (addN e body a data) : Nat) : Int), .bool ((addN e body a data)).isSome] ∧ World.ownsRow w' w.heap.size 5 1 (.slice A' (aB (addN e body a data)).length c') (aB (addN e body a data)).length (fl encB (aB (addN e body a data)))) := by
  have hB := gb_refl w none
  have hPO : POk data.length (cps (cutN a data.length)) := by
    cases hcu : cutN a data.length with
    | none => intro p hp; cases hp
    | some r_ => exact (cutN_ok ha hcu).1
  have hPL : (cps (cutN a data.length)).length ≤ 833 := by
    cases hcu : cutN a data.length with
    | none => exact Nat.zero_le _
    | some r_ => exact cutN_len hcu
  replace hS := hS.top
  replace hD := hD.top
  refine enter Tryd.func30 Tryd.ntmps30 rfl rfl ?_
  refine C_seq (C_reg rfl ?_)
  refine L_run (R_assign rfl) rfl ?_
  refine L_run (R_assign rfl) rfl ?_
  refine L_run (R_assign rfl) rfl ?_
  refine L_nil (N_then (C_seq (C_reg rfl ?_)))
  refine L_run (R_move rfl) rfl ?_
  refine L_run (R_move rfl) rfl ?_
  refine L_run (R_lenSl rfl slc46) rfl ?_
  have ge1 : w.heap.size ≤ w.heap.size := hB.size
  refine L_call rfl cb41 (cut14_ok (a := a) (n := data.length) ha hd) rfl ?_
  rintro _ w1 ⟨hs1, A_1, c_1, rfl, ho1⟩
  replace hB := gb_tr hB hs1
  replace hS := hS.gb hs1
  replace hD := hD.gb hs1
  have hlo1 : w.heap.size ≤ w1.heap.size := hs1.size
  refine L_run (R_move rfl) rfl ?_
  refine L_run (R_extract rfl rfl) rfl ?_
  refine L_run (R_extract rfl rfl) rfl ?_
  refine L_run (R_extract rfl rfl) rfl ?_
  refine L_run (R_assign rfl) rfl ?_
  refine L_run (R_assign rfl) rfl ?_
  refine L_run (R_assign rfl) rfl ?_
  refine L_nil (N_then (C_seq (C_seq (C_reg rfl ?_))))
  refine L_run (R_move rfl) rfl ?_
  refine L_run (R_not rfl) rfl ?_
  refine L_nil (N_then ?_)
  refine C_cond rfl (fun h1 => ?_) (fun h1 => ?_)
  · refine C_seq (C_reg rfl ?_)
    refine L_run (R_assign rfl) rfl ?_
    refine L_run (R_assign rfl) rfl ?_
    refine L_run (R_assign rfl) rfl ?_
    refine L_nil (N_then (C_ret (R_then ?_)))
    refine ret3 Tryd.results30 rfl rfl rfl ?_
    have hx_ : addN e body a data = none := by unfold addN; cases hcu : cutN a data.length with
      | none => rfl
      | some r_ => simp_all
    rw [hx_]; exact ⟨hB, none, 0, rfl, own_nil _ _ _ _⟩
  · refine C_skip (N_then (C_seq (C_reg rfl ?_)))
    refine L_make (enc := encB) (m := 832) (x0 := (0 : UInt8)) slc46 zer5 rfl rfl rfl EncB (by omega) (by omega) rfl ?_
    intro g1 w2 eg1 hb1 hs2 hz1
    have ge2 : w.heap.size ≤ g1 := eg_ge hB eg1
    replace hB := gb_tr hB hs2
    replace hS := hS.gb hs2
    replace hD := hD.gb hs2
    replace ho1 := own_gb ho1 hs2
    replace hlo1 := Nat.le_trans hlo1 hs2.size
    refine L_run (R_assign rfl) rfl ?_
    refine L_nil (N_then (C_seq (C_seq (C_reg rfl ?_))))
    refine L_run (R_assign rfl) rfl ?_
    refine L_nil (N_then (C_block ?_))
    refine C_loop (fun m_ a_ w_ => ∃ (σ_ : Nat → Value) (i : Nat), a_ = Ac 96 σ_ [] [(0, .int .u64 (e : Int)), (1, .slice A body.length c), (2, .int .i64 (a : Int)), (3, .slice A2 data.length c2), (8, .slice none 0 0), (9, .int .i64 0), (10, .bool false), (11, .slice A_1 ((cps (cutN a data.length)).length) c_1), (12, .int .i64 ((cen (cutN a data.length) : Nat) : Int)), (14, .slice (some ⟨g1, 0, none⟩) 832 832), (15, .int .i64 (i : Int))] ∧ w.grownBy w_ none ∧ Sli t1 lo w.heap.size w_ A (fl encB body) ∧ Sli t2 lo2 w.heap.size w_ A2 (fl encB data) ∧ World.ownsRow w_ w.heap.size 89 4 (.slice A_1 (cps (cutN a data.length)).length c_1) (cps (cutN a data.length)).length (fl encP (cps (cutN a data.length))) ∧ w.heap.size ≤ w_.heap.size ∧ Blk w_ g1 5 (fl encB (padI body i)) ∧ (i ≤ 832 ∧ i ≤ body.length) ∧ 832 - i = m_) (832 - 0) ?_ ?_
    · exact ⟨_, 0, Ac_frg ⟨rfl, rfl, rfl, rfl, rfl, rfl, rfl, rfl, rfl, rfl, (agr rfl (by first | rfl | (congr 1; omega) | (congr 1; simp; done) | (congr 1; simp only [IntKind.wrap_u64, IntKind.wrap_i64, IntKind.wrap_u8]; omega) | (congr 1 <;> omega))), trivial⟩, hB, hS, hD, ho1, hlo1, hb1, (by omega), rfl⟩
    · clear hB
      clear hS hD ho1 hlo1 hb1
      rintro m_ a_ w3 ⟨σ_, i, rfl, hB, hS, hD, ho1, hlo1, hbo, hi, rfl⟩
      refine C_seq (C_seq (C_reg rfl ?_))
      refine L_run (R_move rfl) rfl ?_
      refine L_run (R_lss rfl rfl) rfl ?_
      refine L_run (R_move rfl) rfl ?_
      refine L_splitD (p := (i : Int) < 832) (fun h2 => ?_) (fun h2 => ?_)
      · refine L_yes rfl rfl rfl (decide_eq_true h2) ?_
        refine L_run (R_move rfl) rfl ?_
        refine L_yes rfl rfl rfl (decide_eq_true h2) ?_
        refine L_run (R_move rfl) rfl ?_
        refine L_yes rfl rfl rfl (decide_eq_true h2) ?_
        refine L_run (R_lenSl rfl slc46) rfl ?_
        refine L_yes rfl rfl rfl (decide_eq_true h2) ?_
        refine L_run (R_lss rfl rfl) rfl ?_
        refine L_run (R_pickT rfl (decide_eq_true h2) rfl) rfl ?_
        refine L_nil (N_then ?_)
        refine C_if rfl (fun h3 => ?_) (fun h3 => ?_)
        · refine C_skip (N_then (C_seq (C_block (C_reg rfl ?_))))
          refine L_run (R_move rfl) rfl ?_
          refine L_run (R_move rfl) rfl ?_
          refine L_run (R_move rfl) rfl ?_
          refine L_run (R_move rfl) rfl ?_
          have hl1 : i < body.length := by first | omega | (simp; omega)
          refine T_index (xs := body) (i := i) EncB rfl rfl (by first | rfl | omega) slc46 hl1 hS rfl ?_
          intro g2 o1 ha1
          refine L_run (R_load1 rfl scl5 (ha1 0 _ rfl)) rfl ?_
          refine L_run (R_indexE (i := i) (m := 832) (r := i) rfl rfl (by first | rfl | omega) slc46 (by omega) rfl (by omega)) rfl ?_
          refine L_st1v (v := .int .u8 ((body[i]).toNat : Int)) rfl rfl rfl sz5 hbo (by rw [fl_len EncB, Nat.mul_one]; first | (omega) | (rw [(padI_len (by omega) (by omega))]; omega)) ?_
          intro w4 hb2 hs3 hz2
          rw [fl_setB (by first | (omega) | (rw [(padI_len (by omega) (by omega))]; omega))] at hb2
          replace hB := gb_trg hB hs3 ge2
          replace hS := hS.old hs3 ge2
          replace hD := hD.old hs3 ge2
          replace ho1 := own_other ho1 hbo rfl hs3
          replace hlo1 := Nat.le_trans hlo1 hs3.size
          refine L_nil (N_in (N_then (C_reg rfl ?_)))
          refine L_run (R_move rfl) rfl ?_
          refine L_run (R_add64 rfl rfl (by first | omega | (have h_ := hPO.get (show j < (cps (cutN a data.length)).length by omega); omega))) rfl ?_
          refine L_run (R_assign rfl) rfl ?_
          refine L_nil (N_then ?_)
          exact ⟨832 - (i + 1), by omega, _, (i + 1), Ac_frg ⟨rfl, rfl, rfl, rfl, rfl, rfl, rfl, rfl, rfl, rfl, (agr rfl (by first | rfl | (congr 1; omega) | (congr 1; simp; done) | (congr 1; simp only [IntKind.wrap_u64, IntKind.wrap_i64, IntKind.wrap_u8]; omega) | (congr 1 <;> omega))), trivial⟩, hB, hS, hD, ho1, hlo1, (by rw [← padI_set (by omega) (by omega)]; exact hb2), (by omega), rfl⟩
        · refine C_exit (X_then (X_then (X_hit (N_then (C_seq (C_seq (C_reg rfl ?_)))))))
          refine L_run (R_assign rfl) rfl ?_
          refine L_nil (N_then (C_block ?_))
          have hpI : padI body i = padN body := by unfold padN; congr 1; omega
          rw [hpI] at hbo
          refine C_loop (fun m_ a_ w_ => ∃ (σ_ : Nat → Value) (j : Nat), a_ = Ac 96 σ_ [] [(0, .int .u64 (e : Int)), (1, .slice A body.length c), (2, .int .i64 (a : Int)), (3, .slice A2 data.length c2), (8, .slice none 0 0), (9, .int .i64 0), (10, .bool false), (11, .slice A_1 ((cps (cutN a data.length)).length) c_1), (12, .int .i64 ((cen (cutN a data.length) : Nat) : Int)), (14, .slice (some ⟨g1, 0, none⟩) 832 832), (16, .int .i64 (j : Int))] ∧ w.grownBy w_ none ∧ Sli t1 lo w.heap.size w_ A (fl encB body) ∧ Sli t2 lo2 w.heap.size w_ A2 (fl encB data) ∧ World.ownsRow w_ w.heap.size 89 4 (.slice A_1 (cps (cutN a data.length)).length c_1) (cps (cutN a data.length)).length (fl encP (cps (cutN a data.length))) ∧ w.heap.size ≤ w_.heap.size ∧ Blk w_ g1 5 (fl encB (layI e body data (cps (cutN a data.length)) j)) ∧ (j ≤ (cps (cutN a data.length)).length) ∧ (cps (cutN a data.length)).length - j = m_) ((cps (cutN a data.length)).length - 0) ?_ ?_
          · exact ⟨_, 0, Ac_frg ⟨rfl, rfl, rfl, rfl, rfl, rfl, rfl, rfl, rfl, rfl, (agr rfl (by first | rfl | (congr 1; omega) | (congr 1; simp; done) | (congr 1; simp only [IntKind.wrap_u64, IntKind.wrap_i64, IntKind.wrap_u8]; omega) | (congr 1 <;> omega))), trivial⟩, hB, hS, hD, ho1, hlo1, hbo, (by omega), rfl⟩
          · clear hB
            clear hS hD ho1 hlo1 hbo
            rintro m_ a_ w5 ⟨σ_, j, rfl, hB, hS, hD, ho1, hlo1, hbl, hj, rfl⟩
            refine C_seq (C_seq (C_reg rfl ?_))
            refine L_run (R_move rfl) rfl ?_
            refine L_run (R_move rfl) rfl ?_
            refine L_run (R_lenSl rfl slc84) rfl ?_
            refine L_run (R_lss rfl rfl) rfl ?_
            refine L_nil (N_then ?_)
            refine C_if rfl (fun h4 => ?_) (fun h4 => ?_)
            · refine C_skip (N_then (C_seq (C_block (C_seq ?_))))
              refine C_draw2 rfl mix ?_
              intro w6 hs4 hz3
              replace hB := gb_tr hB hs4
              replace hS := hS.gb hs4
              replace hD := hD.gb hs4
              replace ho1 := own_gb ho1 hs4
              replace hlo1 := Nat.le_trans hlo1 hs4.size
              replace hbl := hbl.gb hs4
              have hl2 : j < (cps (cutN a data.length)).length := by first | omega | (simp; omega)
              obtain ⟨g3, o2, r1, eA1, er1, ha2⟩ := Sli.place' (xs := cps (cutN a data.length)) (i := j) EncP (own_of ho1).2.2 hl2 rfl
              refine ⟨fun W_ => At W_ g3 r1 [.int .i64 ((((cps (cutN a data.length))[j]).1 : Nat) : Int), .int .i64 ((((cps (cutN a data.length))[j]).2.1 : Nat) : Int), .int .i64 ((((cps (cutN a data.length))[j]).2.2.1 : Nat) : Int), .int .i64 ((((cps (cutN a data.length))[j]).2.2.2 : Nat) : Int)] ∧ True, [0, 1, 2, 3, 4, 5, 6, 7, 8, 9, 10, 11, 12, 13, 14, 15, 16, 17, 18, 20, 22], ?_⟩
              refine T_takeA (i := 0) rfl rfl (by kernel_rfl) (by kernel_rfl) (by kernel_rfl) (Y_of (fun _ ⟨ha2, _⟩ => R_move rfl)) ⟨ha2, trivial⟩ rfl ?_
              refine T_takeA (i := 1) rfl rfl (by kernel_rfl) (by kernel_rfl) (by kernel_rfl) (Y_of (fun _ ⟨ha2, _⟩ => R_move rfl)) ⟨ha2, trivial⟩ rfl ?_
              refine T_takeA (i := 2) rfl rfl (by kernel_rfl) (by kernel_rfl) (by kernel_rfl) (Y_of (fun _ ⟨ha2, _⟩ => R_indexE rfl rfl (by first | rfl | omega) slc84 hl2 eA1 er1)) ⟨ha2, trivial⟩ rfl ?_
              refine T_takeA (i := 3) rfl rfl (by kernel_rfl) (by kernel_rfl) (by kernel_rfl) (Y_of (fun _ ⟨ha2, _⟩ => R_field rfl fld89_1 rfl)) ⟨ha2, trivial⟩ rfl ?_
              refine T_takeA (i := 4) rfl rfl (by kernel_rfl) (by kernel_rfl) (by kernel_rfl) (Y_of (fun _ ⟨ha2, _⟩ => R_load1 rfl scl3 (ha2 1 _ rfl))) ⟨ha2, trivial⟩ rfl ?_
              refine T_takeA (i := 5) rfl rfl (by kernel_rfl) (by kernel_rfl) (by kernel_rfl) (Y_of (fun _ ⟨ha2, _⟩ => R_move rfl)) ⟨ha2, trivial⟩ rfl ?_
              refine T_takeA (i := 6) rfl rfl (by kernel_rfl) (by kernel_rfl) (by kernel_rfl) (Y_of (fun _ ⟨ha2, _⟩ => R_eqv (R_rem rfl rfl (by first | decide | omega)) (v' := .int .u64 ((e % 4294967296 : Nat) : Int)) (remU (k := 4294967296)))) ⟨ha2, trivial⟩ rfl ?_
              refine T_takeA (i := 7) rfl rfl (by kernel_rfl) (by kernel_rfl) (by kernel_rfl) (Y_of (fun _ ⟨ha2, _⟩ => R_eqv (R_conv rfl any22 int90) (v' := .int .u32 ((e % 4294967296 : Nat) : Int)) (congrArg _ (by rw [IntKind.wrap_u32]; omega)))) ⟨ha2, trivial⟩ rfl ?_
              refine T_takeA (i := 8) rfl rfl (by kernel_rfl) (by kernel_rfl) (by kernel_rfl) (Y_of (fun _ ⟨ha2, _⟩ => R_move rfl)) ⟨ha2, trivial⟩ rfl ?_
              refine T_takeA (i := 9) rfl rfl (by kernel_rfl) (by kernel_rfl) (by kernel_rfl) (Y_of (fun _ ⟨ha2, _⟩ => R_move rfl)) ⟨ha2, trivial⟩ rfl ?_
              refine T_takeA (i := 10) rfl rfl (by kernel_rfl) (by kernel_rfl) (by kernel_rfl) (Y_of (fun _ ⟨ha2, _⟩ => R_move rfl)) ⟨ha2, trivial⟩ rfl ?_
              refine T_takeA (i := 11) rfl rfl (by kernel_rfl) (by kernel_rfl) (by kernel_rfl) (Y_of (fun _ ⟨ha2, _⟩ => R_indexE rfl rfl (by first | rfl | omega) slc84 hl2 eA1 er1)) ⟨ha2, trivial⟩ rfl ?_
              refine T_takeA (i := 12) rfl rfl (by kernel_rfl) (by kernel_rfl) (by kernel_rfl) (Y_of (fun _ ⟨ha2, _⟩ => R_field rfl fld89_2 rfl)) ⟨ha2, trivial⟩ rfl ?_
              refine T_takeA (i := 13) rfl rfl (by kernel_rfl) (by kernel_rfl) (by kernel_rfl) (Y_of (fun _ ⟨ha2, _⟩ => R_load1 rfl scl3 (ha2 2 _ rfl))) ⟨ha2, trivial⟩ rfl ?_
              refine T_takeA (i := 14) rfl rfl (by kernel_rfl) (by kernel_rfl) (by kernel_rfl) (Y_of (fun _ ⟨ha2, _⟩ => R_move rfl)) ⟨ha2, trivial⟩ rfl ?_
              refine T_takeA (i := 15) rfl rfl (by kernel_rfl) (by kernel_rfl) (by kernel_rfl) (Y_of (fun _ ⟨ha2, _⟩ => R_move rfl)) ⟨ha2, trivial⟩ rfl ?_
              refine T_takeA (i := 16) rfl rfl (by kernel_rfl) (by kernel_rfl) (by kernel_rfl) (Y_of (fun _ ⟨ha2, _⟩ => R_indexE rfl rfl (by first | rfl | omega) slc84 hl2 eA1 er1)) ⟨ha2, trivial⟩ rfl ?_
              refine T_takeA (i := 17) rfl rfl (by kernel_rfl) (by kernel_rfl) (by kernel_rfl) (Y_of (fun _ ⟨ha2, _⟩ => R_field rfl fld89_3 rfl)) ⟨ha2, trivial⟩ rfl ?_
              refine T_takeA (i := 18) rfl rfl (by kernel_rfl) (by kernel_rfl) (by kernel_rfl) (Y_of (fun _ ⟨ha2, _⟩ => R_load1 rfl scl3 (ha2 3 _ rfl))) ⟨ha2, trivial⟩ rfl ?_
              refine T_all (rs := [19]) (by kernel_rfl) rfl (all1 (O_one rfl ?_))
              refine T_slLH (xs := data) (i := (((cps (cutN a data.length))[j]).2.2.1)) (j := (((cps (cutN a data.length))[j]).2.2.2)) EncB rfl rfl rfl (by first | rfl | omega) (by first | rfl | omega) slc46 (by have h_ := hPO.get (show j < (cps (cutN a data.length)).length by omega); omega) (by have h_ := hPO.get (show j < (cps (cutN a data.length)).length by omega); omega) (by first | omega | (simp; done) | (simp; omega)) hD rfl ?_
              intro A_2 hS_1
              refine L_nil (N_then ⟨fun hN_ => ⟨ha2, trivial⟩, ?_⟩)
              refine T_takeA (i := 20) rfl rfl (by kernel_rfl) (by kernel_rfl) (by kernel_rfl) (Y_of (fun _ ⟨ha2, _⟩ => R_build (pv := [(0, .int .i64 ((((cps (cutN a data.length))[j]).2.1 : Nat) : Int)), (1, .int .u32 ((e % 4294967296 : Nat) : Int)), (2, .slice A_2 (((data.drop (((cps (cutN a data.length))[j]).2.2.1)).take ((((cps (cutN a data.length))[j]).2.2.2) - (((cps (cutN a data.length))[j]).2.2.1))).length) (c2 - (((cps (cutN a data.length))[j]).2.2.1)))]) (cs := [.int .i64 ((((cps (cutN a data.length))[j]).2.1 : Nat) : Int), .int .u32 ((e % 4294967296 : Nat) : Int), .slice A_2 (((data.drop (((cps (cutN a data.length))[j]).2.2.1)).take ((((cps (cutN a data.length))[j]).2.2.2) - (((cps (cutN a data.length))[j]).2.2.1))).length) (c2 - (((cps (cutN a data.length))[j]).2.2.1))]) rfl (by kernel_rfl))) ⟨ha2, trivial⟩ rfl ?_
              refine T_all (rs := [21]) (by kernel_rfl) rfl (all1 (O_one rfl ?_))
              have ge3 : w.heap.size ≤ w6.heap.size := hB.size
              refine L_call rfl cb42 (bytes13 (d := (data.drop (((cps (cutN a data.length))[j]).2.2.1)).take ((((cps (cutN a data.length))[j]).2.2.2) - (((cps (cutN a data.length))[j]).2.2.1))) (k := (((cps (cutN a data.length))[j]).2.1)) (ep := (e % 4294967296)) hS_1 (by have h_ := hPO.get (show j < (cps (cutN a data.length)).length by omega); simp only [List.length_take, List.length_drop]; omega) (by have h_ := hPO.get (show j < (cps (cutN a data.length)).length by omega); omega) (by omega)) rfl ?_
              rintro _ w7 ⟨hs5, A_3, c_2, rfl, ho2⟩
              have lb1 : g1 < w6.heap.size := hbl.lt
              replace hB := gb_tr hB hs5
              replace hS := hS.gb hs5
              replace hD := hD.gb hs5
              replace ho1 := own_gb ho1 hs5
              replace hlo1 := Nat.le_trans hlo1 hs5.size
              replace hbl := hbl.gb hs5
              replace ha2 := At.gb ha2 hs5 (by simp)
              replace hS_1 := hS_1.gb hs5
              have hap1 : ∀ k_, (Value.slice A_3 (fragB (((cps (cutN a data.length))[j]).2.1) (e % 4294967296) ((data.drop (((cps (cutN a data.length))[j]).2.2.1)).take ((((cps (cutN a data.length))[j]).2.2.2) - (((cps (cutN a data.length))[j]).2.2.1)))).length c_2).ownBlock = some k_ → k_ ≠ g1 := fun k_ hk => by have h_ := (World.ownsRow.lt ho2 k_ hk).1; omega
              have hlo2 : w6.heap.size ≤ w7.heap.size := hs5.size
              have hfb_ : putN (maskN (moreN 0 (((putN (((data.drop (((cps (cutN a data.length))[j]).2.2.1)).take ((((cps (cutN a data.length))[j]).2.2.2) - (((cps (cutN a data.length))[j]).2.2.1))).length) 2 ++ [UInt8.ofNat (((cps (cutN a data.length))[j]).2.1)]) ++ putN (e % 4294967296) 4) ++ ((data.drop (((cps (cutN a data.length))[j]).2.2.1)).take ((((cps (cutN a data.length))[j]).2.2.2) - (((cps (cutN a data.length))[j]).2.2.1)))))) 4 ++ (((putN (((data.drop (((cps (cutN a data.length))[j]).2.2.1)).take ((((cps (cutN a data.length))[j]).2.2.2) - (((cps (cutN a data.length))[j]).2.2.1))).length) 2 ++ [UInt8.ofNat (((cps (cutN a data.length))[j]).2.1)]) ++ putN (e % 4294967296) 4) ++ ((data.drop (((cps (cutN a data.length))[j]).2.2.1)).take ((((cps (cutN a data.length))[j]).2.2.2) - (((cps (cutN a data.length))[j]).2.2.1)))) = fragB (((cps (cutN a data.length))[j]).2.1) (e % 4294967296) ((data.drop (((cps (cutN a data.length))[j]).2.2.1)).take ((((cps (cutN a data.length))[j]).2.2.2) - (((cps (cutN a data.length))[j]).2.2.1))) := rfl
              rw [hfb_] at ho2 ⊢
              clear hfb_
              refine L_nil (N_then ⟨fun hN_ => ⟨ha2, trivial⟩, ?_⟩)
              refine T_takeA (i := 22) rfl rfl (by kernel_rfl) (by kernel_rfl) (by kernel_rfl) (Y_of (fun _ ⟨ha2, _⟩ => R_assign rfl)) ⟨ha2, trivial⟩ rfl ?_
              refine T_done (by kernel_rfl) (CalmE.normal ?_)
              refine N_then (C_seq (C_reg rfl ?_))
              refine L_run (R_assign rfl) rfl ?_
              refine L_nil (N_then (C_block ?_))
              have hfit := piece_fit (e := e) (X := layI e body data (cps (cutN a data.length)) j) hPO rfl (show j < (cps (cutN a data.length)).length by omega) (layI_len hPO rfl _ (by omega))
              have hll := layI_len (e := e) (b := body) hPO rfl j (by omega)
              refine C_loop (fun m_ a_ w_ => ∃ (σ_ : Nat → Value) (q : Nat), a_ = Ac 96 σ_ [] [(0, .int .u64 (e : Int)), (1, .slice A body.length c), (2, .int .i64 (a : Int)), (3, .slice A2 data.length c2), (8, .slice none 0 0), (9, .int .i64 0), (10, .bool false), (11, .slice A_1 ((cps (cutN a data.length)).length) c_1), (12, .int .i64 ((cen (cutN a data.length) : Nat) : Int)), (14, .slice (some ⟨g1, 0, none⟩) 832 832), (16, .int .i64 (j : Int)), (17, .slice A_3 ((fragB (((cps (cutN a data.length))[j]).2.1) (e % 4294967296) ((data.drop (((cps (cutN a data.length))[j]).2.2.1)).take ((((cps (cutN a data.length))[j]).2.2.2) - (((cps (cutN a data.length))[j]).2.2.1)))).length) c_2), (18, .int .i64 (q : Int))] ∧ w.grownBy w_ none ∧ Sli t1 lo w.heap.size w_ A (fl encB body) ∧ Sli t2 lo2 w.heap.size w_ A2 (fl encB data) ∧ World.ownsRow w_ w.heap.size 89 4 (.slice A_1 (cps (cutN a data.length)).length c_1) (cps (cutN a data.length)).length (fl encP (cps (cutN a data.length))) ∧ w.heap.size ≤ w_.heap.size ∧ Sli t2 lo2 w.heap.size w_ A_2 (fl encB ((data.drop (((cps (cutN a data.length))[j]).2.2.1)).take ((((cps (cutN a data.length))[j]).2.2.2) - (((cps (cutN a data.length))[j]).2.2.1)))) ∧ World.ownsRow w_ w6.heap.size 5 1 (.slice A_3 (fragB (((cps (cutN a data.length))[j]).2.1) (e % 4294967296) ((data.drop (((cps (cutN a data.length))[j]).2.2.1)).take ((((cps (cutN a data.length))[j]).2.2.2) - (((cps (cutN a data.length))[j]).2.2.1)))).length c_2) (fragB (((cps (cutN a data.length))[j]).2.1) (e % 4294967296) ((data.drop (((cps (cutN a data.length))[j]).2.2.1)).take ((((cps (cutN a data.length))[j]).2.2.2) - (((cps (cutN a data.length))[j]).2.2.1)))).length (fl encB (fragB (((cps (cutN a data.length))[j]).2.1) (e % 4294967296) ((data.drop (((cps (cutN a data.length))[j]).2.2.1)).take ((((cps (cutN a data.length))[j]).2.2.2) - (((cps (cutN a data.length))[j]).2.2.1))))) ∧ w6.heap.size ≤ w_.heap.size ∧ Blk w_ g1 5 (fl encB (spl (layI e body data (cps (cutN a data.length)) j) ((cps (cutN a data.length))[j]).1 ((fragB ((cps (cutN a data.length))[j]).2.1 (e % 4294967296) ((data.drop ((cps (cutN a data.length))[j]).2.2.1).take (((cps (cutN a data.length))[j]).2.2.2 - ((cps (cutN a data.length))[j]).2.2.1))).take q))) ∧ (q ≤ (fragB ((cps (cutN a data.length))[j]).2.1 (e % 4294967296) ((data.drop ((cps (cutN a data.length))[j]).2.2.1).take (((cps (cutN a data.length))[j]).2.2.2 - ((cps (cutN a data.length))[j]).2.2.1))).length) ∧ (fragB ((cps (cutN a data.length))[j]).2.1 (e % 4294967296) ((data.drop ((cps (cutN a data.length))[j]).2.2.1).take (((cps (cutN a data.length))[j]).2.2.2 - ((cps (cutN a data.length))[j]).2.2.1))).length - q = m_) ((fragB ((cps (cutN a data.length))[j]).2.1 (e % 4294967296) ((data.drop ((cps (cutN a data.length))[j]).2.2.1).take (((cps (cutN a data.length))[j]).2.2.2 - ((cps (cutN a data.length))[j]).2.2.1))).length - 0) ?_ ?_
              · exact ⟨_, 0, Ac_frg ⟨rfl, rfl, rfl, rfl, rfl, rfl, rfl, rfl, rfl, rfl, rfl, rfl, (agr rfl (by first | rfl | (congr 1; omega) | (congr 1; simp; done) | (congr 1; simp only [IntKind.wrap_u64, IntKind.wrap_i64, IntKind.wrap_u8]; omega) | (congr 1 <;> omega))), trivial⟩, hB, hS, hD, ho1, hlo1, hS_1, ho2, hlo2, (by rw [List.take_zero, spl_nil]; exact hbl), (by omega), rfl⟩
              · clear hB
                clear hS hD ho1 hlo1 hbl ha2 hS_1 ho2 hlo2
                rintro m_ a_ w8 ⟨σ_, q, rfl, hB, hS, hD, ho1, hlo1, hS_1, ho2, hlo2, hbq, hq, rfl⟩
                refine C_seq (C_seq (C_reg rfl ?_))
                refine L_run (R_move rfl) rfl ?_
                refine L_run (R_move rfl) rfl ?_
                refine L_run (R_lenSl rfl slc46) rfl ?_
                refine L_run (R_lss rfl rfl) rfl ?_
                refine L_nil (N_then ?_)
                refine C_if rfl (fun h5 => ?_) (fun h5 => ?_)
                · refine C_skip (N_then (C_seq (C_block ?_)))
                  refine C_draw2 rfl mix ?_
                  intro w9 hs6 hz4
                  replace hB := gb_tr hB hs6
                  replace hS := hS.gb hs6
                  replace hD := hD.gb hs6
                  replace ho1 := own_gb ho1 hs6
                  replace hlo1 := Nat.le_trans hlo1 hs6.size
                  replace hS_1 := hS_1.gb hs6
                  replace ho2 := own_gb ho2 hs6
                  replace hlo2 := Nat.le_trans hlo2 hs6.size
                  replace hbq := hbq.gb hs6
                  have hl3 : j < (cps (cutN a data.length)).length := by first | omega | (simp; omega)
                  obtain ⟨g4, o3, r2, eA2, er2, ha3⟩ := Sli.place' (xs := cps (cutN a data.length)) (i := j) EncP (own_of ho1).2.2 hl3 rfl
                  have hl4 : q < (fragB (((cps (cutN a data.length))[j]).2.1) (e % 4294967296) ((data.drop (((cps (cutN a data.length))[j]).2.2.1)).take ((((cps (cutN a data.length))[j]).2.2.2) - (((cps (cutN a data.length))[j]).2.2.1)))).length := by first | omega | (simp; omega)
                  obtain ⟨g5, o4, r3, eA3, er3, ha4⟩ := Sli.place' (xs := fragB (((cps (cutN a data.length))[j]).2.1) (e % 4294967296) ((data.drop (((cps (cutN a data.length))[j]).2.2.1)).take ((((cps (cutN a data.length))[j]).2.2.2) - (((cps (cutN a data.length))[j]).2.2.1)))) (i := q) EncB (own_of ho2).2.2 hl4 rfl
                  refine ⟨fun W_ => At W_ g4 r2 [.int .i64 ((((cps (cutN a data.length))[j]).1 : Nat) : Int), .int .i64 ((((cps (cutN a data.length))[j]).2.1 : Nat) : Int), .int .i64 ((((cps (cutN a data.length))[j]).2.2.1 : Nat) : Int), .int .i64 ((((cps (cutN a data.length))[j]).2.2.2 : Nat) : Int)] ∧ At W_ g5 r3 [.int .u8 (((fragB (((cps (cutN a data.length))[j]).2.1) (e % 4294967296) ((data.drop (((cps (cutN a data.length))[j]).2.2.1)).take ((((cps (cutN a data.length))[j]).2.2.2) - (((cps (cutN a data.length))[j]).2.2.1))))[q]).toNat : Int)] ∧ True, [0, 1, 2, 3, 4, 5, 6, 7, 8, 9, 10, 11, 12], ?_⟩
                  refine T_takeA (i := 0) rfl rfl (by kernel_rfl) (by kernel_rfl) (by kernel_rfl) (Y_of (fun _ ⟨ha3, ha4, _⟩ => R_move rfl)) ⟨ha3, ha4, trivial⟩ rfl ?_
                  refine T_takeA (i := 1) rfl rfl (by kernel_rfl) (by kernel_rfl) (by kernel_rfl) (Y_of (fun _ ⟨ha3, ha4, _⟩ => R_move rfl)) ⟨ha3, ha4, trivial⟩ rfl ?_
                  refine T_takeA (i := 2) rfl rfl (by kernel_rfl) (by kernel_rfl) (by kernel_rfl) (Y_of (fun _ ⟨ha3, ha4, _⟩ => R_move rfl)) ⟨ha3, ha4, trivial⟩ rfl ?_
                  refine T_takeA (i := 3) rfl rfl (by kernel_rfl) (by kernel_rfl) (by kernel_rfl) (Y_of (fun _ ⟨ha3, ha4, _⟩ => R_indexE rfl rfl (by first | rfl | omega) slc84 hl3 eA2 er2)) ⟨ha3, ha4, trivial⟩ rfl ?_
                  refine T_takeA (i := 4) rfl rfl (by kernel_rfl) (by kernel_rfl) (by kernel_rfl) (Y_of (fun _ ⟨ha3, ha4, _⟩ => R_field rfl fld89_0 rfl)) ⟨ha3, ha4, trivial⟩ rfl ?_
                  refine T_takeA (i := 5) rfl rfl (by kernel_rfl) (by kernel_rfl) (by kernel_rfl) (Y_of (fun _ ⟨ha3, ha4, _⟩ => R_load1 rfl scl3 (ha3 0 _ rfl))) ⟨ha3, ha4, trivial⟩ rfl ?_
                  refine T_takeA (i := 6) rfl rfl (by kernel_rfl) (by kernel_rfl) (by kernel_rfl) (Y_of (fun _ ⟨ha3, ha4, _⟩ => R_move rfl)) ⟨ha3, ha4, trivial⟩ rfl ?_
                  refine T_takeA (i := 7) rfl rfl (by kernel_rfl) (by kernel_rfl) (by kernel_rfl) (Y_of (fun _ ⟨ha3, ha4, _⟩ => R_eqv (R_add64 (a := ((((cps (cutN a data.length))[j]).1 : Nat) : Int)) (b := (q : Int)) rfl rfl (by first | omega | (have h_ := hPO.get (show j < (cps (cutN a data.length)).length by omega); omega))) (v' := .int .i64 ((((cps (cutN a data.length))[j]).1 + q : Nat) : Int)) (congrArg _ (by omega)))) ⟨ha3, ha4, trivial⟩ rfl ?_
                  refine T_takeA (i := 8) rfl rfl (by kernel_rfl) (by kernel_rfl) (by kernel_rfl) (Y_of (fun _ ⟨ha3, ha4, _⟩ => R_move rfl)) ⟨ha3, ha4, trivial⟩ rfl ?_
                  refine T_takeA (i := 9) rfl rfl (by kernel_rfl) (by kernel_rfl) (by kernel_rfl) (Y_of (fun _ ⟨ha3, ha4, _⟩ => R_move rfl)) ⟨ha3, ha4, trivial⟩ rfl ?_
                  refine T_takeA (i := 10) rfl rfl (by kernel_rfl) (by kernel_rfl) (by kernel_rfl) (Y_of (fun _ ⟨ha3, ha4, _⟩ => R_indexE rfl rfl (by first | rfl | omega) slc46 hl4 eA3 er3)) ⟨ha3, ha4, trivial⟩ rfl ?_
                  refine T_takeA (i := 11) rfl rfl (by kernel_rfl) (by kernel_rfl) (by kernel_rfl) (Y_of (fun _ ⟨ha3, ha4, _⟩ => R_load1 rfl scl5 (ha4 0 _ rfl))) ⟨ha3, ha4, trivial⟩ rfl ?_
                  refine T_takeA (i := 12) rfl rfl (by kernel_rfl) (by kernel_rfl) (by kernel_rfl) (Y_of (fun _ ⟨ha3, ha4, _⟩ => R_indexE (i := (((cps (cutN a data.length))[j]).1 + q)) (m := 832) (r := (((cps (cutN a data.length))[j]).1 + q)) (off := 0) rfl rfl (by first | rfl | omega) slc46 (by omega) rfl (by omega))) ⟨ha3, ha4, trivial⟩ rfl ?_
                  refine T_switch (S' := fun _ => True) (qs' := []) (by kernel_rfl) ?_
                  refine T_all (rs := [13]) (by kernel_rfl) rfl (all1 (O_one rfl ?_))
                  refine L_st1v (v := .int .u8 (((fragB (((cps (cutN a data.length))[j]).2.1) (e % 4294967296) ((data.drop (((cps (cutN a data.length))[j]).2.2.1)).take ((((cps (cutN a data.length))[j]).2.2.2) - (((cps (cutN a data.length))[j]).2.2.1))))[q]).toNat : Int)) rfl rfl rfl sz5 hbq (by rw [fl_len EncB, Nat.mul_one]; first | (omega) | (rw [((spl_lenQ hfit).trans hll)]; omega)) ?_
                  intro w10 hb3 hs7 hz5
                  rw [fl_setB (by first | (omega) | (rw [((spl_lenQ hfit).trans hll)]; omega))] at hb3
                  replace hB := gb_trg hB hs7 ge2
                  replace hS := hS.old hs7 ge2
                  replace hD := hD.old hs7 ge2
                  replace ho1 := own_other ho1 hbq rfl hs7
                  replace hlo1 := Nat.le_trans hlo1 hs7.size
                  replace hS_1 := hS_1.old hs7 ge2
                  replace ho2 := ho2.kept hs7 (.inr (fun e_ => hap1 _ e_ rfl))
                  replace hlo2 := Nat.le_trans hlo2 hs7.size
                  refine L_nil (N_then ⟨fun hN_ => trivial, ?_⟩)
                  refine T_done (by kernel_rfl) (CalmE.normal ?_)
                  refine N_in (N_then (C_reg rfl ?_))
                  refine L_run (R_move rfl) rfl ?_
                  refine L_run (R_add64 rfl rfl (by first | omega | (have h_ := hPO.get (show j < (cps (cutN a data.length)).length by omega); omega))) rfl ?_
                  refine L_run (R_assign rfl) rfl ?_
                  refine L_nil (N_then ?_)
                  exact ⟨(fragB ((cps (cutN a data.length))[j]).2.1 (e % 4294967296) ((data.drop ((cps (cutN a data.length))[j]).2.2.1).take (((cps (cutN a data.length))[j]).2.2.2 - ((cps (cutN a data.length))[j]).2.2.1))).length - (q + 1), by omega, _, (q + 1), Ac_frg ⟨rfl, rfl, rfl, rfl, rfl, rfl, rfl, rfl, rfl, rfl, rfl, rfl, (agr rfl (by first | rfl | (congr 1; omega) | (congr 1; simp; done) | (congr 1; simp only [IntKind.wrap_u64, IntKind.wrap_i64, IntKind.wrap_u8]; omega) | (congr 1 <;> omega))), trivial⟩, hB, hS, hD, ho1, hlo1, hS_1, ho2, hlo2, (by rw [← spl_set (q := q) (by omega) hfit]; exact hb3), (by omega), rfl⟩
                · refine C_exit (X_then (X_then (X_hit (N_in (N_then (C_reg rfl ?_))))))
                  refine L_run (R_move rfl) rfl ?_
                  refine L_run (R_add64 rfl rfl (by first | omega | (have h_ := hPO.get (show j < (cps (cutN a data.length)).length by omega); omega))) rfl ?_
                  refine L_run (R_assign rfl) rfl ?_
                  refine L_nil (N_then ?_)
                  exact ⟨(cps (cutN a data.length)).length - (j + 1), by omega, _, (j + 1), Ac_frg ⟨rfl, rfl, rfl, rfl, rfl, rfl, rfl, rfl, rfl, rfl, (agr rfl (by first | rfl | (congr 1; omega) | (congr 1; simp; done) | (congr 1; simp only [IntKind.wrap_u64, IntKind.wrap_i64, IntKind.wrap_u8]; omega) | (congr 1 <;> omega))), trivial⟩, hB, hS, hD, ho1, hlo1, (by rw [layI_succ (by omega)]; have h_ := hbq; rw [List.take_of_length_le (l := (fragB ((cps (cutN a data.length))[j]).2.1 (e % 4294967296) ((data.drop ((cps (cutN a data.length))[j]).2.2.1).take (((cps (cutN a data.length))[j]).2.2.2 - ((cps (cutN a data.length))[j]).2.2.1)))) (i := q) (by omega)] at h_; exact h_), (by omega), rfl⟩
            · refine C_exit (X_then (X_then (X_hit (N_then (C_seq (C_reg rfl ?_))))))
              refine L_run (R_move rfl) rfl ?_
              refine L_run (R_move rfl) rfl ?_
              refine L_run (R_assign rfl) rfl ?_
              refine L_run (R_assign rfl) rfl ?_
              refine L_run (R_assign rfl) rfl ?_
              refine L_nil (N_then (C_ret ?_))
              refine ret3 Tryd.results30 rfl rfl rfl ?_
              obtain rfl : j = (cps (cutN a data.length)).length := by omega
              have hx_ : addN e body a data = some (layI e body data (cps (cutN a data.length)) (cps (cutN a data.length)).length, cen (cutN a data.length)) := by unfold addN; cases hcu : cutN a data.length with
                | none => simp_all
                | some r_ => rfl
              have hl_ : (layI e body data (cps (cutN a data.length)) (cps (cutN a data.length)).length).length = 832 := layI_len hPO rfl _ (Nat.le_refl _)
              have ho_ := Blk.own (sz := 1) (m := 832) hbl (by decide) (by rw [fl_len EncB, hl_]) ge2
              rw [hx_]; refine ⟨hB, some ⟨g1, 0, none⟩, 832, ?_, ?_⟩
              · show _ = Value.tuple #[.slice _ (layI e body data (cps (cutN a data.length)) (cps (cutN a data.length)).length).length 832, _, _]; rw [hl_]; rfl
              · show World.ownsRow _ _ _ _ (.slice _ (layI e body data (cps (cutN a data.length)) (cps (cutN a data.length)).length).length _) (layI e body data (cps (cutN a data.length)) (cps (cutN a data.length)).length).length _; rw [hl_]; exact ho_
      · refine L_no rfl rfl rfl (decide_eq_false h2) rfl ?_
        refine L_no rfl rfl rfl (decide_eq_false h2) rfl ?_
        refine L_no rfl rfl rfl (decide_eq_false h2) rfl ?_
        refine L_no rfl rfl rfl (decide_eq_false h2) rfl ?_
        refine L_run (R_pickF rfl (decide_eq_false h2) rfl) rfl ?_
        refine L_nil (N_then (C_condF rfl rfl (C_exit (X_then (X_then (X_hit (N_then (C_seq (C_seq (C_reg rfl ?_))))))))))
        refine L_run (R_assign rfl) rfl ?_
        refine L_nil (N_then (C_block ?_))
        have hpI : padI body i = padN body := by unfold padN; congr 1; omega
        rw [hpI] at hbo
        refine C_loop (fun m_ a_ w_ => ∃ (σ_ : Nat → Value) (j : Nat), a_ = Ac 96 σ_ [] [(0, .int .u64 (e : Int)), (1, .slice A body.length c), (2, .int .i64 (a : Int)), (3, .slice A2 data.length c2), (8, .slice none 0 0), (9, .int .i64 0), (10, .bool false), (11, .slice A_1 ((cps (cutN a data.length)).length) c_1), (12, .int .i64 ((cen (cutN a data.length) : Nat) : Int)), (14, .slice (some ⟨g1, 0, none⟩) 832 832), (16, .int .i64 (j : Int))] ∧ w.grownBy w_ none ∧ Sli t1 lo w.heap.size w_ A (fl encB body) ∧ Sli t2 lo2 w.heap.size w_ A2 (fl encB data) ∧ World.ownsRow w_ w.heap.size 89 4 (.slice A_1 (cps (cutN a data.length)).length c_1) (cps (cutN a data.length)).length (fl encP (cps (cutN a data.length))) ∧ w.heap.size ≤ w_.heap.size ∧ Blk w_ g1 5 (fl encB (layI e body data (cps (cutN a data.length)) j)) ∧ (j ≤ (cps (cutN a data.length)).length) ∧ (cps (cutN a data.length)).length - j = m_) ((cps (cutN a data.length)).length - 0) ?_ ?_
        · exact ⟨_, 0, Ac_frg ⟨rfl, rfl, rfl, rfl, rfl, rfl, rfl, rfl, rfl, rfl, (agr rfl (by first | rfl | (congr 1; omega) | (congr 1; simp; done) | (congr 1; simp only [IntKind.wrap_u64, IntKind.wrap_i64, IntKind.wrap_u8]; omega) | (congr 1 <;> omega))), trivial⟩, hB, hS, hD, ho1, hlo1, hbo, (by omega), rfl⟩
        · clear hB
          clear hS hD ho1 hlo1 hbo
          rintro m_ a_ w11 ⟨σ_, j, rfl, hB, hS, hD, ho1, hlo1, hbl, hj, rfl⟩
          refine C_seq (C_seq (C_reg rfl ?_))
          refine L_run (R_move rfl) rfl ?_
          refine L_run (R_move rfl) rfl ?_
          refine L_run (R_lenSl rfl slc84) rfl ?_
          refine L_run (R_lss rfl rfl) rfl ?_
          refine L_nil (N_then ?_)
          refine C_if rfl (fun h6 => ?_) (fun h6 => ?_)
          · refine C_skip (N_then (C_seq (C_block (C_seq ?_))))
            refine C_draw2 rfl mix ?_
            intro w12 hs8 hz6
            replace hB := gb_tr hB hs8
            replace hS := hS.gb hs8
            replace hD := hD.gb hs8
            replace ho1 := own_gb ho1 hs8
            replace hlo1 := Nat.le_trans hlo1 hs8.size
            replace hbl := hbl.gb hs8
            have hl5 : j < (cps (cutN a data.length)).length := by first | omega | (simp; omega)
            obtain ⟨g6, o5, r4, eA4, er4, ha5⟩ := Sli.place' (xs := cps (cutN a data.length)) (i := j) EncP (own_of ho1).2.2 hl5 rfl
            refine ⟨fun W_ => At W_ g6 r4 [.int .i64 ((((cps (cutN a data.length))[j]).1 : Nat) : Int), .int .i64 ((((cps (cutN a data.length))[j]).2.1 : Nat) : Int), .int .i64 ((((cps (cutN a data.length))[j]).2.2.1 : Nat) : Int), .int .i64 ((((cps (cutN a data.length))[j]).2.2.2 : Nat) : Int)] ∧ True, [0, 1, 2, 3, 4, 5, 6, 7, 8, 9, 10, 11, 12, 13, 14, 15, 16, 17, 18, 20, 22], ?_⟩
            refine T_takeA (i := 0) rfl rfl (by kernel_rfl) (by kernel_rfl) (by kernel_rfl) (Y_of (fun _ ⟨ha5, _⟩ => R_move rfl)) ⟨ha5, trivial⟩ rfl ?_
            refine T_takeA (i := 1) rfl rfl (by kernel_rfl) (by kernel_rfl) (by kernel_rfl) (Y_of (fun _ ⟨ha5, _⟩ => R_move rfl)) ⟨ha5, trivial⟩ rfl ?_
            refine T_takeA (i := 2) rfl rfl (by kernel_rfl) (by kernel_rfl) (by kernel_rfl) (Y_of (fun _ ⟨ha5, _⟩ => R_indexE rfl rfl (by first | rfl | omega) slc84 hl5 eA4 er4)) ⟨ha5, trivial⟩ rfl ?_
            refine T_takeA (i := 3) rfl rfl (by kernel_rfl) (by kernel_rfl) (by kernel_rfl) (Y_of (fun _ ⟨ha5, _⟩ => R_field rfl fld89_1 rfl)) ⟨ha5, trivial⟩ rfl ?_
            refine T_takeA (i := 4) rfl rfl (by kernel_rfl) (by kernel_rfl) (by kernel_rfl) (Y_of (fun _ ⟨ha5, _⟩ => R_load1 rfl scl3 (ha5 1 _ rfl))) ⟨ha5, trivial⟩ rfl ?_
            refine T_takeA (i := 5) rfl rfl (by kernel_rfl) (by kernel_rfl) (by kernel_rfl) (Y_of (fun _ ⟨ha5, _⟩ => R_move rfl)) ⟨ha5, trivial⟩ rfl ?_
            refine T_takeA (i := 6) rfl rfl (by kernel_rfl) (by kernel_rfl) (by kernel_rfl) (Y_of (fun _ ⟨ha5, _⟩ => R_eqv (R_rem rfl rfl (by first | decide | omega)) (v' := .int .u64 ((e % 4294967296 : Nat) : Int)) (remU (k := 4294967296)))) ⟨ha5, trivial⟩ rfl ?_
            refine T_takeA (i := 7) rfl rfl (by kernel_rfl) (by kernel_rfl) (by kernel_rfl) (Y_of (fun _ ⟨ha5, _⟩ => R_eqv (R_conv rfl any22 int90) (v' := .int .u32 ((e % 4294967296 : Nat) : Int)) (congrArg _ (by rw [IntKind.wrap_u32]; omega)))) ⟨ha5, trivial⟩ rfl ?_
            refine T_takeA (i := 8) rfl rfl (by kernel_rfl) (by kernel_rfl) (by kernel_rfl) (Y_of (fun _ ⟨ha5, _⟩ => R_move rfl)) ⟨ha5, trivial⟩ rfl ?_
            refine T_takeA (i := 9) rfl rfl (by kernel_rfl) (by kernel_rfl) (by kernel_rfl) (Y_of (fun _ ⟨ha5, _⟩ => R_move rfl)) ⟨ha5, trivial⟩ rfl ?_
            refine T_takeA (i := 10) rfl rfl (by kernel_rfl) (by kernel_rfl) (by kernel_rfl) (Y_of (fun _ ⟨ha5, _⟩ => R_move rfl)) ⟨ha5, trivial⟩ rfl ?_
            refine T_takeA (i := 11) rfl rfl (by kernel_rfl) (by kernel_rfl) (by kernel_rfl) (Y_of (fun _ ⟨ha5, _⟩ => R_indexE rfl rfl (by first | rfl | omega) slc84 hl5 eA4 er4)) ⟨ha5, trivial⟩ rfl ?_
            refine T_takeA (i := 12) rfl rfl (by kernel_rfl) (by kernel_rfl) (by kernel_rfl) (Y_of (fun _ ⟨ha5, _⟩ => R_field rfl fld89_2 rfl)) ⟨ha5, trivial⟩ rfl ?_
            refine T_takeA (i := 13) rfl rfl (by kernel_rfl) (by kernel_rfl) (by kernel_rfl) (Y_of (fun _ ⟨ha5, _⟩ => R_load1 rfl scl3 (ha5 2 _ rfl))) ⟨ha5, trivial⟩ rfl ?_
            refine T_takeA (i := 14) rfl rfl (by kernel_rfl) (by kernel_rfl) (by kernel_rfl) (Y_of (fun _ ⟨ha5, _⟩ => R_move rfl)) ⟨ha5, trivial⟩ rfl ?_
            refine T_takeA (i := 15) rfl rfl (by kernel_rfl) (by kernel_rfl) (by kernel_rfl) (Y_of (fun _ ⟨ha5, _⟩ => R_move rfl)) ⟨ha5, trivial⟩ rfl ?_
            refine T_takeA (i := 16) rfl rfl (by kernel_rfl) (by kernel_rfl) (by kernel_rfl) (Y_of (fun _ ⟨ha5, _⟩ => R_indexE rfl rfl (by first | rfl | omega) slc84 hl5 eA4 er4)) ⟨ha5, trivial⟩ rfl ?_
            refine T_takeA (i := 17) rfl rfl (by kernel_rfl) (by kernel_rfl) (by kernel_rfl) (Y_of (fun _ ⟨ha5, _⟩ => R_field rfl fld89_3 rfl)) ⟨ha5, trivial⟩ rfl ?_
            refine T_takeA (i := 18) rfl rfl (by kernel_rfl) (by kernel_rfl) (by kernel_rfl) (Y_of (fun _ ⟨ha5, _⟩ => R_load1 rfl scl3 (ha5 3 _ rfl))) ⟨ha5, trivial⟩ rfl ?_
            refine T_all (rs := [19]) (by kernel_rfl) rfl (all1 (O_one rfl ?_))
            refine T_slLH (xs := data) (i := (((cps (cutN a data.length))[j]).2.2.1)) (j := (((cps (cutN a data.length))[j]).2.2.2)) EncB rfl rfl rfl (by first | rfl | omega) (by first | rfl | omega) slc46 (by have h_ := hPO.get (show j < (cps (cutN a data.length)).length by omega); omega) (by have h_ := hPO.get (show j < (cps (cutN a data.length)).length by omega); omega) (by first | omega | (simp; done) | (simp; omega)) hD rfl ?_
            intro A_4 hS_2
            refine L_nil (N_then ⟨fun hN_ => ⟨ha5, trivial⟩, ?_⟩)
            refine T_takeA (i := 20) rfl rfl (by kernel_rfl) (by kernel_rfl) (by kernel_rfl) (Y_of (fun _ ⟨ha5, _⟩ => R_build (pv := [(0, .int .i64 ((((cps (cutN a data.length))[j]).2.1 : Nat) : Int)), (1, .int .u32 ((e % 4294967296 : Nat) : Int)), (2, .slice A_4 (((data.drop (((cps (cutN a data.length))[j]).2.2.1)).take ((((cps (cutN a data.length))[j]).2.2.2) - (((cps (cutN a data.length))[j]).2.2.1))).length) (c2 - (((cps (cutN a data.length))[j]).2.2.1)))]) (cs := [.int .i64 ((((cps (cutN a data.length))[j]).2.1 : Nat) : Int), .int .u32 ((e % 4294967296 : Nat) : Int), .slice A_4 (((data.drop (((cps (cutN a data.length))[j]).2.2.1)).take ((((cps (cutN a data.length))[j]).2.2.2) - (((cps (cutN a data.length))[j]).2.2.1))).length) (c2 - (((cps (cutN a data.length))[j]).2.2.1))]) rfl (by kernel_rfl))) ⟨ha5, trivial⟩ rfl ?_
            refine T_all (rs := [21]) (by kernel_rfl) rfl (all1 (O_one rfl ?_))
            have ge4 : w.heap.size ≤ w12.heap.size := hB.size
            refine L_call rfl cb42 (bytes13 (d := (data.drop (((cps (cutN a data.length))[j]).2.2.1)).take ((((cps (cutN a data.length))[j]).2.2.2) - (((cps (cutN a data.length))[j]).2.2.1))) (k := (((cps (cutN a data.length))[j]).2.1)) (ep := (e % 4294967296)) hS_2 (by have h_ := hPO.get (show j < (cps (cutN a data.length)).length by omega); simp only [List.length_take, List.length_drop]; omega) (by have h_ := hPO.get (show j < (cps (cutN a data.length)).length by omega); omega) (by omega)) rfl ?_
            rintro _ w13 ⟨hs9, A_5, c_3, rfl, ho3⟩
            have lb2 : g1 < w12.heap.size := hbl.lt
            replace hB := gb_tr hB hs9
            replace hS := hS.gb hs9
            replace hD := hD.gb hs9
            replace ho1 := own_gb ho1 hs9
            replace hlo1 := Nat.le_trans hlo1 hs9.size
            replace hbl := hbl.gb hs9
            replace ha5 := At.gb ha5 hs9 (by simp)
            replace hS_2 := hS_2.gb hs9
            have hap2 : ∀ k_, (Value.slice A_5 (fragB (((cps (cutN a data.length))[j]).2.1) (e % 4294967296) ((data.drop (((cps (cutN a data.length))[j]).2.2.1)).take ((((cps (cutN a data.length))[j]).2.2.2) - (((cps (cutN a data.length))[j]).2.2.1)))).length c_3).ownBlock = some k_ → k_ ≠ g1 := fun k_ hk => by have h_ := (World.ownsRow.lt ho3 k_ hk).1; omega
            have hlo3 : w12.heap.size ≤ w13.heap.size := hs9.size
            have hfb_ : putN (maskN (moreN 0 (((putN (((data.drop (((cps (cutN a data.length))[j]).2.2.1)).take ((((cps (cutN a data.length))[j]).2.2.2) - (((cps (cutN a data.length))[j]).2.2.1))).length) 2 ++ [UInt8.ofNat (((cps (cutN a data.length))[j]).2.1)]) ++ putN (e % 4294967296) 4) ++ ((data.drop (((cps (cutN a data.length))[j]).2.2.1)).take ((((cps (cutN a data.length))[j]).2.2.2) - (((cps (cutN a data.length))[j]).2.2.1)))))) 4 ++ (((putN (((data.drop (((cps (cutN a data.length))[j]).2.2.1)).take ((((cps (cutN a data.length))[j]).2.2.2) - (((cps (cutN a data.length))[j]).2.2.1))).length) 2 ++ [UInt8.ofNat (((cps (cutN a data.length))[j]).2.1)]) ++ putN (e % 4294967296) 4) ++ ((data.drop (((cps (cutN a data.length))[j]).2.2.1)).take ((((cps (cutN a data.length))[j]).2.2.2) - (((cps (cutN a data.length))[j]).2.2.1)))) = fragB (((cps (cutN a data.length))[j]).2.1) (e % 4294967296) ((data.drop (((cps (cutN a data.length))[j]).2.2.1)).take ((((cps (cutN a data.length))[j]).2.2.2) - (((cps (cutN a data.length))[j]).2.2.1))) := rfl
            rw [hfb_] at ho3 ⊢
            clear hfb_
            refine L_nil (N_then ⟨fun hN_ => ⟨ha5, trivial⟩, ?_⟩)
            refine T_takeA (i := 22) rfl rfl (by kernel_rfl) (by kernel_rfl) (by kernel_rfl) (Y_of (fun _ ⟨ha5, _⟩ => R_assign rfl)) ⟨ha5, trivial⟩ rfl ?_
            refine T_done (by kernel_rfl) (CalmE.normal ?_)
            refine N_then (C_seq (C_reg rfl ?_))
            refine L_run (R_assign rfl) rfl ?_
            refine L_nil (N_then (C_block ?_))
            have hfit := piece_fit (e := e) (X := layI e body data (cps (cutN a data.length)) j) hPO rfl (show j < (cps (cutN a data.length)).length by omega) (layI_len hPO rfl _ (by omega))
            have hll := layI_len (e := e) (b := body) hPO rfl j (by omega)
            refine C_loop (fun m_ a_ w_ => ∃ (σ_ : Nat → Value) (q : Nat), a_ = Ac 96 σ_ [] [(0, .int .u64 (e : Int)), (1, .slice A body.length c), (2, .int .i64 (a : Int)), (3, .slice A2 data.length c2), (8, .slice none 0 0), (9, .int .i64 0), (10, .bool false), (11, .slice A_1 ((cps (cutN a data.length)).length) c_1), (12, .int .i64 ((cen (cutN a data.length) : Nat) : Int)), (14, .slice (some ⟨g1, 0, none⟩) 832 832), (16, .int .i64 (j : Int)), (17, .slice A_5 ((fragB (((cps (cutN a data.length))[j]).2.1) (e % 4294967296) ((data.drop (((cps (cutN a data.length))[j]).2.2.1)).take ((((cps (cutN a data.length))[j]).2.2.2) - (((cps (cutN a data.length))[j]).2.2.1)))).length) c_3), (18, .int .i64 (q : Int))] ∧ w.grownBy w_ none ∧ Sli t1 lo w.heap.size w_ A (fl encB body) ∧ Sli t2 lo2 w.heap.size w_ A2 (fl encB data) ∧ World.ownsRow w_ w.heap.size 89 4 (.slice A_1 (cps (cutN a data.length)).length c_1) (cps (cutN a data.length)).length (fl encP (cps (cutN a data.length))) ∧ w.heap.size ≤ w_.heap.size ∧ Sli t2 lo2 w.heap.size w_ A_4 (fl encB ((data.drop (((cps (cutN a data.length))[j]).2.2.1)).take ((((cps (cutN a data.length))[j]).2.2.2) - (((cps (cutN a data.length))[j]).2.2.1)))) ∧ World.ownsRow w_ w12.heap.size 5 1 (.slice A_5 (fragB (((cps (cutN a data.length))[j]).2.1) (e % 4294967296) ((data.drop (((cps (cutN a data.length))[j]).2.2.1)).take ((((cps (cutN a data.length))[j]).2.2.2) - (((cps (cutN a data.length))[j]).2.2.1)))).length c_3) (fragB (((cps (cutN a data.length))[j]).2.1) (e % 4294967296) ((data.drop (((cps (cutN a data.length))[j]).2.2.1)).take ((((cps (cutN a data.length))[j]).2.2.2) - (((cps (cutN a data.length))[j]).2.2.1)))).length (fl encB (fragB (((cps (cutN a data.length))[j]).2.1) (e % 4294967296) ((data.drop (((cps (cutN a data.length))[j]).2.2.1)).take ((((cps (cutN a data.length))[j]).2.2.2) - (((cps (cutN a data.length))[j]).2.2.1))))) ∧ w12.heap.size ≤ w_.heap.size ∧ Blk w_ g1 5 (fl encB (spl (layI e body data (cps (cutN a data.length)) j) ((cps (cutN a data.length))[j]).1 ((fragB ((cps (cutN a data.length))[j]).2.1 (e % 4294967296) ((data.drop ((cps (cutN a data.length))[j]).2.2.1).take (((cps (cutN a data.length))[j]).2.2.2 - ((cps (cutN a data.length))[j]).2.2.1))).take q))) ∧ (q ≤ (fragB ((cps (cutN a data.length))[j]).2.1 (e % 4294967296) ((data.drop ((cps (cutN a data.length))[j]).2.2.1).take (((cps (cutN a data.length))[j]).2.2.2 - ((cps (cutN a data.length))[j]).2.2.1))).length) ∧ (fragB ((cps (cutN a data.length))[j]).2.1 (e % 4294967296) ((data.drop ((cps (cutN a data.length))[j]).2.2.1).take (((cps (cutN a data.length))[j]).2.2.2 - ((cps (cutN a data.length))[j]).2.2.1))).length - q = m_) ((fragB ((cps (cutN a data.length))[j]).2.1 (e % 4294967296) ((data.drop ((cps (cutN a data.length))[j]).2.2.1).take (((cps (cutN a data.length))[j]).2.2.2 - ((cps (cutN a data.length))[j]).2.2.1))).length - 0) ?_ ?_
            · exact ⟨_, 0, Ac_frg ⟨rfl, rfl, rfl, rfl, rfl, rfl, rfl, rfl, rfl, rfl, rfl, rfl, (agr rfl (by first | rfl | (congr 1; omega) | (congr 1; simp; done) | (congr 1; simp only [IntKind.wrap_u64, IntKind.wrap_i64, IntKind.wrap_u8]; omega) | (congr 1 <;> omega))), trivial⟩, hB, hS, hD, ho1, hlo1, hS_2, ho3, hlo3, (by rw [List.take_zero, spl_nil]; exact hbl), (by omega), rfl⟩
            · clear hB
              clear hS hD ho1 hlo1 hbl ha5 hS_2 ho3 hlo3
              rintro m_ a_ w14 ⟨σ_, q, rfl, hB, hS, hD, ho1, hlo1, hS_2, ho3, hlo3, hbq, hq, rfl⟩
              refine C_seq (C_seq (C_reg rfl ?_))
              refine L_run (R_move rfl) rfl ?_
              refine L_run (R_move rfl) rfl ?_
              refine L_run (R_lenSl rfl slc46) rfl ?_
              refine L_run (R_lss rfl rfl) rfl ?_
              refine L_nil (N_then ?_)
              refine C_if rfl (fun h7 => ?_) (fun h7 => ?_)
              · refine C_skip (N_then (C_seq (C_block ?_)))
                refine C_draw2 rfl mix ?_
                intro w15 hs10 hz7
                replace hB := gb_tr hB hs10
                replace hS := hS.gb hs10
                replace hD := hD.gb hs10
                replace ho1 := own_gb ho1 hs10
                replace hlo1 := Nat.le_trans hlo1 hs10.size
                replace hS_2 := hS_2.gb hs10
                replace ho3 := own_gb ho3 hs10
                replace hlo3 := Nat.le_trans hlo3 hs10.size
                replace hbq := hbq.gb hs10
                have hl6 : j < (cps (cutN a data.length)).length := by first | omega | (simp; omega)
                obtain ⟨g7, o6, r5, eA5, er5, ha6⟩ := Sli.place' (xs := cps (cutN a data.length)) (i := j) EncP (own_of ho1).2.2 hl6 rfl
                have hl7 : q < (fragB (((cps (cutN a data.length))[j]).2.1) (e % 4294967296) ((data.drop (((cps (cutN a data.length))[j]).2.2.1)).take ((((cps (cutN a data.length))[j]).2.2.2) - (((cps (cutN a data.length))[j]).2.2.1)))).length := by first | omega | (simp; omega)
                obtain ⟨g8, o7, r6, eA6, er6, ha7⟩ := Sli.place' (xs := fragB (((cps (cutN a data.length))[j]).2.1) (e % 4294967296) ((data.drop (((cps (cutN a data.length))[j]).2.2.1)).take ((((cps (cutN a data.length))[j]).2.2.2) - (((cps (cutN a data.length))[j]).2.2.1)))) (i := q) EncB (own_of ho3).2.2 hl7 rfl
                refine ⟨fun W_ => At W_ g7 r5 [.int .i64 ((((cps (cutN a data.length))[j]).1 : Nat) : Int), .int .i64 ((((cps (cutN a data.length))[j]).2.1 : Nat) : Int), .int .i64 ((((cps (cutN a data.length))[j]).2.2.1 : Nat) : Int), .int .i64 ((((cps (cutN a data.length))[j]).2.2.2 : Nat) : Int)] ∧ At W_ g8 r6 [.int .u8 (((fragB (((cps (cutN a data.length))[j]).2.1) (e % 4294967296) ((data.drop (((cps (cutN a data.length))[j]).2.2.1)).take ((((cps (cutN a data.length))[j]).2.2.2) - (((cps (cutN a data.length))[j]).2.2.1))))[q]).toNat : Int)] ∧ True, [0, 1, 2, 3, 4, 5, 6, 7, 8, 9, 10, 11, 12], ?_⟩
                refine T_takeA (i := 0) rfl rfl (by kernel_rfl) (by kernel_rfl) (by kernel_rfl) (Y_of (fun _ ⟨ha6, ha7, _⟩ => R_move rfl)) ⟨ha6, ha7, trivial⟩ rfl ?_
                refine T_takeA (i := 1) rfl rfl (by kernel_rfl) (by kernel_rfl) (by kernel_rfl) (Y_of (fun _ ⟨ha6, ha7, _⟩ => R_move rfl)) ⟨ha6, ha7, trivial⟩ rfl ?_
                refine T_takeA (i := 2) rfl rfl (by kernel_rfl) (by kernel_rfl) (by kernel_rfl) (Y_of (fun _ ⟨ha6, ha7, _⟩ => R_move rfl)) ⟨ha6, ha7, trivial⟩ rfl ?_
                refine T_takeA (i := 3) rfl rfl (by kernel_rfl) (by kernel_rfl) (by kernel_rfl) (Y_of (fun _ ⟨ha6, ha7, _⟩ => R_indexE rfl rfl (by first | rfl | omega) slc84 hl6 eA5 er5)) ⟨ha6, ha7, trivial⟩ rfl ?_
                refine T_takeA (i := 4) rfl rfl (by kernel_rfl) (by kernel_rfl) (by kernel_rfl) (Y_of (fun _ ⟨ha6, ha7, _⟩ => R_field rfl fld89_0 rfl)) ⟨ha6, ha7, trivial⟩ rfl ?_
                refine T_takeA (i := 5) rfl rfl (by kernel_rfl) (by kernel_rfl) (by kernel_rfl) (Y_of (fun _ ⟨ha6, ha7, _⟩ => R_load1 rfl scl3 (ha6 0 _ rfl))) ⟨ha6, ha7, trivial⟩ rfl ?_
                refine T_takeA (i := 6) rfl rfl (by kernel_rfl) (by kernel_rfl) (by kernel_rfl) (Y_of (fun _ ⟨ha6, ha7, _⟩ => R_move rfl)) ⟨ha6, ha7, trivial⟩ rfl ?_
                refine T_takeA (i := 7) rfl rfl (by kernel_rfl) (by kernel_rfl) (by kernel_rfl) (Y_of (fun _ ⟨ha6, ha7, _⟩ => R_eqv (R_add64 (a := ((((cps (cutN a data.length))[j]).1 : Nat) : Int)) (b := (q : Int)) rfl rfl (by first | omega | (have h_ := hPO.get (show j < (cps (cutN a data.length)).length by omega); omega))) (v' := .int .i64 ((((cps (cutN a data.length))[j]).1 + q : Nat) : Int)) (congrArg _ (by omega)))) ⟨ha6, ha7, trivial⟩ rfl ?_
                refine T_takeA (i := 8) rfl rfl (by kernel_rfl) (by kernel_rfl) (by kernel_rfl) (Y_of (fun _ ⟨ha6, ha7, _⟩ => R_move rfl)) ⟨ha6, ha7, trivial⟩ rfl ?_
                refine T_takeA (i := 9) rfl rfl (by kernel_rfl) (by kernel_rfl) (by kernel_rfl) (Y_of (fun _ ⟨ha6, ha7, _⟩ => R_move rfl)) ⟨ha6, ha7, trivial⟩ rfl ?_
                refine T_takeA (i := 10) rfl rfl (by kernel_rfl) (by kernel_rfl) (by kernel_rfl) (Y_of (fun _ ⟨ha6, ha7, _⟩ => R_indexE rfl rfl (by first | rfl | omega) slc46 hl7 eA6 er6)) ⟨ha6, ha7, trivial⟩ rfl ?_
                refine T_takeA (i := 11) rfl rfl (by kernel_rfl) (by kernel_rfl) (by kernel_rfl) (Y_of (fun _ ⟨ha6, ha7, _⟩ => R_load1 rfl scl5 (ha7 0 _ rfl))) ⟨ha6, ha7, trivial⟩ rfl ?_
                refine T_takeA (i := 12) rfl rfl (by kernel_rfl) (by kernel_rfl) (by kernel_rfl) (Y_of (fun _ ⟨ha6, ha7, _⟩ => R_indexE (i := (((cps (cutN a data.length))[j]).1 + q)) (m := 832) (r := (((cps (cutN a data.length))[j]).1 + q)) (off := 0) rfl rfl (by first | rfl | omega) slc46 (by omega) rfl (by omega))) ⟨ha6, ha7, trivial⟩ rfl ?_
                refine T_switch (S' := fun _ => True) (qs' := []) (by kernel_rfl) ?_
                refine T_all (rs := [13]) (by kernel_rfl) rfl (all1 (O_one rfl ?_))
                refine L_st1v (v := .int .u8 (((fragB (((cps (cutN a data.length))[j]).2.1) (e % 4294967296) ((data.drop (((cps (cutN a data.length))[j]).2.2.1)).take ((((cps (cutN a data.length))[j]).2.2.2) - (((cps (cutN a data.length))[j]).2.2.1))))[q]).toNat : Int)) rfl rfl rfl sz5 hbq (by rw [fl_len EncB, Nat.mul_one]; first | (omega) | (rw [((spl_lenQ hfit).trans hll)]; omega)) ?_
                intro w16 hb4 hs11 hz8
                rw [fl_setB (by first | (omega) | (rw [((spl_lenQ hfit).trans hll)]; omega))] at hb4
                replace hB := gb_trg hB hs11 ge2
                replace hS := hS.old hs11 ge2
                replace hD := hD.old hs11 ge2
                replace ho1 := own_other ho1 hbq rfl hs11
                replace hlo1 := Nat.le_trans hlo1 hs11.size
                replace hS_2 := hS_2.old hs11 ge2
                replace ho3 := ho3.kept hs11 (.inr (fun e_ => hap2 _ e_ rfl))
                replace hlo3 := Nat.le_trans hlo3 hs11.size
                refine L_nil (N_then ⟨fun hN_ => trivial, ?_⟩)
                refine T_done (by kernel_rfl) (CalmE.normal ?_)
                refine N_in (N_then (C_reg rfl ?_))
                refine L_run (R_move rfl) rfl ?_
                refine L_run (R_add64 rfl rfl (by first | omega | (have h_ := hPO.get (show j < (cps (cutN a data.length)).length by omega); omega))) rfl ?_
                refine L_run (R_assign rfl) rfl ?_
                refine L_nil (N_then ?_)
                exact ⟨(fragB ((cps (cutN a data.length))[j]).2.1 (e % 4294967296) ((data.drop ((cps (cutN a data.length))[j]).2.2.1).take (((cps (cutN a data.length))[j]).2.2.2 - ((cps (cutN a data.length))[j]).2.2.1))).length - (q + 1), by omega, _, (q + 1), Ac_frg ⟨rfl, rfl, rfl, rfl, rfl, rfl, rfl, rfl, rfl, rfl, rfl, rfl, (agr rfl (by first | rfl | (congr 1; omega) | (congr 1; simp; done) | (congr 1; simp only [IntKind.wrap_u64, IntKind.wrap_i64, IntKind.wrap_u8]; omega) | (congr 1 <;> omega))), trivial⟩, hB, hS, hD, ho1, hlo1, hS_2, ho3, hlo3, (by rw [← spl_set (q := q) (by omega) hfit]; exact hb4), (by omega), rfl⟩
              · refine C_exit (X_then (X_then (X_hit (N_in (N_then (C_reg rfl ?_))))))
                refine L_run (R_move rfl) rfl ?_
                refine L_run (R_add64 rfl rfl (by first | omega | (have h_ := hPO.get (show j < (cps (cutN a data.length)).length by omega); omega))) rfl ?_
                refine L_run (R_assign rfl) rfl ?_
                refine L_nil (N_then ?_)
                exact ⟨(cps (cutN a data.length)).length - (j + 1), by omega, _, (j + 1), Ac_frg ⟨rfl, rfl, rfl, rfl, rfl, rfl, rfl, rfl, rfl, rfl, (agr rfl (by first | rfl | (congr 1; omega) | (congr 1; simp; done) | (congr 1; simp only [IntKind.wrap_u64, IntKind.wrap_i64, IntKind.wrap_u8]; omega) | (congr 1 <;> omega))), trivial⟩, hB, hS, hD, ho1, hlo1, (by rw [layI_succ (by omega)]; have h_ := hbq; rw [List.take_of_length_le (l := (fragB ((cps (cutN a data.length))[j]).2.1 (e % 4294967296) ((data.drop ((cps (cutN a data.length))[j]).2.2.1).take (((cps (cutN a data.length))[j]).2.2.2 - ((cps (cutN a data.length))[j]).2.2.1)))) (i := q) (by omega)] at h_; exact h_), (by omega), rfl⟩
          · refine C_exit (X_then (X_then (X_hit (N_then (C_seq (C_reg rfl ?_))))))
            refine L_run (R_move rfl) rfl ?_
            refine L_run (R_move rfl) rfl ?_
            refine L_run (R_assign rfl) rfl ?_
            refine L_run (R_assign rfl) rfl ?_
            refine L_run (R_assign rfl) rfl ?_
            refine L_nil (N_then (C_ret ?_))
            refine ret3 Tryd.results30 rfl rfl rfl ?_
            obtain rfl : j = (cps (cutN a data.length)).length := by omega
            have hx_ : addN e body a data = some (layI e body data (cps (cutN a data.length)) (cps (cutN a data.length)).length, cen (cutN a data.length)) := by unfold addN; cases hcu : cutN a data.length with
              | none => simp_all
              | some r_ => rfl
            have hl_ : (layI e body data (cps (cutN a data.length)) (cps (cutN a data.length)).length).length = 832 := layI_len hPO rfl _ (Nat.le_refl _)
            have ho_ := Blk.own (sz := 1) (m := 832) hbl (by decide) (by rw [fl_len EncB, hl_]) ge2
            rw [hx_]; refine ⟨hB, some ⟨g1, 0, none⟩, 832, ?_, ?_⟩
            · show _ = Value.tuple #[.slice _ (layI e body data (cps (cutN a data.length)) (cps (cutN a data.length)).length).length 832, _, _]; rw [hl_]; rfl
            · show World.ownsRow _ _ _ _ (.slice _ (layI e body data (cps (cutN a data.length)) (cps (cutN a data.length)).length).length _) (layI e body data (cps (cutN a data.length)) (cps (cutN a data.length)).length).length _; rw [hl_]; exact ho_

end Go.Proofs.YtbpjdcpfphnccaaDoor
