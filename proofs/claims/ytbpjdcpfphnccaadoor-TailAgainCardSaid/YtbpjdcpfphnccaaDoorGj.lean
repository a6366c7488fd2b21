/-
  Step lemmas, fourteenth part: a cell of a row of one's own is written; a row of one array. They hold of every program.
-/
import Derived.Test.YtbpjdcpfphnccaaDoorGl
import Derived.Test.YtbpjdcpfphnccaaDoorGu
namespace Go.Proofs.YtbpjdcpfphnccaaDoor.Gw
open Go.RowKit Go.Proofs.YtbpjdcpfphnccaaDoor.Pl
set_option linter.unusedVariables false
set_option linter.unusedSimpArgs false
theorem own_pos {w : World} {lo t sz m c : Nat} {A : Option Addr} {vs : List Value} (ho : w.ownsRow lo t sz (.slice A m c) m vs) (h : 0 < m) :
    ∃ g cur, A = some ⟨g, 0, none⟩ ∧ lo ≤ g ∧ w.heap[g]? = some (.cells cur t (0, 0)) ∧ m ≤ c ∧ c ≤ maxLen ∧ cur.size = c * sz ∧ cur.toList.take (m * sz) = vs := by
  rcases ho.2 with ⟨_, h0⟩ | ⟨g, cap, cur, e, h1, h2, h3, h4, h5, h6⟩
  · omega
  · simp only [Value.slice.injEq, true_and] at e
    obtain ⟨rfl, rfl⟩ := e
    exact ⟨g, cur, rfl, h1, h2, h3, h4, h5, h6⟩
theorem fl_setE {α : Type} {enc : α → List Value} {sz : Nat} (he : Enc enc sz) : ∀ (xs : List α) (i f : Nat) (y : α) (v : Value) (hi : i < xs.length), f < sz → enc y = (enc xs[i]).set f v → (fl enc xs).set (i * sz + f) v = fl enc (xs.set i y)
  | [], i, f, y, v, hi, _, _ => by simp at hi
  | x :: xs, 0, f, y, v, hi, hf, h => by
    rw [List.set_cons_zero, fl_cons, fl_cons, Nat.zero_mul, Nat.zero_add, List.set_append_left _ _ (by rw [he.len]; exact hf)]
    rw [h]; rfl
  | x :: xs, i + 1, f, y, v, hi, hf, h => by
    rw [List.set_cons_succ, fl_cons, fl_cons, List.set_append_right _ _ (by rw [he.len, Nat.add_mul]; omega), he.len, show (i + 1) * sz + f - sz = i * sz + f by rw [Nat.add_mul]; omega]
    rw [fl_setE he xs i f y v (by simpa using hi) hf (by simpa using h)]
theorem fold_all : ∀ (vs : List Value) (k : Nat) (cs : Array Value), cs.size = k + vs.length → (vs.zipIdx k).foldl (fun (cs : Array Value) (p : Value × Nat) => cs.setIfInBounds (0 + p.2) p.1) cs = (cs.toList.take k ++ vs).toArray
  | [], k, cs, h => by
    simp only [List.zipIdx_nil, List.foldl_nil, List.append_nil]
    rw [List.take_of_length_le (by simpa using Nat.le_of_eq h)]
  | v :: vs, k, cs, h => by
    rw [List.zipIdx_cons, List.foldl_cons, fold_all vs (k + 1) _ (by simp at h ⊢; omega)]
    congr 1
    have hk : k < cs.toList.length := by simp at h ⊢; omega
    simp only [Nat.zero_add, Array.toList_setIfInBounds]
    rw [List.take_succ_eq_append_getElem (by simpa using hk), List.take_set_of_le (Nat.le_refl k), List.getElem_set_self]
    simp
section
variable {P : Program} {ops : Array Oper} {Q : Exit → Act → World → Prop} {rest : List Oper} {n : Nat} {σ : Nat → Value} {ds : List Deferred} {l : Sl} {w : World} {x y : Operand} {t e te : TypeId} {d : Nat} {A : Option Addr} {ty : TypeId} {pos : String} {af : Array Edge}
/-- A place of a row of one's own, to be written. -/
theorem T_indexO {α : Type} {enc : α → List Value} {xs : List α} {k : IntKind} {a : Int} {i sz by_ lo c r : Nat} (he : Enc enc sz) (hx : ev n l x = some (.slice A xs.length c)) (hy : ev n l y = some (.int k a)) (ha : a = (i : Int)) (hs : slcB P t e sz by_ = true) (hi' : i < xs.length)
    (ho : w.ownsRow lo te sz (.slice A xs.length c) xs.length (fl enc xs)) (hr : i * sz = r) (hn : Nat.blt d n = true)
    (K : ∀ g, (Value.slice A xs.length c).ownBlock = some g → At w g r (enc xs[i]) → wpL P ops Q rest (Ac n σ ds ((d, .pointer (some ⟨g, r, none⟩)) :: l)) w) :
    wpL P ops Q (⟨some d, .indexAddr t x y, ty, pos, af, none⟩ :: rest) (Ac n σ ds l) w := by
  obtain ⟨g, cur, rfl, _, h2, h3, h4, h5, h6⟩ := own_pos ho (by omega)
  subst hr
  refine L_run (R_indexE hx hy ha hs hi' rfl (Nat.zero_add _)) hn (K g rfl ?_)
  have hS := (own_of ho).2.2
  obtain ⟨g', off, hA, hat⟩ := hS.place he hi' (by
    obtain ⟨_, _, _, _, _, _, _, _, e4, _⟩ := slcB_u hs
    exact e4)
  simp only [Option.some.injEq, Addr.mk.injEq] at hA
  obtain ⟨rfl, rfl, _⟩ := hA
  rw [Nat.zero_add] at hat
  exact hat
/-- A cell of a row of one's own is written. -/
theorem L_stO {lo sz m c o g T : Nat} {vs vs' : List Value} {v : Value} (hx : ev n l x = some (.pointer (some ⟨g, o, none⟩))) (hy : ev n l y = some v) (hv : v.oneCell' = true) (hz : szB P t 1 = true)
    (ho : w.ownsRow lo T sz (.slice A m c) m vs) (hg : (Value.slice A m c).ownBlock = some g) (hlt : o < vs.length) (hvs : vs.set o v = vs')
    (K : ∀ w', w'.ownsRow lo T sz (.slice A m c) m vs' → w.grownBy w' (Value.slice A m c).ownBlock → w'.heap.size = w.heap.size → wpL P ops Q rest (Ac n σ ds l) w') :
    wpL P ops Q (⟨none, .store t x y, ty, pos, af, none⟩ :: rest) (Ac n σ ds l) w := by
  have hm : 0 < m := by
    rcases Nat.eq_zero_or_pos m with h | h
    · rw [ho.1, h] at hlt; simp at hlt
    · exact h
  obtain ⟨g', cur, rfl, h1, h2, h3, h4, h5, h6⟩ := own_pos ho hm
  simp only [Value.ownBlock, Option.some.injEq] at hg
  subst hg
  have hb : Blk w g' T cur.toList := by show w.heap[g']? = _; rw [h2]
  have hcur : vs.length ≤ cur.toList.length := by rw [← h6, List.length_take]; omega
  refine L_st1v hx hy hv hz hb (Nat.lt_of_lt_of_le hlt hcur) fun w' hb' hs hz' => K w' ⟨by rw [← hvs, List.length_set]; exact ho.1, .inr ⟨g', c, (cur.toList.set o v).toArray, rfl, h1, hb', h3, h4, by simpa using h5, ?_⟩⟩ hs hz'
  rw [List.take_set, h6]
  exact hvs
/-- A row of one array. -/
theorem T_bs1A {sz by_ : Nat} {vs : List Value} {z : Value} (hs : slcB P t e sz by_ = true) (hz : (P.info? e).bind (·.zero) = some z) (hx : ev n l x = some (.agg vs.toArray)) (hl : vs.length = sz) (hm : Nat.ble sz 16777216 = true) (hn : Nat.blt d n = true)
    (K : ∀ g w', g = w.heap.size → Blk w' g e vs → w.grownBy w' none → w'.heap.size = g + 1 → wpL P ops Q rest (Ac n σ ds ((d, .slice (some ⟨g, 0, none⟩) 1 1) :: l)) w') :
    wpL P ops Q (⟨some d, .buildSlice t 1 #[(0, x)], ty, pos, af, none⟩ :: rest) (Ac n σ ds l) w := by
  refine L_buildSlice (ps := [(0, x)]) (pv := [(0, .agg vs.toArray)]) (cs := vs) hs hz (by simp [evP, hx]) (by rw [Nat.one_mul]; exact hm) ?_ hn K
  have hc : (Value.agg vs.toArray).cells = vs.toArray := rfl
  have h1 := fold_all vs 0 ((Array.range (1 * sz)).map (z.cells[· % z.cells.size]!)) (by simp [hl])
  simp only [List.take_zero, List.nil_append] at h1
  simp only [Instr.fill, hc]
  simp only [Nat.zero_mul, List.size_toArray, hl, ne_eq, not_true_eq_false, if_false]
  simpa using h1
/-- A part of an array, its place known. -/
theorem T_slArrP {g m sz i j r : Nat} {ylo yhi ymx : Option Operand} (hs : arrB P t e m sz = true) (hx : ev n l x = some (.pointer (some ⟨g, 0, none⟩)))
    (hij : i ≤ j) (hjr : j ≤ r) (hrm : r ≤ m) (him : i < r) (hd : Nat.blt d n = true)
    (hlo : match ylo with | none => i = 0 | some y => ∃ k, ev n l y = some (.int k (i : Int))) (hhi : match yhi with | none => j = m | some y => ∃ k, ev n l y = some (.int k (j : Int))) (hmx : match ymx with | none => r = m | some y => yhi.isSome = true ∧ ∃ k, ev n l y = some (.int k (r : Int)))
    (K : wpL P ops Q rest (Ac n σ ds ((d, .slice (some ⟨g, i * sz, none⟩) (j - i) (r - i)) :: l)) w) :
    wpL P ops Q (⟨some d, .slice t x ylo yhi ymx, ty, pos, af, none⟩ :: rest) (Ac n σ ds l) w := by
  obtain ⟨hu, hz⟩ := arrB_u hs
  refine L_run (v := .slice (some ⟨g, i * sz, none⟩) (j - i) (r - i)) ?_ hd K
  have hne : ¬ r = i := by omega
  have hjm : j ≤ m := Nat.le_trans hjr hrm
  cases ylo with
  | none =>
    obtain rfl : i = 0 := hlo
    cases yhi with
    | none =>
      obtain rfl : j = m := hhi
      cases ymx with
      | none =>
        obtain rfl : r = j := hmx
        simp only [execOp, Option.map_none, ev_eval hx]
        refine v_run ?_
        simp [Instr.sliceAt, run_underlying hu, Instr.sureAddr, Instr.sliceBounds, run_sizeOf hz, Addr.add_lit]
      | some y3 => exact absurd hmx.1 (by simp)
    | some y2 =>
      obtain ⟨k2, hy2⟩ := hhi
      cases ymx with
      | none =>
        obtain rfl : r = m := hmx
        simp only [execOp, Option.map_none, Option.map_some, ev_eval hx, ev_eval hy2]
        refine v_run ?_
        simp [Instr.sliceAt, run_underlying hu, Instr.sureAddr, Instr.sliceBounds, run_bound rfl hjm, run_sizeOf hz, Addr.add_lit]
      | some y3 =>
        obtain ⟨_, k3, hy3⟩ := hmx
        simp only [execOp, Option.map_none, Option.map_some, ev_eval hx, ev_eval hy2, ev_eval hy3]
        refine v_run ?_
        simp [Instr.sliceAt, run_underlying hu, Instr.sureAddr, Instr.sliceBounds, run_bound rfl hjr, run_bound rfl hrm, run_sizeOf hz, Addr.add_lit]
  | some y =>
    obtain ⟨k1, hy⟩ := hlo
    cases yhi with
    | none =>
      obtain rfl : j = m := hhi
      cases ymx with
      | none =>
        obtain rfl : r = j := hmx
        simp only [execOp, Option.map_none, Option.map_some, ev_eval hx, ev_eval hy]
        refine v_run ?_
        simp [Instr.sliceAt, run_underlying hu, Instr.sureAddr, Instr.sliceBounds, run_bound rfl hij, run_sizeOf hz, Addr.add_lit, hne]
      | some y3 => exact absurd hmx.1 (by simp)
    | some y2 =>
      obtain ⟨k2, hy2⟩ := hhi
      cases ymx with
      | none =>
        obtain rfl : r = m := hmx
        simp only [execOp, Option.map_none, Option.map_some, ev_eval hx, ev_eval hy, ev_eval hy2]
        refine v_run ?_
        simp [Instr.sliceAt, run_underlying hu, Instr.sureAddr, Instr.sliceBounds, run_bound rfl hij, run_bound rfl hjm, run_sizeOf hz, Addr.add_lit, hne]
      | some y3 =>
        obtain ⟨_, k3, hy3⟩ := hmx
        simp only [execOp, Option.map_some, ev_eval hx, ev_eval hy, ev_eval hy2, ev_eval hy3]
        refine v_run ?_
        simp [Instr.sliceAt, run_underlying hu, Instr.sureAddr, Instr.sliceBounds, run_bound rfl hij, run_bound rfl hjr, run_bound rfl hrm, run_sizeOf hz, Addr.add_lit, hne]
theorem zero_row {z : Value} {z0 : UInt8} (hc : z.cells = (encB z0).toArray) (k : Nat) : (Builtin.zeroCells z.cells k).toList = fl encB (List.replicate k z0) := by
  have hs : (encB z0).length = 1 := rfl
  refine List.ext_getElem (by simp [size_zeroCells, hc, flB_len, hs]) fun i h1 h2 => ?_
  have hi : i < k := by simpa [flB_len] using h2
  have h3 := fl_atB (X := List.replicate k z0) (i := i) (by simpa using hi)
  rw [List.getElem?_eq_getElem h2] at h3
  rw [Option.some.inj h3, List.getElem_replicate]
  simp [Builtin.zeroCells, hc, encB, Nat.mod_one]
/-- An append of nothing. -/
theorem T_appE {sz by_ m c c2 : Nat} {x1 y1 : Operand} {a : Addr} {A2 : Option Addr} (hs : slcB P t e sz by_ = true) (hv : ev n l x1 = some (.slice (some a) m c)) (hx : ev n l y1 = some (.slice A2 0 c2)) (hmc : m ≤ c) (hn : Nat.blt d n = true)
    (K : wpL P ops Q rest (Ac n σ ds ((d, .slice (some a) m c) :: l)) w) :
    wpL P ops Q (⟨some d, .call ⟨.builtin .append, #[x1, y1], #[t, t]⟩, ty, pos, af, none⟩ :: rest) (Ac n σ ds l) w := by
  obtain ⟨hu, i, z, hi, hz, e1, e2, e3, e4, e5⟩ := slcB_u hs
  have hfc : ∀ W : World, (Builtin.firstCells sz 0 (.slice A2 0 c2)).run P W = .ok #[] W := by
    intro W; cases A2 <;> simp [Builtin.firstCells, loadCells, loadCellsFrom]
  have hrun : (Builtin.append_ #[t, t] ty #[.slice (some a) m c, .slice A2 0 c2]).run P w = .ok (.slice (some a) m c) w := by
    simp [Builtin.append_, run_underlying hu, sizeOf, typeInfo, hi, e1, Builtin.lenOf, hfc, hmc, storeCells]
  refine L_run ?_ hn K
  simp [execOp, resolve, invoke, builtin, ev_eval hv, ev_eval hx, hrun]
/-- An append to a row of bytes that is full: a new one. -/
theorem T_appG {m by_ c c2 lo2 hi2 te lo1 hi1 t1 : Nat} {x1 y1 : Operand} {A A2 : Option Addr} {xs ys : List UInt8} {z : Value} (hs : slcB P t e 1 by_ = true) (hz : (P.info? e).bind (·.zero) = some z) (hzc : z.cells = (encB 0).toArray) (hv : ev n l x1 = some (.slice A m c)) (hm : xs.length = m) (hx : ev n l y1 = some (.slice A2 ys.length c2))
    (hS : Sli t1 lo1 hi1 w A (fl encB xs)) (hr : Sli te lo2 hi2 w A2 (fl encB ys)) (h0 : 0 < xs.length) (h1 : 0 < ys.length) (hc : c < xs.length + ys.length) (hb : (xs.length + ys.length) * by_ ≤ 140737488355328) (hn : Nat.blt d n = true)
    (K : ∀ g k w', g = w.heap.size → Blk w' g e (fl encB ((xs ++ ys) ++ List.replicate k 0)) → w.grownBy w' none → w'.heap.size = g + 1 → (xs ++ ys).length + k ≤ maxLen → wpL P ops Q rest (Ac n σ ds ((d, .slice (some ⟨g, 0, none⟩) (xs ++ ys).length ((xs ++ ys).length + k)) :: l)) w') :
    wpL P ops Q (⟨some d, .call ⟨.builtin .append, #[x1, y1], #[t, t]⟩, ty, pos, af, none⟩ :: rest) (Ac n σ ds l) w := by
  subst hm
  obtain ⟨hu, inf, z', hinf, hz', e1, e2, e3, e4, e5⟩ := slcB_u hs
  obtain rfl : z' = z := by simpa [hinf, hz'] using hz
  have f1 := flB_len xs
  have f2 := flB_len ys
  rcases hS with hS | ⟨g1, o1, cc1, fr1, rfl, _, _, ⟨t1', h3, _⟩, h4⟩
  · rw [hS] at f1; simp at f1; omega
  rcases hr with hr | ⟨g2, o2, cc2, fr2, rfl, _, _, ⟨t2', h5, _⟩, h6⟩
  · rw [hr] at f2; simp at f2; omega
  have hrun := run_append_grow (P := P) w t ty e inf z' hu hinf hz' ⟨g1, o1, none⟩ xs.length c (fl encB xs) (by rw [f1, e1, Nat.mul_one]) (fun j v hj => by rw [Addr.add_lit, cell_of_row w g1 _ _ t1' fr1 h3]; exact h4 j v hj) ⟨g2, o2, none⟩ ys.length c2 (fl encB ys) (by rw [f2, e1, Nat.mul_one]) (fun j v hj => by rw [Addr.add_lit, cell_of_row w g2 _ _ t2' fr2 h5]; exact h6 j v hj) hc
    (by have : (xs.length + ys.length) * 1 ≤ (xs.length + ys.length) * by_ := Nat.mul_le_mul_left _ e5
        omega) (by rw [e2]; exact growslice_fits hc hb)
  have hge := grownCap_ge w (xs.length + ys.length) c e
  have hmx := grownCap_le_maxLen w (xs.length + ys.length) c e (by have : (xs.length + ys.length) * 1 ≤ (xs.length + ys.length) * by_ := Nat.mul_le_mul_left _ e5
                                                                   simp only [maxLen]; omega)
  obtain ⟨k, hk⟩ : ∃ k, grownCap w (xs.length + ys.length) c e = xs.length + ys.length + k := ⟨grownCap w (xs.length + ys.length) c e - (xs.length + ys.length), by omega⟩
  rw [hk, show xs.length + ys.length + k - (xs.length + ys.length) = k by omega] at hrun
  have hgr : w.grownBy w.drew none := ⟨rfl, rfl, rfl, Nat.le_refl _, fun _ _ _ => rfl⟩
  have hcs : (fl encB xs).toArray ++ (fl encB ys).toArray ++ Builtin.zeroCells z'.cells k = (fl encB ((xs ++ ys) ++ List.replicate k 0)).toArray := by
    rw [fl_app, fl_app, ← zero_row hzc k]
    apply Array.ext'
    simp
  rw [hcs] at hrun
  have K' := K w.heap.size k (w.drew.alloc (.cells (fl encB ((xs ++ ys) ++ List.replicate k 0)).toArray e)) rfl (by
    have := heap_alloc_new w.drew (.cells (fl encB ((xs ++ ys) ++ List.replicate k 0)).toArray e)
    exact this) (gb_tr hgr (gb_alloc _ _)) (by show (w.drew.heap.push _).size = _; exact Array.size_push ..) (by rw [List.length_append]; omega)
  rw [List.length_append] at K'
  refine L_run ?_ hn K'
  simp [execOp, resolve, invoke, builtin, ev_eval hv, ev_eval hx, hrun]
end
end Go.Proofs.YtbpjdcpfphnccaaDoor.Gw
