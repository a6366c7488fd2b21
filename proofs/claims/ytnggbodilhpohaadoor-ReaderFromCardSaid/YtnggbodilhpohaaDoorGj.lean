/-
  Step lemmas, fourteenth part: a cell of a row of one's own is written; a row of one array. They hold of every program.
-/
import Derived.Test.YtnggbodilhpohaaDoorGl
import Derived.Test.YtnggbodilhpohaaDoorGu
namespace Go.Proofs.YtnggbodilhpohaaDoor.Gw
open Go.RowKit Go.Proofs.YtnggbodilhpohaaDoor.Pl
set_option linter.unusedVariables false
set_option linter.unusedSimpArgs false
theorem own_pos {w : World} {lo t sz m c : Nat} {A : Option Addr} {vs : List Value} (ho : w.ownsRow lo t sz (.slice A m c) m vs) (h : 0 < m) :
    ∃ g cur, A = some ⟨g, 0, none⟩ ∧ lo ≤ g ∧ w.heap[g]? = some (.cells cur t (0, 0)) ∧ m ≤ c ∧ c ≤ maxLen ∧ cur.size = c * sz ∧ cur.toList.take (m * sz) = vs := by
  rcases ho.2 with ⟨_, h0⟩ | ⟨g, cap, cur, e, h1, h2, h3, h4, h5, h6⟩
  · omega
  · simp only [Value.slice.injEq, true_and] at e
    obtain ⟨rfl, rfl⟩ := e
    exact ⟨g, cur, rfl, h1, h2, h3, h4, h5, h6⟩
theorem fl_setE {α : Type} {enc : α → List Value} {sz : Nat} (he : Enc enc sz) : ∀ (xs : List α) (i f : Nat) (y : α) (v : Value) (hi : i < xs.length), f < sz → enc y = (enc xs[i]).set f v → (fl enc xs).set (i * sz + f) v = fl enc (xs.set i y)
  | [], i, f, y, v, hi, _, _ => by simp at hi
  | x :: xs, 0, f, y, v, hi, hf, h => by
    rw [List.set_cons_zero, fl_cons, fl_cons, Nat.zero_mul, Nat.zero_add, List.set_append_left _ _ (by rw [he.len]; exact hf)]
    rw [h]; rfl
  | x :: xs, i + 1, f, y, v, hi, hf, h => by
    rw [List.set_cons_succ, fl_cons, fl_cons, List.set_append_right _ _ (by rw [he.len, Nat.add_mul]; omega), he.len, show (i + 1) * sz + f - sz = i * sz + f by rw [Nat.add_mul]; omega]
    rw [fl_setE he xs i f y v (by simpa using hi) hf (by simpa using h)]
theorem fold_all : ∀ (vs : List Value) (k : Nat) (cs : Array Value), cs.size = k + vs.length → (vs.zipIdx k).foldl (fun (cs : Array Value) (p : Value × Nat) => cs.setIfInBounds (0 + p.2) p.1) cs = (cs.toList.take k ++ vs).toArray
  | [], k, cs, h => by
    simp only [List.zipIdx_nil, List.foldl_nil, List.append_nil]
    rw [List.take_of_length_le (by simpa using Nat.le_of_eq h)]
  | v :: vs, k, cs, h => by
    rw [List.zipIdx_cons, List.foldl_cons, fold_all vs (k + 1) _ (by simp at h ⊢; omega)]
    congr 1
    have hk : k < cs.toList.length := by simp at h ⊢; omega
    simp only [Nat.zero_add, Array.toList_setIfInBounds]
    rw [List.take_succ_eq_append_getElem (by simpa using hk), List.take_set_of_le (Nat.le_refl k), List.getElem_set_self]
    simp
section
variable {P : Program} {ops : Array Oper} {Q : Exit → Act → World → Prop} {rest : List Oper} {n : Nat} {σ : Nat → Value} {ds : List Deferred} {l : Sl} {w : World} {x y : Operand} {t e te : TypeId} {d : Nat} {A : Option Addr} {ty : TypeId} {pos : String} {af : Array Edge}
/-- A place of a row of one's own, to be written. -/
theorem T_indexO {α : Type} {enc : α → List Value} {xs : List α} {k : IntKind} {a : Int} {i sz by_ lo c r : Nat} (he : Enc enc sz) (hx : ev n l x = some (.slice A xs.length c)) (hy : ev n l y = some (.int k a)) (ha : a = (i : Int)) (hs : slcB P t e sz by_ = true) (hi' : i < xs.length)
    (ho : w.ownsRow lo te sz (.slice A xs.length c) xs.length (fl enc xs)) (hr : i * sz = r) (hn : Nat.blt d n = true)
    (K : ∀ g, (Value.slice A xs.length c).ownBlock = some g → At w g r (enc xs[i]) → wpL P ops Q rest (Ac n σ ds ((d, .pointer (some ⟨g, r, none⟩)) :: l)) w) :
    wpL P ops Q (⟨some d, .indexAddr t x y, ty, pos, af, none⟩ :: rest) (Ac n σ ds l) w := by
  obtain ⟨g, cur, rfl, _, h2, h3, h4, h5, h6⟩ := own_pos ho (by omega)
  subst hr
  refine L_run (R_indexE hx hy ha hs hi' rfl (Nat.zero_add _)) hn (K g rfl ?_)
  have hS := (own_of ho).2.2
  obtain ⟨g', off, hA, hat⟩ := hS.place he hi' (by
    obtain ⟨_, _, _, _, _, _, _, _, e4, _⟩ := slcB_u hs
    exact e4)
  simp only [Option.some.injEq, Addr.mk.injEq] at hA
  obtain ⟨rfl, rfl, _⟩ := hA
  rw [Nat.zero_add] at hat
  exact hat
/-- A cell of a row of one's own is written. -/
theorem L_stO {lo sz m c o g T : Nat} {vs vs' : List Value} {v : Value} (hx : ev n l x = some (.pointer (some ⟨g, o, none⟩))) (hy : ev n l y = some v) (hv : v.oneCell' = true) (hz : szB P t 1 = true)
    (ho : w.ownsRow lo T sz (.slice A m c) m vs) (hg : (Value.slice A m c).ownBlock = some g) (hlt : o < vs.length) (hvs : vs.set o v = vs')
    (K : ∀ w', w'.ownsRow lo T sz (.slice A m c) m vs' → w.grownBy w' (Value.slice A m c).ownBlock → w'.heap.size = w.heap.size → wpL P ops Q rest (Ac n σ ds l) w') :
    wpL P ops Q (⟨none, .store t x y, ty, pos, af, none⟩ :: rest) (Ac n σ ds l) w := by
  have hm : 0 < m := by
    rcases Nat.eq_zero_or_pos m with h | h
    · rw [ho.1, h] at hlt; simp at hlt
    · exact h
  obtain ⟨g', cur, rfl, h1, h2, h3, h4, h5, h6⟩ := own_pos ho hm
  simp only [Value.ownBlock, Option.some.injEq] at hg
  subst hg
  have hb : Blk w g' T cur.toList := by show w.heap[g']? = _; rw [h2]
  have hcur : vs.length ≤ cur.toList.length := by rw [← h6, List.length_take]; omega
  refine L_st1v hx hy hv hz hb (Nat.lt_of_lt_of_le hlt hcur) fun w' hb' hs hz' => K w' ⟨by rw [← hvs, List.length_set]; exact ho.1, .inr ⟨g', c, (cur.toList.set o v).toArray, rfl, h1, hb', h3, h4, by simpa using h5, ?_⟩⟩ hs hz'
  rw [List.take_set, h6]
  exact hvs
/-- A row of one array. -/
theorem T_bs1A {sz by_ : Nat} {vs : List Value} {z : Value} (hs : slcB P t e sz by_ = true) (hz : (P.info? e).bind (·.zero) = some z) (hx : ev n l x = some (.agg vs.toArray)) (hl : vs.length = sz) (hm : Nat.ble sz 16777216 = true) (hn : Nat.blt d n = true)
    (K : ∀ g w', g = w.heap.size → Blk w' g e vs → w.grownBy w' none → w'.heap.size = g + 1 → wpL P ops Q rest (Ac n σ ds ((d, .slice (some ⟨g, 0, none⟩) 1 1) :: l)) w') :
    wpL P ops Q (⟨some d, .buildSlice t 1 #[(0, x)], ty, pos, af, none⟩ :: rest) (Ac n σ ds l) w := by
  refine L_buildSlice (ps := [(0, x)]) (pv := [(0, .agg vs.toArray)]) (cs := vs) hs hz (by simp [evP, hx]) (by rw [Nat.one_mul]; exact hm) ?_ hn K
  have hc : (Value.agg vs.toArray).cells = vs.toArray := rfl
  have h1 := fold_all vs 0 ((Array.range (1 * sz)).map (z.cells[· % z.cells.size]!)) (by simp [hl])
  simp only [List.take_zero, List.nil_append] at h1
  simp only [Instr.fill, hc]
  simp only [Nat.zero_mul, List.size_toArray, hl, ne_eq, not_true_eq_false, if_false]
  simpa using h1
end
end Go.Proofs.YtnggbodilhpohaaDoor.Gw
