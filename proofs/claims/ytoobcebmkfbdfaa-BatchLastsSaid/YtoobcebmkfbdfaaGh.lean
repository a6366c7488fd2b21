/-
  A row of elements of several cells, sorted by the library: what the library's contract says of the world, in the words of a row of one's own. They hold of every program.
-/
import Derived.Test.YtoobcebmkfbdfaaGk
import Derived.Test.YtoobcebmkfbdfaaVq
import Derived.Shelf.SlSortCmp.WholeK
namespace Go.Proofs.Ytoobcebmkfbdfaa.Gw
open Go.RowKit Go.Sort Go.Shelf Pl
set_option linter.unusedVariables false
set_option linter.unusedSimpArgs false
set_option linter.unusedSectionVars false
section
variable {α : Type} [Inhabited α] {enc : α → List Value} {k : Nat}
theorem fl_cell (hk : ∀ x, (enc x).length = k) : ∀ (xs : List α) (t : Nat), t < xs.length * k → (fl enc xs)[t]? = (enc xs[t / k]!)[t % k]?
  | [], t, h => by simp at h
  | x :: xs, t, h => by
    have k0 : 0 < k := by rcases Nat.eq_zero_or_pos k with q | q; subst q; simp at h; exact q
    show (enc x ++ fl enc xs)[t]? = _
    rcases Nat.lt_or_ge t k with q | q
    · rw [List.getElem?_append_left (by rw [hk]; exact q), Nat.div_eq_of_lt q, Nat.mod_eq_of_lt q]; rfl
    · rw [List.getElem?_append_right (by rw [hk]; exact q), hk]
      rw [List.length_cons, Nat.add_mul, Nat.one_mul] at h
      rw [fl_cell hk xs (t - k) (by omega)]
      obtain ⟨u, rfl⟩ : ∃ u, t = u + k := ⟨t - k, by omega⟩
      rw [Nat.add_sub_cancel, Nat.add_div_right _ k0, Nat.add_mod_right]
      rfl
theorem fl_len' (hk : ∀ x, (enc x).length = k) : ∀ xs : List α, (fl enc xs).length = xs.length * k
  | [] => by simp [fl]
  | x :: xs => by
    show (enc x ++ fl enc xs).length = _
    rw [List.length_append, hk, fl_len' hk xs, List.length_cons, Nat.add_mul, Nat.one_mul, Nat.add_comm]
theorem flatK_eq (hk : ∀ x, (enc x).length = k) (xs : List α) : flatK enc k xs.toArray = (fl enc xs).toArray := by
  apply Array.ext
  · rw [size_flatK]; simp [fl_len' hk]
  · intro t h1 h2
    have ht : t < xs.length * k := by rw [size_flatK] at h1; simpa using h1
    have k0 : 0 < k := by rcases Nat.eq_zero_or_pos k with q | q; subst q; simp at ht; exact q
    have hg := get_flatK enc k xs.toArray t (by simpa using ht)
    rw [getElem!_pos _ t h1] at hg
    rw [hg]
    have h3 := fl_cell hk xs t ht
    have hm : t % k < (enc xs[t / k]!).length := by rw [hk]; exact Nat.mod_lt _ k0
    rw [List.getElem?_eq_getElem (by simpa using h2), List.getElem?_eq_getElem hm] at h3
    have e : xs.toArray[t / k]! = xs[t / k]! := by simp
    rw [e, getElem!_pos (enc xs[t / k]!) (t % k) hm]
    simp only [List.getElem_toArray]
    exact (Option.some.inj h3).symm
variable {w : World} {base t g c n : Nat} {xs : List α} {d : Array α} {os : Array Obj}
theorem own_holds (hk : ∀ x, (enc x).length = k) (ho : w.ownsRow base t k (.slice (some ⟨g, 0, none⟩) xs.length c) xs.length (fl enc xs)) : HoldsK enc k w g 0 xs.toArray := by
  unfold HoldsK
  rw [flatK_eq hk]
  obtain ⟨hl, h | ⟨g', cap, cur, e, hb, hh, h1, h2, h3, h4⟩⟩ := ho
  · cases h.1
  · injection e with e1 e2 e3
    injection e1 with e1
    injection e1 with e1
    subst e1; subst e3
    intro j hj
    have hj' : j < (fl enc xs).length := by simpa using hj
    have hc : cur[j]? = some (fl enc xs)[j] := by
      rw [← Array.getElem?_toList]
      have : (cur.toList.take (xs.length * k))[j]? = (fl enc xs)[j]? := by rw [h4]
      rw [List.getElem?_take, if_pos (by omega)] at this
      rw [this, List.getElem?_eq_getElem hj']
    constructor
    · rw [cell_of_row w g (0 + j) cur t (0, 0) hh, Nat.zero_add, hc, getElem!_pos _ j hj]; simp
    · simp [World.frozen?, hh]
theorem own_block (ho : w.ownsRow base t k (.slice (some ⟨g, 0, none⟩) xs.length c) xs.length (fl enc xs)) : g < w.heap.size := by
  obtain ⟨hl, h | ⟨g', cap, cur, e, hb, hh, _⟩⟩ := ho
  · cases h.1
  · injection e with e1 e2 e3
    injection e1 with e1
    injection e1 with e1
    subst e1
    exact (Array.getElem?_eq_some_iff.1 hh).1
theorem sorted_own (hk : ∀ x, (enc x).length = k) (hd : d.size = xs.length) (ho : w.ownsRow base t k (.slice (some ⟨g, 0, none⟩) xs.length c) xs.length (fl enc xs)) :
    (sortWorldK enc k w g 0 n d os).ownsRow base t k (.slice (some ⟨g, 0, none⟩) d.toList.length c) d.toList.length (fl enc d.toList) ∧ w.grownBy (sortWorldK enc k w g 0 n d os) (some g) := by
  have hlt := own_block ho
  obtain ⟨hl, h | ⟨g', cap, cur, e, hb, hh, h1, h2, h3, h4⟩⟩ := ho
  · cases h.1
  · injection e with e1 e2 e3
    injection e1 with e1
    injection e1 with e1
    subst e1; subst e3
    have hF : flatK enc k d = (fl enc d.toList).toArray := by
      have := flatK_eq hk d.toList
      simpa using this
    have hheap : (sortWorldK enc k w g 0 n d os).heap = (w.heap.modify g (onCells (putCells id 0 (fl enc d.toList).toArray))) ++ os := by
      unfold sortWorldK putRowK
      rw [hF]
      rfl
    have hget : (sortWorldK enc k w g 0 n d os).heap[g]? = some (.cells (putCells id 0 (fl enc d.toList).toArray cur) t (0, 0)) := by
      rw [hheap, Array.getElem?_append_left (by simpa using hlt), Array.getElem?_modify, if_pos rfl, hh]
      rfl
    have hlen : (fl enc d.toList).length = xs.length * k := by rw [fl_len' hk]; simp [hd]
    have hdl : d.toList.length = xs.length := by simp [hd]
    refine ⟨⟨by rw [fl_len' hk], .inr ⟨g, c, putCells id 0 (fl enc d.toList).toArray cur, rfl, hb, hget, by omega, h2, by simp [putCells, h3], ?_⟩⟩, ?_⟩
    · apply List.ext_getElem?
      intro j
      rw [List.getElem?_take, hdl]
      by_cases hj : j < xs.length * k
      · have hjc : j < cur.size := by
          rw [h3]
          exact Nat.lt_of_lt_of_le hj (Nat.mul_le_mul_right _ h1)
        rw [if_pos hj, Array.getElem?_toList]
        unfold putCells
        rw [Array.getElem?_mapIdx, Array.getElem?_eq_getElem hjc, Option.map_some, if_pos ⟨Nat.zero_le _, by simp [hlen, hj]⟩]
        rw [List.getElem?_eq_getElem (by rw [hlen]; exact hj), Nat.sub_zero, getElem!_pos _ j (by simp [hlen, hj])]
        simp
      · rw [if_neg hj, List.getElem?_eq_none (by rw [hlen]; omega)]
    · refine ⟨rfl, rfl, rfl, by rw [hheap]; simp, fun i hi hne => ?_⟩
      have : g ≠ i := fun q => hne (by rw [q])
      rw [hheap, Array.getElem?_append_left (by simpa using hi), Array.getElem?_modify, if_neg this]
end
/-- how two operations stand by their keys -/
def cfS (a b : Opd) : Int := if slt a.key b.key then -1 else if slt b.key a.key then 1 else 0
theorem ltOf_cfS (a b : Opd) : ltOf cfS a b = decide (slt a.key b.key) := by
  unfold ltOf cfS
  by_cases h : slt a.key b.key
  · simp [h]
  · by_cases q : slt b.key a.key <;> simp [h, q]
instance : Inhabited Opd := ⟨⟨0, ⟨#[]⟩, ⟨#[]⟩⟩⟩
theorem swoS : SWO (ltOf cfS) where
  irrefl x := by rw [ltOf_cfS]; simp [slt_irrefl]
  trans x y z h1 h2 := by
    rw [ltOf_cfS] at *
    simp only [decide_eq_true_eq] at *
    exact slt_trans h1 h2
  ntrans x y z h1 h2 := by
    rw [ltOf_cfS] at *
    simp only [decide_eq_false_iff_not] at *
    intro h
    by_cases q : slt y.key x.key
    · exact h2 (slt_trans q h)
    · have := slt_tri h1 q
      rw [this] at h; exact h2 h
end Go.Proofs.Ytoobcebmkfbdfaa.Gw
