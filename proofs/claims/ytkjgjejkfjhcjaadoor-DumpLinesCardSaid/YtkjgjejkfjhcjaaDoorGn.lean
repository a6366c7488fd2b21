/-
  Step lemmas, fourth part: slicing, indexing, conversions, structs, bits. They hold of every program.
-/
import Derived.Test.YtkjgjejkfjhcjaaDoorGm
namespace Go.Proofs.YtkjgjejkfjhcjaaDoor.Gw
open Go.RowKit
set_option linter.unusedVariables false
set_option linter.unusedSimpArgs false
section
variable {P : Program} {Q : Exit → Act → World → Prop} {w w' : World} {ops : Array Oper} {rest : List Oper}
variable {n : Nat} {σ : Nat → Value} {ds : List Deferred} {l : Sl} {d : Nat} {ty : TypeId} {pos : String} {af : Array Edge} {dst : Option Nat} {gd : Option (Nat × Bool)}

/-! ### slicing -/
section slicing
variable {t e te sz by_ m c lo hi hi' : Nat} {x : Operand} {A : Option Addr} {vs : List Value}
theorem cut_sli {i j cap : Nat} (h : Sli te lo hi w A vs) (hl : vs.length = m * sz) (hij : i ≤ j) (hj : j ≤ m) (hc : i = cap → i = j) :
    Sli te lo hi w (if cap = i then A else A.map (·.add (i * sz))) ((vs.drop (i * sz)).take ((j - i) * sz)) := by
  have hle : j * sz ≤ m * sz := Nat.mul_le_mul_right _ hj
  have hsplit : i * sz + (j - i) * sz = j * sz := by rw [← Nat.add_mul]; congr 1; omega
  refine h.part (i * sz) ((j - i) * sz) _ (fun g off hA h0 => ?_) (by omega)
  by_cases hci : cap = i
  · have := hc hci.symm
    subst this
    simp at h0
  · rw [if_neg hci, hA]
    simp [Addr.add_lit]
theorem run_bound {k : IntKind} {a : Int} {i y : Nat} {code : BoundsCode} (ha : a = (i : Int)) (hy : i ≤ y) : (Instr.sliceBound (.int k a) y code).run P w = .ok i w := by
  subst ha
  simp [Instr.sliceBound, asIntOf, hy]
theorem L_slL {k : IntKind} {a : Int} {i : Nat} {y : Operand} (hx : ev n l x = some (.slice A m c)) (hy : ev n l y = some (.int k a)) (ha : a = (i : Int)) (hs : slcB P t e sz by_ = true) (hi : i ≤ m) (hmc : m ≤ c)
    (hS : Sli te lo hi' w A vs) (hl : vs.length = m * sz) (hn : Nat.blt d n = true)
    (K : ∀ A', Sli te lo hi' w A' (vs.drop (i * sz)) → wpL P ops Q rest (Ac n σ ds ((d, .slice A' (m - i) (c - i)) :: l)) w) :
    wpL P ops Q (⟨some d, .slice t x (some y) none none, ty, pos, af, none⟩ :: rest) (Ac n σ ds l) w := by
  have hcut := cut_sli (i := i) (j := m) (cap := c) hS hl hi (Nat.le_refl _) (fun h => by omega)
  have hle : i * sz ≤ m * sz := Nat.mul_le_mul_right _ hi
  rw [List.take_of_length_le (by rw [List.length_drop, hl, Nat.sub_mul]; omega)] at hcut
  obtain ⟨hu, inf, z, hinf, hz, e1, e2, e3, e4, e5⟩ := slcB_u hs
  refine L_run ?_ hn (K _ hcut)
  simp only [execOp, ev_eval hx, Option.map_some, Option.map_none, ev_eval hy]
  refine v_run ?_
  simp [Instr.sliceAt, run_underlying hu, Instr.slice, Instr.sliceBounds, run_bound ha hi, sizeOf, typeInfo, hinf, e1]
theorem L_slLH {k k' : IntKind} {a b : Int} {i j : Nat} {y y' : Operand} (hx : ev n l x = some (.slice A m c)) (hy : ev n l y = some (.int k a)) (hy' : ev n l y' = some (.int k' b)) (ha : a = (i : Int)) (hb : b = (j : Int)) (hs : slcB P t e sz by_ = true)
    (hij : i ≤ j) (hjm : j ≤ m) (hmc : m ≤ c) (hS : Sli te lo hi' w A vs) (hl : vs.length = m * sz) (hn : Nat.blt d n = true)
    (K : ∀ A', Sli te lo hi' w A' ((vs.drop (i * sz)).take ((j - i) * sz)) → wpL P ops Q rest (Ac n σ ds ((d, .slice A' (j - i) (c - i)) :: l)) w) :
    wpL P ops Q (⟨some d, .slice t x (some y) (some y') none, ty, pos, af, none⟩ :: rest) (Ac n σ ds l) w := by
  have hcut := cut_sli (i := i) (j := j) (cap := c) hS hl hij hjm (fun h => by omega)
  obtain ⟨hu, inf, z, hinf, hz, e1, e2, e3, e4, e5⟩ := slcB_u hs
  refine L_run ?_ hn (K _ hcut)
  simp only [execOp, ev_eval hx, Option.map_some, Option.map_none, ev_eval hy, ev_eval hy']
  refine v_run ?_
  simp [Instr.sliceAt, run_underlying hu, Instr.slice, Instr.sliceBounds, run_bound ha hij, run_bound hb (Nat.le_trans hjm hmc), sizeOf, typeInfo, hinf, e1]
theorem L_slH {k' : IntKind} {b : Int} {j : Nat} {y' : Operand} (hx : ev n l x = some (.slice A m c)) (hy' : ev n l y' = some (.int k' b)) (hb : b = (j : Int)) (hs : slcB P t e sz by_ = true)
    (hjm : j ≤ m) (hmc : m ≤ c) (hS : Sli te lo hi' w A vs) (hl : vs.length = m * sz) (hn : Nat.blt d n = true)
    (K : ∀ A', Sli te lo hi' w A' (vs.take (j * sz)) → wpL P ops Q rest (Ac n σ ds ((d, .slice A' j c) :: l)) w) :
    wpL P ops Q (⟨some d, .slice t x none (some y') none, ty, pos, af, none⟩ :: rest) (Ac n σ ds l) w := by
  have hcut := cut_sli (i := 0) (j := j) (cap := c) hS hl (Nat.zero_le _) hjm (fun h => by omega)
  simp only [Nat.zero_mul, List.drop_zero, Nat.sub_zero] at hcut
  obtain ⟨hu, inf, z, hinf, hz, e1, e2, e3, e4, e5⟩ := slcB_u hs
  refine L_run ?_ hn (K _ hcut)
  simp only [execOp, ev_eval hx, Option.map_some, Option.map_none, ev_eval hy']
  refine v_run ?_
  simp [Instr.sliceAt, run_underlying hu, Instr.slice, Instr.sliceBounds, run_bound hb (Nat.le_trans hjm hmc), sizeOf, typeInfo, hinf, e1]
theorem L_slLHM {k k' k'' : IntKind} {a b b' : Int} {i j r : Nat} {y y' y'' : Operand} (hx : ev n l x = some (.slice A m c)) (hy : ev n l y = some (.int k a)) (hy' : ev n l y' = some (.int k' b)) (hy'' : ev n l y'' = some (.int k'' b'))
    (ha : a = (i : Int)) (hb : b = (j : Int)) (hb' : b' = (r : Int)) (hs : slcB P t e sz by_ = true) (hij : i ≤ j) (hjm : j ≤ m) (hjr : j ≤ r) (hrc : r ≤ c) (hS : Sli te lo hi' w A vs) (hl : vs.length = m * sz) (hn : Nat.blt d n = true)
    (K : ∀ A', Sli te lo hi' w A' ((vs.drop (i * sz)).take ((j - i) * sz)) → wpL P ops Q rest (Ac n σ ds ((d, .slice A' (j - i) (r - i)) :: l)) w) :
    wpL P ops Q (⟨some d, .slice t x (some y) (some y') (some y''), ty, pos, af, none⟩ :: rest) (Ac n σ ds l) w := by
  have hcut := cut_sli (i := i) (j := j) (cap := r) hS hl hij hjm (fun h => by omega)
  obtain ⟨hu, inf, z, hinf, hz, e1, e2, e3, e4, e5⟩ := slcB_u hs
  refine L_run ?_ hn (K _ hcut)
  simp only [execOp, ev_eval hx, Option.map_some, Option.map_none, ev_eval hy, ev_eval hy', ev_eval hy'']
  refine v_run ?_
  simp [Instr.sliceAt, run_underlying hu, Instr.slice, Instr.sliceBounds, run_bound ha hij, run_bound hb hjr, run_bound hb' hrc, sizeOf, typeInfo, hinf, e1]
/-- the address of an element -/
theorem L_index {k : IntKind} {a : Int} {i : Nat} {y : Operand} (hx : ev n l x = some (.slice A m c)) (hy : ev n l y = some (.int k a)) (ha : a = (i : Int)) (hs : slcB P t e sz by_ = true) (hi : i < m)
    (hS : Sli te lo hi' w A vs) (hl : vs.length = m * sz) (hn : Nat.blt d n = true)
    (K : ∀ g o, At w g o ((vs.drop (i * sz)).take sz) → wpL P ops Q rest (Ac n σ ds ((d, .pointer (some ⟨g, o, none⟩)) :: l)) w) :
    wpL P ops Q (⟨some d, .indexAddr t x y, ty, pos, af, none⟩ :: rest) (Ac n σ ds l) w := by
  obtain ⟨hu, inf, z, hinf, hz, e1, e2, e3, e4, e5⟩ := slcB_u hs
  have hle : (i + 1) * sz ≤ m * sz := Nat.mul_le_mul_right _ hi
  obtain ⟨g, off, rfl, hat⟩ := hS.at_ (i * sz) sz (by rw [hl]; rw [Nat.add_mul, Nat.one_mul] at hle; exact hle) e4
  refine L_run ?_ hn (K g (off + i * sz) hat)
  subst ha
  simp only [execOp, ev_eval hx, ev_eval hy]
  refine v_run ?_
  simp [Instr.indexAt, asIntOf, run_underlying hu, hi, sizeOf, typeInfo, hinf, e1, Addr.add_lit]
end slicing
theorem At.one {g o : Nat} {v : Value} {vs : List Value} (h : At w g o (v :: vs)) : w.cell? ⟨g, o, none⟩ = some v := h 0 v rfl
theorem byte_at {bs : List UInt8} {i : Nat} (hi : i < bs.length) : ((byts bs).drop (i * 1)).take 1 = [u8v bs[i]] := by
  rw [Nat.mul_one, byts_drop, byts_take, List.drop_eq_getElem_cons hi]; rfl

/-! ### strings and bytes -/
theorem L_s2b {t t' e : TypeId} {x : Operand} {s : ByteArray} (hx : ev n l x = some (.string s)) (hs : anyB P t = true) (ht : slcB P t' e 1 1 = true) (he : intB P e .u8 = true) (hn : Nat.blt d n = true)
    (K : ∀ A' c' w', s.size ≤ c' → Sli e w.heap.size (w.heap.size + 1) w' A' (byts s.data.toList) → w.grownBy w' none → w'.heap.size = w.heap.size + 1 → wpL P ops Q rest (Ac n σ ds ((d, .slice A' s.size c') :: l)) w') :
    wpL P ops Q (⟨some d, .convert t t' x, ty, pos, af, none⟩ :: rest) (Ac n σ ds l) w := by
  obtain ⟨u, hu⟩ := Option.isSome_iff_exists.1 hs
  have hr := Go.Lib.run_convert_string_bytes (P := P) w t t' e s hu (slcB_u ht).1 (intB_u he)
  refine L_run (by simp only [execOp, ev_eval hx]; exact v_run hr) hn (K _ _ _ (grownCap_ge w s.size 0 e) (.inr ⟨w.heap.size, 0, _, _, rfl, Nat.le_refl _, Nat.lt_succ_self _, ⟨e, Go.Lib.bytesWorld_at_new w e s, .inr rfl⟩, fun j v hj => ?_⟩) ⟨rfl, rfl, rfl, by rw [Go.Lib.bytesWorld_size]; omega, fun k hk _ => Go.Lib.bytesWorld_at_old w e s k hk⟩ (Go.Lib.bytesWorld_size w e s))
  have hj2 : (s.data.toList[j]?).map u8v = some v := by simpa [byts] using hj
  have hj' : j < s.data.size := by
    rcases Nat.lt_or_ge j s.data.size with h | h
    · exact h
    · rw [List.getElem?_eq_none (by simpa using h)] at hj2; cases hj2
  rw [Nat.zero_add]
  show (s.data.map (fun b => Value.int .u8 b.toNat) ++ _)[j]? = some v
  rw [Array.getElem?_append_left (by simpa using hj'), Array.getElem?_map, ← hj2, Array.getElem?_toList]
  rfl
theorem R_b2s {t t' e te lo hi m c : Nat} {x : Operand} {A : Option Addr} {bs : List UInt8} (hx : ev n l x = some (.slice A m c)) (ht : slcB P t e 1 1 = true) (he : intB P e .u8 = true) (hs : strB P t' = true)
    (hS : Sli te lo hi w A (byts bs)) (hm : bs.length = m) :
    (execOp (Ac n σ ds l).eval ⟨dst, .convert t t' x, ty, pos, af, gd⟩).run P w = .ok (.value (.string ⟨bs.toArray⟩)) w := by
  have hu := (slcB_u ht).1
  have hb : ((bs.map fun b => (b.toNat : Int)).map fun n => UInt8.ofNat n.toNat) = bs := by
    rw [List.map_map]
    conv => rhs; rw [← List.map_id bs]
    exact List.map_congr_left fun b _ => by simp
  have hstr : strOfNums (bs.map fun b => (b.toNat : Int)) = ⟨bs.toArray⟩ := by unfold strOfNums; rw [hb]
  have go : (convert t t' (.slice A m c)).run P w = .ok (.string ⟨bs.toArray⟩) w := by
    rcases hS with h | ⟨g, off, cc, fr, rfl, _, _, ⟨te', h3, _⟩, h4⟩
    · have : bs = [] := by simpa [byts] using h
      subst this
      obtain rfl : m = 0 := by simpa using hm.symm
      cases A with
      | none => exact run_convert_bytes_nil w t e hu (intB_u he) 0 c t' (strB_u hs)
      | some a =>
        obtain ⟨g, off, sp⟩ := a
        simp [convert, run_underlying hu, run_underlying (intB_u he), run_underlying (strB_u hs), Conv.bytesToString, loadCells, loadCellsFrom]
        rfl
    · rw [← hstr]
      refine run_convert_bytes_arg w t e hu (intB_u he) g off m c _ (by simpa using hm) (fun i hi => ?_) t' (strB_u hs)
      rw [cell_of_row w g _ cc te' fr h3]
      have : (byts bs)[i]? = some (u8v (bs[i]'(by omega))) := by simp [byts, hm ▸ hi]
      rw [h4 i _ this]
      simp [u8v, hm ▸ hi]
  (simp only [execOp, ev_eval hx]; exact v_run go)

/-! ### structs -/
theorem R_build {t : TypeId} {ps : List (Nat × Operand)} {pv : List (Nat × Value)} {cs : List Value} (hp : evP n l ps = some pv)
    (hc : P.built t pv = some cs.toArray) :
    (execOp (Ac n σ ds l).eval ⟨dst, .build t ps.toArray, ty, pos, af, gd⟩).run P w = .ok (.value (.agg cs.toArray)) w := by
  simp only [execOp]
  refine v_run ?_
  have hp' : (Array.map (fun (x : Nat × Operand) => match x with | (i, x) => (i, (Ac n σ ds l).eval x)) ps.toArray) = pv.toArray := evP_map (σ := σ) (ds := ds) hp
  rw [hp']
  exact run_build w t pv.toArray cs.toArray (by simpa using hc)
end
end Go.Proofs.YtkjgjejkfjhcjaaDoor.Gw
