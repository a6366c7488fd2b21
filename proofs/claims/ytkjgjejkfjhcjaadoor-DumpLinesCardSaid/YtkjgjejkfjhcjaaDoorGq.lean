/-
  Step lemmas, twelfth part: rows that are made and copied into, arrays as lists of bytes, fields, the least and the greatest of two. They hold of every program.
-/
import Derived.Test.YtkjgjejkfjhcjaaDoorGy
import Derived.Test.YtkjgjejkfjhcjaaDoorGz
import Derived.ChangeKeysEq
import Derived.Laws.CopyRow
namespace Go.Proofs.YtkjgjejkfjhcjaaDoor.Gw
open Go.RowKit Go.Proofs.YtkjgjejkfjhcjaaDoor.Pl
set_option linter.unusedVariables false
set_option linter.unusedSimpArgs false
/-- A row with other elements from a place on. -/
def spl {α : Type} (xs : List α) (o : Nat) (ys : List α) : List α := xs.take o ++ ys ++ xs.drop (o + ys.length)
theorem spl_len {α : Type} {xs ys : List α} {o : Nat} (h : o + ys.length ≤ xs.length) : (spl xs o ys).length = xs.length := by
  simp only [spl, List.length_append, List.length_take, List.length_drop]; omega
theorem spl_nil {α : Type} (xs : List α) (o : Nat) : spl xs o [] = xs := by simp [spl]
theorem fl_spl {α : Type} {enc : α → List Value} {sz : Nat} (he : Enc enc sz) (xs ys : List α) (o : Nat) : fl enc (spl xs o ys) = (fl enc xs).take (o * sz) ++ fl enc ys ++ (fl enc xs).drop (o * sz + (fl enc ys).length) := by
  unfold spl
  rw [fl_app, fl_app, fl_take he, fl_len he, ← Nat.add_mul, fl_drop he]
section
variable {P : Program} {Q : Exit → Act → World → Prop} {w w' : World} {ops : Array Oper} {rest : List Oper}
variable {n : Nat} {σ : Nat → Value} {ds : List Deferred} {l : Sl} {d : Nat} {ty : TypeId} {pos : String} {af : Array Edge} {dst : Option Nat} {gd : Option (Nat × Bool)}
variable {α : Type} {enc : α → List Value} {t t' e te sz by_ c lo hi g : Nat} {x y : Operand} {A : Option Addr} {xs ys : List α}
/-- A write into a block that is known whole. -/
theorem run_write {T o : Nat} {cs vs : List Value} (hb : Blk w g T cs) (hfit : o + vs.length ≤ cs.length) (h1 : ∀ v ∈ vs, v.oneCell' = true) :
    ∃ w', (storeCells ⟨g, o, none⟩ vs).run P w = .ok () w' ∧ Blk w' g T (cs.take o ++ vs ++ cs.drop (o + vs.length)) ∧ w.grownBy w' (some g) ∧ w'.heap.size = w.heap.size := by
  have h := run_storeCells_at (P := P) g o T vs 0 cs.toArray w hb (by simpa using hfit) h1
  rw [Nat.add_zero] at h
  exact ⟨_, h, setRow_heap w g cs.toArray _ T (0, 0) hb, ⟨rfl, rfl, rfl, by simp, fun k _ hk => setRow_other w g k _ (fun e => hk (by simp [e]))⟩, by simp⟩
/-- copy into a part of a block that is known whole. -/
theorem T_copy {T o m c1 c2 : Nat} {A2 : Option Addr} (he : Enc enc sz) (ht : slcB P t e sz by_ = true) (hx : ev n l x = some (.slice A m c1)) (hy : ev n l y = some (.slice A2 ys.length c2))
    (hb : Blk w g T (fl enc xs)) (hA : 0 < min ys.length m → A = some ⟨g, o * sz, none⟩) (hm : o + m ≤ xs.length) (hS : Sli te lo hi w A2 (fl enc ys)) (hn : Nat.blt d n = true)
    (K : ∀ w', Blk w' g T (fl enc (spl xs o (ys.take m))) → w.grownBy w' (some g) → w'.heap.size = w.heap.size → wpL P ops Q rest (Ac n σ ds ((d, .int .i64 ((min ys.length m : Nat) : Int)) :: l)) w') :
    wpL P ops Q (⟨some d, .call ⟨.builtin .copy, #[x, y], #[t, t']⟩, ty, pos, af, none⟩ :: rest) (Ac n σ ds l) w := by
  obtain ⟨hu, inf, z, hinf, hz, e1, e2, e3, e4, e5⟩ := slcB_u ht
  have key : ∃ w', (Builtin.copy_ #[t, t'] ty #[.slice A m c1, .slice A2 ys.length c2]).run P w = .ok (.int .i64 ((min ys.length m : Nat) : Int)) w' ∧ Blk w' g T (fl enc (spl xs o (ys.take m))) ∧ w.grownBy w' (some g) ∧ w'.heap.size = w.heap.size := by
    rcases Nat.eq_zero_or_pos (min ys.length m) with h0 | h0
    · have hk : ys.take m = [] := by
        apply List.eq_nil_of_length_eq_zero
        rw [List.length_take]; omega
      refine ⟨w, ?_, by rw [hk, spl_nil]; exact hb, World.grownBy.refl w _, rfl⟩
      have h0' : Nat.min ys.length m = 0 := h0
      cases A <;> cases A2 <;> simp [Builtin.copy_, run_underlying hu, Builtin.lenOf, Builtin.firstCells, sizeOf, typeInfo, hinf, e1, h0', storeCells, goInt, loadCells, loadCellsFrom]
    · have hA' := hA h0
      subst hA'
      rcases hS with hS | ⟨g2, o2, c3, fr, rfl, _, _, ⟨t2, h3, _⟩, h4⟩
      · exfalso
        have hl := fl_len he ys
        rw [hS] at hl
        have : 0 < ys.length * sz := Nat.mul_pos (by omega) e4
        rw [← hl] at this
        simp at this
      · have hlen : (fl enc (ys.take m)).length = min ys.length m * sz := by rw [fl_len he, List.length_take, Nat.min_comm]
        have hld := run_loadCells_list (P := P) (w := w) ⟨g2, o2, none⟩ (fl enc (ys.take m)) (fun j v hj => by
          rw [Addr.add_lit, cell_of_row w g2 _ c3 t2 fr h3]
          refine h4 j v ?_
          rw [← fl_take he] at hj
          rw [List.getElem?_take] at hj
          split at hj
          · exact hj
          · cases hj)
        rw [hlen] at hld
        obtain ⟨w', hw, h5, h6, h7⟩ := run_write (P := P) (o := o * sz) hb (by rw [hlen, fl_len he, ← Nat.add_mul]; exact Nat.mul_le_mul_right _ (by omega)) (fl_all he (ys.take m))
        refine ⟨w', ?_, by rw [fl_spl he]; exact h5, h6, h7⟩
        have hmm : Nat.min ys.length m = min ys.length m := rfl
        simp [Builtin.copy_, run_underlying hu, Builtin.lenOf, Builtin.firstCells, sizeOf, typeInfo, hinf, e1, goInt, hmm, hld, hw]
  obtain ⟨w', hr, h1, h2, h3⟩ := key
  refine L_run ?_ hn (K w' h1 h2 h3)
  simp [execOp, resolve, invoke, builtin, ev_eval hx, ev_eval hy, hr]
/-- A row that is made. -/
theorem L_make {m : Nat} {k1 k2 : IntKind} {z : Value} {x0 : α} (ht : slcB P t e sz by_ = true) (hz : (P.info? e).bind (·.zero) = some z) (hc : z.cells = (enc x0).toArray) (hx : ev n l x = some (.int k1 (m : Int))) (hy : ev n l y = some (.int k2 (m : Int)))
    (he : Enc enc sz) (hm : by_ * m ≤ 281474976710656) (hm2 : m ≤ 1000000) (hn : Nat.blt d n = true)
    (K : ∀ g w', g = w.heap.size → Blk w' g e (fl enc (List.replicate m x0)) → w.grownBy w' none → w'.heap.size = g + 1 → wpL P ops Q rest (Ac n σ ds ((d, .slice (some ⟨g, 0, none⟩) m m) :: l)) w') :
    wpL P ops Q (⟨some d, .makeSlice t x y, ty, pos, af, none⟩ :: rest) (Ac n σ ds l) w := by
  obtain ⟨hu, inf, z', hinf, hz', e1, e2, e3, e4, e5⟩ := slcB_u ht
  obtain rfl : z' = z := by rw [hinf] at hz; simp [hz'] at hz; exact hz
  have hb' : (inf.bytes : Int) * (m : Int) ≤ 281474976710656 := by
    have h' : ((inf.bytes * m : Nat) : Int) ≤ 281474976710656 := by rw [e2]; omega
    rwa [Int.natCast_mul] at h'
  have hr := run_make (P := P) w t e inf z' hu hinf hz' k1 k2 (m : Int) (m : Int) (by omega) (by omega) hb' (by omega)
  simp only [Int.toNat_natCast] at hr
  have hcells : madeCells z'.cells (m * inf.size) = (fl enc (List.replicate m x0)).toArray := by
    unfold madeCells
    have hsz : (enc x0).length = sz := he.len x0
    rw [hc]
    apply Array.ext
    · simp [fl_len he, e1]
    · intro i h1 h2
      have hi : i < m * sz := by simpa [e1] using h1
      have hpos : 0 < sz := e4
      have hmod : i % sz < sz := Nat.mod_lt _ hpos
      have hq : i / sz < m := Nat.div_lt_of_lt_mul (by rw [Nat.mul_comm]; exact hi)
      have hL : (fl enc (List.replicate m x0))[i]? = (enc x0)[i % sz]? := by
        have h3 := fl_get he (xs := List.replicate m x0) (i := i / sz) (by simpa using hq)
        rw [List.getElem_replicate] at h3
        rw [← h3, List.getElem?_take_of_lt hmod, List.getElem?_drop, show i / sz * sz + i % sz = i by rw [Nat.mul_comm]; exact Nat.div_add_mod i sz]
      simp only [Array.getElem_map, Array.getElem_range, List.getElem_toArray, List.size_toArray, hsz]
      have h4 : (fl enc (List.replicate m x0))[i]'(by simpa using h2) = (enc x0)[i % sz]'(by omega) := by
        have h5 := hL
        rw [List.getElem?_eq_getElem (by simpa using h2), List.getElem?_eq_getElem (by omega)] at h5
        exact Option.some.inj h5
      rw [h4]
      have h6 : i % sz < (enc x0).length := by omega
      simp [h6]
  rw [hcells] at hr
  refine L_run (w' := w.alloc (.cells (fl enc (List.replicate m x0)).toArray e)) ?_ hn (K w.heap.size _ rfl (blk_new w e _) (gb_alloc w _) (by simp))
  simp only [execOp, ev_eval hx, ev_eval hy]
  exact v_run hr
/-- A part of an array, as a slice. -/
theorem cut_blk {T i j m : Nat} {bs : List α} (he : Enc enc sz) (hb : Blk w g T (fl enc bs)) (hij : i ≤ j) (hj : j ≤ bs.length) (A : Option Addr) (hA : i < j → A = some ⟨g, i * sz, none⟩) : Sli 0 g (g + 1) w A (fl enc ((bs.drop i).take (j - i))) := by
  rcases Nat.eq_or_lt_of_le hij with h | h
  · left
    rw [h, Nat.sub_self, List.take_zero]; rfl
  · refine .inr ⟨g, i * sz, _, _, hA h, Nat.le_refl _, Nat.lt_succ_self _, ⟨T, hb, .inl rfl⟩, fun k v hk => ?_⟩
    rw [← fl_take he, ← fl_drop he, List.getElem?_take] at hk
    split at hk
    · rw [List.getElem?_drop] at hk
      simpa using hk
    · cases hk
theorem T_slArrG {T m i j : Nat} {bs : List α} {k k' : IntKind} {a b : Int} {ylo yhi : Option Operand} (he : Enc enc sz) (hs : arrB P t e m sz = true) (hx : ev n l x = some (.pointer (some ⟨g, 0, none⟩))) (hb : Blk w g T (fl enc bs)) (hm : bs.length = m)
    (hij : i ≤ j) (hjm : j ≤ m) (hd : Nat.blt d n = true)
    (hlo : match ylo with | none => i = 0 | some y => ∃ k, ev n l y = some (.int k (i : Int))) (hhi : match yhi with | none => j = m | some y => ∃ k, ev n l y = some (.int k (j : Int)))
    (K : ∀ A', Sli 0 g (g + 1) w A' (fl enc ((bs.drop i).take (j - i))) → wpL P ops Q rest (Ac n σ ds ((d, .slice A' ((bs.drop i).take (j - i)).length (m - i)) :: l)) w) :
    wpL P ops Q (⟨some d, .slice t x ylo yhi none, ty, pos, af, none⟩ :: rest) (Ac n σ ds l) w := by
  obtain ⟨hu, hz⟩ := arrB_u hs
  have hlen : ((bs.drop i).take (j - i)).length = j - i := by rw [List.length_take, List.length_drop]; omega
  refine L_run (v := .slice (some (if m = i then ⟨g, 0, none⟩ else ⟨g, i * sz, none⟩)) ((bs.drop i).take (j - i)).length (m - i)) ?_ hd (K _ (cut_blk (m := m) he hb hij (by omega) _ (fun h => by rw [if_neg (by omega)])))
  rw [hlen]
  cases ylo with
  | none =>
    obtain rfl : i = 0 := hlo
    cases yhi with
    | none =>
      obtain rfl : j = m := hhi
      simp only [execOp, Option.map_none, ev_eval hx]
      refine v_run ?_
      simp [Instr.sliceAt, run_underlying hu, Instr.sureAddr, Instr.sliceBounds, run_sizeOf hz, Addr.add_lit]
    | some y =>
      obtain ⟨k, hy⟩ := hhi
      have h1 : ¬ ((m : Int) < (j : Int)) := by omega
      simp only [execOp, Option.map_none, Option.map_some, ev_eval hx, ev_eval hy]
      refine v_run ?_
      simp [Instr.sliceAt, run_underlying hu, Instr.sureAddr, Instr.sliceBounds, run_bound rfl hjm, run_sizeOf hz, Addr.add_lit]
  | some y =>
    obtain ⟨k, hy⟩ := hlo
    cases yhi with
    | none =>
      obtain rfl : j = m := hhi
      simp only [execOp, Option.map_none, Option.map_some, ev_eval hx, ev_eval hy]
      refine v_run ?_
      simp [Instr.sliceAt, run_underlying hu, Instr.sureAddr, Instr.sliceBounds, run_bound rfl hij, run_sizeOf hz, Addr.add_lit]
    | some y' =>
      obtain ⟨k', hy'⟩ := hhi
      simp only [execOp, Option.map_none, Option.map_some, ev_eval hx, ev_eval hy, ev_eval hy']
      refine v_run ?_
      simp [Instr.sliceAt, run_underlying hu, Instr.sureAddr, Instr.sliceBounds, run_bound rfl hij, run_bound rfl hjm, run_sizeOf hz, Addr.add_lit]
/-- A part of a row that is a block known whole: where it lies. -/
theorem T_slB {T o m i j r : Nat} {bs : List α} {ylo yhi ymx : Option Operand} (he : Enc enc sz) (hs : slcB P t e sz by_ = true) (hx : ev n l x = some (.slice (some ⟨g, o * sz, none⟩) m c)) (hb : Blk w g T (fl enc bs)) (hm : o + m ≤ bs.length)
    (hij : i ≤ j) (hjm : j ≤ m) (hjr : j ≤ r) (hrc : r ≤ c) (hd : Nat.blt d n = true)
    (hlo : match ylo with | none => i = 0 | some y => ∃ k, ev n l y = some (.int k (i : Int))) (hhi : match yhi with | none => j = m | some y => ∃ k, ev n l y = some (.int k (j : Int))) (hmx : match ymx with | none => r = c | some y => yhi.isSome = true ∧ ∃ k, ev n l y = some (.int k (r : Int)))
    (K : ∀ A', (i < j → A' = some ⟨g, (o + i) * sz, none⟩) → Sli 0 g (g + 1) w A' (fl enc ((bs.drop (o + i)).take (j - i))) → wpL P ops Q rest (Ac n σ ds ((d, .slice A' ((bs.drop (o + i)).take (j - i)).length (r - i)) :: l)) w) :
    wpL P ops Q (⟨some d, .slice t x ylo yhi ymx, ty, pos, af, none⟩ :: rest) (Ac n σ ds l) w := by
  obtain ⟨hu, inf, z, hinf, hz, e1, e2, e3, e4, e5⟩ := slcB_u hs
  have hlen : ((bs.drop (o + i)).take (j - i)).length = j - i := by rw [List.length_take, List.length_drop]; omega
  have hA : i < j → (if r = i then some (⟨g, o * sz, none⟩ : Addr) else (some (⟨g, o * sz, none⟩ : Addr)).map (·.add (i * sz))) = some ⟨g, (o + i) * sz, none⟩ := by
    intro h
    rw [if_neg (by omega)]
    simp [Addr.add_lit, Nat.add_mul]
  have hS : Sli 0 g (g + 1) w (if r = i then some (⟨g, o * sz, none⟩ : Addr) else (some (⟨g, o * sz, none⟩ : Addr)).map (·.add (i * sz))) (fl enc ((bs.drop (o + i)).take (j - i))) := by
    have := cut_blk (m := 0) (i := o + i) (j := o + j) he hb (by omega) (by omega) _ (fun h => hA (by omega))
    rwa [show o + j - (o + i) = j - i by omega] at this
  refine L_run (v := .slice (if r = i then some (⟨g, o * sz, none⟩ : Addr) else (some (⟨g, o * sz, none⟩ : Addr)).map (·.add (i * sz))) ((bs.drop (o + i)).take (j - i)).length (r - i)) ?_ hd (K _ hA hS)
  rw [hlen]
  have hjc : j ≤ c := Nat.le_trans hjr hrc
  cases ylo with
  | none =>
    obtain rfl : i = 0 := hlo
    cases yhi with
    | none =>
      obtain rfl : j = m := hhi
      cases ymx with
      | none =>
        obtain rfl : r = c := hmx
        simp only [execOp, Option.map_none, ev_eval hx]
        refine v_run ?_
        simp [Instr.sliceAt, run_underlying hu, Instr.slice, Instr.sliceBounds, sizeOf, typeInfo, hinf, e1]
      | some y3 =>
        exact absurd hmx.1 (by simp)
    | some y2 =>
      obtain ⟨k2, hy2⟩ := hhi
      cases ymx with
      | none =>
        obtain rfl : r = c := hmx
        simp only [execOp, Option.map_none, Option.map_some, ev_eval hx, ev_eval hy2]
        refine v_run ?_
        simp [Instr.sliceAt, run_underlying hu, Instr.slice, Instr.sliceBounds, run_bound rfl hjc, sizeOf, typeInfo, hinf, e1]
      | some y3 =>
        obtain ⟨_, k3, hy3⟩ := hmx
        simp only [execOp, Option.map_none, Option.map_some, ev_eval hx, ev_eval hy2, ev_eval hy3]
        refine v_run ?_
        simp [Instr.sliceAt, run_underlying hu, Instr.slice, Instr.sliceBounds, run_bound rfl hjr, run_bound rfl hrc, sizeOf, typeInfo, hinf, e1]
  | some y =>
    obtain ⟨k1, hy⟩ := hlo
    cases yhi with
    | none =>
      obtain rfl : j = m := hhi
      cases ymx with
      | none =>
        obtain rfl : r = c := hmx
        simp only [execOp, Option.map_none, Option.map_some, ev_eval hx, ev_eval hy]
        refine v_run ?_
        simp [Instr.sliceAt, run_underlying hu, Instr.slice, Instr.sliceBounds, run_bound rfl hij, sizeOf, typeInfo, hinf, e1]
      | some y3 =>
        exact absurd hmx.1 (by simp)
    | some y2 =>
      obtain ⟨k2, hy2⟩ := hhi
      cases ymx with
      | none =>
        obtain rfl : r = c := hmx
        simp only [execOp, Option.map_none, Option.map_some, ev_eval hx, ev_eval hy, ev_eval hy2]
        refine v_run ?_
        simp [Instr.sliceAt, run_underlying hu, Instr.slice, Instr.sliceBounds, run_bound rfl hij, run_bound rfl hjc, sizeOf, typeInfo, hinf, e1]
      | some y3 =>
        obtain ⟨_, k3, hy3⟩ := hmx
        simp only [execOp, Option.map_some, ev_eval hx, ev_eval hy, ev_eval hy2, ev_eval hy3]
        refine v_run ?_
        simp [Instr.sliceAt, run_underlying hu, Instr.slice, Instr.sliceBounds, run_bound rfl hij, run_bound rfl hjr, run_bound rfl hrc, sizeOf, typeInfo, hinf, e1]
theorem fl_set1 {bs : List α} {i : Nat} {b : α} {v : Value} (he : Enc enc 1) (hv : enc b = [v]) (hi : i < bs.length) : (fl enc bs).set i v = fl enc (bs.set i b) := by
  induction bs generalizing i with
  | nil => simp at hi
  | cons a r ih =>
    obtain ⟨u, hu⟩ : ∃ u, enc a = [u] := by
      have := he.len a
      cases h : enc a with
      | nil => rw [h] at this; simp at this
      | cons u q => rw [h] at this; simp at this; exact ⟨u, by rw [this]⟩
    cases i with
    | zero => simp [fl_cons, hu, hv]
    | succ i => simp [fl_cons, hu, ih (by simpa using hi)]
theorem R_s2arr {m k : Nat} (hx : ev n l x = some (.slice A k c)) (ht : arrB P t e m sz = true) (hk : m ≤ k) :
    (execOp (Ac n σ ds l).eval ⟨dst, .sliceToArrayPointer t x, ty, pos, af, gd⟩).run P w = .ok (.value (.pointer A)) w := by
  obtain ⟨hu, _⟩ := arrB_u ht
  simp only [execOp, ev_eval hx]
  refine v_run ?_
  simp [Instr.arrayAt, run_underlying hu, Nat.not_lt.2 hk]
theorem R_field1 {i : Nat} {fs : Array Field} {f : Field} {cs : List Value} {v : Value} (hx : ev n l x = some (.agg cs.toArray)) (ht : P.underlying t = some (.struct fs)) (hf : fs[i]? = some f) (hs : sclB P f.type = true) (hc : cs[f.offset]? = some v) :
    (execOp (Ac n σ ds l).eval ⟨dst, .field t x i, ty, pos, af, gd⟩).run P w = .ok (.value v) w := by
  simp only [execOp, ev_eval hx]
  refine v_run ?_
  simp [Instr.field, run_underlying ht, hf, asAgg, run_part1 hs (show cs.toArray[f.offset]? = some v by simpa using hc)]
theorem R_min2 {k k' : IntKind} {a b : Int} {ts : Array TypeId} (hx : ev n l x = some (.int k a)) (hy : ev n l y = some (.int k' b)) :
    (execOp (Ac n σ ds l).eval ⟨dst, .call ⟨.builtin .min, #[x, y], ts⟩, ty, pos, af, gd⟩).run P w = .ok (.value (.int k (min a b))) w := by
  have e : (if b < a then b else a) = min a b := by split <;> omega
  simp [execOp, resolve, invoke, builtin, ev_eval hx, ev_eval hy, Builtin.min_, Builtin.min2, e]
theorem R_max2 {k k' : IntKind} {a b : Int} {ts : Array TypeId} (hx : ev n l x = some (.int k a)) (hy : ev n l y = some (.int k' b)) :
    (execOp (Ac n σ ds l).eval ⟨dst, .call ⟨.builtin .max, #[x, y], ts⟩, ty, pos, af, gd⟩).run P w = .ok (.value (.int k (max a b))) w := by
  have e : (if b > a then b else a) = max a b := by split <;> omega
  simp [execOp, resolve, invoke, builtin, ev_eval hx, ev_eval hy, Builtin.max_, Builtin.max2, e]
/-! ### arrays of bytes -/
theorem u8_inj {a b : UInt8} : ((a.toNat : Nat) : Int) = ((b.toNat : Nat) : Int) ↔ a = b := by
  constructor
  · intro h; exact UInt8.toNat_inj.1 (by omega)
  · rintro rfl; rfl
theorem eqi_bytes {dd : Nat} {e : TypeId} (hi : intB P e .u8 = true) (hc : sclB P e = true) : ∀ (us vs pa pb : List UInt8) (k : Nat), us.length = vs.length → pa.length = k → pb.length = k →
    (Op.eqItems (dd + 1) e 1 (fl encB (pa ++ us)).toArray (fl encB (pb ++ vs)).toArray (List.range' k us.length)).run P w = .ok (decide (us = vs)) w
  | [], [], pa, pb, k, _, _, _ => by simp [Op.eqItems]
  | a :: us, b :: vs, pa, pb, k, hl, hpa, hpb => by
    have e1 : (fl encB (pa ++ a :: us)).toArray[k * 1]? = some (.int .u8 (a.toNat : Int)) := by
      rw [← byts_fl]; simp [byts, u8v, ← hpa]
    have e2 : (fl encB (pb ++ b :: vs)).toArray[k * 1]? = some (.int .u8 (b.toNat : Int)) := by
      rw [← byts_fl]; simp [byts, u8v, ← hpb]
    have ih := eqi_bytes (dd := dd) hi hc us vs (pa ++ [a]) (pb ++ [b]) (k + 1) (by simpa using hl) (by simp [hpa]) (by simp [hpb])
    rw [List.append_assoc, List.append_assoc] at ih
    rw [List.length_cons, List.range'_succ]
    unfold Op.eqItems
    simp only [Sem.run_bind, run_part1 hc e1, run_part1 hc e2, Result.andThen_ok, eqs_int hi]
    by_cases h : a = b
    · subst h
      simp only [decide_true, if_true]
      have h2 : decide (a :: us = a :: vs) = decide (us = vs) := by simp
      rw [h2]
      exact ih
    · have h3 : ¬ (((a.toNat : Nat) : Int) = (b.toNat : Int)) := fun q => h (u8_inj.1 q)
      have h2 : decide (a :: us = b :: vs) = false := by simp [h]
      rw [h2]
      simp [h3]
  | [], _ :: _, _, _, _, hl, _, _ => by simp at hl
  | _ :: _, [], _, _, _, hl, _, _ => by simp at hl
theorem eqs_bytes {dd m : Nat} {e : TypeId} {us vs : List UInt8} (ha : arrB P t e m 1 = true) (hi : intB P e .u8 = true) (hc : sclB P e = true) (h1 : us.length = m) (h2 : vs.length = m) :
    (Op.equalIn (dd + 1 + 1) t (.agg (fl encB us).toArray) (.agg (fl encB vs).toArray)).run P w = .ok (decide (us = vs)) w := by
  obtain ⟨hu, hz⟩ := arrB_u ha
  have hc1 : P.cellsOf e = 1 := by
    unfold szB at hz
    split at hz
    · rename_i i hi'
      simp [Program.cellsOf, hi']
      simpa using hz
    · cases hz
  obtain ⟨inf, hinf⟩ : ∃ inf, P.info? e = some inf := by
    unfold szB at hz
    split at hz
    · exact ⟨_, by assumption⟩
    · cases hz
  rw [run_equalIn_array w (dd + 1) _ _ hu hinf, hc1]
  have := eqi_bytes (P := P) (w := w) (dd := dd) hi hc us vs [] [] 0 (by omega) rfl rfl
  rw [h1] at this
  rw [List.range_eq_range']
  exact this
end
section leave
variable {P : Program} {fn : Func} {R : Value → World → Prop} {w : World} {n : Nat} {σ : Nat → Value} {l : Sl} {E : Exit}
/-- What a result is. -/
def RvIs (P : Program) (w : World) (n : Nat) (l : Sl) (v : Value) : ResultVar → Prop
  | .tmp t => ev n l (.tmp t) = some v
  | .cell a t => ∃ g, ev n l (.tmp a) = some (.pointer (some ⟨g, 0, none⟩)) ∧ (loadVar t ⟨g, 0, none⟩).run P w = .ok v w
theorem loadS {t g : Nat} {v : Value} (ht : sclB P t = true) (hc : w.cell? ⟨g, 0, none⟩ = some v) : (loadVar t ⟨g, 0, none⟩).run P w = .ok v w := by
  simp [loadVar, run_isAgg_no ht, load, Sem.run, hc]
theorem loadA {t g sz : Nat} {vs : List Value} (ht : aggB P t sz = true) (hc : At w g 0 vs) (hs : vs.length = sz) : (loadVar t ⟨g, 0, none⟩).run P w = .ok (.agg vs.toArray) w := by
  subst hs
  simp [loadVar, run_isAgg_yes ht, run_sizeOf (aggB_sz ht), run_loadCells' hc]
def rvS (tmps : Array Value) : ResultVar → Sem Value
  | .tmp t => pure (tmps.getD t undef)
  | .cell a t => do loadVar t (← asAddr (tmps.getD a undef))
theorem rvS_run {v : Value} : ∀ {r : ResultVar}, RvIs P w n l v r → (rvS (fr n σ l) r).run P w = .ok v w
  | .tmp t, h => by
    have e : (fr n σ l).getD t undef = v := eval_tmp h
    simp [rvS, e]
  | .cell a t, ⟨g, h1, h2⟩ => by
    have e : (fr n σ l).getD a undef = _ := eval_tmp (σ := σ) h1
    simp [rvS, e, asAddr, h2]
theorem results_eq (tmps : Array Value) : results fn tmps = (do let vs ← fn.results.mapM (rvS tmps); pure (if h : vs.size = 1 then vs[0] else .tuple vs)) := by
  unfold results
  congr 1
theorem bp_of {v : Value} (hE : E = .normal ∨ E = .ret) (hr : (results fn (fr n σ l)).run P w = .ok v w) (hR : R v w) : bodyPost P fn (RetOf R) E (Ac n σ [] l) w := by
  rcases hE with rfl | rfl
  · exact ⟨rfl, v, hr, hR⟩
  · exact ⟨rfl, v, hr, hR⟩
theorem rv1 {r1 : ResultVar} {v1 : Value} (hE : E = .normal ∨ E = .ret) (hr : fn.results = #[r1]) (h1 : RvIs P w n l v1 r1) (hR : R v1 w) : bodyPost P fn (RetOf R) E (Ac n σ [] l) w :=
  bp_of hE (by rw [results_eq, hr]; simp [rvS_run h1]) hR
theorem rv2 {r1 r2 : ResultVar} {v1 v2 : Value} (hE : E = .normal ∨ E = .ret) (hr : fn.results = #[r1, r2]) (h1 : RvIs P w n l v1 r1) (h2 : RvIs P w n l v2 r2) (hR : R (.tuple #[v1, v2]) w) : bodyPost P fn (RetOf R) E (Ac n σ [] l) w :=
  bp_of hE (by rw [results_eq, hr]; simp [rvS_run h1, rvS_run h2]) hR
theorem rv3 {r1 r2 r3 : ResultVar} {v1 v2 v3 : Value} (hE : E = .normal ∨ E = .ret) (hr : fn.results = #[r1, r2, r3]) (h1 : RvIs P w n l v1 r1) (h2 : RvIs P w n l v2 r2) (h3 : RvIs P w n l v3 r3) (hR : R (.tuple #[v1, v2, v3]) w) : bodyPost P fn (RetOf R) E (Ac n σ [] l) w :=
  bp_of hE (by rw [results_eq, hr]; simp [rvS_run h1, rvS_run h2, rvS_run h3]) hR
theorem rv4 {r1 r2 r3 r4 : ResultVar} {v1 v2 v3 v4 : Value} (hE : E = .normal ∨ E = .ret) (hr : fn.results = #[r1, r2, r3, r4]) (h1 : RvIs P w n l v1 r1) (h2 : RvIs P w n l v2 r2) (h3 : RvIs P w n l v3 r3) (h4 : RvIs P w n l v4 r4) (hR : R (.tuple #[v1, v2, v3, v4]) w) : bodyPost P fn (RetOf R) E (Ac n σ [] l) w :=
  bp_of hE (by rw [results_eq, hr]; simp [rvS_run h1, rvS_run h2, rvS_run h3, rvS_run h4]) hR
theorem rvT {t : Nat} {v : Value} (h : ev n l (.tmp t) = some v) : RvIs P w n l v (.tmp t) := h
theorem rvC {a t g : Nat} {v : Value} (h : ev n l (.tmp a) = some (.pointer (some ⟨g, 0, none⟩))) (ht : sclB P t = true) (hc : w.cell? ⟨g, 0, none⟩ = some v) : RvIs P w n l v (.cell a t) := ⟨g, h, loadS ht hc⟩
theorem rvA {a t g sz : Nat} {vs : List Value} (h : ev n l (.tmp a) = some (.pointer (some ⟨g, 0, none⟩))) (ht : aggB P t sz = true) (hc : At w g 0 vs) (hs : vs.length = sz) : RvIs P w n l (.agg vs.toArray) (.cell a t) := ⟨g, h, loadA ht hc hs⟩
end leave
section ptrs
variable {P : Program} {n : Nat} {σ : Nat → Value} {ds : List Deferred} {l : List (Nat × Value)} {w : World} {x y : Operand} {t t' e : TypeId} {dst : Option Tmp} {ty : TypeId} {pos : String} {af : Array Edge} {gd : Option (Nat × Bool)}
theorem eqp_nn {d : Nat} (ht : P.underlying t = some (.pointer e)) : (Op.equalIn (d + 1) t (.pointer none) (.pointer none)).run P w = .ok true w := by
  unfold Op.equalIn
  simp [run_underlying ht]
theorem eqp_pn {d : Nat} {a : Addr} (ht : P.underlying t = some (.pointer e)) : (Op.equalIn (d + 1) t (.pointer (some a)) (.pointer none)).run P w = .ok false w := by
  unfold Op.equalIn
  simp [run_underlying ht]
theorem R_eqlpNN (hx : ev n l x = some (.pointer none)) (hy : ev n l y = some (.pointer none)) (ht : P.underlying t = some (.pointer e)) :
    (execOp (Ac n σ ds l).eval ⟨dst, .binOp .eql t x y t', ty, pos, af, gd⟩).run P w = .ok (.value (.bool true)) w := by
  simp only [execOp, ev_eval hx, ev_eval hy]
  refine v_run ?_
  simp only [eqGuard, binOp, Op.equal, Op.maxDepth]
  simp [eqp_nn (d := 9999) ht]
theorem R_eqlpPN {a : Addr} (hx : ev n l x = some (.pointer (some a))) (hy : ev n l y = some (.pointer none)) (ht : P.underlying t = some (.pointer e)) :
    (execOp (Ac n σ ds l).eval ⟨dst, .binOp .eql t x y t', ty, pos, af, gd⟩).run P w = .ok (.value (.bool false)) w := by
  simp only [execOp, ev_eval hx, ev_eval hy]
  refine v_run ?_
  simp only [eqGuard, binOp, Op.equal, Op.maxDepth]
  simp [eqp_pn (d := 9999) ht]
theorem R_neqpNN (hx : ev n l x = some (.pointer none)) (hy : ev n l y = some (.pointer none)) (ht : P.underlying t = some (.pointer e)) :
    (execOp (Ac n σ ds l).eval ⟨dst, .binOp .neq t x y t', ty, pos, af, gd⟩).run P w = .ok (.value (.bool false)) w := by
  simp only [execOp, ev_eval hx, ev_eval hy]
  refine v_run ?_
  simp only [eqGuard, binOp, Op.equal, Op.maxDepth]
  simp [eqp_nn (d := 9999) ht]
theorem R_neqpPN {a : Addr} (hx : ev n l x = some (.pointer (some a))) (hy : ev n l y = some (.pointer none)) (ht : P.underlying t = some (.pointer e)) :
    (execOp (Ac n σ ds l).eval ⟨dst, .binOp .neq t x y t', ty, pos, af, gd⟩).run P w = .ok (.value (.bool true)) w := by
  simp only [execOp, ev_eval hx, ev_eval hy]
  refine v_run ?_
  simp only [eqGuard, binOp, Op.equal, Op.maxDepth]
  simp [eqp_pn (d := 9999) ht]
end ptrs
end Go.Proofs.YtkjgjejkfjhcjaaDoor.Gw
