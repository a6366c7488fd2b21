import Derived.ChangeKeysEq
import Derived.Laws.CopyRow
import Derived.Test.YtkjgjejkfjhcjaaDoorKa
/-
  What the law's proof stands on, part 2.
-/
namespace Go.Proofs.YtkjgjejkfjhcjaaDoor.Gw
open Go.RowKit Go.Proofs.YtkjgjejkfjhcjaaDoor.Pl
set_option linter.unusedVariables false
set_option linter.unusedSimpArgs false
/-- A row with other elements from a place on. -/
def spl {α : Type} (xs : List α) (o : Nat) (ys : List α) : List α := xs.take o ++ ys ++ xs.drop (o + ys.length)
theorem spl_nil {α : Type} (xs : List α) (o : Nat) : spl xs o [] = xs := by simp [spl]
theorem fl_spl {α : Type} {enc : α → List Value} {sz : Nat} (he : Enc enc sz) (xs ys : List α) (o : Nat) : fl enc (spl xs o ys) = (fl enc xs).take (o * sz) ++ fl enc ys ++ (fl enc xs).drop (o * sz + (fl enc ys).length) := by
  unfold spl
  rw [fl_app, fl_app, fl_take he, fl_len he, ← Nat.add_mul, fl_drop he]
section
variable {P : Program} {Q : Exit → Act → World → Prop} {w w' : World} {ops : Array Oper} {rest : List Oper}
variable {n : Nat} {σ : Nat → Value} {ds : List Deferred} {l : Sl} {d : Nat} {ty : TypeId} {pos : String} {af : Array Edge} {dst : Option Nat} {gd : Option (Nat × Bool)}
variable {α : Type} {enc : α → List Value} {t t' e te sz by_ c lo hi g : Nat} {x y : Operand} {A : Option Addr} {xs ys : List α}
/-- A write into a block that is known whole. -/
theorem run_write {T o : Nat} {cs vs : List Value} (hb : Blk w g T cs) (hfit : o + vs.length ≤ cs.length) (h1 : ∀ v ∈ vs, v.oneCell' = true) :
    ∃ w', (storeCells ⟨g, o, none⟩ vs).run P w = .ok () w' ∧ Blk w' g T (cs.take o ++ vs ++ cs.drop (o + vs.length)) ∧ w.grownBy w' (some g) ∧ w'.heap.size = w.heap.size := by
  have h := run_storeCells_at (P := P) g o T vs 0 cs.toArray w hb (by simpa using hfit) h1
  rw [Nat.add_zero] at h
  exact ⟨_, h, setRow_heap w g cs.toArray _ T (0, 0) hb, ⟨rfl, rfl, rfl, by simp, fun k _ hk => setRow_other w g k _ (fun e => hk (by simp [e]))⟩, by simp⟩
/-- copy into a part of a block that is known whole. -/
theorem T_copy {T o m c1 c2 : Nat} {A2 : Option Addr} (he : Enc enc sz) (ht : slcB P t e sz by_ = true) (hx : ev n l x = some (.slice A m c1)) (hy : ev n l y = some (.slice A2 ys.length c2))
    (hb : Blk w g T (fl enc xs)) (hA : 0 < min ys.length m → A = some ⟨g, o * sz, none⟩) (hm : o + m ≤ xs.length) (hS : Sli te lo hi w A2 (fl enc ys)) (hn : Nat.blt d n = true)
    (K : ∀ w', Blk w' g T (fl enc (spl xs o (ys.take m))) → w.grownBy w' (some g) → w'.heap.size = w.heap.size → wpL P ops Q rest (Ac n σ ds ((d, .int .i64 ((min ys.length m : Nat) : Int)) :: l)) w') :
    wpL P ops Q (⟨some d, .call ⟨.builtin .copy, #[x, y], #[t, t']⟩, ty, pos, af, none⟩ :: rest) (Ac n σ ds l) w := by
  obtain ⟨hu, inf, z, hinf, hz, e1, e2, e3, e4, e5⟩ := slcB_u ht
  have key : ∃ w', (Builtin.copy_ #[t, t'] ty #[.slice A m c1, .slice A2 ys.length c2]).run P w = .ok (.int .i64 ((min ys.length m : Nat) : Int)) w' ∧ Blk w' g T (fl enc (spl xs o (ys.take m))) ∧ w.grownBy w' (some g) ∧ w'.heap.size = w.heap.size := by
    rcases Nat.eq_zero_or_pos (min ys.length m) with h0 | h0
    · have hk : ys.take m = [] := by
        apply List.eq_nil_of_length_eq_zero
        rw [List.length_take]; omega
      refine ⟨w, ?_, by rw [hk, spl_nil]; exact hb, World.grownBy.refl w _, rfl⟩
      have h0' : Nat.min ys.length m = 0 := h0
      cases A <;> cases A2 <;> simp [Builtin.copy_, run_underlying hu, Builtin.lenOf, Builtin.firstCells, sizeOf, typeInfo, hinf, e1, h0', storeCells, goInt, loadCells, loadCellsFrom]
    · have hA' := hA h0
      subst hA'
      rcases hS with hS | ⟨g2, o2, c3, fr, rfl, _, _, ⟨t2, h3, _⟩, h4⟩
      · exfalso
        have hl := fl_len he ys
        rw [hS] at hl
        have : 0 < ys.length * sz := Nat.mul_pos (by omega) e4
        rw [← hl] at this
        simp at this
      · have hlen : (fl enc (ys.take m)).length = min ys.length m * sz := by rw [fl_len he, List.length_take, Nat.min_comm]
        have hld := run_loadCells_list (P := P) (w := w) ⟨g2, o2, none⟩ (fl enc (ys.take m)) (fun j v hj => by
          rw [Addr.add_lit, cell_of_row w g2 _ c3 t2 fr h3]
          refine h4 j v ?_
          rw [← fl_take he] at hj
          rw [List.getElem?_take] at hj
          split at hj
          · exact hj
          · cases hj)
        rw [hlen] at hld
        obtain ⟨w', hw, h5, h6, h7⟩ := run_write (P := P) (o := o * sz) hb (by rw [hlen, fl_len he, ← Nat.add_mul]; exact Nat.mul_le_mul_right _ (by omega)) (fl_all he (ys.take m))
        refine ⟨w', ?_, by rw [fl_spl he]; exact h5, h6, h7⟩
        have hmm : Nat.min ys.length m = min ys.length m := rfl
        simp [Builtin.copy_, run_underlying hu, Builtin.lenOf, Builtin.firstCells, sizeOf, typeInfo, hinf, e1, goInt, hmm, hld, hw]
  obtain ⟨w', hr, h1, h2, h3⟩ := key
  refine L_run ?_ hn (K w' h1 h2 h3)
  simp [execOp, resolve, invoke, builtin, ev_eval hx, ev_eval hy, hr]
/-- A row that is made. -/
theorem L_make {m : Nat} {k1 k2 : IntKind} {z : Value} {x0 : α} (ht : slcB P t e sz by_ = true) (hz : (P.info? e).bind (·.zero) = some z) (hc : z.cells = (enc x0).toArray) (hx : ev n l x = some (.int k1 (m : Int))) (hy : ev n l y = some (.int k2 (m : Int)))
    (he : Enc enc sz) (hm : by_ * m ≤ 281474976710656) (hm2 : m ≤ 1000000) (hn : Nat.blt d n = true)
    (K : ∀ g w', g = w.heap.size → Blk w' g e (fl enc (List.replicate m x0)) → w.grownBy w' none → w'.heap.size = g + 1 → wpL P ops Q rest (Ac n σ ds ((d, .slice (some ⟨g, 0, none⟩) m m) :: l)) w') :
    wpL P ops Q (⟨some d, .makeSlice t x y, ty, pos, af, none⟩ :: rest) (Ac n σ ds l) w := by
  obtain ⟨hu, inf, z', hinf, hz', e1, e2, e3, e4, e5⟩ := slcB_u ht
  obtain rfl : z' = z := by rw [hinf] at hz; simp [hz'] at hz; exact hz
  have hb' : (inf.bytes : Int) * (m : Int) ≤ 281474976710656 := by
    have h' : ((inf.bytes * m : Nat) : Int) ≤ 281474976710656 := by rw [e2]; omega
    rwa [Int.natCast_mul] at h'
  have hr := run_make (P := P) w t e inf z' hu hinf hz' k1 k2 (m : Int) (m : Int) (by omega) (by omega) hb' (by omega)
  simp only [Int.toNat_natCast] at hr
  have hcells : madeCells z'.cells (m * inf.size) = (fl enc (List.replicate m x0)).toArray := by
    unfold madeCells
    have hsz : (enc x0).length = sz := he.len x0
    rw [hc]
    apply Array.ext
    · simp [fl_len he, e1]
    · intro i h1 h2
      have hi : i < m * sz := by simpa [e1] using h1
      have hpos : 0 < sz := e4
      have hmod : i % sz < sz := Nat.mod_lt _ hpos
      have hq : i / sz < m := Nat.div_lt_of_lt_mul (by rw [Nat.mul_comm]; exact hi)
      have hL : (fl enc (List.replicate m x0))[i]? = (enc x0)[i % sz]? := by
        have h3 := fl_get he (xs := List.replicate m x0) (i := i / sz) (by simpa using hq)
        rw [List.getElem_replicate] at h3
        rw [← h3, List.getElem?_take_of_lt hmod, List.getElem?_drop, show i / sz * sz + i % sz = i by rw [Nat.mul_comm]; exact Nat.div_add_mod i sz]
      simp only [Array.getElem_map, Array.getElem_range, List.getElem_toArray, List.size_toArray, hsz]
      have h4 : (fl enc (List.replicate m x0))[i]'(by simpa using h2) = (enc x0)[i % sz]'(by omega) := by
        have h5 := hL
        rw [List.getElem?_eq_getElem (by simpa using h2), List.getElem?_eq_getElem (by omega)] at h5
        exact Option.some.inj h5
      rw [h4]
      have h6 : i % sz < (enc x0).length := by omega
      simp [h6]
  rw [hcells] at hr
  refine L_run (w' := w.alloc (.cells (fl enc (List.replicate m x0)).toArray e)) ?_ hn (K w.heap.size _ rfl (blk_new w e _) (gb_alloc w _) (by simp))
  simp only [execOp, ev_eval hx, ev_eval hy]
  exact v_run hr
/-- A part of an array, as a slice. -/
theorem cut_blk {T i j m : Nat} {bs : List α} (he : Enc enc sz) (hb : Blk w g T (fl enc bs)) (hij : i ≤ j) (hj : j ≤ bs.length) (A : Option Addr) (hA : i < j → A = some ⟨g, i * sz, none⟩) : Sli 0 g (g + 1) w A (fl enc ((bs.drop i).take (j - i))) := by
  rcases Nat.eq_or_lt_of_le hij with h | h
  · left
    rw [h, Nat.sub_self, List.take_zero]; rfl
  · refine .inr ⟨g, i * sz, _, _, hA h, Nat.le_refl _, Nat.lt_succ_self _, ⟨T, hb, .inl rfl⟩, fun k v hk => ?_⟩
    rw [← fl_take he, ← fl_drop he, List.getElem?_take] at hk
    split at hk
    · rw [List.getElem?_drop] at hk
      simpa using hk
    · cases hk
theorem T_slArrG {T m i j : Nat} {bs : List α} {k k' : IntKind} {a b : Int} {ylo yhi : Option Operand} (he : Enc enc sz) (hs : arrB P t e m sz = true) (hx : ev n l x = some (.pointer (some ⟨g, 0, none⟩))) (hb : Blk w g T (fl enc bs)) (hm : bs.length = m)
    (hij : i ≤ j) (hjm : j ≤ m) (hd : Nat.blt d n = true)
    (hlo : match ylo with | none => i = 0 | some y => ∃ k, ev n l y = some (.int k (i : Int))) (hhi : match yhi with | none => j = m | some y => ∃ k, ev n l y = some (.int k (j : Int)))
    (K : ∀ A', Sli 0 g (g + 1) w A' (fl enc ((bs.drop i).take (j - i))) → wpL P ops Q rest (Ac n σ ds ((d, .slice A' ((bs.drop i).take (j - i)).length (m - i)) :: l)) w) :
    wpL P ops Q (⟨some d, .slice t x ylo yhi none, ty, pos, af, none⟩ :: rest) (Ac n σ ds l) w := by
  obtain ⟨hu, hz⟩ := arrB_u hs
  have hlen : ((bs.drop i).take (j - i)).length = j - i := by rw [List.length_take, List.length_drop]; omega
  refine L_run (v := .slice (some (if m = i then ⟨g, 0, none⟩ else ⟨g, i * sz, none⟩)) ((bs.drop i).take (j - i)).length (m - i)) ?_ hd (K _ (cut_blk (m := m) he hb hij (by omega) _ (fun h => by rw [if_neg (by omega)])))
  rw [hlen]
  cases ylo with
  | none =>
    obtain rfl : i = 0 := hlo
    cases yhi with
    | none =>
      obtain rfl : j = m := hhi
      simp only [execOp, Option.map_none, ev_eval hx]
      refine v_run ?_
      simp [Instr.sliceAt, run_underlying hu, Instr.sureAddr, Instr.sliceBounds, run_sizeOf hz, Addr.add_lit]
    | some y =>
      obtain ⟨k, hy⟩ := hhi
      have h1 : ¬ ((m : Int) < (j : Int)) := by omega
      simp only [execOp, Option.map_none, Option.map_some, ev_eval hx, ev_eval hy]
      refine v_run ?_
      simp [Instr.sliceAt, run_underlying hu, Instr.sureAddr, Instr.sliceBounds, run_bound rfl hjm, run_sizeOf hz, Addr.add_lit]
  | some y =>
    obtain ⟨k, hy⟩ := hlo
    cases yhi with
    | none =>
      obtain rfl : j = m := hhi
      simp only [execOp, Option.map_none, Option.map_some, ev_eval hx, ev_eval hy]
      refine v_run ?_
      simp [Instr.sliceAt, run_underlying hu, Instr.sureAddr, Instr.sliceBounds, run_bound rfl hij, run_sizeOf hz, Addr.add_lit]
    | some y' =>
      obtain ⟨k', hy'⟩ := hhi
      simp only [execOp, Option.map_none, Option.map_some, ev_eval hx, ev_eval hy, ev_eval hy']
      refine v_run ?_
      simp [Instr.sliceAt, run_underlying hu, Instr.sureAddr, Instr.sliceBounds, run_bound rfl hij, run_bound rfl hjm, run_sizeOf hz, Addr.add_lit]
/-- A part of a row that is a block known whole: where it lies. -/
theorem T_slB {T o m i j r : Nat} {bs : List α} {ylo yhi ymx : Option Operand} (he : Enc enc sz) (hs : slcB P t e sz by_ = true) (hx : ev n l x = some (.slice (some ⟨g, o * sz, none⟩) m c)) (hb : Blk w g T (fl enc bs)) (hm : o + m ≤ bs.length)
    (hij : i ≤ j) (hjm : j ≤ m) (hjr : j ≤ r) (hrc : r ≤ c) (hd : Nat.blt d n = true)
    (hlo : match ylo with | none => i = 0 | some y => ∃ k, ev n l y = some (.int k (i : Int))) (hhi : match yhi with | none => j = m | some y => ∃ k, ev n l y = some (.int k (j : Int))) (hmx : match ymx with | none => r = c | some y => yhi.isSome = true ∧ ∃ k, ev n l y = some (.int k (r : Int)))
    (K : ∀ A', (i < j → A' = some ⟨g, (o + i) * sz, none⟩) → Sli 0 g (g + 1) w A' (fl enc ((bs.drop (o + i)).take (j - i))) → wpL P ops Q rest (Ac n σ ds ((d, .slice A' ((bs.drop (o + i)).take (j - i)).length (r - i)) :: l)) w) :
    wpL P ops Q (⟨some d, .slice t x ylo yhi ymx, ty, pos, af, none⟩ :: rest) (Ac n σ ds l) w := by
  obtain ⟨hu, inf, z, hinf, hz, e1, e2, e3, e4, e5⟩ := slcB_u hs
  have hlen : ((bs.drop (o + i)).take (j - i)).length = j - i := by rw [List.length_take, List.length_drop]; omega
  have hA : i < j → (if r = i then some (⟨g, o * sz, none⟩ : Addr) else (some (⟨g, o * sz, none⟩ : Addr)).map (·.add (i * sz))) = some ⟨g, (o + i) * sz, none⟩ := by
    intro h
    rw [if_neg (by omega)]
    simp [Addr.add_lit, Nat.add_mul]
  have hS : Sli 0 g (g + 1) w (if r = i then some (⟨g, o * sz, none⟩ : Addr) else (some (⟨g, o * sz, none⟩ : Addr)).map (·.add (i * sz))) (fl enc ((bs.drop (o + i)).take (j - i))) := by
    have := cut_blk (m := 0) (i := o + i) (j := o + j) he hb (by omega) (by omega) _ (fun h => hA (by omega))
    rwa [show o + j - (o + i) = j - i by omega] at this
  refine L_run (v := .slice (if r = i then some (⟨g, o * sz, none⟩ : Addr) else (some (⟨g, o * sz, none⟩ : Addr)).map (·.add (i * sz))) ((bs.drop (o + i)).take (j - i)).length (r - i)) ?_ hd (K _ hA hS)
  rw [hlen]
  have hjc : j ≤ c := Nat.le_trans hjr hrc
  cases ylo with
  | none =>
    obtain rfl : i = 0 := hlo
    cases yhi with
    | none =>
      obtain rfl : j = m := hhi
      cases ymx with
      | none =>
        obtain rfl : r = c := hmx
        simp only [execOp, Option.map_none, ev_eval hx]
        refine v_run ?_
        simp [Instr.sliceAt, run_underlying hu, Instr.slice, Instr.sliceBounds, sizeOf, typeInfo, hinf, e1]
      | some y3 =>
        exact absurd hmx.1 (by simp)
    | some y2 =>
      obtain ⟨k2, hy2⟩ := hhi
      cases ymx with
      | none =>
        obtain rfl : r = c := hmx
        simp only [execOp, Option.map_none, Option.map_some, ev_eval hx, ev_eval hy2]
        refine v_run ?_
        simp [Instr.sliceAt, run_underlying hu, Instr.slice, Instr.sliceBounds, run_bound rfl hjc, sizeOf, typeInfo, hinf, e1]
      | some y3 =>
        obtain ⟨_, k3, hy3⟩ := hmx
        simp only [execOp, Option.map_none, Option.map_some, ev_eval hx, ev_eval hy2, ev_eval hy3]
        refine v_run ?_
        simp [Instr.sliceAt, run_underlying hu, Instr.slice, Instr.sliceBounds, run_bound rfl hjr, run_bound rfl hrc, sizeOf, typeInfo, hinf, e1]
  | some y =>
    obtain ⟨k1, hy⟩ := hlo
    cases yhi with
    | none =>
      obtain rfl : j = m := hhi
      cases ymx with
      | none =>
        obtain rfl : r = c := hmx
        simp only [execOp, Option.map_none, Option.map_some, ev_eval hx, ev_eval hy]
        refine v_run ?_
        simp [Instr.sliceAt, run_underlying hu, Instr.slice, Instr.sliceBounds, run_bound rfl hij, sizeOf, typeInfo, hinf, e1]
      | some y3 =>
        exact absurd hmx.1 (by simp)
    | some y2 =>
      obtain ⟨k2, hy2⟩ := hhi
      cases ymx with
      | none =>
        obtain rfl : r = c := hmx
        simp only [execOp, Option.map_none, Option.map_some, ev_eval hx, ev_eval hy, ev_eval hy2]
        refine v_run ?_
        simp [Instr.sliceAt, run_underlying hu, Instr.slice, Instr.sliceBounds, run_bound rfl hij, run_bound rfl hjc, sizeOf, typeInfo, hinf, e1]
      | some y3 =>
        obtain ⟨_, k3, hy3⟩ := hmx
        simp only [execOp, Option.map_some, ev_eval hx, ev_eval hy, ev_eval hy2, ev_eval hy3]
        refine v_run ?_
        simp [Instr.sliceAt, run_underlying hu, Instr.slice, Instr.sliceBounds, run_bound rfl hij, run_bound rfl hjr, run_bound rfl hrc, sizeOf, typeInfo, hinf, e1]
theorem fl_set1 {bs : List α} {i : Nat} {b : α} {v : Value} (he : Enc enc 1) (hv : enc b = [v]) (hi : i < bs.length) : (fl enc bs).set i v = fl enc (bs.set i b) := by
  induction bs generalizing i with
  | nil => simp at hi
  | cons a r ih =>
    obtain ⟨u, hu⟩ : ∃ u, enc a = [u] := by
      have := he.len a
      cases h : enc a with
      | nil => rw [h] at this; simp at this
      | cons u q => rw [h] at this; simp at this; exact ⟨u, by rw [this]⟩
    cases i with
    | zero => simp [fl_cons, hu, hv]
    | succ i => simp [fl_cons, hu, ih (by simpa using hi)]
theorem R_s2arr {m k : Nat} (hx : ev n l x = some (.slice A k c)) (ht : arrB P t e m sz = true) (hk : m ≤ k) :
    (execOp (Ac n σ ds l).eval ⟨dst, .sliceToArrayPointer t x, ty, pos, af, gd⟩).run P w = .ok (.value (.pointer A)) w := by
  obtain ⟨hu, _⟩ := arrB_u ht
  simp only [execOp, ev_eval hx]
  refine v_run ?_
  simp [Instr.arrayAt, run_underlying hu, Nat.not_lt.2 hk]
theorem R_field1 {i : Nat} {fs : Array Field} {f : Field} {cs : List Value} {v : Value} (hx : ev n l x = some (.agg cs.toArray)) (ht : P.underlying t = some (.struct fs)) (hf : fs[i]? = some f) (hs : sclB P f.type = true) (hc : cs[f.offset]? = some v) :
    (execOp (Ac n σ ds l).eval ⟨dst, .field t x i, ty, pos, af, gd⟩).run P w = .ok (.value v) w := by
  simp only [execOp, ev_eval hx]
  refine v_run ?_
  simp [Instr.field, run_underlying ht, hf, asAgg, run_part1 hs (show cs.toArray[f.offset]? = some v by simpa using hc)]
theorem R_min2 {k k' : IntKind} {a b : Int} {ts : Array TypeId} (hx : ev n l x = some (.int k a)) (hy : ev n l y = some (.int k' b)) :
    (execOp (Ac n σ ds l).eval ⟨dst, .call ⟨.builtin .min, #[x, y], ts⟩, ty, pos, af, gd⟩).run P w = .ok (.value (.int k (min a b))) w := by
  have e : (if b < a then b else a) = min a b := by split <;> omega
  simp [execOp, resolve, invoke, builtin, ev_eval hx, ev_eval hy, Builtin.min_, Builtin.min2, e]
theorem R_max2 {k k' : IntKind} {a b : Int} {ts : Array TypeId} (hx : ev n l x = some (.int k a)) (hy : ev n l y = some (.int k' b)) :
    (execOp (Ac n σ ds l).eval ⟨dst, .call ⟨.builtin .max, #[x, y], ts⟩, ty, pos, af, gd⟩).run P w = .ok (.value (.int k (max a b))) w := by
  have e : (if b > a then b else a) = max a b := by split <;> omega
  simp [execOp, resolve, invoke, builtin, ev_eval hx, ev_eval hy, Builtin.max_, Builtin.max2, e]
/-! ### arrays of bytes -/
theorem u8_inj {a b : UInt8} : ((a.toNat : Nat) : Int) = ((b.toNat : Nat) : Int) ↔ a = b := by
  constructor
  · intro h; exact UInt8.toNat_inj.1 (by omega)
  · rintro rfl; rfl
theorem eqi_bytes {dd : Nat} {e : TypeId} (hi : intB P e .u8 = true) (hc : sclB P e = true) : ∀ (us vs pa pb : List UInt8) (k : Nat), us.length = vs.length → pa.length = k → pb.length = k →
    (Op.eqItems (dd + 1) e 1 (fl encB (pa ++ us)).toArray (fl encB (pb ++ vs)).toArray (List.range' k us.length)).run P w = .ok (decide (us = vs)) w
  | [], [], pa, pb, k, _, _, _ => by simp [Op.eqItems]
  | a :: us, b :: vs, pa, pb, k, hl, hpa, hpb => by
    have e1 : (fl encB (pa ++ a :: us)).toArray[k * 1]? = some (.int .u8 (a.toNat : Int)) := by
      rw [← byts_fl]; simp [byts, u8v, ← hpa]
    have e2 : (fl encB (pb ++ b :: vs)).toArray[k * 1]? = some (.int .u8 (b.toNat : Int)) := by
      rw [← byts_fl]; simp [byts, u8v, ← hpb]
    have ih := eqi_bytes (dd := dd) hi hc us vs (pa ++ [a]) (pb ++ [b]) (k + 1) (by simpa using hl) (by simp [hpa]) (by simp [hpb])
    rw [List.append_assoc, List.append_assoc] at ih
    rw [List.length_cons, List.range'_succ]
    unfold Op.eqItems
    simp only [Sem.run_bind, run_part1 hc e1, run_part1 hc e2, Result.andThen_ok, eqs_int hi]
    by_cases h : a = b
    · subst h
      simp only [decide_true, if_true]
      have h2 : decide (a :: us = a :: vs) = decide (us = vs) := by simp
      rw [h2]
      exact ih
    · have h3 : ¬ (((a.toNat : Nat) : Int) = (b.toNat : Int)) := fun q => h (u8_inj.1 q)
      have h2 : decide (a :: us = b :: vs) = false := by simp [h]
      rw [h2]
      simp [h3]
  | [], _ :: _, _, _, _, hl, _, _ => by simp at hl
  | _ :: _, [], _, _, _, hl, _, _ => by simp at hl
theorem eqs_bytes {dd m : Nat} {e : TypeId} {us vs : List UInt8} (ha : arrB P t e m 1 = true) (hi : intB P e .u8 = true) (hc : sclB P e = true) (h1 : us.length = m) (h2 : vs.length = m) :
    (Op.equalIn (dd + 1 + 1) t (.agg (fl encB us).toArray) (.agg (fl encB vs).toArray)).run P w = .ok (decide (us = vs)) w := by
  obtain ⟨hu, hz⟩ := arrB_u ha
  have hc1 : P.cellsOf e = 1 := by
    unfold szB at hz
    split at hz
    · rename_i i hi'
      simp [Program.cellsOf, hi']
      simpa using hz
    · cases hz
  obtain ⟨inf, hinf⟩ : ∃ inf, P.info? e = some inf := by
    unfold szB at hz
    split at hz
    · exact ⟨_, by assumption⟩
    · cases hz
  rw [run_equalIn_array w (dd + 1) _ _ hu hinf, hc1]
  have := eqi_bytes (P := P) (w := w) (dd := dd) hi hc us vs [] [] 0 (by omega) rfl rfl
  rw [h1] at this
  rw [List.range_eq_range']
  exact this
end
section leave
variable {P : Program} {fn : Func} {R : Value → World → Prop} {w : World} {n : Nat} {σ : Nat → Value} {l : Sl} {E : Exit}
/-- What a result is. -/
def RvIs (P : Program) (w : World) (n : Nat) (l : Sl) (v : Value) : ResultVar → Prop
  | .tmp t => ev n l (.tmp t) = some v
  | .cell a t => ∃ g, ev n l (.tmp a) = some (.pointer (some ⟨g, 0, none⟩)) ∧ (loadVar t ⟨g, 0, none⟩).run P w = .ok v w
theorem loadA {t g sz : Nat} {vs : List Value} (ht : aggB P t sz = true) (hc : At w g 0 vs) (hs : vs.length = sz) : (loadVar t ⟨g, 0, none⟩).run P w = .ok (.agg vs.toArray) w := by
  subst hs
  simp [loadVar, run_isAgg_yes ht, run_sizeOf (aggB_sz ht), run_loadCells' hc]
def rvS (tmps : Array Value) : ResultVar → Sem Value
  | .tmp t => pure (tmps.getD t undef)
  | .cell a t => do loadVar t (← asAddr (tmps.getD a undef))
theorem rvS_run {v : Value} : ∀ {r : ResultVar}, RvIs P w n l v r → (rvS (fr n σ l) r).run P w = .ok v w
  | .tmp t, h => by
    have e : (fr n σ l).getD t undef = v := eval_tmp h
    simp [rvS, e]
  | .cell a t, ⟨g, h1, h2⟩ => by
    have e : (fr n σ l).getD a undef = _ := eval_tmp (σ := σ) h1
    simp [rvS, e, asAddr, h2]
theorem results_eq (tmps : Array Value) : results fn tmps = (do let vs ← fn.results.mapM (rvS tmps); pure (if h : vs.size = 1 then vs[0] else .tuple vs)) := by
  unfold results
  congr 1
theorem bp_of {v : Value} (hE : E = .normal ∨ E = .ret) (hr : (results fn (fr n σ l)).run P w = .ok v w) (hR : R v w) : bodyPost P fn (RetOf R) E (Ac n σ [] l) w := by
  rcases hE with rfl | rfl
  · exact ⟨rfl, v, hr, hR⟩
  · exact ⟨rfl, v, hr, hR⟩
theorem rv4 {r1 r2 r3 r4 : ResultVar} {v1 v2 v3 v4 : Value} (hE : E = .normal ∨ E = .ret) (hr : fn.results = #[r1, r2, r3, r4]) (h1 : RvIs P w n l v1 r1) (h2 : RvIs P w n l v2 r2) (h3 : RvIs P w n l v3 r3) (h4 : RvIs P w n l v4 r4) (hR : R (.tuple #[v1, v2, v3, v4]) w) : bodyPost P fn (RetOf R) E (Ac n σ [] l) w :=
  bp_of hE (by rw [results_eq, hr]; simp [rvS_run h1, rvS_run h2, rvS_run h3, rvS_run h4]) hR
theorem rvT {t : Nat} {v : Value} (h : ev n l (.tmp t) = some v) : RvIs P w n l v (.tmp t) := h
theorem rvA {a t g sz : Nat} {vs : List Value} (h : ev n l (.tmp a) = some (.pointer (some ⟨g, 0, none⟩))) (ht : aggB P t sz = true) (hc : At w g 0 vs) (hs : vs.length = sz) : RvIs P w n l (.agg vs.toArray) (.cell a t) := ⟨g, h, loadA ht hc hs⟩
end leave
section ptrs
variable {P : Program} {n : Nat} {σ : Nat → Value} {ds : List Deferred} {l : List (Nat × Value)} {w : World} {x y : Operand} {t t' e : TypeId} {dst : Option Tmp} {ty : TypeId} {pos : String} {af : Array Edge} {gd : Option (Nat × Bool)}
theorem eqp_pn {d : Nat} {a : Addr} (ht : P.underlying t = some (.pointer e)) : (Op.equalIn (d + 1) t (.pointer (some a)) (.pointer none)).run P w = .ok false w := by
  unfold Op.equalIn
  simp [run_underlying ht]
theorem R_eqlpPN {a : Addr} (hx : ev n l x = some (.pointer (some a))) (hy : ev n l y = some (.pointer none)) (ht : P.underlying t = some (.pointer e)) :
    (execOp (Ac n σ ds l).eval ⟨dst, .binOp .eql t x y t', ty, pos, af, gd⟩).run P w = .ok (.value (.bool false)) w := by
  simp only [execOp, ev_eval hx, ev_eval hy]
  refine v_run ?_
  simp only [eqGuard, binOp, Op.equal, Op.maxDepth]
  simp [eqp_pn (d := 9999) ht]
end ptrs
end Go.Proofs.YtkjgjejkfjhcjaaDoor.Gw
namespace Go.Proofs.YtkjgjejkfjhcjaaDoor.Gw
open Go.RowKit
set_option linter.unusedVariables false
set_option linter.unusedSimpArgs false
/-- An operation, its slot, its answer, what it reads. -/
structure Cm where
  i : Nat
  d : Nat
  v : Value
  L : Sl
section
variable {P : Program} {Q : Exit → Act → World → Prop} {n : Nat} {ds : List Deferred} {l : Sl} {md : Region.Mode} {os : List Oper} {cs : List Cm} {I : World → Prop}
/-- How far a frame has come. -/
structure Come (os : List Oper) (cs : List Cm) (md : Region.Mode) (l lc : Sl) (listed : Array Bool) : Prop where
  size : listed.size = os.length
  only : ∀ j, listed.getD j false = true → ∃ c ∈ cs, c.i = j
  shut : ∀ c ∈ cs, listed.getD c.i true = false → ∀ b ∈ BackB md os.toArray c.i, listed.getD b true = false
  has : ∀ c ∈ cs, listed.getD c.i false = true → lk lc c.d = some c.v
  old : ∀ t, (∀ c ∈ cs, c.d ≠ t) → lk lc t = lk l t
end
section
variable {P : Program} {n : Nat} {σ : Nat → Value} {ds : List Deferred} {l : Sl} {dst : Option Nat} {ty : TypeId} {pos : String} {af : Array Edge} {gd : Option (Nat × Bool)} {w : World}
/-- A part of an array of bytes: where it lies. -/
theorem R_slArrB {t e m i j g : Nat} {x : Operand} {bs : List UInt8} {ylo yhi : Option Operand} (hs : arrB P t e m 1 = true) (hx : ev n l x = some (.pointer (some ⟨g, 0, none⟩))) (hm : bs.length = m) (hij : i ≤ j) (hjm : j ≤ m) (hne : m ≠ i)
    (hlo : match ylo with | none => i = 0 | some y => ∃ k, ev n l y = some (.int k (i : Int))) (hhi : match yhi with | none => j = m | some y => ∃ k, ev n l y = some (.int k (j : Int))) :
    (execOp (Ac n σ ds l).eval ⟨dst, .slice t x ylo yhi none, ty, pos, af, gd⟩).run P w = .ok (.value (.slice (some ⟨g, i, none⟩) ((bs.drop i).take (j - i)).length (m - i))) w := by
  obtain ⟨hu, hz⟩ := arrB_u hs
  have hlen : ((bs.drop i).take (j - i)).length = j - i := by rw [List.length_take, List.length_drop]; omega
  rw [hlen]
  cases ylo with
  | none =>
    obtain rfl : i = 0 := hlo
    cases yhi with
    | none =>
      obtain rfl : j = m := hhi
      simp only [execOp, Option.map_none, ev_eval hx]
      refine v_run ?_
      simp [Instr.sliceAt, run_underlying hu, Instr.sureAddr, Instr.sliceBounds, run_sizeOf hz, Addr.add_lit]
    | some y =>
      obtain ⟨k, hy⟩ := hhi
      simp only [execOp, Option.map_none, Option.map_some, ev_eval hx, ev_eval hy]
      refine v_run ?_
      simp [Instr.sliceAt, run_underlying hu, Instr.sureAddr, Instr.sliceBounds, run_bound rfl hjm, run_sizeOf hz, Addr.add_lit]
  | some y =>
    obtain ⟨k, hy⟩ := hlo
    cases yhi with
    | none =>
      obtain rfl : j = m := hhi
      simp only [execOp, Option.map_none, Option.map_some, ev_eval hx, ev_eval hy]
      refine v_run ?_
      simp [Instr.sliceAt, run_underlying hu, Instr.sureAddr, Instr.sliceBounds, run_bound rfl hij, run_sizeOf hz, Addr.add_lit, hne]
    | some y' =>
      obtain ⟨k', hy'⟩ := hhi
      simp only [execOp, Option.map_none, Option.map_some, ev_eval hx, ev_eval hy, ev_eval hy']
      refine v_run ?_
      simp [Instr.sliceAt, run_underlying hu, Instr.sureAddr, Instr.sliceBounds, run_bound rfl hij, run_bound rfl hjm, run_sizeOf hz, Addr.add_lit, hne]
theorem place_lt {t lo hi g off : Nat} {A : Option Addr} {vs : List Value} (h : Sli t lo hi w A vs) (e : A = some ⟨g, off, none⟩) (hne : 0 < vs.length) : g < hi := by
  rcases h with h | ⟨g', off', c, fr, hA, h1, h2, _, _⟩
  · rw [h] at hne; cases hne
  · rw [hA] at e
    injection e with e
    injection e with e1
    omega
theorem Blk.cutB {g T i j : Nat} {bs : List UInt8} (hb : Blk w g T (fl encB bs)) (hij : i ≤ j) (hj : j ≤ bs.length) (hne : bs.length ≠ i) : Sli 0 g (g + 1) w (some ⟨g, i, none⟩) (fl encB ((bs.drop i).take (j - i))) :=
  cut_blk (m := bs.length) EncB hb hij (by omega) _ (fun h => by rw [Nat.mul_one])
section short
variable {Q : Exit → Act → World → Prop} {ops : Array Oper} {rest : List Oper} {d : Nat}
theorem Lmv {x : Operand} {v : Value} (hx : ev n l x = some v) (hn : Nat.blt d n = true) (K : wpL P ops Q rest (Ac n σ ds ((d, v) :: l)) w) : wpL P ops Q (⟨some d, .move x, ty, pos, af, none⟩ :: rest) (Ac n σ ds l) w := L_run (R_move hx) hn K
theorem Las {x : Operand} {v : Value} (hx : ev n l x = some v) (hn : Nat.blt d n = true) (K : wpL P ops Q rest (Ac n σ ds ((d, v) :: l)) w) : wpL P ops Q (⟨some d, .assign x, ty, pos, af, none⟩ :: rest) (Ac n σ ds l) w := L_run (R_assign hx) hn K
theorem agx {t : Nat} {v v' : Value} (h : lk l t = some v) (e : v = v' := by first | rfl | (congr 1; omega) | (congr 1; simp; done) | (congr 1; simp only [IntKind.wrap_u64, IntKind.wrap_i64, IntKind.wrap_u8]; omega) | (congr 1 <;> omega)) : lk l t = some v' := e ▸ h
end short
end
end Go.Proofs.YtkjgjejkfjhcjaaDoor.Gw
namespace Go.Proofs.YtkjgjejkfjhcjaaDoor.Gw
open Go.RowKit
set_option linter.unusedVariables false
set_option linter.unusedSimpArgs false
/-- A record: its data is known by its length alone. -/
structure RecD where
  kind : Int
  chain : Int
  lsn : Int
  prev : Int
  da : Option Addr
  dn : Nat
  dc : Nat
def encR (r : RecD) : List Value := [.int .i64 r.kind, .int .i64 r.chain, .int .i64 r.lsn, .int .i64 r.prev, .slice r.da r.dn r.dc]
structure SegD where
  ep : Int
  seq : Int
  first : Int
  hs : Nat → Int
  ra : Option Addr
  rc : Nat
  recs : List RecD
  pa : Option Addr
  pn : Nat
  pc : Nat
  en : Int
  kind : Int
/-- The records' rows of segments, all of them older than the bound. -/
def DeepG (hi : Nat) (w : World) (ls : List SegD) : Prop := ∀ y ∈ ls, Sli 0 0 hi w y.ra (fl encR y.recs)
section
variable {hi : Nat} {w w' : World} {ls : List SegD}
theorem DeepG.gb (h : DeepG hi w ls) (hg : w.grownBy w' none) : DeepG hi w' ls := fun y hy => (h y hy).gb hg
theorem DeepG.old {g : Nat} (h : DeepG hi w ls) (hg : w.grownBy w' (some g)) (hr : hi ≤ g) : DeepG hi w' ls := fun y hy => (h y hy).old hg hr
theorem DeepG.own {base t sz m : Nat} {v : Value} {us : List Value} (h : DeepG hi w ls) (ho : w.ownsRow base t sz v m us) (hb : hi ≤ base) (hg : w.grownBy w' v.ownBlock) : DeepG hi w' ls :=
  fun y hy => (h y hy).grown hg (fun k hk => .inr (Nat.le_trans hb (World.ownsRow.lt ho k hk).1))
theorem DeepG.get (h : DeepG hi w ls) {i : Nat} (hi' : i < ls.length) : Sli 0 0 hi w ls[i].ra (fl encR ls[i].recs) := h _ (List.getElem_mem _)
end
/-- An array of four, one cell turned. -/
def upd (f : Nat → Int) (i : Nat) (x : Int) : Nat → Int := fun q => if q = i then x else f q
theorem four {i : Nat} (h : i < 4) : i = 0 ∨ i = 1 ∨ i = 2 ∨ i = 3 := by omega
theorem four_get {i : Nat} {f : Nat → Int} {k : IntKind} (h : i < 4) : ([.int k (f 0), .int k (f 1), .int k (f 2), .int k (f 3)] : List Value)[i]? = some (.int k (f i)) := by
  rcases four h with rfl | rfl | rfl | rfl <;> rfl
theorem four_at {i : Nat} {f : Nat → Int} {k : IntKind} {pre post : List Value} (h : i < 4) : (pre ++ ([.int k (f 0), .int k (f 1), .int k (f 2), .int k (f 3)] ++ post))[pre.length + i]? = some (.int k (f i)) := by
  rw [List.getElem?_append_right (by omega), Nat.add_sub_cancel_left, List.getElem?_append_left (by simpa using h), four_get h]
theorem four_set {i : Nat} {f : Nat → Int} {k : IntKind} {x : Int} {pre post : List Value} (h : i < 4) : (pre ++ (([.int k (f 0), .int k (f 1), .int k (f 2), .int k (f 3)] : List Value) ++ post)).set (pre.length + i) (.int k x) =
    pre ++ (([.int k (upd f i x 0), .int k (upd f i x 1), .int k (upd f i x 2), .int k (upd f i x 3)] : List Value) ++ post) := by
  rw [List.set_append_right _ _ (by omega), Nat.add_sub_cancel_left]
  rcases four h with rfl | rfl | rfl | rfl <;> rfl
section
variable {P : Program} {w : World} {n : Nat} {σ : Nat → Value} {ds : List Deferred} {l : Sl} {ty : TypeId} {pos : String} {af : Array Edge} {dst : Option Nat} {gd : Option (Nat × Bool)}
variable {t e : TypeId} {x y : Operand} {k kk : IntKind} {a : Int} {i : Nat} {f : Nat → Int}
theorem R_indexA4 (hx : ev n l x = some (.agg #[.int k (f 0), .int k (f 1), .int k (f 2), .int k (f 3)])) (hy : ev n l y = some (.int kk a)) (ha : a = (i : Int)) (hs : arrB P t e 4 1 = true) (hc : sclB P e = true) (hi : i < 4) :
    (execOp (Ac n σ ds l).eval ⟨dst, .index t x y, ty, pos, af, gd⟩).run P w = .ok (.value (.int k (f i))) w := by
  obtain ⟨hu, hz⟩ := arrB_u hs
  subst ha
  simp only [execOp, ev_eval hx, ev_eval hy]
  refine v_run ?_
  have hp : (part e #[.int k (f 0), .int k (f 1), .int k (f 2), .int k (f 3)] i).run P w = .ok (.int k (f i)) w := run_part1 hc (by
    rcases four hi with rfl | rfl | rfl | rfl <;> rfl)
  simp [Instr.index, asIntOf, run_underlying hu, hi, run_sizeOf hz, hp]
end
theorem Blk.cast {w : World} {g : Nat} {t : TypeId} {cs cs' : List Value} (e : cs = cs') (h : Blk w g t cs) : Blk w g t cs' := e ▸ h
section
variable {P : Program} {w : World} {t e : TypeId}
end
section leave
variable {P : Program} {fn : Func} {R : Value → World → Prop} {w : World} {n : Nat} {σ : Nat → Value} {l : Sl}
end leave
section
variable {H : Type} {enc : TypeId × Value → H} {P : Program} {W : World}
end
/-- what is right of a header, its heads aside -/
def OkB (ep seq first : Int) : Prop := ep ≠ 0 ∧ 1 ≤ seq ∧ seq ≤ 2147483647 ∧ 1 ≤ first ∧ first ≤ 2147483647
instance (ep seq first : Int) : Decidable (OkB ep seq first) := by unfold OkB; infer_instance
/-- the first k heads are right -/
def OkK (k : Nat) (first : Int) (hs : Nat → Int) : Prop := ∀ i, i < k → 0 ≤ hs i ∧ hs i < first
instance (k : Nat) (first : Int) (hs : Nat → Int) : Decidable (OkK k first hs) := by unfold OkK; infer_instance
def OkH (ep seq first : Int) (hs : Nat → Int) : Prop := OkB ep seq first ∧ OkK 4 first hs
instance (ep seq first : Int) (hs : Nat → Int) : Decidable (OkH ep seq first hs) := by unfold OkH; infer_instance
theorem OkK_0 {first : Int} {hs : Nat → Int} : OkK 0 first hs := fun i h => absurd h (Nat.not_lt_zero i)
theorem OkK_succ {k : Nat} {first : Int} {hs : Nat → Int} : OkK (k + 1) first hs ↔ OkK k first hs ∧ 0 ≤ hs k ∧ hs k < first := by
  constructor
  · intro h; exact ⟨fun i hi => h i (by omega), h k (by omega)⟩
  · rintro ⟨h1, h2⟩ i hi
    rcases Nat.lt_succ_iff_lt_or_eq.1 hi with h | rfl
    · exact h1 i h
    · exact h2
theorem okB0 {ep seq first : Int} {hs : Nat → Int} : (OkB ep seq first ∧ OkK 0 first hs) ↔ OkB ep seq first := ⟨And.left, fun h => ⟨h, OkK_0⟩⟩
theorem okS {ep seq first : Int} {hs : Nat → Int} {k : Nat} : (OkB ep seq first ∧ OkK (k + 1) first hs) ↔ ((OkB ep seq first ∧ OkK k first hs) ∧ 0 ≤ hs k ∧ hs k < first) := by rw [OkK_succ, and_assoc]
/-- the number and the heads behind records; whether they follow one another -/
def RecOk (n : Int) (h : Nat → Int) (r : RecD) : Prop := r.lsn = n ∧ 0 ≤ r.chain ∧ r.chain < 4 ∧ r.prev = h r.chain.toNat
instance (n : Int) (h : Nat → Int) (r : RecD) : Decidable (RecOk n h r) := by unfold RecOk; infer_instance
/-- how many records segments have, all told, before the first k -/
def cnt (l : List SegD) : Nat := (l.map fun g => g.recs.length).sum
def FewG (g : SegD) : Prop := g.recs.length ≤ 60 ∧ ∀ r ∈ g.recs, r.dn ≤ 600
instance (g : SegD) : Decidable (FewG g) := by unfold FewG; infer_instance
def FewL (l : List SegD) : Prop := (∀ g ∈ l, FewG g) ∧ l.length ≤ 10 ∧ cnt l ≤ 100
instance (l : List SegD) : Decidable (FewL l) := by unfold FewL; infer_instance
/-- what live.Check asks of each segment -/
def HdrOk (g : SegD) : Prop := OkH g.ep g.seq g.first g.hs ∧ g.pn = g.recs.length
instance (g : SegD) : Decidable (HdrOk g) := by unfold HdrOk; infer_instance
def Breaks (g t : SegD) (n : Int) (h : Nat → Int) : Prop :=
  (g.kind ≠ 1) ∨ (t.seq ≠ IntKind.i64.wrap (g.seq + 1) ∨ t.ep ≤ g.ep) ∨ (t.first ≠ n ∨ ¬ (t.hs 0 = h 0 ∧ t.hs 1 = h 1 ∧ t.hs 2 = h 2 ∧ t.hs 3 = h 3 ∧ True))
instance (g t : SegD) (n : Int) (h : Nat → Int) : Decidable (Breaks g t n h) := by unfold Breaks; infer_instance
/-- how a segment goes on behind one -/
def Joins (p : Option SegD) (g : SegD) : Prop := match p with | none => True | some q => g.seq - 1 = q.seq ∧ q.ep < g.ep ∧ q.kind = 1
instance (p : Option SegD) (g : SegD) : Decidable (Joins p g) := by unfold Joins; split <;> infer_instance
def Meets (g : SegD) (n : Int) (h : Nat → Int) : Prop := g.first = n ∧ (g.hs 0 = h 0 ∧ g.hs 1 = h 1 ∧ g.hs 2 = h 2 ∧ g.hs 3 = h 3 ∧ True)
instance (g : SegD) (n : Int) (h : Nat → Int) : Decidable (Meets g n h) := by unfold Meets; infer_instance
def pv (l : List SegD) (i : Nat) : Option SegD := if i = 0 then none else l[i - 1]?
section
variable {ra pa da : Option Addr} {dn dc : Nat}
end
end Go.Proofs.YtkjgjejkfjhcjaaDoor.Gw
namespace Go.Proofs.YtkjgjejkfjhcjaaDoor
open Go.RowKit Gw Pl
set_option linter.unusedVariables false
set_option linter.unusedSimpArgs false
theorem any3 : anyB Tryd.prog 3 = true := by kernel_rfl
theorem any30 : anyB Tryd.prog 30 = true := by kernel_rfl
theorem any5 : anyB Tryd.prog 5 = true := by kernel_rfl
theorem arr95 : arrB Tryd.prog 95 5 20 1 = true := by kernel_rfl
theorem cb16 : callB Tryd.prog 16 = true := by kernel_rfl
theorem cb22 : callB Tryd.prog 22 = true := by kernel_rfl
theorem cb46 : callB Tryd.prog 46 = true := by kernel_rfl
theorem cb47 : callB Tryd.prog 47 = true := by kernel_rfl
theorem cb48 : callB Tryd.prog 48 = true := by kernel_rfl
theorem cb49 : callB Tryd.prog 49 = true := by kernel_rfl
theorem cb56 : callB Tryd.prog 56 = true := by kernel_rfl
theorem cb65 : callB Tryd.prog 65 = true := by kernel_rfl
theorem int3 : intB Tryd.prog 3 .i64 = true := by kernel_rfl
theorem int30 : intB Tryd.prog 30 .u64 = true := by kernel_rfl
theorem int5 : intB Tryd.prog 5 .u8 = true := by kernel_rfl
theorem slc34 : slcB Tryd.prog 34 5 1 1 = true := by kernel_rfl
theorem str9 : strB Tryd.prog 9 = true := by kernel_rfl
theorem sz5 : szB Tryd.prog 5 1 = true := by kernel_rfl
theorem zer95 : (Tryd.prog.info? 95).bind (·.zero) = some (.agg #[.int .u8 0, .int .u8 0, .int .u8 0, .int .u8 0, .int .u8 0, .int .u8 0, .int .u8 0, .int .u8 0, .int .u8 0, .int .u8 0, .int .u8 0, .int .u8 0, .int .u8 0, .int .u8 0, .int .u8 0, .int .u8 0, .int .u8 0, .int .u8 0, .int .u8 0, .int .u8 0]) := by kernel_rfl
theorem name_Digits {w : World} {n : Int} (hn : -9223372036854775808 ≤ n ∧ n ≤ 9223372036854775807) :
    Runs Tryd.prog 22 #[.int .i64 n] w (fun v w' => w.grownBy w' none ∧ v = .string ⟨(digI n).toArray⟩) := by
 have hB := gb_refl w none
 have hD : (dig n.natAbs).length ≤ 19 := dig_len 19 _ (by omega) (by omega)
 refine enter Tryd.func22 Tryd.ntmps22 rfl rfl ?_
 refine C_seq (C_reg rfl ?_)
 refine Las rfl rfl (L_nil (N_then (C_seq (C_reg rfl (Lmv rfl rfl (L_run (R_conv rfl any3 int30) rfl (Las rfl rfl (L_nil (N_then (C_seq (C_seq (C_reg rfl (Lmv rfl rfl (L_run (R_lss rfl rfl) rfl (L_nil (N_then (C_if rfl (fun h1 => ?_) (fun h1 => ?_))))))))))))))))))
 ·refine C_reg rfl ?_
  refine Lmv rfl rfl ?_
  refine L_run (R_eqv (R_neg rfl) (v' := .int .u64 (n.natAbs : Int)) (congrArg _ (by rw [IntKind.wrap_u64, IntKind.wrap_u64]; omega))) rfl ?_
  refine Las rfl rfl (L_nil (N_then (C_seq (C_reg rfl (L_alloc (cs := [.int .u8 0, .int .u8 0, .int .u8 0, .int .u8 0, .int .u8 0, .int .u8 0, .int .u8 0, .int .u8 0, .int .u8 0, .int .u8 0, .int .u8 0, .int .u8 0, .int .u8 0, .int .u8 0, .int .u8 0, .int .u8 0, .int .u8 0, .int .u8 0, .int .u8 0, .int .u8 0]) zer95 rfl rfl ?_)))))
  intro g1 w1 eg1 hb1 hs1 hz1
  have ge1 : w.heap.size ≤ g1 := eg_ge hB eg1
  replace hB := gb_tr hB hs1; replace hb1 : Blk w1 g1 95 (fl encB (List.replicate 20 (0 : UInt8))) := hb1
  refine L_nil (N_then (C_seq (C_reg rfl (Las rfl rfl (L_nil (N_then (C_seq (C_block ?_))))))))
  refine C_loop (fun m_ a_ w_ => ∃ (σ_ : Nat → Value) (k : Nat) (u : Nat) (bs : List UInt8), a_ = Ac 33 σ_ [] [(0, .int .i64 n), (2, .string (⟨#[]⟩)), (3, .int .u64 (u : Int)), (4, .pointer (some ⟨g1, 0, none⟩)), (5, .int .i64 (k : Int))] ∧ w.grownBy w_ none ∧ Blk w_ g1 95 (fl encB bs) ∧ (bs.length = 20) ∧ (dig u ++ bs.drop k = dig n.natAbs) ∧ (1 ≤ k) ∧ (k ≤ 20) ∧ (u < 18446744073709551616) ∧ k = m_) (20) ?_ ?_
  ·exact ⟨_, 20, n.natAbs, (List.replicate 20 (0 : UInt8)), Ac_frg ⟨rfl, rfl, (agx rfl), rfl, (agx rfl), trivial⟩, hB, hb1, rfl, (by rw [show List.drop 20 (List.replicate 20 (0 : UInt8)) = [] from rfl, List.append_nil]), (by omega), (by omega), (by omega), rfl⟩
  ·clear hB
   clear hb1
   rintro m_ a_ w2 ⟨σ_, k, u, bs, rfl, hB, hbk, hbl, hd, h1k, h2k, hu, rfl⟩
   refine C_block (C_seq (C_reg rfl ?_))
   refine Lmv rfl rfl ?_
   refine L_run (R_eqv (R_sub64 rfl rfl (by omega)) (v' := .int .i64 ((k - 1 : Nat) : Int)) (congrArg _ (by omega))) rfl ?_
   refine Las rfl rfl (L_nil (N_then (C_seq (C_reg rfl (Lmv rfl rfl (Lmv rfl rfl ?_))))))
   refine L_run (R_eqv (R_rem rfl rfl (by first | decide | omega)) (v' := .int .u64 ((u % 10 : Nat) : Int)) (congrArg _ (by rw [Int.tmod_eq_emod_of_nonneg (by omega)]; omega))) rfl ?_
   refine L_run (R_eqv (R_add rfl rfl) (v' := .int .u64 ((48 + u % 10 : Nat) : Int)) (congrArg _ (by rw [IntKind.wrap_u64]; omega))) rfl ?_
   refine L_run (R_eqv (R_conv rfl any30 int5) (v' := .int .u8 ((UInt8.ofNat (48 + u % 10)).toNat : Int)) (u8_of _ (by omega))) rfl ?_
   refine L_run (R_indexArr (i := (k - 1)) (r := (k - 1)) rfl rfl (by first | rfl | omega) arr95 (by omega) (by omega)) rfl ?_
   refine L_st1v (v := .int .u8 ((UInt8.ofNat (48 + u % 10)).toNat : Int)) rfl rfl rfl sz5 hbk (by rw [fl_len EncB, Nat.mul_one]; first | omega | (rw [List.length_set]; omega)) ?_
   intro w3 hb2 hs2 hz2
   rw [fl_setB (by first | omega | (rw [List.length_set]; omega))] at hb2
   replace hB := gb_trg hB hs2 ge1
   refine L_nil (N_then (C_seq (C_reg rfl (Lmv rfl rfl ?_))))
   refine L_run (R_eqv (R_quo rfl rfl (by first | decide | omega)) (v' := .int .u64 ((u / 10 : Nat) : Int)) (congrArg _ (by rw [Int.tdiv_eq_ediv_of_nonneg (by omega), IntKind.wrap_u64]; omega))) rfl ?_
   refine Las rfl rfl (L_nil (N_then (C_seq (C_reg rfl (Lmv rfl rfl (L_run (R_eql rfl rfl) rfl (L_nil (N_then (C_if rfl (fun h2 => ?_) (fun h2 => ?_))))))))))
   ·refine C_exit (X_miss rfl (X_then (X_hit (N_then (C_seq (C_seq (C_reg rfl ?_)))))))
    refine Lmv rfl rfl (L_run (R_lss rfl rfl) rfl (L_nil (N_then (C_condT rfl (decide_eq_true h1) (C_seq (C_reg rfl (Lmv rfl rfl ?_)))))))
    refine L_run (R_eqv (R_sub64 rfl rfl (by omega)) (v' := .int .i64 ((k - 1 - 1 : Nat) : Int)) (congrArg _ (by have := dig_cut hbl hd hD; omega))) rfl ?_
    refine Las rfl rfl (L_nil (N_then (C_reg rfl (Lmv rfl rfl ?_))))
    refine L_run (R_indexArr (i := (k - 1 - 1)) (r := (k - 1 - 1)) rfl rfl (by first | rfl | omega) arr95 (by omega) (by omega)) rfl ?_
    refine L_st1v (v := .int .u8 ((45 : UInt8).toNat : Int)) rfl rfl rfl sz5 hb2 (by rw [fl_len EncB, Nat.mul_one]; first | omega | (rw [List.length_set]; omega)) ?_
    intro w4 hb3 hs3 hz3
    rw [fl_setB (by first | omega | (rw [List.length_set]; omega))] at hb3
    replace hB := gb_trg hB hs3 ge1
    refine L_nil (N_then (C_seq (C_reg rfl (Lmv rfl rfl ?_))))
    refine T_slArr (bs := ((bs.set (k - 1) (UInt8.ofNat (48 + u % 10))).set (k - 1 - 1) 45)) (i := (k - 1 - 1)) rfl rfl (by first | rfl | omega) arr95 (by omega) hb3 (by first | omega | (simp; omega)) rfl ?_
    intro A_1 hS_1
    refine L_run (R_b2s' (bs := ((bs.set (k - 1) (UInt8.ofNat (48 + u % 10))).set (k - 1 - 1) 45).drop (k - 1 - 1)) rfl slc34 int5 str9 hS_1) rfl ?_
    refine Las rfl rfl (L_nil (N_then (C_ret ?_)))
    refine ret1 Tryd.results22 rfl ?_
    have hf := dig_fin hbl hd (by omega) h1k h2k
    have hc2 := dig_cut hbl hd hD
    have e_ : (((bs.set (k - 1) (UInt8.ofNat (48 + u % 10))).set (k - 1 - 1) 45).drop (k - 1 - 1)) = digI n := by unfold digI; rw [if_pos (by omega), set_drop _ (by rw [List.length_set]; omega), show k - 1 - 1 + 1 = k - 1 by omega, hf]
    rw [e_]; exact ⟨hB, rfl⟩
   ·refine C_skip (N_in (N_then ?_))
    have hd2 := dig_next hbl hd (by omega) h1k h2k
    have hc2 := dig_cut (bs := (bs.set (k - 1) (UInt8.ofNat (48 + u % 10)))) (k := k - 1) (by rw [List.length_set]; exact hbl) hd2 hD
    exact ⟨(k - 1), by omega, _, (k - 1), (u / 10), (bs.set (k - 1) (UInt8.ofNat (48 + u % 10))), Ac_frg ⟨rfl, rfl, (agx rfl), rfl, (agx rfl), trivial⟩, hB, hb2, (by rw [List.length_set]; exact hbl), hd2, (by omega), (by omega), (by omega), rfl⟩
 ·refine C_skip (N_then (C_seq (C_reg rfl ?_)))
  refine L_alloc (cs := [.int .u8 0, .int .u8 0, .int .u8 0, .int .u8 0, .int .u8 0, .int .u8 0, .int .u8 0, .int .u8 0, .int .u8 0, .int .u8 0, .int .u8 0, .int .u8 0, .int .u8 0, .int .u8 0, .int .u8 0, .int .u8 0, .int .u8 0, .int .u8 0, .int .u8 0, .int .u8 0]) zer95 rfl rfl ?_
  intro g2 w5 eg2 hb4 hs4 hz4
  have ge2 : w.heap.size ≤ g2 := eg_ge hB eg2
  replace hB := gb_tr hB hs4; replace hb4 : Blk w5 g2 95 (fl encB (List.replicate 20 (0 : UInt8))) := hb4
  refine L_nil (N_then (C_seq (C_reg rfl (Las rfl rfl (L_nil (N_then (C_seq (C_block ?_))))))))
  refine C_loop (fun m_ a_ w_ => ∃ (σ_ : Nat → Value) (k : Nat) (u : Nat) (bs : List UInt8), a_ = Ac 33 σ_ [] [(0, .int .i64 n), (2, .string (⟨#[]⟩)), (3, .int .u64 (u : Int)), (4, .pointer (some ⟨g2, 0, none⟩)), (5, .int .i64 (k : Int))] ∧ w.grownBy w_ none ∧ Blk w_ g2 95 (fl encB bs) ∧ (bs.length = 20) ∧ (dig u ++ bs.drop k = dig n.natAbs) ∧ (1 ≤ k) ∧ (k ≤ 20) ∧ (u < 18446744073709551616) ∧ k = m_) (20) ?_ ?_
  ·exact ⟨_, 20, n.natAbs, (List.replicate 20 (0 : UInt8)), Ac_frg ⟨rfl, rfl, (agx rfl), rfl, (agx rfl), trivial⟩, hB, hb4, rfl, (by rw [show List.drop 20 (List.replicate 20 (0 : UInt8)) = [] from rfl, List.append_nil]), (by omega), (by omega), (by omega), rfl⟩
  ·clear hB
   clear hb4
   rintro m_ a_ w6 ⟨σ_, k, u, bs, rfl, hB, hbk, hbl, hd, h1k, h2k, hu, rfl⟩
   refine C_block (C_seq (C_reg rfl ?_))
   refine Lmv rfl rfl ?_
   refine L_run (R_eqv (R_sub64 rfl rfl (by omega)) (v' := .int .i64 ((k - 1 : Nat) : Int)) (congrArg _ (by omega))) rfl ?_
   refine Las rfl rfl (L_nil (N_then (C_seq (C_reg rfl (Lmv rfl rfl (Lmv rfl rfl ?_))))))
   refine L_run (R_eqv (R_rem rfl rfl (by first | decide | omega)) (v' := .int .u64 ((u % 10 : Nat) : Int)) (congrArg _ (by rw [Int.tmod_eq_emod_of_nonneg (by omega)]; omega))) rfl ?_
   refine L_run (R_eqv (R_add rfl rfl) (v' := .int .u64 ((48 + u % 10 : Nat) : Int)) (congrArg _ (by rw [IntKind.wrap_u64]; omega))) rfl ?_
   refine L_run (R_eqv (R_conv rfl any30 int5) (v' := .int .u8 ((UInt8.ofNat (48 + u % 10)).toNat : Int)) (u8_of _ (by omega))) rfl ?_
   refine L_run (R_indexArr (i := (k - 1)) (r := (k - 1)) rfl rfl (by first | rfl | omega) arr95 (by omega) (by omega)) rfl ?_
   refine L_st1v (v := .int .u8 ((UInt8.ofNat (48 + u % 10)).toNat : Int)) rfl rfl rfl sz5 hbk (by rw [fl_len EncB, Nat.mul_one]; first | omega | (rw [List.length_set]; omega)) ?_
   intro w7 hb5 hs5 hz5
   rw [fl_setB (by first | omega | (rw [List.length_set]; omega))] at hb5
   replace hB := gb_trg hB hs5 ge2
   refine L_nil (N_then (C_seq (C_reg rfl (Lmv rfl rfl ?_))))
   refine L_run (R_eqv (R_quo rfl rfl (by first | decide | omega)) (v' := .int .u64 ((u / 10 : Nat) : Int)) (congrArg _ (by rw [Int.tdiv_eq_ediv_of_nonneg (by omega), IntKind.wrap_u64]; omega))) rfl ?_
   refine Las rfl rfl (L_nil (N_then (C_seq (C_reg rfl (Lmv rfl rfl (L_run (R_eql rfl rfl) rfl (L_nil (N_then (C_if rfl (fun h3 => ?_) (fun h3 => ?_))))))))))
   ·refine C_exit (X_miss rfl (X_then (X_hit (N_then (C_seq (C_seq (C_reg rfl ?_)))))))
    refine Lmv rfl rfl (L_run (R_lss rfl rfl) rfl (L_nil (N_then (C_condF rfl (decide_eq_false h1) (C_skip (N_then (C_seq (C_reg rfl (Lmv rfl rfl ?_)))))))))
    refine T_slArr (bs := (bs.set (k - 1) (UInt8.ofNat (48 + u % 10)))) (i := (k - 1)) rfl rfl (by first | rfl | omega) arr95 (by omega) hb5 (by first | omega | (simp; omega)) rfl ?_
    intro A_2 hS_2
    refine L_run (R_b2s' (bs := (bs.set (k - 1) (UInt8.ofNat (48 + u % 10))).drop (k - 1)) rfl slc34 int5 str9 hS_2) rfl ?_
    refine Las rfl rfl (L_nil (N_then (C_ret ?_)))
    refine ret1 Tryd.results22 rfl ?_
    have hf := dig_fin hbl hd (by omega) h1k h2k
    have e_ : ((bs.set (k - 1) (UInt8.ofNat (48 + u % 10))).drop (k - 1)) = digI n := by unfold digI; rw [if_neg (by omega), hf]
    rw [e_]; exact ⟨hB, rfl⟩
   ·refine C_skip (N_in (N_then ?_))
    have hd2 := dig_next hbl hd (by omega) h1k h2k
    have hc2 := dig_cut (bs := (bs.set (k - 1) (UInt8.ofNat (48 + u % 10)))) (k := k - 1) (by rw [List.length_set]; exact hbl) hd2 hD
    exact ⟨(k - 1), by omega, _, (k - 1), (u / 10), (bs.set (k - 1) (UInt8.ofNat (48 + u % 10))), Ac_frg ⟨rfl, rfl, (agx rfl), rfl, (agx rfl), trivial⟩, hB, hb5, (by rw [List.length_set]; exact hbl), hd2, (by omega), (by omega), (by omega), rfl⟩
theorem name_Wal {w : World} {n : Int} (hn : -9223372036854775808 ≤ n ∧ n ≤ 9223372036854775807) :
    Runs Tryd.prog 48 #[.int .i64 n] w (fun v w' => w.grownBy w' none ∧ v = .string ⟨(wname n).toArray⟩) := by
 have hB := gb_refl w none
 refine enter Tryd.func48 Tryd.ntmps48 rfl rfl ?_
 refine C_seq (C_reg rfl ?_)
 refine Las rfl rfl (L_nil (N_then (C_seq (C_seq (C_reg rfl (Lmv rfl rfl (L_run (R_lss rfl rfl) rfl (Lmv rfl rfl ?_))))))))
 refine L_splitD (p := n < 1) (fun h1 => ?_) (fun h1 => ?_)
 ·refine L_no rfl rfl rfl (decide_eq_true h1) rfl (L_no rfl rfl rfl (decide_eq_true h1) rfl (L_run (R_pickT rfl (decide_eq_true h1) rfl) rfl (L_nil (N_then (C_condT rfl rfl (C_seq (C_reg rfl (Las rfl rfl (L_nil (N_then (C_ret (R_then ?_))))))))))))
  refine ret1 Tryd.results48 rfl ?_
  first
    | (exfalso; omega)
    | (have e_ : ([] : List UInt8) = wname n := by
         unfold wname
         first | (rw [if_pos (by omega)]; rfl) | rw [if_neg (by omega)]
       rw [← e_]; exact ⟨hB, rfl⟩)
 ·refine L_yes rfl rfl rfl (decide_eq_false h1) (Lmv rfl rfl (L_yes rfl rfl rfl (decide_eq_false h1) (L_run (R_gtr rfl rfl) rfl (L_run (R_pickF rfl (decide_eq_false h1) rfl) rfl (L_nil (N_then (C_if rfl (fun h2 => ?_) (fun h2 => ?_))))))))
  ·refine C_seq (C_reg rfl ?_)
   refine Las rfl rfl (L_nil (N_then (C_ret (R_then ?_))))
   refine ret1 Tryd.results48 rfl ?_
   first
     | (exfalso; omega)
     | (have e_ : ([] : List UInt8) = wname n := by
          unfold wname
          first | (rw [if_pos (by omega)]; rfl) | rw [if_neg (by omega)]
        rw [← e_]; exact ⟨hB, rfl⟩)
  ·refine C_skip (N_then (C_seq (C_reg rfl ?_)))
   refine Lmv rfl rfl ?_
   refine L_call rfl cb22 (name_Digits (n := n) (by omega)) rfl ?_
   rintro _ w1 ⟨hs1, rfl⟩
   replace hB := gb_tr hB hs1
   refine L_run (R_eqv (R_addS rfl rfl (by rw [ba_size, ba_size]; have h_ := digI_len hn; simp; omega)) (v' := .string ⟨(([119, 97, 108, 45] : List UInt8) ++ (digI n)).toArray⟩) (congrArg _ (ba_app _ _).symm)) rfl ?_
   refine Las rfl rfl (L_nil (N_then (C_ret ?_)))
   refine ret1 Tryd.results48 rfl ?_
   first
     | (exfalso; omega)
     | (have e_ : (([119, 97, 108, 45] : List UInt8) ++ (digI n)) = wname n := by
          unfold wname
          first | (rw [if_pos (by omega)]; rfl) | rw [if_neg (by omega)]
        rw [← e_]; exact ⟨hB, rfl⟩)
theorem name_Pool {w : World} {n : Int} (hn : -9223372036854775808 ≤ n ∧ n ≤ 9223372036854775807) :
    Runs Tryd.prog 49 #[.int .i64 n] w (fun v w' => w.grownBy w' none ∧ v = .string ⟨(pname n).toArray⟩) := by
 have hB := gb_refl w none
 refine enter Tryd.func49 Tryd.ntmps49 rfl rfl ?_
 refine C_seq (C_reg rfl ?_)
 refine Las rfl rfl (L_nil (N_then (C_seq (C_seq (C_reg rfl (Lmv rfl rfl (L_run (R_lss rfl rfl) rfl (Lmv rfl rfl ?_))))))))
 refine L_splitD (p := n < 0) (fun h1 => ?_) (fun h1 => ?_)
 ·refine L_no rfl rfl rfl (decide_eq_true h1) rfl (L_no rfl rfl rfl (decide_eq_true h1) rfl (L_run (R_pickT rfl (decide_eq_true h1) rfl) rfl (L_nil (N_then (C_condT rfl rfl (C_seq (C_reg rfl (Las rfl rfl (L_nil (N_then (C_ret (R_then ?_))))))))))))
  refine ret1 Tryd.results49 rfl ?_
  first
    | (exfalso; omega)
    | (have e_ : ([] : List UInt8) = pname n := by
         unfold pname
         first | (rw [if_pos (by omega)]; rfl) | rw [if_neg (by omega)]
       rw [← e_]; exact ⟨hB, rfl⟩)
 ·refine L_yes rfl rfl rfl (decide_eq_false h1) (Lmv rfl rfl (L_yes rfl rfl rfl (decide_eq_false h1) (L_run (R_gtr rfl rfl) rfl (L_run (R_pickF rfl (decide_eq_false h1) rfl) rfl (L_nil (N_then (C_if rfl (fun h2 => ?_) (fun h2 => ?_))))))))
  ·refine C_seq (C_reg rfl ?_)
   refine Las rfl rfl (L_nil (N_then (C_ret (R_then ?_))))
   refine ret1 Tryd.results49 rfl ?_
   first
     | (exfalso; omega)
     | (have e_ : ([] : List UInt8) = pname n := by
          unfold pname
          first | (rw [if_pos (by omega)]; rfl) | rw [if_neg (by omega)]
        rw [← e_]; exact ⟨hB, rfl⟩)
  ·refine C_skip (N_then (C_seq (C_reg rfl ?_)))
   refine Lmv rfl rfl ?_
   refine L_call rfl cb22 (name_Digits (n := n) (by omega)) rfl ?_
   rintro _ w1 ⟨hs1, rfl⟩
   replace hB := gb_tr hB hs1
   refine L_run (R_eqv (R_addS rfl rfl (by rw [ba_size, ba_size]; have h_ := digI_len hn; simp; omega)) (v' := .string ⟨(([102, 114, 101, 101, 45] : List UInt8) ++ (digI n)).toArray⟩) (congrArg _ (ba_app _ _).symm)) rfl ?_
   refine Las rfl rfl (L_nil (N_then (C_ret ?_)))
   refine ret1 Tryd.results49 rfl ?_
   first
     | (exfalso; omega)
     | (have e_ : (([102, 114, 101, 101, 45] : List UInt8) ++ (digI n)) = pname n := by
          unfold pname
          first | (rw [if_pos (by omega)]; rfl) | rw [if_neg (by omega)]
        rw [← e_]; exact ⟨hB, rfl⟩)
theorem ref05_Digits_step {w : World} {n : Int} (hn : -9223372036854775808 ≤ n ∧ n ≤ 9223372036854775807) (ih : ∀ {n' : Int}, n'.natAbs < n.natAbs ∨ (n' = -n ∧ n < 0 ∧ -10 < n) → -9223372036854775808 ≤ n' ∧ n' ≤ 9223372036854775807 → ∀ (w : World), Runs Tryd.prog 16 #[.int .i64 n'] w (fun v w' => w.grownBy w' none ∧ v = .string ⟨(digI n').toArray⟩)) :
    Runs Tryd.prog 16 #[.int .i64 n] w (fun v w' => w.grownBy w' none ∧ v = .string ⟨(digI n).toArray⟩) := by
 have hB := gb_refl w none
 refine enter Tryd.func16 Tryd.ntmps16 rfl rfl ?_
 refine C_seq (C_reg rfl ?_)
 refine Las rfl rfl (L_nil (N_then (C_seq (C_seq (C_reg rfl (Lmv rfl rfl (L_run (R_lss rfl rfl) rfl (L_nil (N_then (C_if rfl (fun h1 => ?_) (fun h1 => ?_)))))))))))
 ·refine C_seq (C_reg rfl ?_)
  refine Lmv rfl rfl ?_
  refine L_run (R_rem rfl rfl (by first | decide | omega)) rfl ?_
  refine L_run (R_eqv (R_neg rfl) (v' := .int .i64 (((-n).toNat % 10 : Nat) : Int)) (neg_rem (by omega) hn)) rfl ?_
  refine Las rfl rfl (L_nil (N_then (C_seq (C_seq (C_reg rfl (Lmv rfl rfl (L_run (R_gtr rfl rfl) rfl (L_nil (N_then (C_if rfl (fun h2 => ?_) (fun h2 => ?_)))))))))))
  ·refine C_seq (C_reg rfl ?_)
   refine Lmv rfl rfl ?_
   refine L_call rfl cb16 (ih (n' := (((-n).toNat % 10 : Nat) : Int)) (by omega) (by omega) _) rfl ?_
   rintro _ w1 ⟨hs1, rfl⟩
   replace hB := gb_tr hB hs1
   refine L_run (R_eqv (R_addS rfl rfl (by rw [ba_size, ba_size]; first | (have h1_ := digI_len (n := -(((-n).toNat / 10 : Nat) : Int)) (by omega); have h2_ := digI_len (n := (((-n).toNat % 10 : Nat) : Int)) (by omega); have h3_ := digI_len (n := ((n.toNat / 10 : Nat) : Int)) (by omega); have h4_ := digI_len (n := ((n.toNat % 10 : Nat) : Int)) (by omega); first | omega | (simp only [List.length_cons, List.length_nil]; omega)))) (v' := .string ⟨(([45] : List UInt8) ++ (digI (((-n).toNat % 10 : Nat) : Int))).toArray⟩) (congrArg _ (ba_app _ _).symm)) rfl ?_
   refine Las rfl rfl (L_nil (N_then (C_ret (R_then (R_then ?_)))))
   refine ret1 Tryd.results16 rfl ?_
   first
     | (exfalso; omega)
     | (have e_ : (([45] : List UInt8) ++ (digI (((-n).toNat % 10 : Nat) : Int))) = digI n := by first | exact rdig_1 (by omega) (by omega) | exact rdig_2 (by omega) | exact rdig_4 (by omega) | (exact rdig_5 (by omega) (by omega))
        rw [e_]; exact ⟨hB, rfl⟩)
  ·refine C_skip (N_then (C_seq (C_reg rfl ?_)))
   refine Lmv rfl rfl ?_
   refine L_run (R_eqv (R_quo rfl rfl (by first | decide | omega)) (v' := .int .i64 (-(((-n).toNat / 10 : Nat) : Int))) (neg_quo (by omega) hn)) rfl ?_
   refine L_call rfl cb16 (ih (n' := (-(((-n).toNat / 10 : Nat) : Int))) (by omega) (by omega) _) rfl ?_
   rintro _ w2 ⟨hs2, rfl⟩
   replace hB := gb_tr hB hs2
   refine Lmv rfl rfl ?_
   refine L_call rfl cb16 (ih (n' := (((-n).toNat % 10 : Nat) : Int)) (by omega) (by omega) _) rfl ?_
   rintro _ w3 ⟨hs3, rfl⟩
   replace hB := gb_tr hB hs3
   refine L_run (R_eqv (R_addS rfl rfl (by rw [ba_size, ba_size]; first | (have h1_ := digI_len (n := -(((-n).toNat / 10 : Nat) : Int)) (by omega); have h2_ := digI_len (n := (((-n).toNat % 10 : Nat) : Int)) (by omega); have h3_ := digI_len (n := ((n.toNat / 10 : Nat) : Int)) (by omega); have h4_ := digI_len (n := ((n.toNat % 10 : Nat) : Int)) (by omega); first | omega | (simp only [List.length_cons, List.length_nil]; omega)))) (v' := .string ⟨((digI (-(((-n).toNat / 10 : Nat) : Int))) ++ (digI (((-n).toNat % 10 : Nat) : Int))).toArray⟩) (congrArg _ (ba_app _ _).symm)) rfl ?_
   refine Las rfl rfl (L_nil (N_then (C_ret (R_then ?_))))
   refine ret1 Tryd.results16 rfl ?_
   first
     | (exfalso; omega)
     | (have e_ : ((digI (-(((-n).toNat / 10 : Nat) : Int))) ++ (digI (((-n).toNat % 10 : Nat) : Int))) = digI n := by first | exact rdig_1 (by omega) (by omega) | exact rdig_2 (by omega) | exact rdig_4 (by omega) | (exact rdig_5 (by omega) (by omega))
        rw [e_]; exact ⟨hB, rfl⟩)
 ·refine C_skip (N_then (C_seq (C_seq (C_reg rfl ?_))))
  refine Lmv rfl rfl (L_run (R_lss rfl rfl) rfl (L_nil (N_then (C_if rfl (fun h3 => ?_) (fun h3 => ?_)))))
  ·refine C_seq (C_reg rfl ?_)
   refine Lmv rfl rfl (Lmv rfl rfl ?_)
   refine L_run (R_add64 rfl rfl (by omega)) rfl ?_
   refine L_run (R_slSLH (cs := [48, 49, 50, 51, 52, 53, 54, 55, 56, 57]) (i := n.toNat) (j := (n.toNat + 1)) rfl rfl rfl (by first | rfl | omega) (by first | rfl | omega) str9 (by first | omega | (simp; done) | (simp; omega)) (by simp; omega)) rfl ?_
   refine Las rfl rfl (L_nil (N_then (C_ret (R_then ?_))))
   refine ret1 Tryd.results16 rfl ?_
   first
     | (exfalso; omega)
     | (have e_ : ((([48, 49, 50, 51, 52, 53, 54, 55, 56, 57] : List UInt8).drop n.toNat).take ((n.toNat + 1) - n.toNat)) = digI n := by first | exact rdig_1 (by omega) (by omega) | exact rdig_2 (by omega) | exact rdig_4 (by omega) | (exact rdig_5 (by omega) (by omega))
        rw [e_]; exact ⟨hB, rfl⟩)
  ·refine C_skip (N_then (C_seq (C_reg rfl ?_)))
   refine Lmv rfl rfl ?_
   refine L_run (R_eqv (R_quo rfl rfl (by first | decide | omega)) (v' := .int .i64 ((n.toNat / 10 : Nat) : Int)) (pos_quo (by omega) hn)) rfl ?_
   refine L_call rfl cb16 (ih (n' := ((n.toNat / 10 : Nat) : Int)) (by omega) (by omega) _) rfl ?_
   rintro _ w4 ⟨hs4, rfl⟩
   replace hB := gb_tr hB hs4
   refine Lmv rfl rfl ?_
   refine L_run (R_eqv (R_rem rfl rfl (by first | decide | omega)) (v' := .int .i64 ((n.toNat % 10 : Nat) : Int)) (pos_rem (by omega))) rfl ?_
   refine L_call rfl cb16 (ih (n' := ((n.toNat % 10 : Nat) : Int)) (by omega) (by omega) _) rfl ?_
   rintro _ w5 ⟨hs5, rfl⟩
   replace hB := gb_tr hB hs5
   refine L_run (R_eqv (R_addS rfl rfl (by rw [ba_size, ba_size]; first | (have h1_ := digI_len (n := -(((-n).toNat / 10 : Nat) : Int)) (by omega); have h2_ := digI_len (n := (((-n).toNat % 10 : Nat) : Int)) (by omega); have h3_ := digI_len (n := ((n.toNat / 10 : Nat) : Int)) (by omega); have h4_ := digI_len (n := ((n.toNat % 10 : Nat) : Int)) (by omega); first | omega | (simp only [List.length_cons, List.length_nil]; omega)))) (v' := .string ⟨((digI ((n.toNat / 10 : Nat) : Int)) ++ (digI ((n.toNat % 10 : Nat) : Int))).toArray⟩) (congrArg _ (ba_app _ _).symm)) rfl ?_
   refine Las rfl rfl (L_nil (N_then (C_ret ?_)))
   refine ret1 Tryd.results16 rfl ?_
   first
     | (exfalso; omega)
     | (have e_ : ((digI ((n.toNat / 10 : Nat) : Int)) ++ (digI ((n.toNat % 10 : Nat) : Int))) = digI n := by first | exact rdig_1 (by omega) (by omega) | exact rdig_2 (by omega) | exact rdig_4 (by omega) | (exact rdig_5 (by omega) (by omega))
        rw [e_]; exact ⟨hB, rfl⟩)
theorem ref05_Digits {n : Int} (hn : -9223372036854775808 ≤ n ∧ n ≤ 9223372036854775807) : ∀ (w : World), Runs Tryd.prog 16 #[.int .i64 n] w (fun v w' => w.grownBy w' none ∧ v = .string ⟨(digI n).toArray⟩) := by
  have key : ∀ (m : Nat) {n : Int}, 2 * n.natAbs + (if n < 0 then 1 else 0) ≤ m → -9223372036854775808 ≤ n ∧ n ≤ 9223372036854775807 → ∀ (w : World), Runs Tryd.prog 16 #[.int .i64 n] w (fun v w' => w.grownBy w' none ∧ v = .string ⟨(digI n).toArray⟩) := by
    intro m
    induction m with
    | zero =>
      intro n h hn w
      exact ref05_Digits_step hn (fun {n'} h1 h2 => by split at h <;> omega)
    | succ m ih =>
      intro n h hn w
      exact ref05_Digits_step hn (fun {n'} h1 h2 => ih (by split at h <;> split <;> omega) h2)
  exact key _ (Nat.le_refl _) hn
theorem hasPrefix {w : World} {cs ps : List UInt8} :
    Runs Tryd.prog 56 #[.string (⟨cs.toArray⟩), .string (⟨ps.toArray⟩)] w (fun v w' => w.grownBy w' none ∧ v = .bool (decide (cs.take ps.length = ps))) := by
 have hB := gb_refl w none
 refine enter Tryd.func56 Tryd.ntmps56 rfl rfl ?_
 refine C_seq (C_reg rfl ?_)
 refine Las rfl rfl (L_nil (N_then (C_seq (C_reg rfl (Lmv rfl rfl ?_)))))
 refine L_run (R_eqv (R_lenS rfl str9) (v' := .int .i64 (cs.length : Int)) (by rw [ba_size])) rfl ?_
 refine Lmv rfl rfl ?_
 refine L_run (R_eqv (R_lenS rfl str9) (v' := .int .i64 (ps.length : Int)) (by rw [ba_size])) rfl ?_
 refine L_run (R_geq rfl rfl) rfl ?_
 refine Lmv rfl rfl ?_
 refine L_splitD (p := (ps.length : Int) ≤ (cs.length : Int)) (fun h1 => ?_) (fun h1 => ?_)
 ·refine L_yes rfl rfl rfl (decide_eq_true h1) (Lmv rfl rfl (L_yes rfl rfl rfl (decide_eq_true h1) (Lmv rfl rfl (L_yes rfl rfl rfl (decide_eq_true h1) ?_))))
  refine L_run (R_eqv (R_lenS rfl str9) (v' := .int .i64 (ps.length : Int)) (by rw [ba_size])) rfl ?_
  refine L_yes rfl rfl rfl (decide_eq_true h1) ?_
  refine L_run (R_slSH (cs := cs) (i := ps.length) rfl rfl (by first | rfl | omega) str9 (by first | omega | (simp; done) | (simp; omega))) rfl ?_
  refine L_yes rfl rfl rfl (decide_eq_true h1) (Lmv rfl rfl (L_yes rfl rfl rfl (decide_eq_true h1) (L_run (R_eqv (R_eqlS rfl rfl) (v' := .bool (decide ((cs.take ps.length) = ps))) (bD ba_inj)) rfl (L_run (R_pickT rfl (decide_eq_true h1) rfl) rfl (Las rfl rfl (L_nil (N_then (C_ret ?_))))))))
  refine ret1 Tryd.results56 rfl ?_
  exact ⟨hB, bD (by rw [pre_iff (by omega)])⟩
 ·refine L_no rfl rfl rfl (decide_eq_false h1) rfl (L_no rfl rfl rfl (decide_eq_false h1) rfl (L_no rfl rfl rfl (decide_eq_false h1) rfl (L_no rfl rfl rfl (decide_eq_false h1) rfl (L_no rfl rfl rfl (decide_eq_false h1) rfl (L_no rfl rfl rfl (decide_eq_false h1) rfl (L_run (R_pickF rfl (decide_eq_false h1) rfl) rfl (Las rfl rfl (L_nil (N_then (C_ret ?_))))))))))
  refine ret1 Tryd.results56 rfl ?_
  exact ⟨hB, bF (fun h => by have := congrArg List.length h; rw [List.length_take] at this; omega)⟩
theorem cutPrefix0 {w : World} {cs ps : List UInt8} :
    Runs Tryd.prog 65 #[.string (⟨cs.toArray⟩), .string (⟨ps.toArray⟩)] w (fun v w' => w.grownBy w' none ∧ v = if cs.take ps.length = ps then .tuple #[.string ⟨(cs.drop ps.length).toArray⟩, .bool true] else .tuple #[.string ⟨cs.toArray⟩, .bool false]) := by
 have hB := gb_refl w none
 refine enter Tryd.func65 Tryd.ntmps65 rfl rfl ?_
 refine C_seq (C_reg rfl ?_)
 refine Las rfl rfl (Las rfl rfl (L_nil (N_then (C_seq (C_seq (C_reg rfl (Lmv rfl rfl (Lmv rfl rfl ?_))))))))
 refine L_call rfl cb56 (hasPrefix (cs := cs) (ps := ps)) rfl ?_
 rintro _ w1 ⟨hs1, rfl⟩
 replace hB := gb_tr hB hs1
 refine L_run (R_notD rfl) rfl ?_
 refine L_nil (N_then (C_ifN rfl (fun h1 => ?_) (fun h1 => ?_)))
 ·refine C_seq (C_reg rfl ?_)
  refine Lmv rfl rfl (Las rfl rfl (Las rfl rfl (L_nil (N_then (C_ret (R_then ?_))))))
  refine ret2 Tryd.results65 rfl rfl ?_
  exact ⟨hB, by rw [if_neg (by assumption)]⟩
 ·refine C_skip (N_then (C_seq (C_reg rfl ?_)))
  refine Lmv rfl rfl (Lmv rfl rfl ?_)
  refine L_run (R_eqv (R_lenS rfl str9) (v' := .int .i64 (ps.length : Int)) (by rw [ba_size])) rfl ?_
  refine L_run (R_slSL (cs := cs) (i := ps.length) rfl rfl (by first | rfl | omega) str9 (pre_le (by assumption))) rfl ?_
  refine Las rfl rfl (Las rfl rfl (L_nil (N_then (C_ret ?_))))
  refine ret2 Tryd.results65 rfl rfl ?_
  exact ⟨hB, by rw [if_pos (by assumption)]⟩
theorem cutPrefix0_y {w : World} {cs ps : List UInt8} (h : cs.take ps.length = ps) : Runs Tryd.prog 65 #[.string ⟨cs.toArray⟩, .string ⟨ps.toArray⟩] w (fun v w' => w.grownBy w' none ∧ v = .tuple #[.string ⟨(cs.drop ps.length).toArray⟩, .bool true]) :=
  cutPrefix0.mono fun v w' hh => by rw [if_pos h] at hh; exact hh
theorem cutPrefix0_n {w : World} {cs ps : List UInt8} (h : ¬ cs.take ps.length = ps) : Runs Tryd.prog 65 #[.string ⟨cs.toArray⟩, .string ⟨ps.toArray⟩] w (fun v w' => w.grownBy w' none ∧ v = .tuple #[.string ⟨cs.toArray⟩, .bool false]) :=
  cutPrefix0.mono fun v w' hh => by rw [if_neg h] at hh; exact hh
theorem cutPrefix_y {w : World} {cs ps : List UInt8} (h : cs.take ps.length = ps) :
    Runs Tryd.prog 46 #[.string (⟨cs.toArray⟩), .string (⟨ps.toArray⟩)] w (fun v w' => w.grownBy w' none ∧ v = .tuple #[.string ⟨(cs.drop ps.length).toArray⟩, .bool true]) := by
 have hB := gb_refl w none
 refine enter Tryd.func46 Tryd.ntmps46 rfl rfl ?_
 refine C_seq (C_reg rfl ?_)
 refine Las rfl rfl (Las rfl rfl (L_nil (N_then (C_seq (C_reg rfl (Lmv rfl rfl (Lmv rfl rfl ?_)))))))
 refine L_call rfl cb65 (cutPrefix0_y (cs := cs) (ps := ps) h) rfl ?_
 rintro _ w1 ⟨hs1, rfl⟩
 replace hB := gb_tr hB hs1
 refine L_run (R_extract rfl rfl) rfl (L_run (R_extract rfl rfl) rfl (Las rfl rfl (Las rfl rfl (L_nil (N_then (C_ret ?_))))))
 refine ret2 Tryd.results46 rfl rfl ?_
 exact ⟨hB, rfl⟩
theorem cutPrefix_n {w : World} {cs ps : List UInt8} (h : ¬ cs.take ps.length = ps) :
    Runs Tryd.prog 46 #[.string (⟨cs.toArray⟩), .string (⟨ps.toArray⟩)] w (fun v w' => w.grownBy w' none ∧ v = .tuple #[.string ⟨cs.toArray⟩, .bool false]) := by
 have hB := gb_refl w none
 refine enter Tryd.func46 Tryd.ntmps46 rfl rfl ?_
 refine C_seq (C_reg rfl ?_)
 refine Las rfl rfl (Las rfl rfl (L_nil (N_then (C_seq (C_reg rfl (Lmv rfl rfl (Lmv rfl rfl ?_)))))))
 refine L_call rfl cb65 (cutPrefix0_n (cs := cs) (ps := ps) h) rfl ?_
 rintro _ w1 ⟨hs1, rfl⟩
 replace hB := gb_tr hB hs1
 refine L_run (R_extract rfl rfl) rfl (L_run (R_extract rfl rfl) rfl (Las rfl rfl (Las rfl rfl (L_nil (N_then (C_ret ?_))))))
 refine ret2 Tryd.results46 rfl rfl ?_
 exact ⟨hB, rfl⟩
theorem name_number {w : World} {cs : List UInt8} (hl : cs.length ≤ 9000000000000000000) :
    Runs Tryd.prog 47 #[.string (⟨cs.toArray⟩)] w (fun v w' => w.grownBy w' none ∧ v = .int .i64 (nnum cs)) := by
 have hB := gb_refl w none
 refine enter Tryd.func47 Tryd.ntmps47 rfl rfl ?_
 refine C_seq (C_reg rfl ?_)
 refine Las rfl rfl (L_nil (N_then (C_seq (C_reg rfl (Las rfl rfl (L_nil (N_then (C_seq (C_seq (C_reg rfl (Lmv rfl rfl ?_)))))))))))
 refine L_run (R_eqv (R_lenS rfl str9) (v' := .int .i64 (cs.length : Int)) (by rw [ba_size])) rfl ?_
 refine Lmv rfl rfl (L_nil (N_then (C_block ?_)))
 refine C_loop (fun m_ a_ w_ => ∃ (σ_ : Nat → Value) (k : Nat), a_ = Ac 40 σ_ [] [(0, .string (⟨cs.toArray⟩)), (2, .int .i64 0), (3, .int .i64 (dval (cs.take k) : Int)), (6, .string (⟨cs.toArray⟩)), (7, .int .i64 (cs.length : Int)), (8, .int .i64 (k : Int))] ∧ w.grownBy w_ none ∧ (k ≤ cs.length) ∧ (k ≤ 10) ∧ (∀ c ∈ cs.take k, isd c) ∧ cs.length - k = m_) (cs.length - 0) ?_ ?_
 ·exact ⟨_, 0, Ac_frg ⟨rfl, rfl, (agx rfl), rfl, rfl, (agx rfl), trivial⟩, hB, (by omega), (by omega), (by intro c hc; simp at hc), rfl⟩
 ·clear hB
  rintro m_ a_ w1 ⟨σ_, k, rfl, hB, hk, h10, hall, rfl⟩
  refine C_seq (C_reg rfl ?_)
  refine L_run (R_lss rfl rfl) rfl ?_
  refine L_nil (N_then (C_seq (C_if rfl (fun h1 => ?_) (fun h1 => ?_))))
  ·refine C_skip (N_then (C_seq (C_block (C_seq (C_reg rfl ?_)))))
   refine Lmv rfl rfl (Las rfl rfl (L_nil (N_then (C_seq (C_reg rfl (Lmv rfl rfl (Lmv rfl rfl ?_)))))))
   have hk1 : k < cs.length := by first | omega | (simp; omega)
   refine L_run (R_indexS (cs := cs) (a := (k : Int)) (i := k) rfl rfl (by first | rfl | omega) str9 hk1) rfl ?_
   refine L_run (R_eqv (R_conv rfl any5 int3) (v' := .int .i64 (cs[k].toNat : Int)) (congrArg _ (i64_fit (by have := cs[k].toNat_lt; omega)))) rfl ?_
   refine L_run (R_sub64 rfl rfl (by first | omega | (have h2_ := cs[k].toNat_lt; first | omega | (have h_ := dval_lt 10 _ hall (by rw [List.length_take]; omega); omega)))) rfl ?_
   refine Las rfl rfl (L_nil (N_then (C_seq (C_seq (C_reg rfl (Lmv rfl rfl (L_run (R_lss rfl rfl) rfl (Lmv rfl rfl ?_))))))))
   refine L_splitD (p := ((cs[k].toNat : Int) - 48) < 0) (fun h2 => ?_) (fun h2 => ?_)
   ·refine L_no rfl rfl rfl (decide_eq_true h2) rfl (L_no rfl rfl rfl (decide_eq_true h2) rfl (L_run (R_pickT rfl (decide_eq_true h2) rfl) rfl (Lmv rfl rfl (L_no rfl rfl rfl rfl rfl (L_no rfl rfl rfl rfl rfl (L_run (R_pickT rfl rfl rfl) rfl (L_nil (N_then (C_condT rfl rfl (C_seq (C_reg rfl (Las rfl rfl (L_nil (N_then (C_ret (R_then (R_in (R_then (R_then (R_in (R_then ?_)))))))))))))))))))))
    refine ret1 Tryd.results47 rfl ?_
    first
      | (exfalso; omega)
      | (have e_ : nnum cs = -1 := by
           first
             | exact nnum_bad1 hk1 (by omega)
             | exact nnum_bad2 hk1 (by omega)
             | (rw [List.take_of_length_le (by omega)] at *; first | exact nnum_nil (by assumption) | exact nnum_ne (by assumption) | exact nnum_yes (by assumption) hall (by omega) (by assumption))
         rw [e_]; exact ⟨hB, rfl⟩)
   ·refine L_yes rfl rfl rfl (decide_eq_false h2) (Lmv rfl rfl (L_yes rfl rfl rfl (decide_eq_false h2) (L_run (R_gtr rfl rfl) rfl (L_run (R_pickF rfl (decide_eq_false h2) rfl) rfl (Lmv rfl rfl ?_)))))
    refine L_splitD (p := 9 < ((cs[k].toNat : Int) - 48)) (fun h3 => ?_) (fun h3 => ?_)
    ·refine L_no rfl rfl rfl (decide_eq_true h3) rfl (L_no rfl rfl rfl (decide_eq_true h3) rfl (L_run (R_pickT rfl (decide_eq_true h3) rfl) rfl (L_nil (N_then (C_condT rfl rfl (C_seq (C_reg rfl (Las rfl rfl (L_nil (N_then (C_ret (R_then (R_in (R_then (R_then (R_in (R_then ?_)))))))))))))))))
     refine ret1 Tryd.results47 rfl ?_
     first
       | (exfalso; omega)
       | (have e_ : nnum cs = -1 := by
            first
              | exact nnum_bad1 hk1 (by omega)
              | exact nnum_bad2 hk1 (by omega)
              | (rw [List.take_of_length_le (by omega)] at *; first | exact nnum_nil (by assumption) | exact nnum_ne (by assumption) | exact nnum_yes (by assumption) hall (by omega) (by assumption))
          rw [e_]; exact ⟨hB, rfl⟩)
    ·refine L_yes rfl rfl rfl (decide_eq_false h3) (Lmv rfl rfl (L_yes rfl rfl rfl (decide_eq_false h3) (L_run (R_gtr rfl rfl) rfl (L_run (R_pickF rfl (decide_eq_false h3) rfl) rfl (L_nil (N_then (C_if rfl (fun h4 => ?_) (fun h4 => ?_))))))))
     ·refine C_seq (C_reg rfl ?_)
      refine Las rfl rfl (L_nil (N_then (C_ret (R_then (R_in (R_then (R_then (R_in (R_then ?_)))))))))
      refine ret1 Tryd.results47 rfl ?_
      first
        | (exfalso; omega)
        | (have e_ : nnum cs = -1 := by
             first
               | exact nnum_bad1 hk1 (by omega)
               | exact nnum_bad2 hk1 (by omega)
               | (rw [List.take_of_length_le (by omega)] at *; first | exact nnum_nil (by assumption) | exact nnum_ne (by assumption) | exact nnum_yes (by assumption) hall (by omega) (by assumption))
           rw [e_]; exact ⟨hB, rfl⟩)
     ·refine C_skip (N_then (C_reg rfl ?_))
      refine Lmv rfl rfl ?_
      refine L_run (R_mul64 rfl rfl (by first | omega | (have h2_ := cs[k].toNat_lt; first | omega | (have h_ := dval_lt 10 _ hall (by rw [List.length_take]; omega); omega)))) rfl ?_
      refine Lmv rfl rfl ?_
      refine L_run (R_eqv (R_add64 rfl rfl (by first | omega | (have h2_ := cs[k].toNat_lt; first | omega | (have h_ := dval_lt 10 _ hall (by rw [List.length_take]; omega); omega)))) (v' := .int .i64 (dval (cs.take (k + 1)) : Int)) (congrArg _ (dval_step hk1 (by omega)))) rfl ?_
      refine Las rfl rfl ?_
      refine L_nil (N_in (N_then (C_reg rfl ?_)))
      refine L_run (R_add64 rfl rfl (by first | omega | (have h2_ := cs[k].toNat_lt; first | omega | (have h_ := dval_lt 10 _ hall (by rw [List.length_take]; omega); omega)))) rfl ?_
      refine Lmv rfl rfl (L_nil (N_then ?_))
      exact ⟨cs.length - (k + 1), by omega, _, (k + 1), Ac_frg ⟨rfl, rfl, rfl, rfl, rfl, (agx rfl), trivial⟩, hB, (by omega), (by omega), (isd_take hall hk1 (by omega) (by omega)), rfl⟩
  ·refine C_exit (X_then (X_then (X_hit (N_then (C_seq (C_seq (C_reg rfl ?_)))))))
   refine Lmv rfl rfl (L_run (R_eqv (R_eqlS rfl rfl) (v' := .bool (decide (cs = []))) (bD ba_inj)) rfl (Lmv rfl rfl ?_))
   refine L_splitD (p := cs = []) (fun h5 => ?_) (fun h5 => ?_)
   ·refine L_no rfl rfl rfl (decide_eq_true h5) rfl (L_no rfl rfl rfl (decide_eq_true h5) rfl (L_no rfl rfl rfl (decide_eq_true h5) rfl (L_no rfl rfl rfl (decide_eq_true h5) rfl (L_run (R_pickT rfl (decide_eq_true h5) rfl) rfl (L_nil (N_then (C_condT rfl rfl (C_seq (C_reg rfl (Las rfl rfl (L_nil (N_then (C_ret (R_then ?_))))))))))))))
    refine ret1 Tryd.results47 rfl ?_
    first
      | (exfalso; omega)
      | (have e_ : nnum cs = -1 := by
           first
             | exact nnum_bad1 hk1 (by omega)
             | exact nnum_bad2 hk1 (by omega)
             | (rw [List.take_of_length_le (by omega)] at *; first | exact nnum_nil (by assumption) | exact nnum_ne (by assumption) | exact nnum_yes (by assumption) hall (by omega) (by assumption))
         rw [e_]; exact ⟨hB, rfl⟩)
   ·refine L_yes rfl rfl rfl (decide_eq_false h5) (Lmv rfl rfl (L_yes rfl rfl rfl (decide_eq_false h5) ?_))
    refine L_call rfl cb22 (name_Digits (n := (dval (cs.take k) : Int)) (by have h_ := dval_lt 10 _ hall (by rw [List.length_take]; omega); omega)) rfl ?_
    rintro _ w2 ⟨hs1, rfl⟩
    replace hB := gb_tr hB hs1
    refine L_yes rfl rfl rfl (decide_eq_false h5) (Lmv rfl rfl (L_yes rfl rfl rfl (decide_eq_false h5) (L_run (R_eqv (R_neqS rfl rfl) (v' := .bool (decide (¬ ((digI (dval (cs.take k) : Int)) = cs)))) (bD (not_congr ba_inj))) rfl (L_run (R_pickF rfl (decide_eq_false h5) rfl) rfl (L_nil (N_then (C_ifN rfl (fun h6 => ?_) (fun h6 => ?_))))))))
    ·refine C_seq (C_reg rfl ?_)
     refine Las rfl rfl (L_nil (N_then (C_ret (R_then ?_))))
     refine ret1 Tryd.results47 rfl ?_
     first
       | (exfalso; omega)
       | (have e_ : nnum cs = -1 := by
            first
              | exact nnum_bad1 hk1 (by omega)
              | exact nnum_bad2 hk1 (by omega)
              | (rw [List.take_of_length_le (by omega)] at *; first | exact nnum_nil (by assumption) | exact nnum_ne (by assumption) | exact nnum_yes (by assumption) hall (by omega) (by assumption))
          rw [e_]; exact ⟨hB, rfl⟩)
    ·refine C_skip (N_then (C_seq (C_reg rfl ?_)))
     refine Lmv rfl rfl (Las rfl rfl (L_nil (N_then (C_ret ?_))))
     refine ret1 Tryd.results47 rfl ?_
     first
       | (exfalso; omega)
       | (have e_ : nnum cs = (dval (cs.take k) : Int) := by
            first
              | exact nnum_bad1 hk1 (by omega)
              | exact nnum_bad2 hk1 (by omega)
              | (rw [List.take_of_length_le (by omega)] at *; first | exact nnum_nil (by assumption) | exact nnum_ne (by assumption) | exact nnum_yes (by assumption) hall (by omega) (by assumption))
          rw [e_]; exact ⟨hB, rfl⟩)
theorem name_Parse_yy {w : World} {cs : List UInt8} (hl : cs.length ≤ 9000000000000000000) (hw : cs.take ([119, 97, 108, 45] : List UInt8).length = ([119, 97, 108, 45] : List UInt8)) (hf : cs.take ([102, 114, 101, 101, 45] : List UInt8).length = ([102, 114, 101, 101, 45] : List UInt8)) :
    Runs Tryd.prog 23 #[.string (⟨cs.toArray⟩)] w (fun v w' => w.grownBy w' none ∧ v = .tuple #[.int .i64 (nparse cs).1, .int .i64 (nparse cs).2]) := by
 have hB := gb_refl w none
 refine enter Tryd.func23 Tryd.ntmps23 rfl rfl ?_
 refine C_seq (C_reg rfl ?_)
 refine Las rfl rfl (Las rfl rfl (L_nil (N_then (C_seq (C_seq (C_reg rfl (Lmv rfl rfl ?_)))))))
 refine L_call rfl cb46 (cutPrefix_y (cs := cs) (ps := ([119, 97, 108, 45] : List UInt8)) hw) rfl ?_
 rintro _ w1 ⟨hs1, rfl⟩
 replace hB := gb_tr hB hs1
 refine Lmv rfl rfl (L_run (R_extract rfl rfl) rfl (L_run (R_extract rfl rfl) rfl (Las rfl rfl (Las rfl rfl (L_nil (N_then (C_seq (C_reg rfl (Lmv rfl rfl (L_nil (N_then (C_condT rfl rfl (C_seq (C_reg rfl (Lmv rfl rfl ?_)))))))))))))))
 refine L_call rfl cb47 (name_number (cs := (cs.drop ([119, 97, 108, 45] : List UInt8).length)) (by first | omega | (simp; omega))) rfl ?_
 rintro _ w2 ⟨hs2, rfl⟩
 replace hB := gb_tr hB hs2
 refine Las rfl rfl (L_nil (N_then (C_seq (C_reg rfl (Lmv rfl rfl (L_run (R_gtr rfl rfl) rfl (Lmv rfl rfl ?_)))))))
 refine L_splitD (p := 0 < (nnum (cs.drop ([119, 97, 108, 45] : List UInt8).length))) (fun h1 => ?_) (fun h1 => ?_)
 ·refine L_yes rfl rfl rfl (decide_eq_true h1) (Lmv rfl rfl (L_yes rfl rfl rfl (decide_eq_true h1) ?_))
  refine L_call rfl cb48 (name_Wal (n := (nnum (cs.drop ([119, 97, 108, 45] : List UInt8).length))) (by have h_ := nnum_bound (cs.drop ([119, 97, 108, 45] : List UInt8).length); have h2_ := nnum_bound (cs.drop ([102, 114, 101, 101, 45] : List UInt8).length); omega)) rfl ?_
  rintro _ w3 ⟨hs3, rfl⟩
  replace hB := gb_tr hB hs3
  refine L_yes rfl rfl rfl (decide_eq_true h1) (Lmv rfl rfl (L_yes rfl rfl rfl (decide_eq_true h1) (L_run (R_eqv (R_eqlS rfl rfl) (v' := .bool (decide ((wname (nnum (cs.drop ([119, 97, 108, 45] : List UInt8).length))) = cs))) (bD ba_inj)) rfl (L_run (R_pickT rfl (decide_eq_true h1) rfl) rfl (L_nil (N_then (C_if rfl (fun h2 => ?_) (fun h2 => ?_))))))))
  ·refine C_seq (C_reg rfl ?_)
   refine Lmv rfl rfl (Las rfl rfl (Las rfl rfl (L_nil (N_then (C_ret (R_then ?_))))))
   refine ret2 Tryd.results23 rfl rfl ?_
   first
     | (exfalso; omega)
     | (have e_ : nparse cs = (1, (nnum (cs.drop ([119, 97, 108, 45] : List UInt8).length))) := by
          first
            | exact npar_w hw (by assumption) (by assumption)
            | exact npar_p hf (by assumption) (by assumption)
            | exact npar_0 (fun h => by first | contradiction | omega | (obtain ⟨h1, h2, h3⟩ := h; contradiction)) (fun h => by first | contradiction | omega | (obtain ⟨h1, h2, h3⟩ := h; contradiction))
        rw [e_]; exact ⟨hB, rfl⟩)
  ·refine C_skip (N_then (C_seq (C_seq (C_reg rfl ?_))))
   refine Lmv rfl rfl ?_
   refine L_call rfl cb46 (cutPrefix_y (cs := cs) (ps := ([102, 114, 101, 101, 45] : List UInt8)) hf) rfl ?_
   rintro _ w4 ⟨hs4, rfl⟩
   replace hB := gb_tr hB hs4
   refine Lmv rfl rfl (L_run (R_extract rfl rfl) rfl (L_run (R_extract rfl rfl) rfl (Las rfl rfl (Las rfl rfl (L_nil (N_then (C_seq (C_reg rfl (Lmv rfl rfl (L_nil (N_then (C_condT rfl rfl (C_seq (C_reg rfl (Lmv rfl rfl ?_)))))))))))))))
   refine L_call rfl cb47 (name_number (cs := (cs.drop ([102, 114, 101, 101, 45] : List UInt8).length)) (by first | omega | (simp; omega))) rfl ?_
   rintro _ w5 ⟨hs5, rfl⟩
   replace hB := gb_tr hB hs5
   refine Las rfl rfl (L_nil (N_then (C_seq (C_reg rfl (Lmv rfl rfl (L_run (R_geq rfl rfl) rfl (Lmv rfl rfl ?_)))))))
   refine L_splitD (p := 0 ≤ (nnum (cs.drop ([102, 114, 101, 101, 45] : List UInt8).length))) (fun h3 => ?_) (fun h3 => ?_)
   ·refine L_yes rfl rfl rfl (decide_eq_true h3) (Lmv rfl rfl (L_yes rfl rfl rfl (decide_eq_true h3) ?_))
    refine L_call rfl cb49 (name_Pool (n := (nnum (cs.drop ([102, 114, 101, 101, 45] : List UInt8).length))) (by have h_ := nnum_bound (cs.drop ([119, 97, 108, 45] : List UInt8).length); have h2_ := nnum_bound (cs.drop ([102, 114, 101, 101, 45] : List UInt8).length); omega)) rfl ?_
    rintro _ w6 ⟨hs6, rfl⟩
    replace hB := gb_tr hB hs6
    refine L_yes rfl rfl rfl (decide_eq_true h3) (Lmv rfl rfl (L_yes rfl rfl rfl (decide_eq_true h3) (L_run (R_eqv (R_eqlS rfl rfl) (v' := .bool (decide ((pname (nnum (cs.drop ([102, 114, 101, 101, 45] : List UInt8).length))) = cs))) (bD ba_inj)) rfl (L_run (R_pickT rfl (decide_eq_true h3) rfl) rfl (L_nil (N_then (C_if rfl (fun h4 => ?_) (fun h4 => ?_))))))))
    ·refine C_seq (C_reg rfl ?_)
     refine Lmv rfl rfl (Las rfl rfl (Las rfl rfl (L_nil (N_then (C_ret (R_then ?_))))))
     refine ret2 Tryd.results23 rfl rfl ?_
     first
       | (exfalso; omega)
       | (have e_ : nparse cs = (2, (nnum (cs.drop ([102, 114, 101, 101, 45] : List UInt8).length))) := by
            first
              | exact npar_w hw (by assumption) (by assumption)
              | exact npar_p hf (by assumption) (by assumption)
              | exact npar_0 (fun h => by first | contradiction | omega | (obtain ⟨h1, h2, h3⟩ := h; contradiction)) (fun h => by first | contradiction | omega | (obtain ⟨h1, h2, h3⟩ := h; contradiction))
          rw [e_]; exact ⟨hB, rfl⟩)
    ·refine C_skip (N_then (C_seq (C_reg rfl ?_)))
     refine Las rfl rfl (Las rfl rfl (L_nil (N_then (C_ret ?_))))
     refine ret2 Tryd.results23 rfl rfl ?_
     first
       | (exfalso; omega)
       | (have e_ : nparse cs = (0, 0) := by
            first
              | exact npar_w hw (by assumption) (by assumption)
              | exact npar_p hf (by assumption) (by assumption)
              | exact npar_0 (fun h => by first | contradiction | omega | (obtain ⟨h1, h2, h3⟩ := h; contradiction)) (fun h => by first | contradiction | omega | (obtain ⟨h1, h2, h3⟩ := h; contradiction))
          rw [e_]; exact ⟨hB, rfl⟩)
   ·refine L_no rfl rfl rfl (decide_eq_false h3) rfl (L_no rfl rfl rfl (decide_eq_false h3) rfl (L_no rfl rfl rfl (decide_eq_false h3) rfl (L_no rfl rfl rfl (decide_eq_false h3) rfl (L_run (R_pickF rfl (decide_eq_false h3) rfl) rfl (L_nil (N_then (C_condF rfl rfl (C_skip (N_then (C_seq (C_reg rfl (Las rfl rfl (Las rfl rfl (L_nil (N_then (C_ret ?_))))))))))))))))
    refine ret2 Tryd.results23 rfl rfl ?_
    first
      | (exfalso; omega)
      | (have e_ : nparse cs = (0, 0) := by
           first
             | exact npar_w hw (by assumption) (by assumption)
             | exact npar_p hf (by assumption) (by assumption)
             | exact npar_0 (fun h => by first | contradiction | omega | (obtain ⟨h1, h2, h3⟩ := h; contradiction)) (fun h => by first | contradiction | omega | (obtain ⟨h1, h2, h3⟩ := h; contradiction))
         rw [e_]; exact ⟨hB, rfl⟩)
 ·refine L_no rfl rfl rfl (decide_eq_false h1) rfl (L_no rfl rfl rfl (decide_eq_false h1) rfl (L_no rfl rfl rfl (decide_eq_false h1) rfl (L_no rfl rfl rfl (decide_eq_false h1) rfl (L_run (R_pickF rfl (decide_eq_false h1) rfl) rfl (L_nil (N_then (C_condF rfl rfl (C_skip (N_then (C_seq (C_seq (C_reg rfl (Lmv rfl rfl ?_)))))))))))))
  refine L_call rfl cb46 (cutPrefix_y (cs := cs) (ps := ([102, 114, 101, 101, 45] : List UInt8)) hf) rfl ?_
  rintro _ w7 ⟨hs7, rfl⟩
  replace hB := gb_tr hB hs7
  refine Lmv rfl rfl (L_run (R_extract rfl rfl) rfl (L_run (R_extract rfl rfl) rfl (Las rfl rfl (Las rfl rfl (L_nil (N_then (C_seq (C_reg rfl (Lmv rfl rfl (L_nil (N_then (C_condT rfl rfl (C_seq (C_reg rfl (Lmv rfl rfl ?_)))))))))))))))
  refine L_call rfl cb47 (name_number (cs := (cs.drop ([102, 114, 101, 101, 45] : List UInt8).length)) (by first | omega | (simp; omega))) rfl ?_
  rintro _ w8 ⟨hs8, rfl⟩
  replace hB := gb_tr hB hs8
  refine Las rfl rfl (L_nil (N_then (C_seq (C_reg rfl (Lmv rfl rfl (L_run (R_geq rfl rfl) rfl (Lmv rfl rfl ?_)))))))
  refine L_splitD (p := 0 ≤ (nnum (cs.drop ([102, 114, 101, 101, 45] : List UInt8).length))) (fun h5 => ?_) (fun h5 => ?_)
  ·refine L_yes rfl rfl rfl (decide_eq_true h5) (Lmv rfl rfl (L_yes rfl rfl rfl (decide_eq_true h5) ?_))
   refine L_call rfl cb49 (name_Pool (n := (nnum (cs.drop ([102, 114, 101, 101, 45] : List UInt8).length))) (by have h_ := nnum_bound (cs.drop ([119, 97, 108, 45] : List UInt8).length); have h2_ := nnum_bound (cs.drop ([102, 114, 101, 101, 45] : List UInt8).length); omega)) rfl ?_
   rintro _ w9 ⟨hs9, rfl⟩
   replace hB := gb_tr hB hs9
   refine L_yes rfl rfl rfl (decide_eq_true h5) (Lmv rfl rfl (L_yes rfl rfl rfl (decide_eq_true h5) (L_run (R_eqv (R_eqlS rfl rfl) (v' := .bool (decide ((pname (nnum (cs.drop ([102, 114, 101, 101, 45] : List UInt8).length))) = cs))) (bD ba_inj)) rfl (L_run (R_pickT rfl (decide_eq_true h5) rfl) rfl (L_nil (N_then (C_if rfl (fun h6 => ?_) (fun h6 => ?_))))))))
   ·refine C_seq (C_reg rfl ?_)
    refine Lmv rfl rfl (Las rfl rfl (Las rfl rfl (L_nil (N_then (C_ret (R_then ?_))))))
    refine ret2 Tryd.results23 rfl rfl ?_
    first
      | (exfalso; omega)
      | (have e_ : nparse cs = (2, (nnum (cs.drop ([102, 114, 101, 101, 45] : List UInt8).length))) := by
           first
             | exact npar_w hw (by assumption) (by assumption)
             | exact npar_p hf (by assumption) (by assumption)
             | exact npar_0 (fun h => by first | contradiction | omega | (obtain ⟨h1, h2, h3⟩ := h; contradiction)) (fun h => by first | contradiction | omega | (obtain ⟨h1, h2, h3⟩ := h; contradiction))
         rw [e_]; exact ⟨hB, rfl⟩)
   ·refine C_skip (N_then (C_seq (C_reg rfl ?_)))
    refine Las rfl rfl (Las rfl rfl (L_nil (N_then (C_ret ?_))))
    refine ret2 Tryd.results23 rfl rfl ?_
    first
      | (exfalso; omega)
      | (have e_ : nparse cs = (0, 0) := by
           first
             | exact npar_w hw (by assumption) (by assumption)
             | exact npar_p hf (by assumption) (by assumption)
             | exact npar_0 (fun h => by first | contradiction | omega | (obtain ⟨h1, h2, h3⟩ := h; contradiction)) (fun h => by first | contradiction | omega | (obtain ⟨h1, h2, h3⟩ := h; contradiction))
         rw [e_]; exact ⟨hB, rfl⟩)
  ·refine L_no rfl rfl rfl (decide_eq_false h5) rfl (L_no rfl rfl rfl (decide_eq_false h5) rfl (L_no rfl rfl rfl (decide_eq_false h5) rfl (L_no rfl rfl rfl (decide_eq_false h5) rfl (L_run (R_pickF rfl (decide_eq_false h5) rfl) rfl (L_nil (N_then (C_condF rfl rfl (C_skip (N_then (C_seq (C_reg rfl (Las rfl rfl (Las rfl rfl (L_nil (N_then (C_ret ?_))))))))))))))))
   refine ret2 Tryd.results23 rfl rfl ?_
   first
     | (exfalso; omega)
     | (have e_ : nparse cs = (0, 0) := by
          first
            | exact npar_w hw (by assumption) (by assumption)
            | exact npar_p hf (by assumption) (by assumption)
            | exact npar_0 (fun h => by first | contradiction | omega | (obtain ⟨h1, h2, h3⟩ := h; contradiction)) (fun h => by first | contradiction | omega | (obtain ⟨h1, h2, h3⟩ := h; contradiction))
        rw [e_]; exact ⟨hB, rfl⟩)
theorem name_Parse_yn {w : World} {cs : List UInt8} (hl : cs.length ≤ 9000000000000000000) (hw : cs.take ([119, 97, 108, 45] : List UInt8).length = ([119, 97, 108, 45] : List UInt8)) (hf : ¬ cs.take ([102, 114, 101, 101, 45] : List UInt8).length = ([102, 114, 101, 101, 45] : List UInt8)) :
    Runs Tryd.prog 23 #[.string (⟨cs.toArray⟩)] w (fun v w' => w.grownBy w' none ∧ v = .tuple #[.int .i64 (nparse cs).1, .int .i64 (nparse cs).2]) := by
 have hB := gb_refl w none
 refine enter Tryd.func23 Tryd.ntmps23 rfl rfl ?_
 refine C_seq (C_reg rfl ?_)
 refine Las rfl rfl (Las rfl rfl (L_nil (N_then (C_seq (C_seq (C_reg rfl (Lmv rfl rfl ?_)))))))
 refine L_call rfl cb46 (cutPrefix_y (cs := cs) (ps := ([119, 97, 108, 45] : List UInt8)) hw) rfl ?_
 rintro _ w1 ⟨hs1, rfl⟩
 replace hB := gb_tr hB hs1
 refine Lmv rfl rfl (L_run (R_extract rfl rfl) rfl (L_run (R_extract rfl rfl) rfl (Las rfl rfl (Las rfl rfl (L_nil (N_then (C_seq (C_reg rfl (Lmv rfl rfl (L_nil (N_then (C_condT rfl rfl (C_seq (C_reg rfl (Lmv rfl rfl ?_)))))))))))))))
 refine L_call rfl cb47 (name_number (cs := (cs.drop ([119, 97, 108, 45] : List UInt8).length)) (by first | omega | (simp; omega))) rfl ?_
 rintro _ w2 ⟨hs2, rfl⟩
 replace hB := gb_tr hB hs2
 refine Las rfl rfl (L_nil (N_then (C_seq (C_reg rfl (Lmv rfl rfl (L_run (R_gtr rfl rfl) rfl (Lmv rfl rfl ?_)))))))
 refine L_splitD (p := 0 < (nnum (cs.drop ([119, 97, 108, 45] : List UInt8).length))) (fun h1 => ?_) (fun h1 => ?_)
 ·refine L_yes rfl rfl rfl (decide_eq_true h1) (Lmv rfl rfl (L_yes rfl rfl rfl (decide_eq_true h1) ?_))
  refine L_call rfl cb48 (name_Wal (n := (nnum (cs.drop ([119, 97, 108, 45] : List UInt8).length))) (by have h_ := nnum_bound (cs.drop ([119, 97, 108, 45] : List UInt8).length); have h2_ := nnum_bound (cs.drop ([102, 114, 101, 101, 45] : List UInt8).length); omega)) rfl ?_
  rintro _ w3 ⟨hs3, rfl⟩
  replace hB := gb_tr hB hs3
  refine L_yes rfl rfl rfl (decide_eq_true h1) (Lmv rfl rfl (L_yes rfl rfl rfl (decide_eq_true h1) (L_run (R_eqv (R_eqlS rfl rfl) (v' := .bool (decide ((wname (nnum (cs.drop ([119, 97, 108, 45] : List UInt8).length))) = cs))) (bD ba_inj)) rfl (L_run (R_pickT rfl (decide_eq_true h1) rfl) rfl (L_nil (N_then (C_if rfl (fun h2 => ?_) (fun h2 => ?_))))))))
  ·refine C_seq (C_reg rfl ?_)
   refine Lmv rfl rfl (Las rfl rfl (Las rfl rfl (L_nil (N_then (C_ret (R_then ?_))))))
   refine ret2 Tryd.results23 rfl rfl ?_
   first
     | (exfalso; omega)
     | (have e_ : nparse cs = (1, (nnum (cs.drop ([119, 97, 108, 45] : List UInt8).length))) := by
          first
            | exact npar_w hw (by assumption) (by assumption)
            | exact npar_p hf (by assumption) (by assumption)
            | exact npar_0 (fun h => by first | contradiction | omega | (obtain ⟨h1, h2, h3⟩ := h; contradiction)) (fun h => by first | contradiction | omega | (obtain ⟨h1, h2, h3⟩ := h; contradiction))
        rw [e_]; exact ⟨hB, rfl⟩)
  ·refine C_skip (N_then (C_seq (C_seq (C_reg rfl ?_))))
   refine Lmv rfl rfl ?_
   refine L_call rfl cb46 (cutPrefix_n (cs := cs) (ps := ([102, 114, 101, 101, 45] : List UInt8)) hf) rfl ?_
   rintro _ w4 ⟨hs4, rfl⟩
   replace hB := gb_tr hB hs4
   refine Lmv rfl rfl (L_run (R_extract rfl rfl) rfl (L_run (R_extract rfl rfl) rfl (Las rfl rfl (Las rfl rfl (L_nil (N_then (C_seq (C_reg rfl (Lmv rfl rfl (L_nil (N_then (C_condF rfl rfl (C_skip (N_then (C_seq (C_reg rfl (Las rfl rfl (Las rfl rfl (L_nil (N_then (C_ret ?_)))))))))))))))))))))
   refine ret2 Tryd.results23 rfl rfl ?_
   first
     | (exfalso; omega)
     | (have e_ : nparse cs = (0, 0) := by
          first
            | exact npar_w hw (by assumption) (by assumption)
            | exact npar_p hf (by assumption) (by assumption)
            | exact npar_0 (fun h => by first | contradiction | omega | (obtain ⟨h1, h2, h3⟩ := h; contradiction)) (fun h => by first | contradiction | omega | (obtain ⟨h1, h2, h3⟩ := h; contradiction))
        rw [e_]; exact ⟨hB, rfl⟩)
 ·refine L_no rfl rfl rfl (decide_eq_false h1) rfl (L_no rfl rfl rfl (decide_eq_false h1) rfl (L_no rfl rfl rfl (decide_eq_false h1) rfl (L_no rfl rfl rfl (decide_eq_false h1) rfl (L_run (R_pickF rfl (decide_eq_false h1) rfl) rfl (L_nil (N_then (C_condF rfl rfl (C_skip (N_then (C_seq (C_seq (C_reg rfl (Lmv rfl rfl ?_)))))))))))))
  refine L_call rfl cb46 (cutPrefix_n (cs := cs) (ps := ([102, 114, 101, 101, 45] : List UInt8)) hf) rfl ?_
  rintro _ w5 ⟨hs5, rfl⟩
  replace hB := gb_tr hB hs5
  refine Lmv rfl rfl (L_run (R_extract rfl rfl) rfl (L_run (R_extract rfl rfl) rfl (Las rfl rfl (Las rfl rfl (L_nil (N_then (C_seq (C_reg rfl (Lmv rfl rfl (L_nil (N_then (C_condF rfl rfl (C_skip (N_then (C_seq (C_reg rfl (Las rfl rfl (Las rfl rfl (L_nil (N_then (C_ret ?_)))))))))))))))))))))
  refine ret2 Tryd.results23 rfl rfl ?_
  first
    | (exfalso; omega)
    | (have e_ : nparse cs = (0, 0) := by
         first
           | exact npar_w hw (by assumption) (by assumption)
           | exact npar_p hf (by assumption) (by assumption)
           | exact npar_0 (fun h => by first | contradiction | omega | (obtain ⟨h1, h2, h3⟩ := h; contradiction)) (fun h => by first | contradiction | omega | (obtain ⟨h1, h2, h3⟩ := h; contradiction))
       rw [e_]; exact ⟨hB, rfl⟩)
theorem name_Parse_ny {w : World} {cs : List UInt8} (hl : cs.length ≤ 9000000000000000000) (hw : ¬ cs.take ([119, 97, 108, 45] : List UInt8).length = ([119, 97, 108, 45] : List UInt8)) (hf : cs.take ([102, 114, 101, 101, 45] : List UInt8).length = ([102, 114, 101, 101, 45] : List UInt8)) :
    Runs Tryd.prog 23 #[.string (⟨cs.toArray⟩)] w (fun v w' => w.grownBy w' none ∧ v = .tuple #[.int .i64 (nparse cs).1, .int .i64 (nparse cs).2]) := by
 have hB := gb_refl w none
 refine enter Tryd.func23 Tryd.ntmps23 rfl rfl ?_
 refine C_seq (C_reg rfl ?_)
 refine Las rfl rfl (Las rfl rfl (L_nil (N_then (C_seq (C_seq (C_reg rfl (Lmv rfl rfl ?_)))))))
 refine L_call rfl cb46 (cutPrefix_n (cs := cs) (ps := ([119, 97, 108, 45] : List UInt8)) hw) rfl ?_
 rintro _ w1 ⟨hs1, rfl⟩
 replace hB := gb_tr hB hs1
 refine Lmv rfl rfl (L_run (R_extract rfl rfl) rfl (L_run (R_extract rfl rfl) rfl (Las rfl rfl (Las rfl rfl (L_nil (N_then (C_seq (C_reg rfl (Lmv rfl rfl (L_nil (N_then (C_condF rfl rfl (C_skip (N_then (C_seq (C_seq (C_reg rfl (Lmv rfl rfl ?_))))))))))))))))))
 refine L_call rfl cb46 (cutPrefix_y (cs := cs) (ps := ([102, 114, 101, 101, 45] : List UInt8)) hf) rfl ?_
 rintro _ w2 ⟨hs2, rfl⟩
 replace hB := gb_tr hB hs2
 refine Lmv rfl rfl (L_run (R_extract rfl rfl) rfl (L_run (R_extract rfl rfl) rfl (Las rfl rfl (Las rfl rfl (L_nil (N_then (C_seq (C_reg rfl (Lmv rfl rfl (L_nil (N_then (C_condT rfl rfl (C_seq (C_reg rfl (Lmv rfl rfl ?_)))))))))))))))
 refine L_call rfl cb47 (name_number (cs := (cs.drop ([102, 114, 101, 101, 45] : List UInt8).length)) (by first | omega | (simp; omega))) rfl ?_
 rintro _ w3 ⟨hs3, rfl⟩
 replace hB := gb_tr hB hs3
 refine Las rfl rfl (L_nil (N_then (C_seq (C_reg rfl (Lmv rfl rfl (L_run (R_geq rfl rfl) rfl (Lmv rfl rfl ?_)))))))
 refine L_splitD (p := 0 ≤ (nnum (cs.drop ([102, 114, 101, 101, 45] : List UInt8).length))) (fun h1 => ?_) (fun h1 => ?_)
 ·refine L_yes rfl rfl rfl (decide_eq_true h1) (Lmv rfl rfl (L_yes rfl rfl rfl (decide_eq_true h1) ?_))
  refine L_call rfl cb49 (name_Pool (n := (nnum (cs.drop ([102, 114, 101, 101, 45] : List UInt8).length))) (by have h_ := nnum_bound (cs.drop ([119, 97, 108, 45] : List UInt8).length); have h2_ := nnum_bound (cs.drop ([102, 114, 101, 101, 45] : List UInt8).length); omega)) rfl ?_
  rintro _ w4 ⟨hs4, rfl⟩
  replace hB := gb_tr hB hs4
  refine L_yes rfl rfl rfl (decide_eq_true h1) (Lmv rfl rfl (L_yes rfl rfl rfl (decide_eq_true h1) (L_run (R_eqv (R_eqlS rfl rfl) (v' := .bool (decide ((pname (nnum (cs.drop ([102, 114, 101, 101, 45] : List UInt8).length))) = cs))) (bD ba_inj)) rfl (L_run (R_pickT rfl (decide_eq_true h1) rfl) rfl (L_nil (N_then (C_if rfl (fun h2 => ?_) (fun h2 => ?_))))))))
  ·refine C_seq (C_reg rfl ?_)
   refine Lmv rfl rfl (Las rfl rfl (Las rfl rfl (L_nil (N_then (C_ret (R_then ?_))))))
   refine ret2 Tryd.results23 rfl rfl ?_
   first
     | (exfalso; omega)
     | (have e_ : nparse cs = (2, (nnum (cs.drop ([102, 114, 101, 101, 45] : List UInt8).length))) := by
          first
            | exact npar_w hw (by assumption) (by assumption)
            | exact npar_p hf (by assumption) (by assumption)
            | exact npar_0 (fun h => by first | contradiction | omega | (obtain ⟨h1, h2, h3⟩ := h; contradiction)) (fun h => by first | contradiction | omega | (obtain ⟨h1, h2, h3⟩ := h; contradiction))
        rw [e_]; exact ⟨hB, rfl⟩)
  ·refine C_skip (N_then (C_seq (C_reg rfl ?_)))
   refine Las rfl rfl (Las rfl rfl (L_nil (N_then (C_ret ?_))))
   refine ret2 Tryd.results23 rfl rfl ?_
   first
     | (exfalso; omega)
     | (have e_ : nparse cs = (0, 0) := by
          first
            | exact npar_w hw (by assumption) (by assumption)
            | exact npar_p hf (by assumption) (by assumption)
            | exact npar_0 (fun h => by first | contradiction | omega | (obtain ⟨h1, h2, h3⟩ := h; contradiction)) (fun h => by first | contradiction | omega | (obtain ⟨h1, h2, h3⟩ := h; contradiction))
        rw [e_]; exact ⟨hB, rfl⟩)
 ·refine L_no rfl rfl rfl (decide_eq_false h1) rfl (L_no rfl rfl rfl (decide_eq_false h1) rfl (L_no rfl rfl rfl (decide_eq_false h1) rfl (L_no rfl rfl rfl (decide_eq_false h1) rfl (L_run (R_pickF rfl (decide_eq_false h1) rfl) rfl (L_nil (N_then (C_condF rfl rfl (C_skip (N_then (C_seq (C_reg rfl (Las rfl rfl (Las rfl rfl (L_nil (N_then (C_ret ?_))))))))))))))))
  refine ret2 Tryd.results23 rfl rfl ?_
  first
    | (exfalso; omega)
    | (have e_ : nparse cs = (0, 0) := by
         first
           | exact npar_w hw (by assumption) (by assumption)
           | exact npar_p hf (by assumption) (by assumption)
           | exact npar_0 (fun h => by first | contradiction | omega | (obtain ⟨h1, h2, h3⟩ := h; contradiction)) (fun h => by first | contradiction | omega | (obtain ⟨h1, h2, h3⟩ := h; contradiction))
       rw [e_]; exact ⟨hB, rfl⟩)
theorem name_Parse_nn {w : World} {cs : List UInt8} (hl : cs.length ≤ 9000000000000000000) (hw : ¬ cs.take ([119, 97, 108, 45] : List UInt8).length = ([119, 97, 108, 45] : List UInt8)) (hf : ¬ cs.take ([102, 114, 101, 101, 45] : List UInt8).length = ([102, 114, 101, 101, 45] : List UInt8)) :
    Runs Tryd.prog 23 #[.string (⟨cs.toArray⟩)] w (fun v w' => w.grownBy w' none ∧ v = .tuple #[.int .i64 (nparse cs).1, .int .i64 (nparse cs).2]) := by
 have hB := gb_refl w none
 refine enter Tryd.func23 Tryd.ntmps23 rfl rfl ?_
 refine C_seq (C_reg rfl ?_)
 refine Las rfl rfl (Las rfl rfl (L_nil (N_then (C_seq (C_seq (C_reg rfl (Lmv rfl rfl ?_)))))))
 refine L_call rfl cb46 (cutPrefix_n (cs := cs) (ps := ([119, 97, 108, 45] : List UInt8)) hw) rfl ?_
 rintro _ w1 ⟨hs1, rfl⟩
 replace hB := gb_tr hB hs1
 refine Lmv rfl rfl (L_run (R_extract rfl rfl) rfl (L_run (R_extract rfl rfl) rfl (Las rfl rfl (Las rfl rfl (L_nil (N_then (C_seq (C_reg rfl (Lmv rfl rfl (L_nil (N_then (C_condF rfl rfl (C_skip (N_then (C_seq (C_seq (C_reg rfl (Lmv rfl rfl ?_))))))))))))))))))
 refine L_call rfl cb46 (cutPrefix_n (cs := cs) (ps := ([102, 114, 101, 101, 45] : List UInt8)) hf) rfl ?_
 rintro _ w2 ⟨hs2, rfl⟩
 replace hB := gb_tr hB hs2
 refine Lmv rfl rfl (L_run (R_extract rfl rfl) rfl (L_run (R_extract rfl rfl) rfl (Las rfl rfl (Las rfl rfl (L_nil (N_then (C_seq (C_reg rfl (Lmv rfl rfl (L_nil (N_then (C_condF rfl rfl (C_skip (N_then (C_seq (C_reg rfl (Las rfl rfl (Las rfl rfl (L_nil (N_then (C_ret ?_)))))))))))))))))))))
 refine ret2 Tryd.results23 rfl rfl ?_
 first
   | (exfalso; omega)
   | (have e_ : nparse cs = (0, 0) := by
        first
          | exact npar_w hw (by assumption) (by assumption)
          | exact npar_p hf (by assumption) (by assumption)
          | exact npar_0 (fun h => by first | contradiction | omega | (obtain ⟨h1, h2, h3⟩ := h; contradiction)) (fun h => by first | contradiction | omega | (obtain ⟨h1, h2, h3⟩ := h; contradiction))
      rw [e_]; exact ⟨hB, rfl⟩)
theorem name_Parse {w : World} {cs : List UInt8} (hl : cs.length ≤ 9000000000000000000) : Runs Tryd.prog 23 #[.string ⟨cs.toArray⟩] w (fun v w' => w.grownBy w' none ∧ v = .tuple #[.int .i64 (nparse cs).1, .int .i64 (nparse cs).2]) := by
  by_cases hw : cs.take ([119, 97, 108, 45] : List UInt8).length = ([119, 97, 108, 45] : List UInt8)
  · by_cases hf : cs.take ([102, 114, 101, 101, 45] : List UInt8).length = ([102, 114, 101, 101, 45] : List UInt8)
    · exact name_Parse_yy hl hw hf
    · exact name_Parse_yn hl hw hf
  · by_cases hf : cs.take ([102, 114, 101, 101, 45] : List UInt8).length = ([102, 114, 101, 101, 45] : List UInt8)
    · exact name_Parse_ny hl hw hf
    · exact name_Parse_nn hl hw hf
end Go.Proofs.YtkjgjejkfjhcjaaDoor
namespace Go.Proofs.YtkjgjejkfjhcjaaDoor
open Go.RowKit Gw Pl
set_option linter.unusedVariables false
set_option linter.unusedSimpArgs false
theorem cb25 : callB Tryd.prog 25 = true := by kernel_rfl
theorem cb29 : callB Tryd.prog 29 = true := by kernel_rfl
theorem dig_div {u : Nat} (h : 10 ≤ u) : dig (u / 10) ++ dig (u % 10) = dig u := by rw [dig_lt (u := u % 10) (by omega), ← dig_ge h]
theorem digU_len {u : Nat} (h : u < 18446744073709551616) : (dig u).length ≤ 20 := dig_len 20 u (by omega) (by omega)
theorem ten_dig {n : Nat} (h : n < 10) : ((([48, 49, 50, 51, 52, 53, 54, 55, 56, 57] : List UInt8).drop n).take (n + 1 - n)) = dig n := by
  have h_ := rdig_5 (n := (n : Int)) (by omega) (by omega)
  rw [digI_nat] at h_
  exact h_
theorem recfam_quoU {n k : Nat} (hn : n < 18446744073709551616) : Value.int .u64 (IntKind.u64.wrap (Int.tdiv (n : Int) (k : Int))) = .int .u64 ((n / k : Nat) : Int) := by
  have h2 : n / k ≤ n := Nat.div_le_self _ _
  rw [tdivn, w64n (by omega)]
theorem dump_digits {w : World} {n : Nat} (hn : n < 18446744073709551616) :
    Runs Tryd.prog 28 #[.int .u64 (n : Int)] w (fun v w' => w.grownBy w' none ∧ v = .string ⟨(dig n).toArray⟩) := by
 have hB := gb_refl w none
 refine enter Tryd.func28 Tryd.ntmps28 rfl rfl ?_
 refine C_seq (C_reg rfl ?_)
 refine Las rfl rfl (L_nil (N_then (C_seq (C_seq (C_reg rfl (Lmv rfl rfl (L_run (R_gtr rfl rfl) rfl (L_nil (N_then (C_if rfl (fun h1 => ?_) (fun h1 => ?_)))))))))))
 ·refine C_seq (C_reg rfl ?_)
  refine Lmv rfl rfl ?_
  refine L_run (R_eqv (R_quo rfl rfl (by first | decide | omega)) (v' := .int .u64 ((n / 10 : Nat) : Int)) (recfam_quoU (k := 10) hn)) rfl ?_
  refine L_run (R_eqv (R_conv rfl any30 int3) (v' := .int .i64 ((n / 10 : Nat) : Int)) (congrArg _ (by rw [IntKind.wrap_i64]; omega))) rfl ?_
  refine L_call rfl cb22 (name_Digits (n := ((n / 10 : Nat) : Int)) (by omega)) rfl ?_
  rintro _ w1 ⟨hs1, rfl⟩
  replace hB := gb_tr hB hs1
  refine Lmv rfl rfl ?_
  refine L_run (R_eqv (R_rem rfl rfl (by first | decide | omega)) (v' := .int .u64 ((n % 10 : Nat) : Int)) (rfl)) rfl ?_
  refine L_run (R_eqv (R_conv rfl any30 int3) (v' := .int .i64 ((n % 10 : Nat) : Int)) (congrArg _ (by rw [IntKind.wrap_i64]; omega))) rfl ?_
  refine L_call rfl cb22 (name_Digits (n := ((n % 10 : Nat) : Int)) (by omega)) rfl ?_
  rintro _ w2 ⟨hs2, rfl⟩
  replace hB := gb_tr hB hs2
  refine L_run (R_eqv (R_addS rfl rfl (by rw [ba_size, ba_size]; have h1_ := digI_len (n := ((n / 10 : Nat) : Int)) (by omega); have h2_ := digI_len (n := ((n % 10 : Nat) : Int)) (by omega); omega)) (v' := .string ⟨((digI ((n / 10 : Nat) : Int)) ++ (digI ((n % 10 : Nat) : Int))).toArray⟩) (congrArg _ (ba_app _ _).symm)) rfl ?_
  refine Las rfl rfl (L_nil (N_then (C_ret (R_then ?_))))
  refine ret1 Tryd.results28 rfl ?_
  first
    | (exfalso; omega)
    | (have e_ : ((digI ((n / 10 : Nat) : Int)) ++ (digI ((n % 10 : Nat) : Int))) = dig n := by first | exact digI_nat _ | (rw [digI_nat, digI_nat]; exact dig_div (by omega))
       rw [e_]; exact ⟨hB, rfl⟩)
 ·refine C_skip (N_then (C_seq (C_reg rfl ?_)))
  refine Lmv rfl rfl ?_
  refine L_run (R_eqv (R_conv rfl any30 int3) (v' := .int .i64 ((n : Nat) : Int)) (congrArg _ (by rw [IntKind.wrap_i64]; omega))) rfl ?_
  refine L_call rfl cb22 (name_Digits (n := ((n : Nat) : Int)) (by omega)) rfl ?_
  rintro _ w3 ⟨hs3, rfl⟩
  replace hB := gb_tr hB hs3
  refine Las rfl rfl (L_nil (N_then (C_ret ?_)))
  refine ret1 Tryd.results28 rfl ?_
  first
    | (exfalso; omega)
    | (have e_ : (digI ((n : Nat) : Int)) = dig n := by first | exact digI_nat _ | (rw [digI_nat, digI_nat]; exact dig_div (by omega))
       rw [e_]; exact ⟨hB, rfl⟩)
theorem ref48_digits_step {w : World} {n : Nat} (hn : n < 18446744073709551616) (ih : ∀ {m : Nat}, m < n → m < 18446744073709551616 → ∀ (w : World), Runs Tryd.prog 29 #[.int .u64 ((m : Nat) : Int)] w (fun v w' => w.grownBy w' none ∧ v = .string ⟨(dig m).toArray⟩)) :
    Runs Tryd.prog 29 #[.int .u64 (n : Int)] w (fun v w' => w.grownBy w' none ∧ v = .string ⟨(dig n).toArray⟩) := by
 have hB := gb_refl w none
 refine enter Tryd.func29 Tryd.ntmps29 rfl rfl ?_
 refine C_seq (C_reg rfl ?_)
 refine Las rfl rfl (L_nil (N_then (C_seq (C_seq (C_reg rfl (Lmv rfl rfl (L_run (R_lss rfl rfl) rfl (L_nil (N_then (C_if rfl (fun h1 => ?_) (fun h1 => ?_)))))))))))
 ·refine C_seq (C_reg rfl ?_)
  refine Lmv rfl rfl (Lmv rfl rfl ?_)
  refine L_run (R_eqv (R_add rfl rfl) (v' := .int .u64 ((n + 1 : Nat) : Int)) (congrArg _ (by rw [IntKind.wrap_u64]; omega))) rfl ?_
  refine L_run (R_slSLH (cs := [48, 49, 50, 51, 52, 53, 54, 55, 56, 57]) (i := n) (j := (n + 1)) rfl rfl rfl (by first | rfl | omega) (by first | rfl | omega) str9 (by first | omega | (simp; done) | (simp; omega)) (by simp; omega)) rfl ?_
  refine Las rfl rfl (L_nil (N_then (C_ret (R_then ?_))))
  refine ret1 Tryd.results29 rfl ?_
  first
    | (exfalso; omega)
    | (have e_ : ((([48, 49, 50, 51, 52, 53, 54, 55, 56, 57] : List UInt8).drop n).take ((n + 1) - n)) = dig n := by first | exact ten_dig (by omega) | exact dig_div (by omega)
       rw [e_]; exact ⟨hB, rfl⟩)
 ·refine C_skip (N_then (C_seq (C_reg rfl ?_)))
  refine Lmv rfl rfl ?_
  refine L_run (R_eqv (R_quo rfl rfl (by first | decide | omega)) (v' := .int .u64 ((n / 10 : Nat) : Int)) (recfam_quoU (k := 10) hn)) rfl ?_
  refine L_call rfl cb29 (ih (m := (n / 10)) (by omega) (by omega) _) rfl ?_
  rintro _ w1 ⟨hs1, rfl⟩
  replace hB := gb_tr hB hs1
  refine Lmv rfl rfl ?_
  refine L_run (R_eqv (R_rem rfl rfl (by first | decide | omega)) (v' := .int .u64 ((n % 10 : Nat) : Int)) (rfl)) rfl ?_
  refine L_call rfl cb29 (ih (m := (n % 10)) (by omega) (by omega) _) rfl ?_
  rintro _ w2 ⟨hs2, rfl⟩
  replace hB := gb_tr hB hs2
  refine L_run (R_eqv (R_addS rfl rfl (by rw [ba_size, ba_size]; have h1_ := digU_len (u := n / 10) (by omega); have h2_ := digU_len (u := n % 10) (by omega); omega)) (v' := .string ⟨((dig (n / 10)) ++ (dig (n % 10))).toArray⟩) (congrArg _ (ba_app _ _).symm)) rfl ?_
  refine Las rfl rfl (L_nil (N_then (C_ret ?_)))
  refine ret1 Tryd.results29 rfl ?_
  first
    | (exfalso; omega)
    | (have e_ : ((dig (n / 10)) ++ (dig (n % 10))) = dig n := by first | exact ten_dig (by omega) | exact dig_div (by omega)
       rw [e_]; exact ⟨hB, rfl⟩)
theorem ref48_digits {n : Nat} (hn : n < 18446744073709551616) : ∀ (w : World), Runs Tryd.prog 29 #[.int .u64 ((n : Nat) : Int)] w (fun v w' => w.grownBy w' none ∧ v = .string ⟨(dig n).toArray⟩) := by
  have key : ∀ (k : Nat) {n : Nat}, n ≤ k → n < 18446744073709551616 → ∀ (w : World), Runs Tryd.prog 29 #[.int .u64 ((n : Nat) : Int)] w (fun v w' => w.grownBy w' none ∧ v = .string ⟨(dig n).toArray⟩) := by
    intro k
    induction k with
    | zero => intro n h hn w; exact ref48_digits_step hn (fun {m} h1 h2 => by omega)
    | succ k ih => intro n h hn w; exact ref48_digits_step hn (fun {m} h1 h2 => ih (by omega) h2)
  exact key n (Nat.le_refl _) hn
theorem line_ok {w : World} {t1 lo hi c : Nat} {A : Option Addr} {xs : List (List UInt8)} (hS : Sli t1 lo hi w A (fl encW xs)) (hc : xs.length ≤ c) (hN : xs.length ≤ 1000000) (hl : (Go.Lib.join xs [32]).length ≤ 140737488355328) :
    Runs Tryd.prog 21 #[.slice A xs.length c] w (fun v w' => w.grownBy w' none ∧ v = .string ⟨(Go.Lib.join xs [32]).toArray⟩) := by
 have hB := gb_refl w none
 replace hS := hS.top
 refine enter Tryd.func21 Tryd.ntmps21 rfl rfl ?_
 refine C_seq (C_reg rfl ?_)
 refine Las rfl rfl (L_nil (N_then (C_seq (C_reg rfl (Lmv rfl rfl ?_)))))
 have hjl_ := hl
 refine L_call rfl cb25 (join_ok (xs := xs) (sep := ([32] : List UInt8)) hS hc hN hjl_) rfl ?_
 rintro _ w1 ⟨hs1, rfl⟩
 replace hB := gb_tr hB hs1
 refine Las rfl rfl (L_nil (N_then (C_ret ?_)))
 refine ret1 Tryd.results21 rfl ?_
 exact ⟨hB, rfl⟩
end Go.Proofs.YtkjgjejkfjhcjaaDoor
namespace Go.Proofs.YtkjgjejkfjhcjaaDoor
open Go.RowKit Gw Pl
set_option linter.unusedVariables false
set_option linter.unusedSimpArgs false
theorem agg31 : aggB Tryd.prog 31 4 = true := by kernel_rfl
theorem arr31 : arrB Tryd.prog 31 3 4 1 = true := by kernel_rfl
theorem cb21 : callB Tryd.prog 21 = true := by kernel_rfl
theorem cb28 : callB Tryd.prog 28 = true := by kernel_rfl
theorem fld33_0 : fldB Tryd.prog 33 0 0 = true := by kernel_rfl
theorem fld33_1 : fldB Tryd.prog 33 1 1 = true := by kernel_rfl
theorem fld33_2 : fldB Tryd.prog 33 2 2 = true := by kernel_rfl
theorem fld33_3 : fldB Tryd.prog 33 3 3 = true := by kernel_rfl
theorem mix : Tryd.prog.follows .mixedOrders = true := by kernel_rfl
theorem scl3 : sclB Tryd.prog 3 = true := by kernel_rfl
theorem scl30 : sclB Tryd.prog 30 = true := by kernel_rfl
theorem slc59 : slcB Tryd.prog 59 9 1 16 = true := by kernel_rfl
theorem zer9 : (Tryd.prog.info? 9).bind (·.zero) = some (.string (⟨#[]⟩)) := by kernel_rfl
/-- A header's words, and i of its heads'. -/
def hWs (ep : Nat) (seq first : Int) (hs : Nat → Int) (i : Nat) : List (List UInt8) := [([115, 101, 103, 109, 101, 110, 116] : List UInt8), ([101, 112, 111, 99, 104] : List UInt8), dig ep, ([115, 101, 113] : List UInt8), digI seq, ([102, 105, 114, 115, 116] : List UInt8), digI first, ([104, 101, 97, 100, 115] : List UInt8)] ++ (List.range i).map fun q => digI (hs q)
def hdrT (ep : Nat) (seq first : Int) (hs : Nat → Int) (i : Nat) : List UInt8 := Go.Lib.join (hWs ep seq first hs i) [32]
theorem hWs_succ {ep : Nat} {seq first : Int} {hs : Nat → Int} {i : Nat} : hWs ep seq first hs (i + 1) = hWs ep seq first hs i ++ [digI (hs i)] := by
  unfold hWs
  rw [List.range_succ, List.map_append, List.append_assoc]
  rfl
theorem hWs_len {ep : Nat} {seq first : Int} {hs : Nat → Int} {i : Nat} : (hWs ep seq first hs i).length = 8 + i := by simp [hWs]; omega
theorem hdrT_succ {ep : Nat} {seq first : Int} {hs : Nat → Int} {i : Nat} : hdrT ep seq first hs (i + 1) = (hdrT ep seq first hs i ++ [32]) ++ digI (hs i) := by
  unfold hdrT
  rw [hWs_succ, jn_app (by simp [hWs]), List.append_assoc]
theorem hdrT_0 {ep : Nat} {seq first : Int} {hs : Nat → Int} : hdrT ep seq first hs 0 = ((((((([115, 101, 103, 109, 101, 110, 116, 32, 101, 112, 111, 99, 104, 32] : List UInt8) ++ dig ep) ++ ([32, 115, 101, 113, 32] : List UInt8)) ++ digI seq) ++ ([32, 102, 105, 114, 115, 116, 32] : List UInt8)) ++ digI first) ++ ([32, 104, 101, 97, 100, 115] : List UInt8)) := by
  unfold hdrT hWs
  simp only [List.range_zero, List.map_nil, List.append_nil, jn2, jn1, List.append_assoc, List.cons_append, List.nil_append]
def OkW (n : Int) : Prop := -9223372036854775808 ≤ n ∧ n ≤ 9223372036854775807
theorem hdrT_len {ep : Nat} {seq first : Int} {hs : Nat → Int} (he : ep < 18446744073709551616) (h1 : OkW seq) (h2 : OkW first) (hh : ∀ q, q < 4 → OkW (hs q)) : ∀ i, i ≤ 4 → (hdrT ep seq first hs i).length ≤ 100 + 21 * i
  | 0, _ => by
    rw [hdrT_0]
    have a1 := digU_len he
    have a2 := digI_len h1
    have a3 := digI_len h2
    simp only [List.length_append, List.length_cons, List.length_nil]
    omega
  | i + 1, hi => by
    rw [hdrT_succ]
    have a1 := hdrT_len he h1 h2 hh i (by omega)
    have a2 := digI_len (hh i (by omega))
    simp only [List.length_append, List.length_cons, List.length_nil]
    omega
theorem header_ok {w : World} {ep : Nat} {seq first : Int} {hs : Nat → Int} (he : ep < 18446744073709551616) (ok1 : OkW seq) (ok2 : OkW first) (hh : ∀ q, q < 4 → OkW (hs q)) :
    Runs Tryd.prog 10 #[.agg #[.int .u64 (ep : Int), .int .i64 seq, .int .i64 first, .int .i64 (hs 0), .int .i64 (hs 1), .int .i64 (hs 2), .int .i64 (hs 3)]] w (fun v w' => w.grownBy w' none ∧ v = .string ⟨(hdrT ep seq first hs 4).toArray⟩) := by
 have hB := gb_refl w none
 refine enter Tryd.func10 Tryd.ntmps10 rfl rfl ?_
 refine C_seq (C_reg rfl ?_)
 refine L_box (cs := [.int .u64 (ep : Int), .int .i64 seq, .int .i64 first, .int .i64 (hs 0), .int .i64 (hs 1), .int .i64 (hs 2), .int .i64 (hs 3)]) rfl rfl rfl ?_
 intro g1 w1 eg1 hb1 hs1 hz1
 replace hB := gb_tr hB hs1
 refine Las rfl rfl (L_nil (N_then (C_seq ?_)))
 refine C_draw2 rfl mix ?_
 intro w2 hs2 hz2
 replace hB := gb_tr hB hs2; replace hb1 := hb1.gb hs2
 refine ⟨fun W_ => Blk W_ g1 33 [.int .u64 (ep : Int), .int .i64 seq, .int .i64 first, .int .i64 (hs 0), .int .i64 (hs 1), .int .i64 (hs 2), .int .i64 (hs 3)] ∧ True, [0, 1, 3, 4, 6, 7, 10], ?_⟩
 refine T_tk (i := 0) rfl (Y_of (fun _ _ => R_field (r := 0) rfl fld33_0 rfl)) ⟨hb1, trivial⟩ rfl ?_
 refine T_tk (i := 1) rfl (Y_of (fun _ ⟨hb1, _⟩ => R_load1 rfl scl30 (hb1.cell (i := 0) rfl))) ⟨hb1, trivial⟩ rfl ?_
 refine T_tk (i := 3) rfl (Y_of (fun _ _ => R_field (r := 1) rfl fld33_1 rfl)) ⟨hb1, trivial⟩ rfl ?_
 refine T_tk (i := 4) rfl (Y_of (fun _ ⟨hb1, _⟩ => R_load1 rfl scl3 (hb1.cell (i := 1) rfl))) ⟨hb1, trivial⟩ rfl ?_
 refine T_tk (i := 6) rfl (Y_of (fun _ _ => R_field (r := 2) rfl fld33_2 rfl)) ⟨hb1, trivial⟩ rfl ?_
 refine T_tk (i := 7) rfl (Y_of (fun _ ⟨hb1, _⟩ => R_load1 rfl scl3 (hb1.cell (i := 2) rfl))) ⟨hb1, trivial⟩ rfl ?_
 refine T_all (rs := [2]) (by kernel_rfl) rfl (all1 (O_one rfl ?_))
 refine L_call rfl cb28 (dump_digits (n := ep) he) rfl ?_
 rintro _ w3 ⟨hs3, rfl⟩
 replace hB := gb_tr hB hs3; replace hb1 := hb1.gb hs3
 refine L_nil (N_then ⟨fun hN_ => ⟨hb1, trivial⟩, ?_⟩)
 refine T_all (rs := [5]) (by kernel_rfl) rfl (all1 (O_one rfl ?_))
 refine L_call rfl cb22 (name_Digits (n := seq) (by first | exact ok1 | exact ok2 | exact hh _ (by omega))) rfl ?_
 rintro _ w4 ⟨hs4, rfl⟩
 replace hB := gb_tr hB hs4; replace hb1 := hb1.gb hs4
 refine L_nil (N_then ⟨fun hN_ => ⟨hb1, trivial⟩, ?_⟩)
 refine T_all (rs := [8]) (by kernel_rfl) rfl (all1 (O_one rfl ?_))
 refine L_call rfl cb22 (name_Digits (n := first) (by first | exact ok1 | exact ok2 | exact hh _ (by omega))) rfl ?_
 rintro _ w5 ⟨hs5, rfl⟩
 replace hB := gb_tr hB hs5; replace hb1 := hb1.gb hs5
 refine L_nil (N_then ⟨fun hN_ => ⟨hb1, trivial⟩, ?_⟩)
 refine T_all (rs := [9]) (by kernel_rfl) rfl (all1 (O_one rfl ?_))
 refine L_buildSlice (pv := [(0, .string (⟨#[115, 101, 103, 109, 101, 110, 116]⟩)), (1, .string (⟨#[101, 112, 111, 99, 104]⟩)), (2, .string (⟨(dig ep).toArray⟩)), (3, .string (⟨#[115, 101, 113]⟩)), (4, .string (⟨(digI seq).toArray⟩)), (5, .string (⟨#[102, 105, 114, 115, 116]⟩)), (6, .string (⟨(digI first).toArray⟩)), (7, .string (⟨#[104, 101, 97, 100, 115]⟩))]) (cs := [.string (⟨#[115, 101, 103, 109, 101, 110, 116]⟩), .string (⟨#[101, 112, 111, 99, 104]⟩), .string (⟨(dig ep).toArray⟩), .string (⟨#[115, 101, 113]⟩), .string (⟨(digI seq).toArray⟩), .string (⟨#[102, 105, 114, 115, 116]⟩), .string (⟨(digI first).toArray⟩), .string (⟨#[104, 101, 97, 100, 115]⟩)]) slc59 zer9 rfl rfl (by kernel_rfl) rfl ?_
 intro g2 w6 eg2 hb2 hs6 hz3
 have ge2 : w.heap.size ≤ g2 := eg_ge hB eg2
 replace hB := gb_tr hB hs6; replace hb1 := hb1.gb hs6
 refine L_nil (N_then ⟨fun hN_ => ⟨hb1, trivial⟩, ?_⟩)
 refine T_tk (i := 10) rfl (Y_of (fun _ _ => R_assign rfl)) ⟨hb1, trivial⟩ rfl ?_
 refine T_done (by kernel_rfl) (CalmE.normal ?_)
 refine N_then (C_seq (C_seq (C_reg rfl ?_)))
 refine L_run (R_field (r := 3) rfl fld33_3 rfl) rfl (L_run (R_loadA (vs := [.int .i64 (hs 0), .int .i64 (hs 1), .int .i64 (hs 2), .int .i64 (hs 3)]) rfl agg31 (At.pre (hb1.at_ 3) rfl) rfl) rfl (Lmv rfl rfl (L_nil (N_then (C_block ?_)))))
 have hw0_ : [([115, 101, 103, 109, 101, 110, 116] : List UInt8), ([101, 112, 111, 99, 104] : List UInt8), dig ep, ([115, 101, 113] : List UInt8), digI seq, ([102, 105, 114, 115, 116] : List UInt8), digI first, ([104, 101, 97, 100, 115] : List UInt8)] = (hWs ep seq first hs 0) := (List.append_nil _).symm
 have ho0_ : World.ownsRow w6 w.heap.size 9 1 (.slice (some ⟨g2, 0, none⟩) (hWs ep seq first hs 0).length 8) (hWs ep seq first hs 0).length (fl encW (hWs ep seq first hs 0)) := hw0_ ▸ own_lo (Blk.own (sz := 1) (m := 8) hb2 (by decide) rfl (Nat.le_refl _)) ge2
 refine C_loop (fun m_ a_ w_ => ∃ (σ_ : Nat → Value) (i : Nat) (Aj : Option Addr) (cj : Nat), a_ = Ac 29 σ_ [] [(1, .pointer (some ⟨g1, 0, none⟩)), (3, .slice Aj ((hWs ep seq first hs i).length) cj), (17, .agg #[.int .i64 (hs 0), .int .i64 (hs 1), .int .i64 (hs 2), .int .i64 (hs 3)]), (18, .int .i64 (i : Int))] ∧ w.grownBy w_ none ∧ Blk w_ g1 33 [.int .u64 (ep : Int), .int .i64 seq, .int .i64 first, .int .i64 (hs 0), .int .i64 (hs 1), .int .i64 (hs 2), .int .i64 (hs 3)] ∧ World.ownsRow w_ w.heap.size 9 1 (.slice Aj (hWs ep seq first hs i).length cj) (hWs ep seq first hs i).length (fl encW (hWs ep seq first hs i)) ∧ (i ≤ 4) ∧ 4 - i = m_) (4 - 0) ?_ ?_
 ·exact ⟨_, 0, (some ⟨g2, 0, none⟩), 8, Ac_frg ⟨rfl, (agr rfl (by rw [hWs_len])), rfl, (agx rfl), trivial⟩, hB, hb1, ho0_, (by omega), rfl⟩
 ·clear hB
  clear hb1 hb2
  rintro m_ a_ w7 ⟨σ_, i, Aj, cj, rfl, hB, hb1, ho, hi, rfl⟩
  refine C_seq (C_reg rfl ?_)
  refine L_run (R_lss rfl rfl) rfl ?_
  refine L_nil (N_then (C_seq (C_if rfl (fun h1 => ?_) (fun h1 => ?_))))
  ·refine C_skip (N_then (C_seq (C_block (C_seq (C_reg rfl ?_)))))
   refine L_run (R_indexA4 (f := hs) (a := (i : Int)) (i := i) rfl rfl (by first | rfl | omega) arr31 scl3 (by omega)) rfl ?_
   refine Las rfl rfl (L_nil (N_then (C_reg rfl (Lmv rfl rfl (Lmv rfl rfl ?_)))))
   refine L_call rfl cb22 (name_Digits (n := (hs i)) (by first | exact ok1 | exact ok2 | exact hh _ (by omega))) rfl ?_
   rintro _ w8 ⟨hs7, rfl⟩
   replace hB := gb_tr hB hs7; replace hb1 := hb1.gb hs7; replace ho := own_gb ho hs7
   refine L_buildSlice (pv := [(0, .string (⟨(digI (hs i)).toArray⟩))]) (cs := [.string (⟨(digI (hs i)).toArray⟩)]) slc59 zer9 rfl rfl (by kernel_rfl) rfl ?_
   intro g3 w9 eg3 hb3 hs8 hz4
   have hap1 : ∀ k_, (Value.slice Aj (hWs ep seq first hs i).length cj).ownBlock = some k_ → k_ ≠ g3 := fun k_ hk => by have h_ := (World.ownsRow.lt ho k_ hk).2; omega
   replace hB := gb_tr hB hs8; replace hb1 := hb1.gb hs8; replace ho := own_gb ho hs8
   refine T_append (xs := (hWs ep seq first hs i)) (ys := [(digI (hs i))]) EncW slc59 rfl rfl ho (Blk.sli (m := 0) hb3) (by rw [hWs_len]; simp; omega) (by have := hB.size; omega) rfl ?_
   intro A_1 c_1 w10 ho1 hs9 hat1
   replace hB := gb_tro hB ho hs9 (Nat.le_refl _); replace hb1 := blk_own hb1 ho rfl hs9
   refine Las rfl rfl ?_
   refine L_nil (N_in (N_then (C_reg rfl ?_)))
   refine L_run (R_add64 rfl rfl (by omega)) rfl ?_
   refine Lmv rfl rfl (L_nil (N_then ?_))
   rw [← hWs_succ] at ho1
   exact ⟨4 - (i + 1), by omega, _, (i + 1), A_1, c_1, Ac_frg ⟨rfl, (agr rfl (by rw [← hWs_succ])), rfl, (agx rfl), trivial⟩, hB, hb1, (own_lo ho1 (Nat.le_refl _)), (by omega), rfl⟩
  ·refine C_exit (X_then (X_then (X_hit (N_then (C_seq (C_reg rfl ?_))))))
   refine Lmv rfl rfl ?_
   have hjl_ := (show (Go.Lib.join (hWs ep seq first hs i) [32]).length ≤ 140737488355328 from Nat.le_trans (hdrT_len he ok1 ok2 hh i (by omega)) (by omega))
   refine L_call rfl cb21 (line_ok (xs := (hWs ep seq first hs i)) (own_of ho).2.2 (own_of ho).1 (by rw [hWs_len]; omega) hjl_) rfl ?_
   rintro _ w11 ⟨hs10, rfl⟩
   replace hB := gb_tr hB hs10
   refine Las rfl rfl (L_nil (N_then (C_ret ?_)))
   refine ret1 Tryd.results10 rfl ?_
   obtain rfl : i = 4 := by omega
   exact ⟨hB, rfl⟩
theorem header48 {w : World} {ep : Nat} {seq first : Int} {hs : Nat → Int} (he : ep < 18446744073709551616) (ok1 : OkW seq) (ok2 : OkW first) (hh : ∀ q, q < 4 → OkW (hs q)) :
    Runs Tryd.prog 11 #[.agg #[.int .u64 (ep : Int), .int .i64 seq, .int .i64 first, .int .i64 (hs 0), .int .i64 (hs 1), .int .i64 (hs 2), .int .i64 (hs 3)]] w (fun v w' => w.grownBy w' none ∧ v = .string ⟨(hdrT ep seq first hs 4).toArray⟩) := by
 have hB := gb_refl w none
 refine enter Tryd.func11 Tryd.ntmps11 rfl rfl ?_
 refine C_seq (C_reg rfl ?_)
 refine L_box (cs := [.int .u64 (ep : Int), .int .i64 seq, .int .i64 first, .int .i64 (hs 0), .int .i64 (hs 1), .int .i64 (hs 2), .int .i64 (hs 3)]) rfl rfl rfl ?_
 intro g1 w1 eg1 hb1 hs1 hz1
 replace hB := gb_tr hB hs1
 refine Las rfl rfl (L_nil (N_then (C_seq ?_)))
 refine C_draw2 rfl mix ?_
 intro w2 hs2 hz2
 replace hB := gb_tr hB hs2; replace hb1 := hb1.gb hs2
 refine ⟨fun W_ => Blk W_ g1 33 [.int .u64 (ep : Int), .int .i64 seq, .int .i64 first, .int .i64 (hs 0), .int .i64 (hs 1), .int .i64 (hs 2), .int .i64 (hs 3)] ∧ True, [0, 1, 3, 4, 5, 6, 8, 9, 10, 11, 13, 14, 15], ?_⟩
 refine T_tk (i := 0) rfl (Y_of (fun _ _ => R_field (r := 0) rfl fld33_0 rfl)) ⟨hb1, trivial⟩ rfl ?_
 refine T_tk (i := 1) rfl (Y_of (fun _ ⟨hb1, _⟩ => R_load1 rfl scl30 (hb1.cell (i := 0) rfl))) ⟨hb1, trivial⟩ rfl ?_
 refine T_tk (i := 5) rfl (Y_of (fun _ _ => R_field (r := 1) rfl fld33_1 rfl)) ⟨hb1, trivial⟩ rfl ?_
 refine T_tk (i := 6) rfl (Y_of (fun _ ⟨hb1, _⟩ => R_load1 rfl scl3 (hb1.cell (i := 1) rfl))) ⟨hb1, trivial⟩ rfl ?_
 refine T_tk (i := 10) rfl (Y_of (fun _ _ => R_field (r := 2) rfl fld33_2 rfl)) ⟨hb1, trivial⟩ rfl ?_
 refine T_tk (i := 11) rfl (Y_of (fun _ ⟨hb1, _⟩ => R_load1 rfl scl3 (hb1.cell (i := 2) rfl))) ⟨hb1, trivial⟩ rfl ?_
 refine T_all (rs := [2]) (by kernel_rfl) rfl (all1 (O_one rfl ?_))
 refine L_call rfl cb29 (ref48_digits (n := ep) he _) rfl ?_
 rintro _ w3 ⟨hs3, rfl⟩
 replace hB := gb_tr hB hs3; replace hb1 := hb1.gb hs3
 refine L_nil (N_then ⟨fun hN_ => ⟨hb1, trivial⟩, ?_⟩)
 refine T_tk (i := 3) rfl (Y_of (fun _ _ => R_eqv (R_addS rfl rfl (by rw [ba_size, ba_size]; have a1 := digU_len he; have a2 := digI_len ok1; have a3 := digI_len ok2; first | (simp only [List.length_append, List.length_cons, List.length_nil]; omega) | (have a4 := hdrT_len he ok1 ok2 hh i (by omega); have a5 := digI_len (hh i (by omega)); simp only [List.length_append, List.length_cons, List.length_nil]; omega))) (v' := .string ⟨(([115, 101, 103, 109, 101, 110, 116, 32, 101, 112, 111, 99, 104, 32] : List UInt8) ++ (dig ep)).toArray⟩) (congrArg _ (ba_app _ _).symm))) ⟨hb1, trivial⟩ rfl ?_
 refine T_tk (i := 4) rfl (Y_of (fun _ _ => R_eqv (R_addS rfl rfl (by rw [ba_size, ba_size]; have a1 := digU_len he; have a2 := digI_len ok1; have a3 := digI_len ok2; first | (simp only [List.length_append, List.length_cons, List.length_nil]; omega) | (have a4 := hdrT_len he ok1 ok2 hh i (by omega); have a5 := digI_len (hh i (by omega)); simp only [List.length_append, List.length_cons, List.length_nil]; omega))) (v' := .string ⟨((([115, 101, 103, 109, 101, 110, 116, 32, 101, 112, 111, 99, 104, 32] : List UInt8) ++ (dig ep)) ++ [32, 115, 101, 113, 32]).toArray⟩) (congrArg _ (ba_app _ _).symm))) ⟨hb1, trivial⟩ rfl ?_
 refine T_all (rs := [7]) (by kernel_rfl) rfl (all1 (O_one rfl ?_))
 refine L_call rfl cb16 (ref05_Digits (n := seq) (by first | exact ok1 | exact ok2 | exact hh _ (by omega)) _) rfl ?_
 rintro _ w4 ⟨hs4, rfl⟩
 replace hB := gb_tr hB hs4; replace hb1 := hb1.gb hs4
 refine L_nil (N_then ⟨fun hN_ => ⟨hb1, trivial⟩, ?_⟩)
 refine T_tk (i := 8) rfl (Y_of (fun _ _ => R_eqv (R_addS rfl rfl (by rw [ba_size, ba_size]; have a1 := digU_len he; have a2 := digI_len ok1; have a3 := digI_len ok2; first | (simp only [List.length_append, List.length_cons, List.length_nil]; omega) | (have a4 := hdrT_len he ok1 ok2 hh i (by omega); have a5 := digI_len (hh i (by omega)); simp only [List.length_append, List.length_cons, List.length_nil]; omega))) (v' := .string ⟨(((([115, 101, 103, 109, 101, 110, 116, 32, 101, 112, 111, 99, 104, 32] : List UInt8) ++ (dig ep)) ++ [32, 115, 101, 113, 32]) ++ (digI seq)).toArray⟩) (congrArg _ (ba_app _ _).symm))) ⟨hb1, trivial⟩ rfl ?_
 refine T_tk (i := 9) rfl (Y_of (fun _ _ => R_eqv (R_addS rfl rfl (by rw [ba_size, ba_size]; have a1 := digU_len he; have a2 := digI_len ok1; have a3 := digI_len ok2; first | (simp only [List.length_append, List.length_cons, List.length_nil]; omega) | (have a4 := hdrT_len he ok1 ok2 hh i (by omega); have a5 := digI_len (hh i (by omega)); simp only [List.length_append, List.length_cons, List.length_nil]; omega))) (v' := .string ⟨((((([115, 101, 103, 109, 101, 110, 116, 32, 101, 112, 111, 99, 104, 32] : List UInt8) ++ (dig ep)) ++ [32, 115, 101, 113, 32]) ++ (digI seq)) ++ [32, 102, 105, 114, 115, 116, 32]).toArray⟩) (congrArg _ (ba_app _ _).symm))) ⟨hb1, trivial⟩ rfl ?_
 refine T_all (rs := [12]) (by kernel_rfl) rfl (all1 (O_one rfl ?_))
 refine L_call rfl cb16 (ref05_Digits (n := first) (by first | exact ok1 | exact ok2 | exact hh _ (by omega)) _) rfl ?_
 rintro _ w5 ⟨hs5, rfl⟩
 replace hB := gb_tr hB hs5; replace hb1 := hb1.gb hs5
 refine L_nil (N_then ⟨fun hN_ => ⟨hb1, trivial⟩, ?_⟩)
 refine T_tk (i := 13) rfl (Y_of (fun _ _ => R_eqv (R_addS rfl rfl (by rw [ba_size, ba_size]; have a1 := digU_len he; have a2 := digI_len ok1; have a3 := digI_len ok2; first | (simp only [List.length_append, List.length_cons, List.length_nil]; omega) | (have a4 := hdrT_len he ok1 ok2 hh i (by omega); have a5 := digI_len (hh i (by omega)); simp only [List.length_append, List.length_cons, List.length_nil]; omega))) (v' := .string ⟨(((((([115, 101, 103, 109, 101, 110, 116, 32, 101, 112, 111, 99, 104, 32] : List UInt8) ++ (dig ep)) ++ [32, 115, 101, 113, 32]) ++ (digI seq)) ++ [32, 102, 105, 114, 115, 116, 32]) ++ (digI first)).toArray⟩) (congrArg _ (ba_app _ _).symm))) ⟨hb1, trivial⟩ rfl ?_
 refine T_tk (i := 14) rfl (Y_of (fun _ _ => R_eqv (R_addS rfl rfl (by rw [ba_size, ba_size]; have a1 := digU_len he; have a2 := digI_len ok1; have a3 := digI_len ok2; first | (simp only [List.length_append, List.length_cons, List.length_nil]; omega) | (have a4 := hdrT_len he ok1 ok2 hh i (by omega); have a5 := digI_len (hh i (by omega)); simp only [List.length_append, List.length_cons, List.length_nil]; omega))) (v' := .string ⟨((((((([115, 101, 103, 109, 101, 110, 116, 32, 101, 112, 111, 99, 104, 32] : List UInt8) ++ (dig ep)) ++ [32, 115, 101, 113, 32]) ++ (digI seq)) ++ [32, 102, 105, 114, 115, 116, 32]) ++ (digI first)) ++ [32, 104, 101, 97, 100, 115]).toArray⟩) (congrArg _ (ba_app _ _).symm))) ⟨hb1, trivial⟩ rfl ?_
 refine T_tk (i := 15) rfl (Y_of (fun _ _ => R_assign rfl)) ⟨hb1, trivial⟩ rfl ?_
 refine T_done (by kernel_rfl) (CalmE.normal ?_)
 refine N_then (C_seq (C_seq (C_reg rfl ?_)))
 refine Las rfl rfl (L_nil (N_then (C_block ?_)))
 refine C_loop (fun m_ a_ w_ => ∃ (σ_ : Nat → Value) (i : Nat), a_ = Ac 33 σ_ [] [(1, .pointer (some ⟨g1, 0, none⟩)), (3, .string (⟨(hdrT ep seq first hs i).toArray⟩)), (4, .int .i64 (i : Int))] ∧ w.grownBy w_ none ∧ Blk w_ g1 33 [.int .u64 (ep : Int), .int .i64 seq, .int .i64 first, .int .i64 (hs 0), .int .i64 (hs 1), .int .i64 (hs 2), .int .i64 (hs 3)] ∧ (i ≤ 4) ∧ 4 - i = m_) (4 - 0) ?_ ?_
 ·exact ⟨_, 0, Ac_frg ⟨rfl, (agr rfl (by rw [hdrT_0])), (agx rfl), trivial⟩, hB, hb1, (by omega), rfl⟩
 ·clear hB
  clear hb1
  rintro m_ a_ w6 ⟨σ_, i, rfl, hB, hb1, hi, rfl⟩
  refine C_seq (C_seq (C_reg rfl ?_))
  refine Lmv rfl rfl (L_run (R_lss rfl rfl) rfl (L_nil (N_then (C_if rfl (fun h1 => ?_) (fun h1 => ?_)))))
  ·refine C_skip (N_then (C_seq (C_block (C_reg rfl ?_))))
   refine Lmv rfl rfl ?_
   refine L_run (R_eqv (R_addS rfl rfl (by rw [ba_size, ba_size]; have a1 := digU_len he; have a2 := digI_len ok1; have a3 := digI_len ok2; first | (simp only [List.length_append, List.length_cons, List.length_nil]; omega) | (have a4 := hdrT_len he ok1 ok2 hh i (by omega); have a5 := digI_len (hh i (by omega)); simp only [List.length_append, List.length_cons, List.length_nil]; omega))) (v' := .string ⟨((hdrT ep seq first hs i) ++ [32]).toArray⟩) (congrArg _ (ba_app _ _).symm)) rfl ?_
   refine Lmv rfl rfl (L_run (R_field (r := 3) rfl fld33_3 rfl) rfl ?_)
   have hl1 : i < 4 := by omega
   refine L_run (R_indexArr (sz := 1) (o := 3) (a := (i : Int)) (i := i) (r := (3 + i)) rfl rfl (by first | rfl | omega) arr31 hl1 (by first | omega | rfl | simp)) rfl ?_
   refine L_run (R_load1 rfl scl3 (hb1.cell (four_at (pre := [.int .u64 (ep : Int), .int .i64 seq, .int .i64 first]) (post := []) (f := hs) (k := .i64) hl1))) rfl ?_
   refine L_call rfl cb16 (ref05_Digits (n := (hs i)) (by first | exact ok1 | exact ok2 | exact hh _ (by omega)) _) rfl ?_
   rintro _ w7 ⟨hs6, rfl⟩
   replace hB := gb_tr hB hs6; replace hb1 := hb1.gb hs6
   refine L_run (R_eqv (R_addS rfl rfl (by rw [ba_size, ba_size]; have a1 := digU_len he; have a2 := digI_len ok1; have a3 := digI_len ok2; first | (simp only [List.length_append, List.length_cons, List.length_nil]; omega) | (have a4 := hdrT_len he ok1 ok2 hh i (by omega); have a5 := digI_len (hh i (by omega)); simp only [List.length_append, List.length_cons, List.length_nil]; omega))) (v' := .string ⟨(((hdrT ep seq first hs i) ++ [32]) ++ (digI (hs i))).toArray⟩) (congrArg _ (ba_app _ _).symm)) rfl ?_
   refine Las rfl rfl ?_
   refine L_nil (N_in (N_then (C_reg rfl ?_)))
   refine Lmv rfl rfl ?_
   refine L_run (R_add64 rfl rfl (by omega)) rfl ?_
   refine Las rfl rfl (L_nil (N_then ?_))
   exact ⟨4 - (i + 1), by omega, _, (i + 1), Ac_frg ⟨rfl, (agr rfl (by rw [hdrT_succ])), (agx rfl), trivial⟩, hB, hb1, (by omega), rfl⟩
  ·refine C_exit (X_then (X_then (X_hit (N_then (C_seq (C_reg rfl ?_))))))
   refine Lmv rfl rfl (Las rfl rfl (L_nil (N_then (C_ret ?_))))
   refine ret1 Tryd.results11 rfl ?_
   obtain rfl : i = 4 := by omega
   exact ⟨hB, rfl⟩
end Go.Proofs.YtkjgjejkfjhcjaaDoor
namespace Go.Proofs.YtkjgjejkfjhcjaaDoor
open Go.RowKit Gw Pl
set_option linter.unusedVariables false
set_option linter.unusedSimpArgs false
theorem fld36_0 : fldB Tryd.prog 36 0 0 = true := by kernel_rfl
theorem fld36_1 : fldB Tryd.prog 36 1 1 = true := by kernel_rfl
theorem fld36_2 : fldB Tryd.prog 36 2 2 = true := by kernel_rfl
theorem fld36_3 : fldB Tryd.prog 36 3 3 = true := by kernel_rfl
theorem fld36_4 : fldB Tryd.prog 36 4 4 = true := by kernel_rfl
theorem scl34 : sclB Tryd.prog 34 = true := by kernel_rfl
/-- A record's line. -/
def recT (kind chain lsn prev at_ : Int) (n : Nat) : List UInt8 := Go.Lib.join [([114, 101, 99, 111, 114, 100] : List UInt8), digI lsn, ([107, 105, 110, 100] : List UInt8), digI kind, ([99, 104, 97, 105, 110] : List UInt8), digI chain, ([112, 114, 101, 118] : List UInt8), digI prev, ([97, 116] : List UInt8), digI at_, ([115, 105, 122, 101] : List UInt8), digI (n : Int)] [32]
theorem recT_eq {kind chain lsn prev at_ : Int} {n : Nat} : recT kind chain lsn prev at_ n = (((((((((((([114, 101, 99, 111, 114, 100, 32] : List UInt8) ++ digI lsn) ++ ([32, 107, 105, 110, 100, 32] : List UInt8)) ++ digI kind) ++ ([32, 99, 104, 97, 105, 110, 32] : List UInt8)) ++ digI chain) ++ ([32, 112, 114, 101, 118, 32] : List UInt8)) ++ digI prev) ++ ([32, 97, 116, 32] : List UInt8)) ++ digI at_) ++ ([32, 115, 105, 122, 101, 32] : List UInt8)) ++ digI (n : Int)) := by
  unfold recT
  simp only [jn2, jn1, List.append_assoc, List.cons_append, List.nil_append]
theorem recT_len {kind chain lsn prev at_ : Int} {n : Nat} (h1 : OkW kind) (h2 : OkW chain) (h3 : OkW lsn) (h4 : OkW prev) (h5 : OkW at_) (h6 : n ≤ 140737488355328) : (recT kind chain lsn prev at_ n).length ≤ 200 := by
  rw [recT_eq]
  have a1 := digI_len h1
  have a2 := digI_len h2
  have a3 := digI_len h3
  have a4 := digI_len h4
  have a5 := digI_len h5
  have a6 := digI_len (n := (n : Int)) (by omega)
  simp only [List.length_append, List.length_cons, List.length_nil]
  omega
theorem record_ok {w : World} {A : Option Addr} {c n : Nat} {kind chain lsn prev at_ : Int} (ok1 : OkW kind) (ok2 : OkW chain) (ok3 : OkW lsn) (ok4 : OkW prev) (ok5 : OkW at_) (ok6 : n ≤ 140737488355328) :
    Runs Tryd.prog 12 #[.agg #[.int .i64 kind, .int .i64 chain, .int .i64 lsn, .int .i64 prev, .slice A n c], .int .i64 at_] w (fun v w' => w.grownBy w' none ∧ v = .string ⟨(recT kind chain lsn prev at_ n).toArray⟩) := by
 have hB := gb_refl w none
 refine enter Tryd.func12 Tryd.ntmps12 rfl rfl ?_
 refine C_seq (C_reg rfl ?_)
 refine L_box (cs := [.int .i64 kind, .int .i64 chain, .int .i64 lsn, .int .i64 prev, .slice A n c]) rfl rfl rfl ?_
 intro g1 w1 eg1 hb1 hs1 hz1
 replace hB := gb_tr hB hs1
 refine Las rfl rfl (L_nil (N_then (C_seq ?_)))
 refine C_draw2 rfl mix ?_
 intro w2 hs2 hz2
 replace hB := gb_tr hB hs2; replace hb1 := hb1.gb hs2
 refine ⟨fun W_ => Blk W_ g1 36 [.int .i64 kind, .int .i64 chain, .int .i64 lsn, .int .i64 prev, .slice A n c] ∧ True, [0, 1, 3, 4, 6, 7, 9, 10, 12, 14, 15, 16, 20], ?_⟩
 refine T_tk (i := 0) rfl (Y_of (fun _ _ => R_field (r := 2) rfl fld36_2 rfl)) ⟨hb1, trivial⟩ rfl ?_
 refine T_tk (i := 1) rfl (Y_of (fun _ ⟨hb1, _⟩ => R_load1 rfl scl3 (hb1.cell (i := 2) rfl))) ⟨hb1, trivial⟩ rfl ?_
 refine T_tk (i := 3) rfl (Y_of (fun _ _ => R_field (r := 0) rfl fld36_0 rfl)) ⟨hb1, trivial⟩ rfl ?_
 refine T_tk (i := 4) rfl (Y_of (fun _ ⟨hb1, _⟩ => R_load1 rfl scl3 (hb1.cell (i := 0) rfl))) ⟨hb1, trivial⟩ rfl ?_
 refine T_tk (i := 6) rfl (Y_of (fun _ _ => R_field (r := 1) rfl fld36_1 rfl)) ⟨hb1, trivial⟩ rfl ?_
 refine T_tk (i := 7) rfl (Y_of (fun _ ⟨hb1, _⟩ => R_load1 rfl scl3 (hb1.cell (i := 1) rfl))) ⟨hb1, trivial⟩ rfl ?_
 refine T_tk (i := 9) rfl (Y_of (fun _ _ => R_field (r := 3) rfl fld36_3 rfl)) ⟨hb1, trivial⟩ rfl ?_
 refine T_tk (i := 10) rfl (Y_of (fun _ ⟨hb1, _⟩ => R_load1 rfl scl3 (hb1.cell (i := 3) rfl))) ⟨hb1, trivial⟩ rfl ?_
 refine T_tk (i := 12) rfl (Y_of (fun _ _ => R_move rfl)) ⟨hb1, trivial⟩ rfl ?_
 refine T_tk (i := 14) rfl (Y_of (fun _ _ => R_field (r := 4) rfl fld36_4 rfl)) ⟨hb1, trivial⟩ rfl ?_
 refine T_tk (i := 15) rfl (Y_of (fun _ ⟨hb1, _⟩ => R_load1 rfl scl34 (hb1.cell (i := 4) rfl))) ⟨hb1, trivial⟩ rfl ?_
 refine T_tk (i := 16) rfl (Y_of (fun _ _ => R_lenSl rfl slc34)) ⟨hb1, trivial⟩ rfl ?_
 refine T_all (rs := [2]) (by kernel_rfl) rfl (all1 (O_one rfl ?_))
 refine L_call rfl cb22 (name_Digits (n := lsn) (by first | exact ok1 | exact ok2 | exact ok3 | exact ok4 | exact ok5 | omega)) rfl ?_
 rintro _ w3 ⟨hs3, rfl⟩
 replace hB := gb_tr hB hs3; replace hb1 := hb1.gb hs3
 refine L_nil (N_then ⟨fun hN_ => ⟨hb1, trivial⟩, ?_⟩)
 refine T_all (rs := [5]) (by kernel_rfl) rfl (all1 (O_one rfl ?_))
 refine L_call rfl cb22 (name_Digits (n := kind) (by first | exact ok1 | exact ok2 | exact ok3 | exact ok4 | exact ok5 | omega)) rfl ?_
 rintro _ w4 ⟨hs4, rfl⟩
 replace hB := gb_tr hB hs4; replace hb1 := hb1.gb hs4
 refine L_nil (N_then ⟨fun hN_ => ⟨hb1, trivial⟩, ?_⟩)
 refine T_all (rs := [8]) (by kernel_rfl) rfl (all1 (O_one rfl ?_))
 refine L_call rfl cb22 (name_Digits (n := chain) (by first | exact ok1 | exact ok2 | exact ok3 | exact ok4 | exact ok5 | omega)) rfl ?_
 rintro _ w5 ⟨hs5, rfl⟩
 replace hB := gb_tr hB hs5; replace hb1 := hb1.gb hs5
 refine L_nil (N_then ⟨fun hN_ => ⟨hb1, trivial⟩, ?_⟩)
 refine T_all (rs := [11]) (by kernel_rfl) rfl (all1 (O_one rfl ?_))
 refine L_call rfl cb22 (name_Digits (n := prev) (by first | exact ok1 | exact ok2 | exact ok3 | exact ok4 | exact ok5 | omega)) rfl ?_
 rintro _ w6 ⟨hs6, rfl⟩
 replace hB := gb_tr hB hs6; replace hb1 := hb1.gb hs6
 refine L_nil (N_then ⟨fun hN_ => ⟨hb1, trivial⟩, ?_⟩)
 refine T_all (rs := [13]) (by kernel_rfl) rfl (all1 (O_one rfl ?_))
 refine L_call rfl cb22 (name_Digits (n := at_) (by first | exact ok1 | exact ok2 | exact ok3 | exact ok4 | exact ok5 | omega)) rfl ?_
 rintro _ w7 ⟨hs7, rfl⟩
 replace hB := gb_tr hB hs7; replace hb1 := hb1.gb hs7
 refine L_nil (N_then ⟨fun hN_ => ⟨hb1, trivial⟩, ?_⟩)
 refine T_all (rs := [17]) (by kernel_rfl) rfl (all1 (O_one rfl ?_))
 refine L_call rfl cb22 (name_Digits (n := (n : Int)) (by first | exact ok1 | exact ok2 | exact ok3 | exact ok4 | exact ok5 | omega)) rfl ?_
 rintro _ w8 ⟨hs8, rfl⟩
 replace hB := gb_tr hB hs8; replace hb1 := hb1.gb hs8
 refine L_nil (N_then ⟨fun hN_ => ⟨hb1, trivial⟩, ?_⟩)
 refine T_all (rs := [18]) (by kernel_rfl) rfl (all1 (O_one rfl ?_))
 refine L_buildSlice (pv := [(0, .string (⟨#[114, 101, 99, 111, 114, 100]⟩)), (1, .string (⟨(digI lsn).toArray⟩)), (2, .string (⟨#[107, 105, 110, 100]⟩)), (3, .string (⟨(digI kind).toArray⟩)), (4, .string (⟨#[99, 104, 97, 105, 110]⟩)), (5, .string (⟨(digI chain).toArray⟩)), (6, .string (⟨#[112, 114, 101, 118]⟩)), (7, .string (⟨(digI prev).toArray⟩)), (8, .string (⟨#[97, 116]⟩)), (9, .string (⟨(digI at_).toArray⟩)), (10, .string (⟨#[115, 105, 122, 101]⟩)), (11, .string (⟨(digI (n : Int)).toArray⟩))]) (cs := [.string (⟨#[114, 101, 99, 111, 114, 100]⟩), .string (⟨(digI lsn).toArray⟩), .string (⟨#[107, 105, 110, 100]⟩), .string (⟨(digI kind).toArray⟩), .string (⟨#[99, 104, 97, 105, 110]⟩), .string (⟨(digI chain).toArray⟩), .string (⟨#[112, 114, 101, 118]⟩), .string (⟨(digI prev).toArray⟩), .string (⟨#[97, 116]⟩), .string (⟨(digI at_).toArray⟩), .string (⟨#[115, 105, 122, 101]⟩), .string (⟨(digI (n : Int)).toArray⟩)]) slc59 zer9 rfl rfl (by kernel_rfl) rfl ?_
 intro g2 w9 eg2 hb2 hs9 hz3
 replace hB := gb_tr hB hs9; replace hb1 := hb1.gb hs9
 refine L_nil (N_then ⟨fun hN_ => ⟨hb1, trivial⟩, ?_⟩)
 refine T_all (rs := [19]) (by kernel_rfl) rfl (all1 (O_one rfl ?_))
 have hjl_ := (show (Go.Lib.join ([([114, 101, 99, 111, 114, 100] : List UInt8), (digI lsn), ([107, 105, 110, 100] : List UInt8), (digI kind), ([99, 104, 97, 105, 110] : List UInt8), (digI chain), ([112, 114, 101, 118] : List UInt8), (digI prev), ([97, 116] : List UInt8), (digI at_), ([115, 105, 122, 101] : List UInt8), (digI (n : Int))]) [32]).length ≤ 140737488355328 from Nat.le_trans (recT_len ok1 ok2 ok3 ok4 ok5 ok6) (by omega))
 refine L_call rfl cb21 (line_ok (xs := [([114, 101, 99, 111, 114, 100] : List UInt8), (digI lsn), ([107, 105, 110, 100] : List UInt8), (digI kind), ([99, 104, 97, 105, 110] : List UInt8), (digI chain), ([112, 114, 101, 118] : List UInt8), (digI prev), ([97, 116] : List UInt8), (digI at_), ([115, 105, 122, 101] : List UInt8), (digI (n : Int))]) (Blk.sli (m := 0) hb2) (show 12 ≤ 12 from Nat.le_refl _) (show 12 ≤ 1000000 by omega) hjl_) rfl ?_
 rintro _ w10 ⟨hs10, rfl⟩
 replace hB := gb_tr hB hs10; replace hb1 := hb1.gb hs10
 refine L_nil (N_then ⟨fun hN_ => ⟨hb1, trivial⟩, ?_⟩)
 refine T_tk (i := 20) rfl (Y_of (fun _ _ => R_assign rfl)) ⟨hb1, trivial⟩ rfl ?_
 refine T_done (by kernel_rfl) (CalmE.normal ?_)
 refine N_then (C_ret ?_)
 refine ret1 Tryd.results12 rfl ?_
 exact ⟨hB, rfl⟩
theorem record48 {w : World} {A : Option Addr} {c n : Nat} {kind chain lsn prev at_ : Int} (ok1 : OkW kind) (ok2 : OkW chain) (ok3 : OkW lsn) (ok4 : OkW prev) (ok5 : OkW at_) (ok6 : n ≤ 140737488355328) :
    Runs Tryd.prog 13 #[.agg #[.int .i64 kind, .int .i64 chain, .int .i64 lsn, .int .i64 prev, .slice A n c], .int .i64 at_] w (fun v w' => w.grownBy w' none ∧ v = .string ⟨(recT kind chain lsn prev at_ n).toArray⟩) := by
 have hB := gb_refl w none
 refine enter Tryd.func13 Tryd.ntmps13 rfl rfl ?_
 refine C_seq (C_reg rfl ?_)
 refine L_box (cs := [.int .i64 kind, .int .i64 chain, .int .i64 lsn, .int .i64 prev, .slice A n c]) rfl rfl rfl ?_
 intro g1 w1 eg1 hb1 hs1 hz1
 replace hB := gb_tr hB hs1
 refine Las rfl rfl (L_nil (N_then (C_seq ?_)))
 refine C_draw2 rfl mix ?_
 intro w2 hs2 hz2
 replace hB := gb_tr hB hs2; replace hb1 := hb1.gb hs2
 refine ⟨fun W_ => Blk W_ g1 36 [.int .i64 kind, .int .i64 chain, .int .i64 lsn, .int .i64 prev, .slice A n c] ∧ True, [0, 1, 3, 4, 5, 6, 8, 9, 10, 11, 13, 14, 15, 16, 18, 19, 20, 22, 23, 24, 25, 26, 28, 29], ?_⟩
 refine T_tk (i := 0) rfl (Y_of (fun _ _ => R_field (r := 2) rfl fld36_2 rfl)) ⟨hb1, trivial⟩ rfl ?_
 refine T_tk (i := 1) rfl (Y_of (fun _ ⟨hb1, _⟩ => R_load1 rfl scl3 (hb1.cell (i := 2) rfl))) ⟨hb1, trivial⟩ rfl ?_
 refine T_tk (i := 5) rfl (Y_of (fun _ _ => R_field (r := 0) rfl fld36_0 rfl)) ⟨hb1, trivial⟩ rfl ?_
 refine T_tk (i := 6) rfl (Y_of (fun _ ⟨hb1, _⟩ => R_load1 rfl scl3 (hb1.cell (i := 0) rfl))) ⟨hb1, trivial⟩ rfl ?_
 refine T_tk (i := 10) rfl (Y_of (fun _ _ => R_field (r := 1) rfl fld36_1 rfl)) ⟨hb1, trivial⟩ rfl ?_
 refine T_tk (i := 11) rfl (Y_of (fun _ ⟨hb1, _⟩ => R_load1 rfl scl3 (hb1.cell (i := 1) rfl))) ⟨hb1, trivial⟩ rfl ?_
 refine T_tk (i := 15) rfl (Y_of (fun _ _ => R_field (r := 3) rfl fld36_3 rfl)) ⟨hb1, trivial⟩ rfl ?_
 refine T_tk (i := 16) rfl (Y_of (fun _ ⟨hb1, _⟩ => R_load1 rfl scl3 (hb1.cell (i := 3) rfl))) ⟨hb1, trivial⟩ rfl ?_
 refine T_tk (i := 20) rfl (Y_of (fun _ _ => R_move rfl)) ⟨hb1, trivial⟩ rfl ?_
 refine T_tk (i := 24) rfl (Y_of (fun _ _ => R_field (r := 4) rfl fld36_4 rfl)) ⟨hb1, trivial⟩ rfl ?_
 refine T_tk (i := 25) rfl (Y_of (fun _ ⟨hb1, _⟩ => R_load1 rfl scl34 (hb1.cell (i := 4) rfl))) ⟨hb1, trivial⟩ rfl ?_
 refine T_tk (i := 26) rfl (Y_of (fun _ _ => R_lenSl rfl slc34)) ⟨hb1, trivial⟩ rfl ?_
 refine T_all (rs := [2]) (by kernel_rfl) rfl (all1 (O_one rfl ?_))
 refine L_call rfl cb16 (ref05_Digits (n := lsn) (by first | exact ok1 | exact ok2 | exact ok3 | exact ok4 | exact ok5 | omega) _) rfl ?_
 rintro _ w3 ⟨hs3, rfl⟩
 replace hB := gb_tr hB hs3; replace hb1 := hb1.gb hs3
 refine L_nil (N_then ⟨fun hN_ => ⟨hb1, trivial⟩, ?_⟩)
 refine T_tk (i := 3) rfl (Y_of (fun _ _ => R_eqv (R_addS rfl rfl (by rw [ba_size, ba_size]; have a1 := digI_len ok1; have a2 := digI_len ok2; have a3 := digI_len ok3; have a4 := digI_len ok4; have a5 := digI_len ok5; have a6 := digI_len (n := (n : Int)) (by omega); simp only [List.length_append, List.length_cons, List.length_nil]; omega)) (v' := .string ⟨(([114, 101, 99, 111, 114, 100, 32] : List UInt8) ++ (digI lsn)).toArray⟩) (congrArg _ (ba_app _ _).symm))) ⟨hb1, trivial⟩ rfl ?_
 refine T_tk (i := 4) rfl (Y_of (fun _ _ => R_eqv (R_addS rfl rfl (by rw [ba_size, ba_size]; have a1 := digI_len ok1; have a2 := digI_len ok2; have a3 := digI_len ok3; have a4 := digI_len ok4; have a5 := digI_len ok5; have a6 := digI_len (n := (n : Int)) (by omega); simp only [List.length_append, List.length_cons, List.length_nil]; omega)) (v' := .string ⟨((([114, 101, 99, 111, 114, 100, 32] : List UInt8) ++ (digI lsn)) ++ [32, 107, 105, 110, 100, 32]).toArray⟩) (congrArg _ (ba_app _ _).symm))) ⟨hb1, trivial⟩ rfl ?_
 refine T_all (rs := [7]) (by kernel_rfl) rfl (all1 (O_one rfl ?_))
 refine L_call rfl cb16 (ref05_Digits (n := kind) (by first | exact ok1 | exact ok2 | exact ok3 | exact ok4 | exact ok5 | omega) _) rfl ?_
 rintro _ w4 ⟨hs4, rfl⟩
 replace hB := gb_tr hB hs4; replace hb1 := hb1.gb hs4
 refine L_nil (N_then ⟨fun hN_ => ⟨hb1, trivial⟩, ?_⟩)
 refine T_tk (i := 8) rfl (Y_of (fun _ _ => R_eqv (R_addS rfl rfl (by rw [ba_size, ba_size]; have a1 := digI_len ok1; have a2 := digI_len ok2; have a3 := digI_len ok3; have a4 := digI_len ok4; have a5 := digI_len ok5; have a6 := digI_len (n := (n : Int)) (by omega); simp only [List.length_append, List.length_cons, List.length_nil]; omega)) (v' := .string ⟨(((([114, 101, 99, 111, 114, 100, 32] : List UInt8) ++ (digI lsn)) ++ [32, 107, 105, 110, 100, 32]) ++ (digI kind)).toArray⟩) (congrArg _ (ba_app _ _).symm))) ⟨hb1, trivial⟩ rfl ?_
 refine T_tk (i := 9) rfl (Y_of (fun _ _ => R_eqv (R_addS rfl rfl (by rw [ba_size, ba_size]; have a1 := digI_len ok1; have a2 := digI_len ok2; have a3 := digI_len ok3; have a4 := digI_len ok4; have a5 := digI_len ok5; have a6 := digI_len (n := (n : Int)) (by omega); simp only [List.length_append, List.length_cons, List.length_nil]; omega)) (v' := .string ⟨((((([114, 101, 99, 111, 114, 100, 32] : List UInt8) ++ (digI lsn)) ++ [32, 107, 105, 110, 100, 32]) ++ (digI kind)) ++ [32, 99, 104, 97, 105, 110, 32]).toArray⟩) (congrArg _ (ba_app _ _).symm))) ⟨hb1, trivial⟩ rfl ?_
 refine T_all (rs := [12]) (by kernel_rfl) rfl (all1 (O_one rfl ?_))
 refine L_call rfl cb16 (ref05_Digits (n := chain) (by first | exact ok1 | exact ok2 | exact ok3 | exact ok4 | exact ok5 | omega) _) rfl ?_
 rintro _ w5 ⟨hs5, rfl⟩
 replace hB := gb_tr hB hs5; replace hb1 := hb1.gb hs5
 refine L_nil (N_then ⟨fun hN_ => ⟨hb1, trivial⟩, ?_⟩)
 refine T_tk (i := 13) rfl (Y_of (fun _ _ => R_eqv (R_addS rfl rfl (by rw [ba_size, ba_size]; have a1 := digI_len ok1; have a2 := digI_len ok2; have a3 := digI_len ok3; have a4 := digI_len ok4; have a5 := digI_len ok5; have a6 := digI_len (n := (n : Int)) (by omega); simp only [List.length_append, List.length_cons, List.length_nil]; omega)) (v' := .string ⟨(((((([114, 101, 99, 111, 114, 100, 32] : List UInt8) ++ (digI lsn)) ++ [32, 107, 105, 110, 100, 32]) ++ (digI kind)) ++ [32, 99, 104, 97, 105, 110, 32]) ++ (digI chain)).toArray⟩) (congrArg _ (ba_app _ _).symm))) ⟨hb1, trivial⟩ rfl ?_
 refine T_tk (i := 14) rfl (Y_of (fun _ _ => R_eqv (R_addS rfl rfl (by rw [ba_size, ba_size]; have a1 := digI_len ok1; have a2 := digI_len ok2; have a3 := digI_len ok3; have a4 := digI_len ok4; have a5 := digI_len ok5; have a6 := digI_len (n := (n : Int)) (by omega); simp only [List.length_append, List.length_cons, List.length_nil]; omega)) (v' := .string ⟨((((((([114, 101, 99, 111, 114, 100, 32] : List UInt8) ++ (digI lsn)) ++ [32, 107, 105, 110, 100, 32]) ++ (digI kind)) ++ [32, 99, 104, 97, 105, 110, 32]) ++ (digI chain)) ++ [32, 112, 114, 101, 118, 32]).toArray⟩) (congrArg _ (ba_app _ _).symm))) ⟨hb1, trivial⟩ rfl ?_
 refine T_all (rs := [17]) (by kernel_rfl) rfl (all1 (O_one rfl ?_))
 refine L_call rfl cb16 (ref05_Digits (n := prev) (by first | exact ok1 | exact ok2 | exact ok3 | exact ok4 | exact ok5 | omega) _) rfl ?_
 rintro _ w6 ⟨hs6, rfl⟩
 replace hB := gb_tr hB hs6; replace hb1 := hb1.gb hs6
 refine L_nil (N_then ⟨fun hN_ => ⟨hb1, trivial⟩, ?_⟩)
 refine T_tk (i := 18) rfl (Y_of (fun _ _ => R_eqv (R_addS rfl rfl (by rw [ba_size, ba_size]; have a1 := digI_len ok1; have a2 := digI_len ok2; have a3 := digI_len ok3; have a4 := digI_len ok4; have a5 := digI_len ok5; have a6 := digI_len (n := (n : Int)) (by omega); simp only [List.length_append, List.length_cons, List.length_nil]; omega)) (v' := .string ⟨(((((((([114, 101, 99, 111, 114, 100, 32] : List UInt8) ++ (digI lsn)) ++ [32, 107, 105, 110, 100, 32]) ++ (digI kind)) ++ [32, 99, 104, 97, 105, 110, 32]) ++ (digI chain)) ++ [32, 112, 114, 101, 118, 32]) ++ (digI prev)).toArray⟩) (congrArg _ (ba_app _ _).symm))) ⟨hb1, trivial⟩ rfl ?_
 refine T_tk (i := 19) rfl (Y_of (fun _ _ => R_eqv (R_addS rfl rfl (by rw [ba_size, ba_size]; have a1 := digI_len ok1; have a2 := digI_len ok2; have a3 := digI_len ok3; have a4 := digI_len ok4; have a5 := digI_len ok5; have a6 := digI_len (n := (n : Int)) (by omega); simp only [List.length_append, List.length_cons, List.length_nil]; omega)) (v' := .string ⟨((((((((([114, 101, 99, 111, 114, 100, 32] : List UInt8) ++ (digI lsn)) ++ [32, 107, 105, 110, 100, 32]) ++ (digI kind)) ++ [32, 99, 104, 97, 105, 110, 32]) ++ (digI chain)) ++ [32, 112, 114, 101, 118, 32]) ++ (digI prev)) ++ [32, 97, 116, 32]).toArray⟩) (congrArg _ (ba_app _ _).symm))) ⟨hb1, trivial⟩ rfl ?_
 refine T_all (rs := [21]) (by kernel_rfl) rfl (all1 (O_one rfl ?_))
 refine L_call rfl cb16 (ref05_Digits (n := at_) (by first | exact ok1 | exact ok2 | exact ok3 | exact ok4 | exact ok5 | omega) _) rfl ?_
 rintro _ w7 ⟨hs7, rfl⟩
 replace hB := gb_tr hB hs7; replace hb1 := hb1.gb hs7
 refine L_nil (N_then ⟨fun hN_ => ⟨hb1, trivial⟩, ?_⟩)
 refine T_tk (i := 22) rfl (Y_of (fun _ _ => R_eqv (R_addS rfl rfl (by rw [ba_size, ba_size]; have a1 := digI_len ok1; have a2 := digI_len ok2; have a3 := digI_len ok3; have a4 := digI_len ok4; have a5 := digI_len ok5; have a6 := digI_len (n := (n : Int)) (by omega); simp only [List.length_append, List.length_cons, List.length_nil]; omega)) (v' := .string ⟨(((((((((([114, 101, 99, 111, 114, 100, 32] : List UInt8) ++ (digI lsn)) ++ [32, 107, 105, 110, 100, 32]) ++ (digI kind)) ++ [32, 99, 104, 97, 105, 110, 32]) ++ (digI chain)) ++ [32, 112, 114, 101, 118, 32]) ++ (digI prev)) ++ [32, 97, 116, 32]) ++ (digI at_)).toArray⟩) (congrArg _ (ba_app _ _).symm))) ⟨hb1, trivial⟩ rfl ?_
 refine T_tk (i := 23) rfl (Y_of (fun _ _ => R_eqv (R_addS rfl rfl (by rw [ba_size, ba_size]; have a1 := digI_len ok1; have a2 := digI_len ok2; have a3 := digI_len ok3; have a4 := digI_len ok4; have a5 := digI_len ok5; have a6 := digI_len (n := (n : Int)) (by omega); simp only [List.length_append, List.length_cons, List.length_nil]; omega)) (v' := .string ⟨((((((((((([114, 101, 99, 111, 114, 100, 32] : List UInt8) ++ (digI lsn)) ++ [32, 107, 105, 110, 100, 32]) ++ (digI kind)) ++ [32, 99, 104, 97, 105, 110, 32]) ++ (digI chain)) ++ [32, 112, 114, 101, 118, 32]) ++ (digI prev)) ++ [32, 97, 116, 32]) ++ (digI at_)) ++ [32, 115, 105, 122, 101, 32]).toArray⟩) (congrArg _ (ba_app _ _).symm))) ⟨hb1, trivial⟩ rfl ?_
 refine T_all (rs := [27]) (by kernel_rfl) rfl (all1 (O_one rfl ?_))
 refine L_call rfl cb16 (ref05_Digits (n := (n : Int)) (by first | exact ok1 | exact ok2 | exact ok3 | exact ok4 | exact ok5 | omega) _) rfl ?_
 rintro _ w8 ⟨hs8, rfl⟩
 replace hB := gb_tr hB hs8; replace hb1 := hb1.gb hs8
 refine L_nil (N_then ⟨fun hN_ => ⟨hb1, trivial⟩, ?_⟩)
 refine T_tk (i := 28) rfl (Y_of (fun _ _ => R_eqv (R_addS rfl rfl (by rw [ba_size, ba_size]; have a1 := digI_len ok1; have a2 := digI_len ok2; have a3 := digI_len ok3; have a4 := digI_len ok4; have a5 := digI_len ok5; have a6 := digI_len (n := (n : Int)) (by omega); simp only [List.length_append, List.length_cons, List.length_nil]; omega)) (v' := .string ⟨(((((((((((([114, 101, 99, 111, 114, 100, 32] : List UInt8) ++ (digI lsn)) ++ [32, 107, 105, 110, 100, 32]) ++ (digI kind)) ++ [32, 99, 104, 97, 105, 110, 32]) ++ (digI chain)) ++ [32, 112, 114, 101, 118, 32]) ++ (digI prev)) ++ [32, 97, 116, 32]) ++ (digI at_)) ++ [32, 115, 105, 122, 101, 32]) ++ (digI (n : Int))).toArray⟩) (congrArg _ (ba_app _ _).symm))) ⟨hb1, trivial⟩ rfl ?_
 refine T_tk (i := 29) rfl (Y_of (fun _ _ => R_assign rfl)) ⟨hb1, trivial⟩ rfl ?_
 refine T_done (by kernel_rfl) (CalmE.normal ?_)
 refine N_then (C_ret ?_)
 refine ret1 Tryd.results13 rfl ?_
 rw [recT_eq]; exact ⟨hB, rfl⟩
end Go.Proofs.YtkjgjejkfjhcjaaDoor
namespace Go.Proofs.YtkjgjejkfjhcjaaDoor
open Go.RowKit Gw Pl
set_option linter.unusedVariables false
set_option linter.unusedSimpArgs false
theorem scl9 : sclB Tryd.prog 9 = true := by kernel_rfl
end Go.Proofs.YtkjgjejkfjhcjaaDoor
namespace Go.Proofs.YtkjgjejkfjhcjaaDoor.Gw
open Go.RowKit Go.Proofs.YtkjgjejkfjhcjaaDoor.Pl
set_option linter.unusedVariables false
set_option linter.unusedSimpArgs false
section maps
variable {P : Program} {n : Nat} {σ : Nat → Value} {ds : List Deferred} {l : List (Nat × Value)} {w : World} {x y : Operand} {t t' e e' : TypeId} {dst : Option Tmp} {ty : TypeId} {pos : String} {af : Array Edge} {gd : Option (Nat × Bool)}
end maps
/-! ### arrays of bytes as lists -/
theorem flB_len (X : List UInt8) : (fl encB X).length = X.length := by rw [fl_len EncB, Nat.mul_one]
theorem flB_lenE {X : List UInt8} {n : Nat} (h : X.length = n) : (fl encB X).length = n := by rw [flB_len]; exact h
theorem flB_one : ∀ X : List UInt8, (fl encB X).all (·.oneCell') = true
  | [] => rfl
  | x :: r => by
    have e : fl encB (x :: r) = .int .u8 (x.toNat : Int) :: fl encB r := rfl
    rw [e, List.all_cons, flB_one r]
    rfl
theorem fl_atB : ∀ {X : List UInt8} {i : Nat} (h : i < X.length), (fl encB X)[i]? = some (.int .u8 (X[i].toNat : Int))
  | x :: r, 0, _ => rfl
  | x :: r, i + 1, h => by
    have e : fl encB (x :: r) = .int .u8 (x.toNat : Int) :: fl encB r := rfl
    rw [e, List.getElem?_cons_succ, fl_atB (by simpa using h)]
    rfl
/-- A sector: 64 bytes. -/
structure Sx where
  b : List UInt8
  h : b.length = 64
def encX (s : Sx) : List Value := fl encB s.b
theorem EncX : Enc encX 64 := ⟨fun s => by unfold encX; rw [flB_len]; exact s.h, fun s => flB_one s.b⟩
section s2arr
variable {P : Program} {ops : Array Oper} {Q : Exit → Act → World → Prop} {rest : List Oper} {n : Nat} {σ : Nat → Value} {ds : List Deferred} {l : List (Nat × Value)} {w : World} {x : Operand} {t e te : TypeId} {d c lo hi : Nat} {A : Option Addr} {ty : TypeId} {pos : String} {af : Array Edge}
theorem T_s2arr {m : Nat} {X : List UInt8} (hx : ev n l x = some (.slice A X.length c)) (ht : arrB P t e m 1 = true) (hS : Sli te lo hi w A (fl encB X)) (hm : X.length = m) (h0 : Nat.blt 0 m = true) (hn : Nat.blt d n = true)
    (K : ∀ g o, At w g o (fl encB X) → wpL P ops Q rest (Ac n σ ds ((d, .pointer (some ⟨g, o, none⟩)) :: l)) w) : wpL P ops Q (⟨some d, .sliceToArrayPointer t x, ty, pos, af, none⟩ :: rest) (Ac n σ ds l) w := by
  rcases hS with h | ⟨g, off, cs, fr, hA, h1, h2, ⟨t', h3, ht'⟩, h4⟩
  · have := flB_len X
    rw [h] at this
    simp at this h0
    omega
  · subst hA
    refine L_run (R_s2arr hx ht (by omega)) hn (K g off (fun j v hj => ?_))
    rw [cell_of_row w g (off + j) cs t' fr h3]
    exact h4 j v hj
end s2arr
end Go.Proofs.YtkjgjejkfjhcjaaDoor.Gw
namespace Go.Proofs.YtkjgjejkfjhcjaaDoor
open Go.RowKit Gw Pl
set_option linter.unusedVariables false
set_option linter.unusedSimpArgs false
theorem agg28 : aggB Tryd.prog 28 2 = true := by kernel_rfl
theorem cb23 : callB Tryd.prog 23 = true := by kernel_rfl
theorem cb26 : callB Tryd.prog 26 = true := by kernel_rfl
theorem cb27 : callB Tryd.prog 27 = true := by kernel_rfl
theorem cb8 : callB Tryd.prog 8 = true := by kernel_rfl
theorem cb9 : callB Tryd.prog 9 = true := by kernel_rfl
theorem fld28_0 : fldB Tryd.prog 28 0 0 = true := by kernel_rfl
theorem fld28_1 : fldB Tryd.prog 28 1 1 = true := by kernel_rfl
theorem scl26 : sclB Tryd.prog 26 = true := by kernel_rfl
theorem slc22 : slcB Tryd.prog 22 28 2 40 = true := by kernel_rfl
theorem slc26 : slcB Tryd.prog 26 50 64 64 = true := by kernel_rfl
theorem sz28 : szB Tryd.prog 28 2 = true := by kernel_rfl
theorem zer28 : (Tryd.prog.info? 28).bind (·.zero) = some (.agg #[.string (⟨#[]⟩), .slice none 0 0]) := by kernel_rfl
theorem zer50 : (Tryd.prog.info? 50).bind (·.zero) = some (.agg #[.int .u8 0, .int .u8 0, .int .u8 0, .int .u8 0, .int .u8 0, .int .u8 0, .int .u8 0, .int .u8 0, .int .u8 0, .int .u8 0, .int .u8 0, .int .u8 0, .int .u8 0, .int .u8 0, .int .u8 0, .int .u8 0, .int .u8 0, .int .u8 0, .int .u8 0, .int .u8 0, .int .u8 0, .int .u8 0, .int .u8 0, .int .u8 0, .int .u8 0, .int .u8 0, .int .u8 0, .int .u8 0, .int .u8 0, .int .u8 0, .int .u8 0, .int .u8 0, .int .u8 0, .int .u8 0, .int .u8 0, .int .u8 0, .int .u8 0, .int .u8 0, .int .u8 0, .int .u8 0, .int .u8 0, .int .u8 0, .int .u8 0, .int .u8 0, .int .u8 0, .int .u8 0, .int .u8 0, .int .u8 0, .int .u8 0, .int .u8 0, .int .u8 0, .int .u8 0, .int .u8 0, .int .u8 0, .int .u8 0, .int .u8 0, .int .u8 0, .int .u8 0, .int .u8 0, .int .u8 0, .int .u8 0, .int .u8 0, .int .u8 0, .int .u8 0]) := by kernel_rfl
theorem zer64 : (Tryd.prog.info? 64).bind (·.zero) = some (.agg #[.pointer none, .slice none 0 0]) := by kernel_rfl
structure FilD where
  name : List UInt8
  a : Option Addr
  c : Nat
  ss : List Sx
def encF (f : FilD) : List Value := [.string ⟨f.name.toArray⟩, .slice f.a f.ss.length f.c]
theorem EncF : Enc encF 2 := ⟨fun _ => rfl, fun _ => rfl⟩
def Sx.z : Sx := ⟨List.replicate 64 0, List.length_replicate⟩
/-- A file's text: its own line, the lines of what it has. -/
def fileT (name : List UInt8) (n : Nat) (segs : List (List UInt8)) : List UInt8 := Go.Lib.join (Go.Lib.join [([102, 105, 108, 101] : List UInt8), name, digI (n : Int)] [32] :: segs) [10] ++ [10]
theorem fline_len {name : List UInt8} {n : Nat} (hn : n ≤ 1000000) : (Go.Lib.join [([102, 105, 108, 101] : List UInt8), name, digI (n : Int)] [32]).length ≤ name.length + 26 := by
  have h := digI_len (n := (n : Int)) (by omega)
  simp only [jn2, jn1, List.length_append, List.length_cons, List.length_nil]
  omega
theorem fileT0_len {name : List UInt8} {n : Nat} (hn : n ≤ 1000000) : (fileT name n []).length ≤ name.length + 27 := by
  have h := fline_len (name := name) hn
  unfold fileT
  rw [jn1, List.length_append, List.length_singleton]
  omega
theorem fileT_ex : fileT [97] 1 [] = [102, 105, 108, 101, 32, 97, 32, 49, 10] := by
  unfold fileT
  rw [jn1, digI_nat, dig_lt (by decide)]
  rfl
/-- Files' text. -/
def textT (F : FilD → List UInt8) (fs : List FilD) : List UInt8 := fs.flatMap F
theorem textT_succ {F : FilD → List UInt8} {fs : List FilD} {i : Nat} (h : i < fs.length) : textT F (fs.take (i + 1)) = textT F (fs.take i) ++ F fs[i] := by
  unfold textT
  rw [List.take_succ_eq_append_getElem h, List.flatMap_append]
  simp
theorem textT_len {F : FilD → List UInt8} {fs : List FilD} {k : Nat} (h : ∀ f ∈ fs, (F f).length ≤ k) : ∀ i, (textT F (fs.take i)).length ≤ k * i
  | 0 => by simp [textT]
  | i + 1 => by
    have ih := textT_len h i
    rcases Nat.lt_or_ge i fs.length with h1 | h1
    · rw [textT_succ h1, List.length_append, Nat.mul_succ]
      have := h _ (List.getElem_mem h1)
      omega
    · rw [List.take_of_length_le (by omega)] at ih ⊢
      rw [Nat.mul_succ]; omega
theorem file0_ok {w : World} {A : Option Addr} {c n : Nat} {cs : List UInt8} (hcs : cs.length ≤ 100000) (hn : n ≤ 1000000) (hk : ¬ (nparse cs).1 = 1) :
    Runs Tryd.prog 8 #[.agg #[.string (⟨cs.toArray⟩), .slice A n c]] w (fun v w' => w.grownBy w' none ∧ v = .string ⟨(fileT cs n []).toArray⟩) := by
 have hB := gb_refl w none
 refine enter Tryd.func8 Tryd.ntmps8 rfl rfl ?_
 refine C_seq (C_reg rfl ?_)
 refine L_box (cs := [.string (⟨cs.toArray⟩), .slice A n c]) rfl rfl rfl ?_
 intro g1 w1 eg1 hb1 hs1 hz1
 replace hB := gb_tr hB hs1
 refine Las rfl rfl (L_nil (N_then (C_seq ?_)))
 refine C_draw2 rfl mix ?_
 intro w2 hs2 hz2
 replace hB := gb_tr hB hs2; replace hb1 := hb1.gb hs2
 refine ⟨fun W_ => Blk W_ g1 28 [.string (⟨cs.toArray⟩), .slice A n c] ∧ True, [0, 1, 2, 3, 4, 9], ?_⟩
 refine T_tk (i := 0) rfl (Y_of (fun _ _ => R_field (r := 0) rfl fld28_0 rfl)) ⟨hb1, trivial⟩ rfl ?_
 refine T_tk (i := 1) rfl (Y_of (fun _ ⟨hb1, _⟩ => R_load1 rfl scl9 (hb1.cell (i := 0) rfl))) ⟨hb1, trivial⟩ rfl ?_
 refine T_tk (i := 2) rfl (Y_of (fun _ _ => R_field (r := 1) rfl fld28_1 rfl)) ⟨hb1, trivial⟩ rfl ?_
 refine T_tk (i := 3) rfl (Y_of (fun _ ⟨hb1, _⟩ => R_load1 rfl scl26 (hb1.cell (i := 1) rfl))) ⟨hb1, trivial⟩ rfl ?_
 refine T_tk (i := 4) rfl (Y_of (fun _ _ => R_lenSl rfl slc26)) ⟨hb1, trivial⟩ rfl ?_
 refine T_all (rs := [5]) (by kernel_rfl) rfl (all1 (O_one rfl ?_))
 refine L_call rfl cb22 (name_Digits (n := (n : Int)) (by omega)) rfl ?_
 rintro _ w3 ⟨hs3, rfl⟩
 replace hB := gb_tr hB hs3; replace hb1 := hb1.gb hs3
 refine L_nil (N_then ⟨fun hN_ => ⟨hb1, trivial⟩, ?_⟩)
 refine T_all (rs := [6]) (by kernel_rfl) rfl (all1 (O_one rfl ?_))
 refine L_buildSlice (pv := [(0, .string (⟨#[102, 105, 108, 101]⟩)), (1, .string (⟨cs.toArray⟩)), (2, .string (⟨(digI (n : Int)).toArray⟩))]) (cs := [.string (⟨#[102, 105, 108, 101]⟩), .string (⟨cs.toArray⟩), .string (⟨(digI (n : Int)).toArray⟩)]) slc59 zer9 rfl rfl (by kernel_rfl) rfl ?_
 intro g2 w4 eg2 hb2 hs4 hz3
 replace hB := gb_tr hB hs4; replace hb1 := hb1.gb hs4
 refine L_nil (N_then ⟨fun hN_ => ⟨hb1, trivial⟩, ?_⟩)
 refine T_all (rs := [7]) (by kernel_rfl) rfl (all1 (O_one rfl ?_))
 have hjl_ := (show (Go.Lib.join ([([102, 105, 108, 101] : List UInt8), cs, (digI (n : Int))]) [32]).length ≤ 140737488355328 from Nat.le_trans (fline_len hn) (by omega))
 refine L_call rfl cb21 (line_ok (xs := [([102, 105, 108, 101] : List UInt8), cs, (digI (n : Int))]) (Blk.sli (m := 0) hb2) (by simp) (by simp) hjl_) rfl ?_
 rintro _ w5 ⟨hs5, rfl⟩
 replace hB := gb_tr hB hs5; replace hb1 := hb1.gb hs5
 refine L_nil (N_then ⟨fun hN_ => ⟨hb1, trivial⟩, ?_⟩)
 refine T_all (rs := [8]) (by kernel_rfl) rfl (all1 (O_one rfl ?_))
 refine L_buildSlice (pv := [(0, .string (⟨(Go.Lib.join ([([102, 105, 108, 101] : List UInt8), cs, (digI (n : Int))]) [32]).toArray⟩))]) (cs := [.string (⟨(Go.Lib.join ([([102, 105, 108, 101] : List UInt8), cs, (digI (n : Int))]) [32]).toArray⟩)]) slc59 zer9 rfl rfl (by kernel_rfl) rfl ?_
 intro g3 w6 eg3 hb3 hs6 hz4
 replace hB := gb_tr hB hs6; replace hb1 := hb1.gb hs6
 refine L_nil (N_then ⟨fun hN_ => ⟨hb1, trivial⟩, ?_⟩)
 refine T_tk (i := 9) rfl (Y_of (fun _ _ => R_assign rfl)) ⟨hb1, trivial⟩ rfl ?_
 refine T_done (by kernel_rfl) (CalmE.normal ?_)
 refine N_then (C_seq (C_seq (C_reg rfl ?_)))
 refine L_run (R_field (r := 0) rfl fld28_0 rfl) rfl (L_run (R_load1 rfl scl9 (hb1.cell (i := 0) rfl)) rfl ?_)
 refine L_call rfl cb23 (name_Parse (cs := cs) (by omega)) rfl ?_
 rintro _ w7 ⟨hs7, rfl⟩
 replace hB := gb_tr hB hs7; replace hb3 := hb3.gb hs7
 refine Lmv rfl rfl (L_run (R_extract rfl rfl) rfl (L_run (R_extract rfl rfl) rfl (Las rfl rfl (Las rfl rfl (L_nil (N_then (C_seq (C_reg rfl (Lmv rfl rfl (L_run (R_eql rfl rfl) rfl (L_nil (N_then (C_condF rfl (decide_eq_false hk) (C_skip (N_then (C_seq (C_reg rfl (Lmv rfl rfl ?_))))))))))))))))))
 have hjl_ := (show (Go.Lib.join ([(Go.Lib.join ([([102, 105, 108, 101] : List UInt8), cs, (digI (n : Int))]) [32])]) ([10] : List UInt8)).length ≤ 140737488355328 from by rw [jn1]; exact Nat.le_trans (fline_len hn) (by omega))
 refine L_call rfl cb25 (join_ok (xs := [(Go.Lib.join ([([102, 105, 108, 101] : List UInt8), cs, (digI (n : Int))]) [32])]) (sep := ([10] : List UInt8)) (Blk.sli (m := 0) hb3) (by simp) (by simp) hjl_) rfl ?_
 rintro _ w8 ⟨hs8, rfl⟩
 replace hB := gb_tr hB hs8
 refine L_run (R_eqv (R_addS rfl rfl (by rw [ba_size, ba_size, jn1]; have h_ := fline_len (name := cs) hn; simp only [List.length_cons, List.length_nil]; omega)) (v' := .string ⟨((Go.Lib.join ([(Go.Lib.join ([([102, 105, 108, 101] : List UInt8), cs, (digI (n : Int))]) [32])]) ([10] : List UInt8)) ++ [10]).toArray⟩) (congrArg _ (ba_app _ _).symm)) rfl ?_
 refine Las rfl rfl (L_nil (N_then (C_ret ?_)))
 refine ret1 Tryd.results8 rfl ?_
 exact ⟨hB, rfl⟩
theorem text0_ok {w : World} {t1 lo hi : Nat} {A : Option Addr} {c : Nat} {fs : List FilD} (hS : Sli t1 lo hi w A (fl encF fs)) (hfl : fs.length ≤ 1000) (hok : ∀ f ∈ fs, f.name.length ≤ 100000 ∧ f.ss.length ≤ 1000000 ∧ ¬ (nparse f.name).1 = 1) :
    Runs Tryd.prog 9 #[.slice A fs.length c] w (fun v w' => w.grownBy w' none ∧ v = .string ⟨(textT (fun f => fileT f.name f.ss.length []) fs).toArray⟩) := by
 have hB := gb_refl w none
 have hlens : ∀ f ∈ fs, ((fun f => fileT f.name f.ss.length []) f).length ≤ 200000 := (fun f hf => Nat.le_trans (fileT0_len (hok f hf).2.1) (by have h_ := (hok f hf).1; omega))
 replace hS := hS.top
 refine enter Tryd.func9 Tryd.ntmps9 rfl rfl ?_
 refine C_seq (C_reg rfl ?_)
 refine Las rfl rfl (L_nil (N_then (C_seq (C_reg rfl (L_alloc (cs := [.pointer none, .slice none 0 0]) zer64 rfl rfl ?_)))))
 intro g1 w1 eg1 hb1 hs1 hz1
 have ge1 : w.heap.size ≤ g1 := eg_ge hB eg1
 replace hB := gb_tr hB hs1; replace hS := hS.gb hs1
 refine L_nil (N_then (C_seq (C_seq (C_reg rfl (Lmv rfl rfl (L_run (R_lenSl rfl slc22) rfl (Lmv rfl rfl (L_nil (N_then (C_block ?_))))))))))
 have hbd0_ := BldF.fresh w.heap.size hb1 ge1 hB.size
 refine C_loop (fun m_ a_ w_ => ∃ (σ_ : Nat → Value) (i : Nat), a_ = Ac 17 σ_ [] [(3, .pointer (some ⟨g1, 0, none⟩)), (6, .slice A fs.length c), (7, .int .i64 (fs.length : Int)), (8, .int .i64 (i : Int))] ∧ w.grownBy w_ none ∧ Sli t1 lo w.heap.size w_ A (fl encF fs) ∧ BldF w_ w.heap.size g1 (textT (fun f => fileT f.name f.ss.length []) (fs.take i)) ∧ (i ≤ fs.length) ∧ fs.length - i = m_) (fs.length - 0) ?_ ?_
 ·exact ⟨_, 0, Ac_frg ⟨rfl, rfl, rfl, (agx rfl), trivial⟩, hB, hS, hbd0_, (by omega), rfl⟩
 ·clear hB
  clear hS hb1
  rintro m_ a_ w2 ⟨σ_, i, rfl, hB, hS, hbd, hi, rfl⟩
  refine C_seq (C_reg rfl ?_)
  refine L_run (R_lss rfl rfl) rfl ?_
  refine L_nil (N_then (C_seq (C_if rfl (fun h1 => ?_) (fun h1 => ?_))))
  ·refine C_skip (N_then (C_seq (C_block (C_seq (C_reg rfl ?_)))))
   have hlk : i < fs.length := by first | omega | (simp; omega)
   refine T_index (xs := fs) (i := i) EncF rfl rfl (by first | rfl | omega) slc22 hlk hS rfl ?_
   intro g2 o1 ha1
   refine L_run (R_loadA (vs := [.string (⟨((fs[i]).name).toArray⟩), .slice ((fs[i]).a) ((fs[i]).ss.length) ((fs[i]).c)]) rfl agg28 (At.pre ha1 rfl) rfl) rfl (L_alloc (cs := [.string (⟨#[]⟩), .slice none 0 0]) zer28 rfl rfl ?_)
   intro g3 w3 eg2 hb2 hs2 hz2
   have ge2 : w.heap.size ≤ g3 := eg_ge hB eg2
   replace hB := gb_tr hB hs2; replace hS := hS.gb hs2; replace hbd := hbd.gb hs2
   refine L_stA (vs := [.string (⟨((fs[i]).name).toArray⟩), .slice ((fs[i]).a) ((fs[i]).ss.length) ((fs[i]).c)]) rfl rfl rfl sz28 rfl hb2 rfl ?_
   intro w4 hb3 hs3 hz3
   replace hB := gb_trg hB hs3 ge2; replace hS := hS.old hs3 ge2; replace hbd := hbd.other hb2 rfl rfl hs3
   refine L_nil (N_then (C_reg rfl (L_run (R_loadA (vs := [.string (⟨((fs[i]).name).toArray⟩), .slice ((fs[i]).a) ((fs[i]).ss.length) ((fs[i]).c)]) rfl agg28 (At.pre (hb3.at_ 0) rfl) rfl) rfl ?_)))
   refine L_call rfl cb8 (file0_ok (cs := ((fs[i]).name)) (n := (fs[i]).ss.length) (hok _ (List.getElem_mem hlk)).1 (hok _ (List.getElem_mem hlk)).2.1 (hok _ (List.getElem_mem hlk)).2.2) rfl ?_
   rintro _ w5 ⟨hs4, rfl⟩
   replace hB := gb_tr hB hs4; replace hS := hS.gb hs4; replace hbd := hbd.gb hs4
   have hwl_ := (show (textT (fun f => fileT f.name f.ss.length []) (fs.take i)).length + ((fun f => fileT f.name f.ss.length []) fs[i]).length ≤ 140737488355328 from by have h1_ := textT_len hlens i; have h2_ := hlens _ (List.getElem_mem hlk); omega)
   refine L_call rfl cb26 (wstr_ok (b := g1) (l := (textT (fun f => fileT f.name f.ss.length []) (fs.take i))) (x := (fileT ((fs[i]).name) ((fs[i]).ss.length) [])) hbd hwl_) rfl ?_
   rintro _ w6 ⟨hs5, rfl, hbd1⟩
   replace hB := below_gb ((gb_below hB).trans hs5); replace hS := hS.below (Nat.le_refl _) hs5
   refine L_nil (N_in (N_then (C_reg rfl ?_)))
   refine L_run (R_add64 rfl rfl (by omega)) rfl ?_
   refine Lmv rfl rfl (L_nil (N_then ?_))
   have hts_ := textT_succ (F := (fun f => fileT f.name f.ss.length [])) hlk
   exact ⟨fs.length - (i + 1), by omega, _, (i + 1), Ac_frg ⟨rfl, rfl, rfl, (agx rfl), trivial⟩, hB, hS, (by rw [hts_]; exact hbd1), (by omega), rfl⟩
  ·refine C_exit (X_then (X_then (X_hit (N_then (C_seq (C_reg rfl ?_))))))
   refine L_call rfl cb27 (bstr_ok (b := g1) (l := (textT (fun f => fileT f.name f.ss.length []) (fs.take i))) hbd) rfl ?_
   rintro _ w7 ⟨hs6, rfl⟩
   replace hB := below_gb ((gb_below hB).trans hs6)
   refine Las rfl rfl (L_nil (N_then (C_ret ?_)))
   refine ret1 Tryd.results9 rfl ?_
   rw [List.take_of_length_le (by omega)]; exact ⟨hB, rfl⟩
theorem nparse_a : nparse [97] = (0, 0) := by
  refine npar_0 (fun h => ?_) (fun h => ?_) <;> exact absurd h.1 (by decide)
theorem awake48 {w : World} :
    Runs Tryd.prog 6 #[] w (fun v w' => w.grownBy w' none ∧ v = .bool true) := by
 have hB := gb_refl w none
 refine enter Tryd.func6 Tryd.ntmps6 rfl rfl ?_
 refine C_seq (C_reg rfl ?_)
 refine Las rfl rfl (L_nil (N_then (C_seq (C_reg rfl ?_))))
 refine L_make (enc := encX) (m := 1) (x0 := Sx.z) slc26 zer50 rfl rfl rfl EncX (by omega) (by omega) rfl ?_
 intro g1 w1 eg1 hb1 hs1 hz1
 replace hB := gb_tr hB hs1
 refine L_run (R_build (pv := [(0, .string (⟨#[97]⟩)), (1, .slice (some ⟨g1, 0, none⟩) 1 1)]) (cs := [.string (⟨#[97]⟩), .slice (some ⟨g1, 0, none⟩) 1 1]) rfl (by kernel_rfl)) rfl ?_
 refine L_buildSlice (pv := [(0, .agg #[.string (⟨#[97]⟩), .slice (some ⟨g1, 0, none⟩) 1 1])]) (cs := [.string (⟨#[97]⟩), .slice (some ⟨g1, 0, none⟩) 1 1]) slc22 zer28 rfl rfl (by kernel_rfl) rfl ?_
 intro g2 w2 eg2 hb2 hs2 hz2
 replace hB := gb_tr hB hs2
 refine L_call rfl cb9 (text0_ok (fs := [(⟨([97] : List UInt8), some ⟨g1, 0, none⟩, 1, (List.replicate 1 Sx.z)⟩ : FilD)]) (Blk.sli (m := 0) hb2) (by simp) (fun f hf => by rw [List.mem_singleton] at hf; subst hf; exact ⟨by simp, by simp, by show ¬ (nparse [97]).1 = 1; rw [nparse_a]; decide⟩)) rfl ?_
 rintro _ w3 ⟨hs3, rfl⟩
 replace hB := gb_tr hB hs3
 refine L_run (R_eqv (R_eqv (R_eqlS rfl rfl) (v' := .bool (decide ((textT (fun f => fileT f.name f.ss.length []) ([(⟨([97] : List UInt8), some ⟨g1, 0, none⟩, 1, (List.replicate 1 Sx.z)⟩ : FilD)])) = [102, 105, 108, 101, 32, 97, 32, 49, 10]))) (bD ba_inj)) (v' := .bool true) (bT' (show textT (fun f => fileT f.name f.ss.length []) [_] = _ from (List.append_nil _).trans fileT_ex))) rfl ?_
 refine Las rfl rfl (L_nil (N_then (C_ret ?_)))
 refine ret1 Tryd.results6 rfl ?_
 exact ⟨hB, rfl⟩
end Go.Proofs.YtkjgjejkfjhcjaaDoor
namespace Go.Proofs.YtkjgjejkfjhcjaaDoor.Pl
open Gw
set_option linter.unusedVariables false
set_option linter.unusedSimpArgs false
def tbl : List Nat := [0, 274646895, 549293790, 820201905, 1098587580, 1361435347, 1640403810, 1905808397, 2197175160, 2460548119, 2722870694, 2987750089, 3280807620, 3553878443, 3811616794, 4084100981]
def hf (i : Nat) : Nat := tbl.getD i 0
def fourN (x : Nat) : Nat := Nat.xor (hf (x % 16)) (x / 16)
def stepN (x : Nat) (c : UInt8) : Nat := fourN (fourN (Nat.xor x c.toNat))
def crcN (x : Nat) (bs : List UInt8) : Nat := bs.foldl stepN x
def moreN (s : Nat) (bs : List UInt8) : Nat := Nat.xor 4294967295 (crcN (Nat.xor 4294967295 s) bs)
theorem hf_lt (i : Nat) : hf i < 4294967296 := by
  unfold hf
  rcases Nat.lt_or_ge i 16 with h | h
  · have : ∀ q : Fin 16, tbl.getD q.val 0 < 4294967296 := by decide +kernel
    exact this ⟨i, h⟩
  · rw [List.getD_eq_getElem?_getD, List.getElem?_eq_none (by simpa [tbl] using h)]
    decide
theorem xor_lt {a b : Nat} (ha : a < 4294967296) (hb : b < 4294967296) : Nat.xor a b < 4294967296 := Nat.xor_lt_two_pow (n := 32) ha hb
theorem xc_lt {x : Nat} (hx : x < 4294967296) (c : UInt8) : Nat.xor x c.toNat < 4294967296 := xor_lt hx (by have := c.toNat_lt; omega)
theorem fourN_lt {x : Nat} (hx : x < 4294967296) : fourN x < 4294967296 := xor_lt (hf_lt _) (by omega)
theorem crcN_lt : ∀ {x : Nat} (bs : List UInt8), x < 4294967296 → crcN x bs < 4294967296
  | x, [], h => h
  | x, c :: bs, h => crcN_lt bs (fourN_lt (fourN_lt (xc_lt h c)))
theorem crc_succ {x k : Nat} {bs : List UInt8} (hk : k < bs.length) : fourN (fourN (Nat.xor (crcN x (bs.take k)) bs[k].toNat)) = crcN x (bs.take (k + 1)) := by
  rw [List.take_add_one, List.getElem?_eq_getElem hk]
  unfold crcN
  rw [List.foldl_append]
  rfl
theorem ofi32 {a : Nat} (h : a < 4294967296) : (BitVec.ofInt 32 (a : Int)).toNat = a := ofi 32 a h
theorem xor32 {a b : Nat} (ha : a < 4294967296) (hb : b < 4294967296) : Value.int .u32 (bitsI .xor .u32 (a : Int) (b : Int)) = .int .u32 ((Nat.xor a b : Nat) : Int) := by
  congr 1
  change IntKind.u32.wrap (((BitVec.ofInt 32 (a : Int)) ^^^ (BitVec.ofInt 32 (b : Int))).toNat : Int) = _
  rw [BitVec.toNat_xor, ofi32 ha, ofi32 hb, IntKind.wrap_u32]
  have : a ^^^ b < 4294967296 := xor_lt ha hb
  show ((a ^^^ b : Nat) : Int) % _ = ((a ^^^ b : Nat) : Int)
  omega
theorem and15 (x : Nat) (hx : x < 4294967296) : Value.int .u32 (bitsI .and .u32 (x : Int) 15) = .int .u32 ((x % 16 : Nat) : Int) := by
  congr 1
  change IntKind.u32.wrap (((BitVec.ofInt 32 (x : Int)) &&& (BitVec.ofInt 32 ((15 : Nat) : Int))).toNat : Int) = _
  rw [BitVec.toNat_and, ofi32 hx, ofi32 (by decide), IntKind.wrap_u32, show (15 : Nat) = 2 ^ 4 - 1 from rfl, Nat.and_two_pow_sub_one_eq_mod]
  omega
theorem shr4 (x : Nat) : Value.int .u32 ((x : Int).fdiv (2 ^ (min (4 : Int).toNat (IntKind.bits .u32)))) = .int .u32 ((x / 16 : Nat) : Int) := by
  congr 1
  have : (2 : Int) ^ (min (4 : Int).toNat (IntKind.bits .u32)) = 16 := by rfl
  rw [this, Int.fdiv_eq_ediv_of_nonneg _ (by omega)]
  omega
theorem w32c (c : UInt8) : Value.int .u32 (IntKind.u32.wrap (c.toNat : Int)) = .int .u32 (c.toNat : Int) := by
  have := c.toNat_lt
  rw [IntKind.wrap_u32]
  congr 1
  omega
theorem tbl_at {i : Nat} (h : i < 16) : ([.int .u32 0, .int .u32 274646895, .int .u32 549293790, .int .u32 820201905, .int .u32 1098587580, .int .u32 1361435347, .int .u32 1640403810, .int .u32 1905808397, .int .u32 2197175160, .int .u32 2460548119, .int .u32 2722870694, .int .u32 2987750089, .int .u32 3280807620, .int .u32 3553878443, .int .u32 3811616794, .int .u32 4084100981] : List Value)[0 + i]? = some (.int .u32 ((hf i : Nat) : Int)) := by
  have e : ([.int .u32 0, .int .u32 274646895, .int .u32 549293790, .int .u32 820201905, .int .u32 1098587580, .int .u32 1361435347, .int .u32 1640403810, .int .u32 1905808397, .int .u32 2197175160, .int .u32 2460548119, .int .u32 2722870694, .int .u32 2987750089, .int .u32 3280807620, .int .u32 3553878443, .int .u32 3811616794, .int .u32 4084100981] : List Value) = tbl.map (fun n : Nat => Value.int .u32 (n : Int)) := rfl
  rw [e, Nat.zero_add, List.getElem?_map]
  unfold hf
  rw [List.getD_eq_getElem?_getD]
  have : i < tbl.length := h
  rw [List.getElem?_eq_getElem this]
  rfl
end Go.Proofs.YtkjgjejkfjhcjaaDoor.Pl
namespace Go.Proofs.YtkjgjejkfjhcjaaDoor.Gw
open Go.RowKit
section
variable {P : Program} {w : World} {n : Nat} {σ : Nat → Value} {ds : List Deferred} {l : Sl} {ty : TypeId} {pos : String} {af : Array Edge} {dst : Option Nat} {gd : Option (Nat × Bool)}
theorem R_inv {t : TypeId} {x : Operand} {a : Int} (hx : ev n l x = some (.int .u32 a)) :
    (execOp (Ac n σ ds l).eval ⟨dst, .unOp .xor t x, ty, pos, af, gd⟩).run P w = .ok (.value (.int .u32 (bitsI .xor .u32 4294967295 a))) w := by
  simp only [execOp, ev_eval hx]
  exact v_run (by simp [Op.unary, IntKind.signed, Op.intBits, bitsI]; rfl)
/-- A block begins with the table. -/
def tblV : List Value := [.int .u32 0, .int .u32 274646895, .int .u32 549293790, .int .u32 820201905, .int .u32 1098587580, .int .u32 1361435347, .int .u32 1640403810, .int .u32 1905808397, .int .u32 2197175160, .int .u32 2460548119, .int .u32 2722870694, .int .u32 2987750089, .int .u32 3280807620, .int .u32 3553878443, .int .u32 3811616794, .int .u32 4084100981]
def Tbw (w : World) : Prop := ∃ vs T fz, w.heap[3]? = some (.cells (tblV ++ vs).toArray T fz)
theorem Tbw.cell {w : World} (h : Tbw w) {i : Nat} {v : Value} (hi : tblV[i]? = some v) : w.cell? ⟨3, i, none⟩ = some v := by
  obtain ⟨vs, T, fz, h⟩ := h
  rw [cell_of_row w 3 i _ T fz h]
  simp only [List.getElem?_toArray]
  rw [List.getElem?_append_left (List.getElem?_eq_some_iff.1 hi).1]
  exact hi
theorem Tbw.gb {w w' : World} (h : Tbw w) (hb : w.grownBy w' none) : Tbw w' := by
  obtain ⟨vs, T, fz, h⟩ := h
  exact ⟨vs, T, fz, (hb.block 3 (Array.getElem?_eq_some_iff.1 h).1 (by simp)).trans h⟩
end
end Go.Proofs.YtkjgjejkfjhcjaaDoor.Gw
namespace Go.Proofs.YtkjgjejkfjhcjaaDoor.Pl
set_option linter.unusedVariables false
set_option linter.unusedSimpArgs false
/-! ### numbers in bytes, the low ones first -/
def putN (n : Nat) : Nat → List UInt8
  | 0 => []
  | k + 1 => UInt8.ofNat (n % 256) :: putN (n / 256) k
def getN : List UInt8 → Nat
  | [] => 0
  | c :: r => c.toNat + 256 * getN r
theorem putN_len : ∀ (k n : Nat), (putN n k).length = k
  | 0, _ => rfl
  | k + 1, n => by simp [putN, putN_len k]
theorem getN_lt : ∀ bs : List UInt8, getN bs < 256 ^ bs.length
  | [] => by simp [getN]
  | c :: r => by
    have h1 := getN_lt r
    have h2 := c.toNat_lt
    rw [List.length_cons, Nat.pow_succ]
    simp only [getN]
    omega
theorem getN_putN : ∀ (k n : Nat), getN (putN n k) = n % 256 ^ k
  | 0, n => by simp [putN, getN, Nat.mod_one]
  | k + 1, n => by
    simp only [putN, getN, getN_putN k, n256 _ (Nat.mod_lt n (by omega : 0 < 256))]
    rw [Nat.pow_succ, Nat.mul_comm (256 ^ k) 256, Nat.mod_mul]
theorem putN_getN : ∀ bs : List UInt8, putN (getN bs) bs.length = bs
  | [] => rfl
  | c :: r => by
    have h2 := c.toNat_lt
    simp only [getN, List.length_cons, putN]
    rw [show (c.toNat + 256 * getN r) % 256 = c.toNat by omega, show (c.toNat + 256 * getN r) / 256 = getN r by omega, putN_getN r, UInt8.ofNat_toNat]
theorem getN_snoc : ∀ (bs : List UInt8) (c : UInt8), getN (bs ++ [c]) = getN bs + c.toNat * 256 ^ bs.length
  | [], c => by simp [getN]
  | b :: r, c => by
    simp only [List.cons_append, getN, getN_snoc r, List.length_cons, Nat.pow_succ]
    rw [Nat.mul_add, ← Nat.mul_assoc, Nat.mul_comm 256 c.toNat, Nat.mul_assoc, Nat.mul_comm 256 (256 ^ r.length)]
    omega
theorem getN_succ {bs : List UInt8} {k : Nat} (h : k < bs.length) : getN (bs.take (k + 1)) = getN (bs.take k) + bs[k].toNat * 256 ^ k := by
  rw [List.take_add_one, List.getElem?_eq_getElem h]
  simp only [Option.toList_some]
  rw [getN_snoc, List.length_take, Nat.min_eq_left (by omega)]
theorem putN_eq {bs : List UInt8} {n k : Nat} (hk : bs.length = k) (hn : n < 256 ^ k) : putN n k = bs ↔ getN bs = n := by
  subst hk
  constructor
  · intro h
    rw [← h, getN_putN, Nat.mod_eq_of_lt hn]
  · intro h
    rw [← h, putN_getN]
/-! ### places -/
def leftN (a : Nat) : Nat := if a = 832 then 0 else 208 - a % 208
def beginN (a : Nat) : Nat := if 52 - a % 52 < 11 then a + (52 - a % 52) else a
def touchN (a b : Nat) : Nat × Nat := if a < b then (a / 52, (b - 1) / 52 + 1) else (0, 0)
/-- Are these sectors there? -/
def covN (ok : List Bool) (a b : Nat) : Bool := (List.range' (touchN a b).1 ((touchN a b).2 - (touchN a b).1)).all fun i => ok.getD i false
theorem beginN_le {a : Nat} (h : a ≤ 832) : a ≤ beginN a ∧ beginN a ≤ 832 := by
  unfold beginN
  split <;> omega
theorem leftN_le {a : Nat} (h : a ≤ 832) : a + leftN a ≤ 832 ∧ leftN a ≤ 208 := by
  unfold leftN
  split <;> omega
/-! ### stamped sectors -/
/-- A sector's room, if it is stamped so. -/
def openN (s : List UInt8) (e i : Nat) : Option (List UInt8) := if getN (s.take 8) = e ∧ getN ((s.drop 8).take 4) = i then some (s.drop 12) else none
def roomN (ss : List (List UInt8)) (e i : Nat) : Option (List UInt8) := match ss[i]? with | some s => openN s e i | none => none
def flatO (ss : List (List UInt8)) (e : Nat) (k : Nat) : List Bool := (List.range k).map fun i => (roomN ss e i).isSome
def flatB (ss : List (List UInt8)) (e : Nat) (k : Nat) : List UInt8 := (List.range k).flatMap fun i => (roomN ss e i).getD (List.replicate 52 0)
theorem flatO_succ (ss : List (List UInt8)) (e k : Nat) : flatO ss e (k + 1) = flatO ss e k ++ [(roomN ss e k).isSome] := by simp [flatO, List.range_succ]
theorem flatB_succ (ss : List (List UInt8)) (e k : Nat) : flatB ss e (k + 1) = flatB ss e k ++ (roomN ss e k).getD (List.replicate 52 0) := by simp [flatB, List.range_succ]
theorem flatO_len (ss : List (List UInt8)) (e k : Nat) : (flatO ss e k).length = k := by simp [flatO]
theorem roomN_len {ss : List (List UInt8)} (h : ∀ s ∈ ss, s.length = 64) (e i : Nat) : ((roomN ss e i).getD (List.replicate 52 0)).length = 52 := by
  unfold roomN
  split
  · rename_i s hs
    unfold openN
    split
    · simp [h s (List.mem_of_getElem? hs)]
    · simp
  · simp
theorem flatB_len {ss : List (List UInt8)} (h : ∀ s ∈ ss, s.length = 64) (e : Nat) : ∀ k, (flatB ss e k).length = 52 * k
  | 0 => by simp [flatB]
  | k + 1 => by rw [flatB_succ, List.length_append, flatB_len h e k, roomN_len h]; omega
/-! ### fragments -/
def maskN (s : Nat) : Nat := (s / 32768 + s % 32768 * 131072 + 2726488792) % 4294967296
/-- A fragment's kind and bytes, how many bytes it has, the error. -/
def fdec (b : List UInt8) (ep : Nat) : (Nat × List UInt8) × Nat × Int :=
  if b.length < 11 then ((0, []), 0, 1)
  else if b.take 11 = List.replicate 11 0 then ((0, []), 0, 7)
  else if (b.getD 6 0).toNat < 1 ∨ 4 < (b.getD 6 0).toNat ∨ 197 < getN ((b.drop 4).take 2) ∨ getN ((b.drop 7).take 4) ≠ ep then ((0, []), 0, 2)
  else if b.length < 11 + getN ((b.drop 4).take 2) then ((0, []), 0, 1)
  else if getN (b.take 4) ≠ maskN (moreN 0 ((b.take (11 + getN ((b.drop 4).take 2))).drop 4)) then ((0, []), 0, 3)
  else (((b.getD 6 0).toNat, (b.take (11 + getN ((b.drop 4).take 2))).drop 11), 11 + getN ((b.drop 4).take 2), 0)
theorem fdec_ok {b : List UInt8} {ep : Nat} (h : (fdec b ep).2.2 = 0) : 11 ≤ (fdec b ep).2.1 ∧ (fdec b ep).2.1 ≤ b.length ∧ (fdec b ep).2.1 ≤ 208 ∧ (fdec b ep).1.2.length + 11 = (fdec b ep).2.1 ∧ 1 ≤ (fdec b ep).1.1 ∧ (fdec b ep).1.1 ≤ 4 := by
  unfold fdec at h ⊢
  split at h
  · simp at h
  · rename_i h1
    rw [if_neg h1]
    split at h
    · simp at h
    · rename_i h2
      rw [if_neg h2]
      split at h
      · simp at h
      · rename_i h3
        rw [if_neg h3]
        split at h
        · simp at h
        · rename_i h4
          rw [if_neg h4]
          split at h
          · simp at h
          · rename_i h5
            rw [if_neg h5]
            simp only [List.length_drop, List.length_take]
            refine ⟨?_, ?_, ?_, ?_, ?_, ?_⟩ <;> omega
/-! ### records joined of fragments -/
/-- Is a record open, and what came of it; then: what comes of it, the whole, whether it is whole, the error. -/
def feedN (o : Bool) (bs : List UInt8) (k : Nat) (d : List UInt8) : (Bool × List UInt8) × List UInt8 × Bool × Int :=
  if (if o then k = 3 ∨ k = 4 else k = 1 ∨ k = 2) then
    if 512 < bs.length + d.length then ((false, []), [], false, 5)
    else if k = 1 ∨ k = 4 then ((false, []), bs ++ d, true, 0)
    else ((true, bs ++ d), [], false, 0)
  else ((false, []), [], false, 2)
/-! ### what stands at a place -/
/-- The fragment that is told at a place; how many bytes; 0: none. -/
def accN (e : Nat) (body : List UInt8) (ok : List Bool) (at_ : Nat) : (Nat × List UInt8) × Nat :=
  if 832 < at_ + 11 ∨ covN ok at_ (at_ + 11) = false then ((0, []), 0)
  else if (fdec ((body.drop at_).take (leftN at_)) (e % 4294967296)).2.2 ≠ 0 ∨ covN ok at_ (at_ + (fdec ((body.drop at_).take (leftN at_)) (e % 4294967296)).2.1) = false then ((0, []), 0)
  else ((fdec ((body.drop at_).take (leftN at_)) (e % 4294967296)).1, (fdec ((body.drop at_).take (leftN at_)) (e % 4294967296)).2.1)
theorem accN_ok {e : Nat} {body : List UInt8} {ok : List Bool} {at_ : Nat} (hb : body.length = 832) (ha : at_ ≤ 832) (h : (accN e body ok at_).2 ≠ 0) :
    11 ≤ (accN e body ok at_).2 ∧ at_ + (accN e body ok at_).2 ≤ 832 ∧ (accN e body ok at_).1.2.length + 11 = (accN e body ok at_).2 ∧ 1 ≤ (accN e body ok at_).1.1 ∧ (accN e body ok at_).1.1 ≤ 4 := by
  unfold accN at h ⊢
  split at h
  · simp at h
  · rename_i h1
    rw [if_neg h1]
    split at h
    · simp at h
    · rename_i h2
      rw [if_neg h2]
      simp only [ne_eq, not_or, Decidable.not_not] at h2
      obtain ⟨a1, a2, a3, a4, a5, a6⟩ := fdec_ok h2.1
      have hl := leftN_le ha
      rw [List.length_take, List.length_drop, hb] at a2
      refine ⟨a1, ?_, a4, a5, a6⟩
      show at_ + _ ≤ 832
      omega
end Go.Proofs.YtkjgjejkfjhcjaaDoor.Pl
namespace Go.Proofs.YtkjgjejkfjhcjaaDoor.Gw
open Go.RowKit
set_option linter.unusedVariables false
set_option linter.unusedSimpArgs false
/-- Here lies what is no row of cells. -/
def LpF (w : World) (g : Nat) (o : Obj) : Prop := w.heap[g]? = some o ∧ ∀ cs t fz, o ≠ .cells cs t fz
section
variable {w w' : World} {g h L D : Nat} {o : Obj}
theorem LpF.lt (hL : LpF w L o) : L < w.heap.size := (Array.getElem?_eq_some_iff.1 hL.1).1
theorem LpF.grown {row : Option Nat} (hL : LpF w L o) (hs : w.grownBy w' row) (hne : some L ≠ row) : LpF w' L o := ⟨(hs.block L hL.lt hne).trans hL.1, hL.2⟩
theorem LpF.gb (hL : LpF w L o) (hs : w.grownBy w' none) : LpF w' L o := hL.grown hs (by simp)
theorem Blk.lp {t : TypeId} {cs : List Value} (hb : Blk w g t cs) (hL : LpF w L o) (hs : w.grownBy w' (some L)) : Blk w' g t cs :=
  hb.grown hs (by rintro ⟨rfl⟩; exact hL.2 _ _ _ (Option.some.inj (hL.1.symm.trans hb)))
theorem Sli.lp {t lo hi : Nat} {A : Option Addr} {vs : List Value} (hS : Sli t lo hi w A vs) (hL : LpF w L o) (hs : w.grownBy w' (some L)) : Sli t lo hi w' A vs := by
  rcases hS with hS | ⟨g, off, c, fr, hA, h1, h2, ⟨t2, h3, ht⟩, h4⟩
  · exact .inl hS
  · refine .inr ⟨g, off, c, fr, hA, h1, h2, ⟨t2, (hs.block g (Array.getElem?_eq_some_iff.1 h3).1 ?_).trans h3, ht⟩, h4⟩
    rintro ⟨rfl⟩
    exact hL.2 _ _ _ (Option.some.inj (hL.1.symm.trans h3))
theorem ne_ty {t t' : TypeId} {cs cs' : List Value} (h1 : Blk w g t cs) (h2 : Blk w h t' cs') (hne : Nat.beq t t' = false) : some g ≠ some h := by
  rintro ⟨rfl⟩
  have e := Option.some.inj (h1.symm.trans h2)
  injection e with e1 e2
  rw [e2, Nat.beq_refl] at hne
  cases hne
end
section
variable {P : Program} {Q : Exit → Act → World → Prop} {w w' W : World} {n : Nat} {σ : Nat → Value} {ds : List Deferred} {l l' : Sl}
variable {g : Operand} {ps : Array Tmp} {asg body : Code} {gf fn : FuncId} {fs cs : List Value} {T : Array Value} {D L : Nat}
/-- What a piece of code comes to, said once. -/
theorem C_join {c : Code} {ro : Option Nat} {a : Act} (R : Act → World → Prop) (h1 : c.wpIn (wF ro) 0 P (fun e a w => e = .normal ∧ R a w) a w) (h2 : ∀ a w, R a w → Q .normal a w) : c.wpIn (wF ro) 0 P Q a w :=
  wpIn_mono (F := wF ro) h1 fun e a w he => by
    obtain ⟨rfl, h⟩ := he
    exact h2 _ _ h
theorem sli_zero {t lo hi : Nat} {A : Option Addr} {vs : List Value} (h : Sli t lo hi w A vs) : Sli t 0 w.heap.size w A vs := by
  rcases h with h | ⟨g, off, c, fr, hA, h1, h2, ⟨t2, h3, ht⟩, h4⟩
  · exact .inl h
  · exact .inr ⟨g, off, c, fr, hA, Nat.zero_le _, (Array.getElem?_eq_some_iff.1 h3).1, ⟨t2, h3, ht⟩, h4⟩
section
variable {R : Value → World → Prop} {a : Act} {id : Nat}
end
end
end Go.Proofs.YtkjgjejkfjhcjaaDoor.Gw
