/-
  Step lemmas, third part: operations on memory, slices, calls. They hold of every program.
-/
import Derived.Test.YtkjgjejkfjhcjaaDoorGv
namespace Go.Proofs.YtkjgjejkfjhcjaaDoor.Gw
open Go.RowKit
set_option linter.unusedVariables false
set_option linter.unusedSimpArgs false

/-! ### rows that are read -/
/-- The slice at A holds the cells vs, in a block (of element type t, or of whatever one where t is 0) that lies from lo on and below hi. -/
def Sli (t lo hi : Nat) (w : World) (A : Option Addr) (vs : List Value) : Prop :=
  vs = [] ∨ ∃ g off c fr, A = some ⟨g, off, none⟩ ∧ lo ≤ g ∧ g < hi ∧ (∃ t', w.heap[g]? = some (.cells c t' fr) ∧ (t = 0 ∨ t' = t)) ∧ ∀ j v, vs[j]? = some v → c[off + j]? = some v
/-- From this cell on stand these values. -/
def At (w : World) (g off : Nat) (vs : List Value) : Prop := ∀ j v, vs[j]? = some v → w.cell? ⟨g, off + j, none⟩ = some v
section
variable {t lo hi lo' hi' : Nat} {w w' : World} {A : Option Addr} {vs : List Value}
theorem Sli.nil : Sli t lo hi w A [] := .inl rfl
theorem Sli.grown {row : Option Nat} (h : Sli t lo hi w A vs) (hg : w.grownBy w' row) (hr : ∀ k, row = some k → k < lo ∨ hi ≤ k) : Sli t lo hi w' A vs := by
  rcases h with h | ⟨g, off, c, fr, hA, h1, h2, ⟨t', h3, ht⟩, h4⟩
  · exact .inl h
  · refine .inr ⟨g, off, c, fr, hA, h1, h2, ⟨t', (hg.block g (Array.getElem?_eq_some_iff.1 h3).1 (fun e => ?_)).trans h3, ht⟩, h4⟩
    have := hr g e.symm
    omega
theorem Sli.gb (h : Sli t lo hi w A vs) (hg : w.grownBy w' none) : Sli t lo hi w' A vs := h.grown hg (by simp)
theorem Sli.old {g' : Nat} (h : Sli t lo hi w A vs) (hg : w.grownBy w' (some g')) (hr : hi ≤ g') : Sli t lo hi w' A vs := h.grown hg (by rintro _ ⟨rfl⟩; exact .inr hr)
theorem Sli.wide (h : Sli t lo hi w A vs) (h1 : lo' ≤ lo) (h2 : hi ≤ hi') : Sli t lo' hi' w A vs := by
  rcases h with h | ⟨g, off, c, fr, hA, h3, h4, h5⟩
  · exact .inl h
  · exact .inr ⟨g, off, c, fr, hA, by omega, by omega, h5⟩
/-- Whatever bound was told, it lies below the heap's size. -/
theorem Sli.top (h : Sli t lo hi w A vs) : Sli t lo w.heap.size w A vs := by
  rcases h with h | ⟨g, off, c, fr, hA, h3, h4, ⟨t', h5, ht⟩, h6⟩
  · exact .inl h
  · exact .inr ⟨g, off, c, fr, hA, h3, (Array.getElem?_eq_some_iff.1 h5).1, ⟨t', h5, ht⟩, h6⟩
/-- A store into a block of another element type. -/
theorem Sli.other {g' t' : Nat} {cs : List Value} (h : Sli t lo hi w A vs) (hb : Blk w g' t' cs) (h0 : Nat.beq t 0 = false) (hne : Nat.beq t t' = false) (hg : w.grownBy w' (some g')) : Sli t lo hi w' A vs := by
  rcases h with h | ⟨g, off, c, fr, hA, h1, h2, ⟨t2, h3, ht⟩, h4⟩
  · exact .inl h
  · refine .inr ⟨g, off, c, fr, hA, h1, h2, ⟨t2, (hg.block g (Array.getElem?_eq_some_iff.1 h3).1 (fun e => ?_)).trans h3, ht⟩, h4⟩
    have e' : g = g' := by simpa using e
    subst e'
    unfold Blk at hb
    rw [hb] at h3
    injection h3 with h3
    injection h3 with _ ht'
    rcases ht with ht | ht
    · exact Nat.ne_of_beq_eq_false h0 ht
    · exact Nat.ne_of_beq_eq_false hne (ht.symm.trans ht'.symm)
/-- A write to a row of another element type. -/
theorem Sli.otherO {base t' sz m : Nat} {v : Value} {us : List Value} (h : Sli t lo hi w A vs) (ho : w.ownsRow base t' sz v m us) (h0 : Nat.beq t 0 = false) (hne : Nat.beq t t' = false) (hg : w.grownBy w' v.ownBlock) : Sli t lo hi w' A vs := by
  rcases h with h | ⟨g, off, c, fr, hA, h1, h2, ⟨t2, h3, ht⟩, h4⟩
  · exact .inl h
  · refine .inr ⟨g, off, c, fr, hA, h1, h2, ⟨t2, (hg.block g (Array.getElem?_eq_some_iff.1 h3).1 (fun e => ?_)).trans h3, ht⟩, h4⟩
    rcases ho.2 with ⟨rfl, _⟩ | ⟨g', cap, cur, rfl, _, hh, _⟩
    · simp [Value.ownBlock] at e
    · have e' : g = g' := by simpa [Value.ownBlock] using e
      subst e'
      rw [hh] at h3
      injection h3 with h3
      injection h3 with _ ht'
      rcases ht with ht | ht
      · exact Nat.ne_of_beq_eq_false h0 ht
      · exact Nat.ne_of_beq_eq_false hne (ht.symm.trans ht'.symm)
theorem Sli.at_ (h : Sli t lo hi w A vs) (i s : Nat) (hs : i + s ≤ vs.length) (hs0 : 0 < s) : ∃ g off, A = some ⟨g, off, none⟩ ∧ At w g (off + i) ((vs.drop i).take s) := by
  rcases h with h | ⟨g, off, c, fr, hA, h1, h2, ⟨t', h3, ht⟩, h4⟩
  · subst h; simp at hs; omega
  · refine ⟨g, off, hA, fun j v hj => ?_⟩
    rw [cell_of_row w g _ c t' fr h3]
    have hv : vs[i + j]? = some v := by
      rw [List.getElem?_take] at hj
      split at hj
      · simpa using hj
      · cases hj
    have := h4 (i + j) v hv
    rwa [show off + i + j = off + (i + j) by omega]
theorem Sli.part (h : Sli t lo hi w A vs) (i s : Nat) (A' : Option Addr) (hA' : ∀ g off, A = some ⟨g, off, none⟩ → 0 < s → A' = some ⟨g, off + i, none⟩) (hs : i + s ≤ vs.length) : Sli t lo hi w A' ((vs.drop i).take s) := by
  rcases Nat.eq_zero_or_pos s with h0 | h0
  · subst h0; exact .inl (by simp)
  rcases h with h | ⟨g, off, c, fr, hA, h1, h2, h3, h4⟩
  · subst h; simp at hs; omega
  · refine .inr ⟨g, off + i, c, fr, hA' g off hA h0, h1, h2, h3, fun j v hj => ?_⟩
    have hv : vs[i + j]? = some v := by
      rw [List.getElem?_take] at hj
      split at hj
      · simpa using hj
      · cases hj
    have := h4 (i + j) v hv
    rwa [show off + i + j = off + (i + j) by omega]
theorem At.gb {g off : Nat} {row : Option Nat} (h : At w g off vs) (hg : w.grownBy w' row) (hne : some g ≠ row) : At w' g off vs := fun j v hj => by
  have := h j v hj
  exact hg.cell (a := ⟨g, off + j, none⟩) this hne
theorem Blk.at_ {g : Nat} {cs : List Value} (h : Blk w g t cs) (o : Nat) : At w g o (cs.drop o) := fun j v hj => h.cell (by simpa using hj)
theorem Blk.sli {g m : Nat} {cs : List Value} (h : Blk w g t cs) : Sli t g (g + 1) w (some ⟨g, 0, none⟩) cs :=
  .inr ⟨g, 0, cs.toArray, (0, 0), rfl, Nat.le_refl _, Nat.lt_succ_self _, ⟨t, h, .inr rfl⟩, fun j v hj => by simpa using hj⟩
theorem Blk.own {g m sz : Nat} {cs : List Value} (h : Blk w g t cs) (hm : m ≤ maxLen) (hs : cs.length = m * sz) (hb : lo ≤ g) : w.ownsRow lo t sz (.slice (some ⟨g, 0, none⟩) m m) m cs :=
  ⟨hs, .inr ⟨g, m, cs.toArray, rfl, hb, h, Nat.le_refl _, hm, by simpa using hs, by simp [← hs]⟩⟩
theorem own_sli {n sz : Nat} {v : Value} (h : w.ownsRow lo t sz v n vs) : ∃ A c, v = .slice A n c ∧ n ≤ c ∧ c ≤ maxLen ∧ Sli t lo w.heap.size w A vs := by
  rcases h.2 with ⟨rfl, rfl⟩ | ⟨g, cap, cur, rfl, hb, hh, h1, h2, h3, h4⟩
  · exact ⟨none, 0, rfl, Nat.le_refl _, by simp [maxLen], .inl (List.eq_nil_of_length_eq_zero (by simpa using h.1))⟩
  · refine ⟨_, _, rfl, h1, h2, .inr ⟨g, 0, cur, (0, 0), rfl, hb, (Array.getElem?_eq_some_iff.1 hh).1, ⟨t, hh, .inr rfl⟩, fun j v hj => ?_⟩⟩
    rw [← h4, List.getElem?_take] at hj
    split at hj
    · simpa using hj
    · cases hj
theorem own_of {n sz : Nat} {A : Option Addr} {c : Nat} (h : w.ownsRow lo t sz (.slice A n c) n vs) : n ≤ c ∧ c ≤ maxLen ∧ Sli t lo w.heap.size w A vs := by
  obtain ⟨A', c', e, h1, h2, h3⟩ := own_sli h
  simp only [Value.slice.injEq] at e
  obtain ⟨rfl, _, rfl⟩ := e
  exact ⟨h1, h2, h3⟩
theorem own_gb {n sz : Nat} {v : Value} (h : w.ownsRow lo t sz v n vs) (hg : w.grownBy w' none) : w'.ownsRow lo t sz v n vs := h.kept hg (by cases v.ownBlock <;> simp)
theorem own_nil (lo t sz : Nat) (w : World) : w.ownsRow lo t sz (.slice none 0 0) 0 [] := World.ownsRow_nil w lo t sz
theorem own_lo {n sz : Nat} {v : Value} (h : w.ownsRow lo t sz v n vs) (hl : lo' ≤ lo) : w.ownsRow lo' t sz v n vs := by
  refine ⟨h.1, ?_⟩
  rcases h.2 with h | ⟨g, cap, cur, hv, hb, r⟩
  · exact .inl h
  · exact .inr ⟨g, cap, cur, hv, by omega, r⟩
theorem own_far {n sz : Nat} {v : Value} {row : Option Nat} (h : w.ownsRow lo t sz v n vs) (hg : w.grownBy w' row) (hr : ∀ k, row = some k → k < lo) : w'.ownsRow lo t sz v n vs := by
  refine h.kept hg ?_
  cases hv : v.ownBlock with
  | none => exact .inl rfl
  | some k =>
    refine .inr (fun e => ?_)
    have h1 := hr k e.symm
    have h2 := (h.lt k hv).1
    omega
/-- A store into a block of another element type. -/
theorem own_other {n sz g' t' : Nat} {v : Value} {cs : List Value} (h : w.ownsRow lo t sz v n vs) (hb : Blk w g' t' cs) (hne : Nat.beq t t' = false) (hg : w.grownBy w' (some g')) : w'.ownsRow lo t sz v n vs := by
  refine h.kept hg ?_
  rcases h.2 with ⟨rfl, _⟩ | ⟨g, cap, cur, rfl, _, hh, _⟩
  · exact .inl rfl
  · refine .inr fun e => ?_
    have e' : g = g' := by simpa [Value.ownBlock] using e
    subst e'
    unfold Blk at hb
    rw [hb] at hh
    injection hh with hh
    injection hh with _ ht
    exact Nat.ne_of_beq_eq_false hne ht.symm
theorem blk_own {g sz n : Nat} {t' : Nat} {v : Value} {cs : List Value} (hb : Blk w g t' cs) (h : w.ownsRow lo t sz v n vs) (hne : Nat.beq t t' = false) (hg : w.grownBy w' v.ownBlock) : Blk w' g t' cs := by
  refine hb.grown hg (fun e => ?_)
  rcases h.2 with ⟨rfl, _⟩ | ⟨g', cap, cur, rfl, _, hh, _⟩
  · simp [Value.ownBlock] at e
  · have e' : g = g' := by simpa [Value.ownBlock] using e
    subst e'
    unfold Blk at hb
    rw [hb] at hh
    injection hh with hh
    injection hh with _ ht
    exact Nat.ne_of_beq_eq_false hne ht.symm
/-- A block that lies below the row's base. -/
theorem blk_low {g sz n : Nat} {t' : Nat} {v : Value} {cs : List Value} (hb : Blk w g t' cs) (h : w.ownsRow lo t sz v n vs) (hl : g < lo) (hg : w.grownBy w' v.ownBlock) : Blk w' g t' cs :=
  hb.grown hg (fun e => by have := (h.lt g e.symm).1; omega)
end

/-- Bytes as cells. -/
def u8v (b : UInt8) : Value := .int .u8 (b.toNat : Int)
def byts (l : List UInt8) : List Value := l.map u8v
@[simp] theorem byts_len (l : List UInt8) : (byts l).length = l.length := by simp [byts]
@[simp] theorem byts_nil : byts [] = [] := rfl
@[simp] theorem byts_cons (b : UInt8) (l : List UInt8) : byts (b :: l) = u8v b :: byts l := rfl
@[simp] theorem byts_app (l m : List UInt8) : byts (l ++ m) = byts l ++ byts m := by simp [byts]
theorem byts_one (l : List UInt8) : ∀ u ∈ byts l, u.oneCell' = true := by
  intro u hu
  obtain ⟨b, _, rfl⟩ := List.mem_map.1 hu
  rfl
theorem byts_drop (l : List UInt8) (k : Nat) : (byts l).drop k = byts (l.drop k) := by simp [byts]
theorem byts_take (l : List UInt8) (k : Nat) : (byts l).take k = byts (l.take k) := by simp [byts]

section
variable {P : Program} {Q : Exit → Act → World → Prop} {w w' : World} {ops : Array Oper} {rest : List Oper}
variable {n : Nat} {σ : Nat → Value} {ds : List Deferred} {l : Sl} {d : Nat} {ty : TypeId} {pos : String} {af : Array Edge} {dst : Option Nat} {gd : Option (Nat × Bool)}

/-! ### new blocks -/
theorem blk_new (w : World) (t : Nat) (cs : List Value) : Blk (w.alloc (.cells cs.toArray t)) w.heap.size t cs := heap_alloc_new w _
theorem L_box {e : TypeId} {x : Operand} {v : Value} {cs : List Value} (hx : ev n l x = some v) (hc : v.cells = cs.toArray) (hn : Nat.blt d n = true)
    (K : ∀ g w', g = w.heap.size → Blk w' g e cs → w.grownBy w' none → w'.heap.size = g + 1 → wpL P ops Q rest (Ac n σ ds ((d, .pointer (some ⟨g, 0, none⟩)) :: l)) w') :
    wpL P ops Q (⟨some d, .box e x, ty, pos, af, none⟩ :: rest) (Ac n σ ds l) w := by
  refine L_run (w' := w.alloc (.cells cs.toArray e)) ?_ hn (K w.heap.size _ rfl (blk_new w e cs) (gb_alloc w _) (by simp))
  simp only [execOp, ev_eval hx]
  exact v_run (by simp [Instr.box, newVar, newRow, hc])
theorem L_alloc {e : TypeId} {z : Value} {cs : List Value} (hz : (P.info? e).bind (·.zero) = some z) (hc : z.cells = cs.toArray) (hn : Nat.blt d n = true)
    (K : ∀ g w', g = w.heap.size → Blk w' g e cs → w.grownBy w' none → w'.heap.size = g + 1 → wpL P ops Q rest (Ac n σ ds ((d, .pointer (some ⟨g, 0, none⟩)) :: l)) w') :
    wpL P ops Q (⟨some d, .alloc e, ty, pos, af, none⟩ :: rest) (Ac n σ ds l) w := by
  refine L_run (w' := w.alloc (.cells cs.toArray e)) ?_ hn (K w.heap.size _ rfl (blk_new w e cs) (gb_alloc w _) (by simp))
  obtain ⟨i, hi, hz'⟩ := Option.bind_eq_some_iff.1 hz
  simp only [execOp]
  exact v_run (by simp [Instr.alloc, zeroValue, typeInfo, hi, hz', newVar, newRow, hc])

/-! ### loads and stores -/
theorem run_loadCells' {g o : Nat} {vs : List Value} (h : At w g o vs) : (loadCells ⟨g, o, none⟩ vs.length).run P w = .ok vs.toArray w :=
  run_loadCells_list (w := w) ⟨g, o, none⟩ vs (fun j v hj => by rw [Addr.add_lit]; exact h j v hj)
theorem R_load1 {t : TypeId} {x : Operand} {g o : Nat} {v : Value} (hx : ev n l x = some (.pointer (some ⟨g, o, none⟩))) (ht : sclB P t = true) (hc : w.cell? ⟨g, o, none⟩ = some v) :
    (execOp (Ac n σ ds l).eval ⟨dst, .load t x, ty, pos, af, gd⟩).run P w = .ok (.value (v)) w := by
  simp only [execOp, ev_eval hx]
  refine v_run ?_
  simp [Instr.loadAt, Instr.sureAddr, loadVar, run_isAgg_no ht, load, Sem.run, hc]
theorem R_loadA {t : TypeId} {x : Operand} {g o sz : Nat} {vs : List Value} (hx : ev n l x = some (.pointer (some ⟨g, o, none⟩))) (ht : aggB P t sz = true) (hc : At w g o vs) (hs : vs.length = sz) :
    (execOp (Ac n σ ds l).eval ⟨dst, .load t x, ty, pos, af, gd⟩).run P w = .ok (.value (.agg vs.toArray)) w := by
  simp only [execOp, ev_eval hx]
  refine v_run ?_
  subst hs
  simp [Instr.loadAt, Instr.sureAddr, loadVar, run_isAgg_yes ht, run_sizeOf (aggB_sz ht), run_loadCells' hc]
theorem frozen_blk {g t i : Nat} {cs : List Value} (h : Blk w g t cs) : w.frozen? ⟨g, i, none⟩ = false := by
  unfold Blk at h; simp [World.frozen?, h]
/-- A store of one cell into a block that is known whole. -/
theorem L_st1 {t T : TypeId} {x y : Operand} {g i : Nat} {v : Value} {cs : List Value} (hx : ev n l x = some (.pointer (some ⟨g, i, none⟩))) (hy : ev n l y = some v) (hv : v.oneCell' = true) (hz : szB P t 1 = true)
    (hb : Blk w g T cs) (hi : Nat.blt i cs.length = true)
    (K : ∀ w', Blk w' g T (cs.set i v) → w.grownBy w' (some g) → w'.heap.size = w.heap.size → wpL P ops Q rest (Ac n σ ds l) w') :
    wpL P ops Q (⟨none, .store t x y, ty, pos, af, none⟩ :: rest) (Ac n σ ds l) w := by
  have hlt : i < cs.length := by simpa [Nat.blt_eq] using hi
  refine L_run0 (w' := w.setCell ⟨g, i, none⟩ v) ?_ (K _ (hb.set1 i v) (gb_set w g i v) (by simp [World.setCell]))
  have hc : v.cells = #[v] := by cases v <;> first | rfl | simp [Value.oneCell'] at hv
  simp only [execOp, ev_eval hx, ev_eval hy]
  refine u_run ?_
  have h1 : w.cell? ⟨g, i, none⟩ = some cs[i] := hb.cell (by simp [hlt])
  have hst := run_store P w ⟨g, i, none⟩ v .plain hv
  simp [Instr.storeAt, Instr.sureAddr, storeVar, hc, run_sizeOf hz, storeCells, Addr.add_zero', hst, h1, frozen_blk hb]
theorem L_stA {t T : TypeId} {x y : Operand} {g sz : Nat} {vs : List Value} {cs : List Value} (hx : ev n l x = some (.pointer (some ⟨g, 0, none⟩))) (hy : ev n l y = some (.agg vs.toArray)) (hv : vs.all (·.oneCell') = true) (hz : szB P t sz = true)
    (hs : vs.length = sz) (hb : Blk w g T cs) (hi : cs.length = sz)
    (K : ∀ w', Blk w' g T vs → w.grownBy w' (some g) → w'.heap.size = w.heap.size → wpL P ops Q rest (Ac n σ ds l) w') :
    wpL P ops Q (⟨none, .store t x y, ty, pos, af, none⟩ :: rest) (Ac n σ ds l) w := by
  have hone : ∀ v ∈ vs, v.oneCell' = true := fun v hv' => (List.all_eq_true.1 hv) v hv'
  have h := run_storeCells_at (P := P) g 0 T vs 0 cs.toArray w hb (by simp; omega) hone
  have hw : w.setRow g ((cs.toArray.toList.take (0 + 0)) ++ vs ++ cs.toArray.toList.drop (0 + 0 + vs.length)).toArray = w.setRow g vs.toArray := by
    congr 1
    simp [List.drop_eq_nil_of_le (by omega : cs.length ≤ vs.length)]
  rw [hw] at h
  refine L_run0 (w' := w.setRow g vs.toArray) ?_ (K _ (setRow_heap w g cs.toArray vs.toArray T (0, 0) hb) ⟨rfl, rfl, rfl, by simp, fun k _ hk => setRow_other w g k _ (fun e => hk (by simp [e]))⟩ (by simp))
  simp only [execOp, ev_eval hx, ev_eval hy]
  refine u_run ?_
  simp [Instr.storeAt, Instr.sureAddr, storeVar, Value.cells, run_sizeOf hz, hs, h]

/-- operands' values -/
def evL (n : Nat) (l : Sl) : List Operand → Option (List Value)
  | [] => some []
  | x :: r => match ev n l x, evL n l r with | some v, some vs => some (v :: vs) | _, _ => none
theorem evL_map {xs : List Operand} : ∀ {vs : List Value}, evL n l xs = some vs → xs.map (Ac n σ ds l).eval = vs := by
  induction xs with
  | nil => intro vs h; simp [evL] at h; subst h; rfl
  | cons x r ih =>
    intro vs h
    simp only [evL] at h
    split at h
    · rename_i v us hv hus
      obtain rfl : v :: us = vs := by simpa using h
      simp [ev_eval hv, ih hus]
    · cases h
def evP (n : Nat) (l : Sl) : List (Nat × Operand) → Option (List (Nat × Value))
  | [] => some []
  | (i, x) :: r => match ev n l x, evP n l r with | some v, some vs => some ((i, v) :: vs) | _, _ => none
theorem evP_map {xs : List (Nat × Operand)} : ∀ {vs : List (Nat × Value)}, evP n l xs = some vs → xs.toArray.map (fun (p : Nat × Operand) => (p.1, (Ac n σ ds l).eval p.2)) = vs.toArray := by
  induction xs with
  | nil => intro vs h; simp [evP] at h; subst h; simp
  | cons x r ih =>
    intro vs h
    obtain ⟨i, x⟩ := x
    simp only [evP] at h
    split at h
    · rename_i v us hv hus
      obtain rfl : (i, v) :: us = vs := by simpa using h
      have := congrArg Array.toList (ih hus)
      simp at this
      simp [ev_eval hv, this]
    · cases h

theorem R_makeFunc {fn : Fn} {f c : List Operand} {fs cs : List Value} (hf : evL n l f = some fs) (hc : evL n l c = some cs) :
    (execOp (Ac n σ ds l).eval ⟨dst, .makeFunc fn f.toArray c.toArray, ty, pos, af, gd⟩).run P w = .ok (.value (.func fn fs.toArray cs.toArray)) w := by
  have h1 := evL_map (σ := σ) (ds := ds) hf
  have h2 := evL_map (σ := σ) (ds := ds) hc
  simp [execOp, Instr.makeFunc, h1, h2]

/-! ### slices -/
theorem L_buildSlice {t e sz by_ m : Nat} {ps : List (Nat × Operand)} {pv : List (Nat × Value)} {z : Value} {cs : List Value} (hs : slcB P t e sz by_ = true) (hz : (P.info? e).bind (·.zero) = some z)
    (hp : evP n l ps = some pv) (hm : Nat.ble (m * sz) 16777216 = true)
    (hc : Instr.fill (fun i => some (i * sz, sz)) ((Array.range (m * sz)).map (z.cells[· % z.cells.size]!)) pv = some cs.toArray) (hn : Nat.blt d n = true)
    (K : ∀ g w', g = w.heap.size → Blk w' g e cs → w.grownBy w' none → w'.heap.size = g + 1 → wpL P ops Q rest (Ac n σ ds ((d, .slice (some ⟨g, 0, none⟩) m m) :: l)) w') :
    wpL P ops Q (⟨some d, .buildSlice t m ps.toArray, ty, pos, af, none⟩ :: rest) (Ac n σ ds l) w := by
  refine L_run (w' := w.alloc (.cells cs.toArray e)) ?_ hn (K w.heap.size _ rfl (blk_new w e cs) (gb_alloc w _) (by simp))
  obtain ⟨hu, i, z', hi, hz', h1, h2, h3, h4, h5⟩ := slcB_u hs
  obtain rfl : z' = z := by simpa [hi, hz'] using hz
  have hble : ¬ (2 ^ 24 < m * sz) := by have : m * sz ≤ 16777216 := by simpa using hm
                                        omega
  simp only [execOp]
  refine v_run ?_
  have hp' : (Array.map (fun (x : Nat × Operand) => match x with | (i, x) => (i, (Ac n σ ds l).eval x)) ps.toArray) = pv.toArray := evP_map (σ := σ) (ds := ds) hp
  rw [hp']
  by_cases h0 : m * sz = 0
  · have hf : Instr.fill (fun i => some (i * sz, sz)) ((Array.range (m * sz)).map ((#[] : Array Value)[· % (#[] : Array Value).size]!)) pv = some cs.toArray := by
      rw [h0] at hc ⊢
      have e0 : Array.range 0 = #[] := rfl
      rw [e0] at hc ⊢
      simpa using hc
    simp [Instr.buildSlice, run_underlying hu, sizeOf, typeInfo, hi, h1, hble, h0, newRow]
    simp [h0] at hf
    simp [hf]
  · simp [Instr.buildSlice, run_underlying hu, sizeOf, typeInfo, hi, h1, hble, h0, newRow, zeroValue, hz', hc]
theorem R_lenSl {t e sz by_ m c : Nat} {x : Operand} {A : Option Addr} (hx : ev n l x = some (.slice A m c)) (hs : slcB P t e sz by_ = true) :
    (execOp (Ac n σ ds l).eval ⟨dst, .call ⟨.builtin .len, #[x], #[t]⟩, ty, pos, af, gd⟩).run P w = .ok (.value (.int .i64 (m : Int))) w := by simp [execOp, resolve, invoke, builtin, ev_eval hx, Builtin.len_, run_underlying (slcB_u hs).1, goInt]
/-- append onto a row of the call's own. -/
theorem L_append {t e te sz by_ m c lo lo2 hi2 k : Nat} {s x : Operand} {v : Value} {A : Option Addr} {vs news : List Value} (hs : slcB P t e sz by_ = true) (hv : ev n l s = some v) (hx : ev n l x = some (.slice A m c))
    (ho : w.ownsRow lo e sz v k vs) (hr : Sli te lo2 hi2 w A news) (hm : news.length = m * sz) (h1 : ∀ u ∈ news, u.oneCell' = true) (hb : (k + m) * by_ ≤ 140737488355328) (hlo : lo ≤ w.heap.size) (hn : Nat.blt d n = true)
    (K : ∀ A' c' w', w'.ownsRow lo e sz (.slice A' (k + m) c') (k + m) (vs ++ news) → w.grownBy w' v.ownBlock → ((Value.slice A' (k + m) c').ownBlock = v.ownBlock ∨ (Value.slice A' (k + m) c').ownBlock = some w.heap.size) →
      wpL P ops Q rest (Ac n σ ds ((d, .slice A' (k + m) c') :: l)) w') :
    wpL P ops Q (⟨some d, .call ⟨.builtin .append, #[s, x], #[t, t]⟩, ty, pos, af, none⟩ :: rest) (Ac n σ ds l) w := by
  obtain ⟨hu, i, z, hi, hz, e1, e2, e3, e4, e5⟩ := slcB_u hs
  have h63 : k + m ≤ maxLen := by
    have : (k + m) * 1 ≤ (k + m) * by_ := Nat.mul_le_mul_left _ e5
    simp only [maxLen]; omega
  have go : ∃ v' w', (Builtin.append_ #[t, t] ty #[v, .slice A m c]).run P w = .ok v' w' ∧ w'.ownsRow lo e sz v' (k + m) (vs ++ news) ∧ w.grownBy w' v.ownBlock ∧ (v'.ownBlock = v.ownBlock ∨ v'.ownBlock = some w.heap.size) := by
    rcases hr with hr | ⟨g, off, cc, fr, rfl, _, _, ⟨te', h3, _⟩, h4⟩
    · subst hr
      have hm0 : m = 0 := by
        rcases Nat.eq_zero_or_pos m with h | h
        · exact h
        · have : 0 < m * sz := Nat.mul_pos h e4
          simp at hm; omega
      subst hm0
      refine ⟨v, w, ?_, by simpa using ho, World.grownBy.refl w _, .inl rfl⟩
      have hfc : ∀ W : World, (Builtin.firstCells sz 0 (.slice A 0 c)).run P W = .ok #[] W := by
        intro W; cases A <;> simp [Builtin.firstCells, loadCells, loadCellsFrom]
      rcases ho.2 with ⟨rfl, rfl⟩ | ⟨g, cap, cur, rfl, _, _, hnc, _⟩
      · simp [Builtin.append_, run_underlying hu, sizeOf, typeInfo, hi, e1, Builtin.lenOf, hfc]
      · simp [Builtin.append_, run_underlying hu, sizeOf, typeInfo, hi, e1, Builtin.lenOf, hfc, hnc, storeCells]
    · obtain ⟨v', w', a1, a2, a3, _, a5⟩ := run_append_own_at (P := P) w lo t ty e i z sz by_ hu hi hz e1 e2 e3 e4 v k vs ho ⟨g, off, none⟩ m c news hm
        (fun j u hj => by rw [Addr.add_lit, cell_of_row w g _ cc te' fr h3]; exact h4 j u hj) h1 h63 hb hlo
      exact ⟨v', w', a1, a2, a3, a5⟩
  obtain ⟨v', w', hrun, hown, hg, hat⟩ := go
  obtain ⟨A', c', rfl, _, _, _⟩ := own_sli hown
  refine L_run ?_ hn (K A' c' w' hown hg hat)
  simp [execOp, resolve, invoke, builtin, ev_eval hv, ev_eval hx, hrun]
def callB (P : Program) (f : FuncId) : Bool := match P.funcs[f]? with | some fn => !(fn.name == "runtime.NumGoroutine") && fn.body.isSome | none => false
theorem run_callFunc {f : FuncId} {args : Array Value} (h : callB P f = true) : (callFunc f args).run P w = .ok (.enter f args) w := by
  unfold callB at h
  split at h
  · rename_i fn hf
    simp only [Bool.and_eq_true, Bool.not_eq_true'] at h
    have hb : fn.body.isNone = false := by rw [Option.isNone_eq_false_iff]; exact h.2
    have hs : (Sem.run P program w) = .ok P w := rfl
    simp only [callFunc, Sem.run_bind, hs, Result.andThen_ok, hf, h.1, hb, Bool.false_eq_true, if_false, Sem.run_pure]
  · cases h
theorem L_enter {op : Op} {f : FuncId} {vals : Array Value} {R : Value → World → Prop} (hr : (execOp (Ac n σ ds l).eval ⟨some d, op, ty, pos, af, none⟩).run P w = .ok (.enter f vals) w)
    (h : Runs P f vals w R) (hn : Nat.blt d n = true) (K : ∀ v w', R v w' → wpL P ops Q rest (Ac n σ ds ((d, v) :: l)) w') :
    wpL P ops Q (⟨some d, op, ty, pos, af, none⟩ :: rest) (Ac n σ ds l) w := by
  unfold wpL
  rw [if_pos (by simp [Region.wanted])]
  left
  unfold Oper.wp
  rw [hr]
  simp only [Oper.upon]
  refine Calls.mono h fun e w' he => ?_
  cases e with
  | returned v => simp only []; rw [Ac_put hn]; exact K v w' he
  | panicked c => exact he.elim
  | outgrown => exact he.elim
theorem L_call {f : FuncId} {xs : List Operand} {ts : Array TypeId} {vals : List Value} {R : Value → World → Prop} (hv : evL n l xs = some vals) (hf : callB P f = true) (h : Runs P f vals.toArray w R) (hn : Nat.blt d n = true)
    (K : ∀ v w', R v w' → wpL P ops Q rest (Ac n σ ds ((d, v) :: l)) w') : wpL P ops Q (⟨some d, .call ⟨.value (.func f), xs.toArray, ts⟩, ty, pos, af, none⟩ :: rest) (Ac n σ ds l) w := by
  refine L_enter ?_ h hn K
  have hm := evL_map (σ := σ) (ds := ds) hv
  simp [execOp, resolve, Deferred.ofValue, invoke, Act.eval, run_callFunc hf, ← hm]
/-- a call of a function value -/
theorem L_callV {f : FuncId} {x : Operand} {xs : List Operand} {ts : Array TypeId} {vals first cap : List Value} {R : Value → World → Prop} (hx : ev n l x = some (.func (.func f) first.toArray cap.toArray)) (hv : evL n l xs = some vals)
    (hf : callB P f = true) (h : Runs P f (first ++ vals ++ cap).toArray w R) (hn : Nat.blt d n = true)
    (K : ∀ v w', R v w' → wpL P ops Q rest (Ac n σ ds ((d, v) :: l)) w') : wpL P ops Q (⟨some d, .call ⟨.value x, xs.toArray, ts⟩, ty, pos, af, none⟩ :: rest) (Ac n σ ds l) w := by
  refine L_enter ?_ h hn K
  have hm := evL_map (σ := σ) (ds := ds) hv
  simp [execOp, resolve, Deferred.ofValue, invoke, ev_eval hx, run_callFunc hf, ← hm]
end
end Go.Proofs.YtkjgjejkfjhcjaaDoor.Gw
