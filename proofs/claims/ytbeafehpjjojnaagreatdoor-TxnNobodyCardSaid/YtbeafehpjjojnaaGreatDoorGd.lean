/-
  Step lemmas, fifth part: a region whose operations may come in more than one order. They hold of every program.
-/
import Derived.Test.YtbeafehpjjojnaaGreatDoorGn
import Derived.OrdersHeld
import Derived.Deep.RegionHeld3
namespace Go.Proofs.YtbeafehpjjojnaaGreatDoor.Gw
open Go.RowKit
set_option linter.unusedVariables false
set_option linter.unusedSimpArgs false
section
variable {P : Program} {ops : Array Oper} {Q : Exit → Act → World → Prop} {md : Region.Mode} {S : World → Prop} {qs : List Nat}
/-- Operation j need not wait for all of qs. -/
def NeedB (md : Region.Mode) (ops : Array Oper) (qs : List Nat) (j : Nat) : Bool :=
  match ops[j]? with
  | some o => qs.any fun q => !(o.after.any fun e => Region.binds md e && e.on == q)
  | none => true
theorem need_of {i j : Nat} {oj : Oper} (hq : i ∈ qs) (hj : ops[j]? = some oj) (hno : ∀ e ∈ oj.after, Region.binds md e = true → e.on ≠ i) : NeedB md ops qs j = true := by
  simp only [NeedB, hj]
  refine List.any_eq_true.2 ⟨i, hq, ?_⟩
  rw [Bool.not_eq_true', Array.any_eq_false']
  intro e he hb
  simp only [Bool.and_eq_true, beq_iff_eq] at hb
  exact hno e he hb.1 hb.2
/-- Whatever order is picked; behind each that need not wait for all of 'qs', S holds. -/
def wpAnyT (P : Program) (md : Region.Mode) (ops : Array Oper) (Q : Exit → Act → World → Prop) (S : World → Prop) (qs : List Nat) : Nat → Array Bool → Act → World → Prop
  | 0, listed, a, w => Region.ready md ops listed = [] ∧ Q .normal a w
  | fuel + 1, listed, a, w =>
    (Region.ready md ops listed = [] → Q .normal a w) ∧
    ∀ i ∈ Region.ready md ops listed, wpOp P ops Q i (fun a' w' => (NeedB md ops qs i = true → S w') ∧ wpAnyT P md ops Q S qs fuel (listed.setIfInBounds i true) a' w') a w
theorem wpAny_of_T : ∀ (fuel : Nat) (listed : Array Bool) (a : Act) (w : World), wpAnyT P md ops Q S qs fuel listed a w → wpAny P md ops Q fuel listed a w
  | 0, _, _, _, h => h
  | fuel + 1, _, _, _, h => ⟨h.1, fun i hi => wpOp_mono (fun a' w' h' => wpAny_of_T fuel _ a' w' h'.2) (h.2 i hi)⟩
theorem T_first {i : Nat} {oi : Oper} {v : Value} (hq : i ∈ qs) (hi : ops[i]? = some oi) (hsel : ∀ (j : Nat) (o : Oper) cs b, ops[j]? = some o → o.op ≠ .select cs b)
    (hQ : ∀ c a w, Q (.panic c) (a.put oi.dst v) w → Q (.panic c) a w) :
    ∀ (fuel : Nat) (listed : Array Bool) (a : Act) (w : World),
      (∀ j oj, ops[j]? = some oj → j ≠ i → listed.getD j true = false → (∀ e ∈ oj.after, Region.binds md e = true → e.on ≠ i) → oi.apart ops oj = true) →
      i ∈ Region.ready md ops listed → YieldsIf P ops S oi v a → S w →
      wpAnyT P md ops Q S qs fuel (listed.setIfInBounds i true) (a.put oi.dst v) w → wpAnyT P md ops Q S qs (fuel + 1) listed a w := by
  intro fuel
  induction fuel with
  | zero =>
    intro listed a w _ hr hy hS H
    refine ⟨fun h => (by rw [h] at hr; cases hr), fun j hj => ?_⟩
    by_cases hji : j = i
    · subst hji; exact hy.wpOp hi hS ⟨fun _ => hS, H⟩
    · have := ready_mono hj hji
      rw [H.1] at this
      cases this
  | succ fuel ih =>
    intro listed a w hfree hr hy hS H
    refine ⟨fun h => (by rw [h] at hr; cases hr), fun j hj => ?_⟩
    by_cases hji : j = i
    · subst hji; exact hy.wpOp hi hS ⟨fun _ => hS, H⟩
    · have h1 := H.2 j (ready_mono hj hji)
      obtain ⟨hjun, oj, hoj, hall⟩ := mem_ready.1 hj
      have hiun : listed.getD i true = false := (mem_ready.1 hr).1
      have hnot : ∀ e ∈ oj.after, Region.binds md e = true → e.on ≠ i := fun e he hb heq => by
        have h1 := hall e he hb
        rw [heq] at h1
        rcases Nat.lt_or_ge i listed.size with h' | h'
        · simp [h'] at hiun h1; rw [hiun] at h1; cases h1
        · simp [Array.getElem?_eq_none h'] at h1
      have h2 := wpOp_putIf hoj (hfree j oj hoj hji hjun hnot) (fun cs b => hsel i oi cs b hi) (fun cs b => hsel j oj cs b hoj) hQ hy h1
      have hfree' : ∀ k ok, ops[k]? = some ok → k ≠ i → (listed.setIfInBounds j true).getD k true = false →
          (∀ e ∈ ok.after, Region.binds md e = true → e.on ≠ i) → oi.apart ops ok = true := fun k ok hk hki hun hno => by
        refine hfree k ok hk hki ?_ hno
        by_cases hjk : j = k
        · subst hjk; exact hjun
        · rw [getD_set_ne true hjk] at hun; exact hun
      have hneed := need_of hq hoj hnot
      refine wpOp_mono (fun a' w' h3 => ⟨h3.2.1, ih (listed.setIfInBounds j true) a' w' hfree' (ready_mono hr (Ne.symm hji)) h3.1 (h3.2.1 hneed) ?_⟩) h2
      rw [Array.setIfInBounds_comm _ _ hji]
      exact h3.2.2
theorem T_take {i : Nat} {oi : Oper} {v : Value} {fuel : Nat} {listed : Array Bool} {a : Act} {w : World} (hi : ops[i]? = some oi) (hq : qs.contains i = true)
    (hs : Region.noSelect ops = true) (hf : Region.free md ops listed i = true) (hr : (Region.ready md ops listed).contains i = true)
    (hy : YieldsIf P ops S oi v a) (hS : S w)
    (h : wpAnyT P md ops (NoPanic Q) S qs fuel (listed.setIfInBounds i true) (a.put oi.dst v) w) : wpAnyT P md ops (NoPanic Q) S qs (fuel + 1) listed a w :=
  T_first (by simpa using hq) hi (Region.noSelect_spec hs) (fun _ _ _ h => h) fuel listed a w (Region.free_spec hi hf) (by simpa using hr) hy hS h
/-- Whichever of those that may come up comes up. -/
theorem T_all {rs : List Nat} {fuel : Nat} {listed : Array Bool} {a : Act} {w : World} (hr : Region.ready md ops listed = rs) (hne : rs.isEmpty = false)
    (h : ∀ i ∈ rs, wpOp P ops Q i (fun a' w' => (NeedB md ops qs i = true → S w') ∧ wpAnyT P md ops Q S qs fuel (listed.setIfInBounds i true) a' w') a w) : wpAnyT P md ops Q S qs (fuel + 1) listed a w :=
  ⟨fun h0 => (by rw [hr] at h0; subst h0; cases hne), hr ▸ h⟩
theorem T_done {fuel : Nat} {listed : Array Bool} {a : Act} {w : World} (hr : Region.ready md ops listed = []) (h : Q .normal a w) : wpAnyT P md ops Q S qs fuel listed a w := by
  cases fuel with
  | zero => exact ⟨hr, h⟩
  | succ fuel => exact ⟨fun _ => h, fun i hi => by rw [hr] at hi; cases hi⟩
/-- No operation that is left asks for S. -/
theorem T_switch {S' : World → Prop} {qs' : List Nat} : ∀ {fuel : Nat} {listed : Array Bool} {a : Act} {w : World},
    (List.range ops.size).all (fun j => listed.getD j true || !NeedB md ops qs j) = true →
    wpAnyT P md ops Q S' qs' fuel listed a w → wpAnyT P md ops Q S qs fuel listed a w := by
  intro fuel
  induction fuel with
  | zero => intro listed a w _ h; exact h
  | succ fuel ih =>
    intro listed a w hall h
    refine ⟨h.1, fun i hi => wpOp_mono (fun a' w' h' => ⟨fun hn => ?_, ih ?_ h'.2⟩) (h.2 i hi)⟩
    · obtain ⟨hun, o, ho, _⟩ := mem_ready.1 hi
      have hlt : i < ops.size := (Array.getElem?_eq_some_iff.1 ho).1
      have := List.all_eq_true.1 hall i (by simpa using hlt)
      rw [hun, hn] at this
      cases this
    · refine List.all_eq_true.2 fun j hj => ?_
      have := List.all_eq_true.1 hall j hj
      by_cases hij : i = j
      · subst hij
        obtain ⟨hun, o, ho, _⟩ := mem_ready.1 hi
        rcases Nat.lt_or_ge i listed.size with h' | h'
        · simp [h']
        · simp [h']
      · rw [getD_set_ne true hij]; exact this
/-- A region that draws its order, shown not to panic. -/
theorem C_draw {id : Nat} {os : List Oper} {a : Act} {w : World} (hm : P.follows .mixedOrders = true)
    (h : ∀ w', w'.heap = w.heap → w.grownBy w' none → wpAnyT P .any os.toArray (NoPanic Q) S qs os.length (Array.replicate os.length false) a w') : (Code.region id os.toArray true).wp P Q a w :=
  wp_region_noPanic (wp_region_any hm (by
    have := wpAny_of_T _ _ _ _ (h { w with drawn := w.drawn + 1 } rfl ⟨rfl, rfl, rfl, Nat.le_refl _, fun _ _ _ => rfl⟩)
    simpa using this))
/-- One operation, by the laws for a list. -/
theorem O_one {i : Nat} {o : Oper} {K : Act → World → Prop} {a : Act} {w : World} (hi : ops[i]? = some o) (h : wpList P ops (Exit.then K Q) [o] a w) : wpOp P ops Q i K a w := by
  unfold wpOp
  simp only [hi]
  simp only [wpList] at h
  split
  · rename_i hw
    rw [if_pos hw] at h
    rcases h with h | h
    · left
      unfold Oper.wp at *
      generalize (execOp a.eval o).run P w = r at *
      cases r with
      | ok n w' =>
        cases n <;> simp only [Oper.upon] at h ⊢
        all_goals first | exact h | skip
      | halt x w' => cases x <;> simp only [Oper.upon] at h ⊢ <;> exact h
    · obtain ⟨h1, a, w, h2⟩ := h
      exact .inr ⟨h1, a, w, h2⟩
  · rename_i hw
    rw [if_neg hw] at h
    exact h
/-- An operation without a guard that leaves the world as it is. -/
theorem Y_of {n : Nat} {σ : Nat → Value} {ds : List Deferred} {l : Sl} {dst : Option Nat} {op : Op} {ty : TypeId} {pos : String} {af : Array Edge} {v : Value}
    (h : ∀ w, S w → (execOp (Ac n σ ds l).eval ⟨dst, op, ty, pos, af, none⟩).run P w = .ok (.value v) w) : YieldsIf P ops S ⟨dst, op, ty, pos, af, none⟩ v (Ac n σ ds l) :=
  .inl ⟨by simp [Region.wanted], h⟩
theorem yld {n : Nat} {σ : Nat → Value} {ds : List Deferred} {l : Sl} {j t : Nat} {oj : Oper} {b : Bool} (hj : ops[j]? = some oj) (ht : oj.dst = some t) (hv : ev n l (.tmp t) = some (.bool b)) :
    yielded ops (Ac n σ ds l).tmps j = some b := by
  simp only [yielded, hj, Option.bind_some, ht]
  have h1 := eval_tmp (σ := σ) hv
  have hlt : t < n := by
    simp only [ev] at hv
    cases hx : Nat.blt t n with
    | false => rw [hx] at hv; cases hv
    | true => simpa [Nat.blt_eq] using hx
  have h2 : (fr n σ l)[t]? = some (.bool b) := by
    rw [← h1]; simp [Array.getD, fr, hlt]
  simp [Ac, h2]
theorem Y_yes {n : Nat} {σ : Nat → Value} {ds : List Deferred} {l : Sl} {dst : Option Nat} {op : Op} {ty : TypeId} {pos : String} {af : Array Edge} {v : Value} {j t : Nat} {want : Bool} {oj : Oper} {b : Bool}
    (hj : ops[j]? = some oj) (ht : oj.dst = some t) (hv : ev n l (.tmp t) = some (.bool b)) (hb : b = want)
    (h : ∀ w, S w → (execOp (Ac n σ ds l).eval ⟨dst, op, ty, pos, af, some (j, want)⟩).run P w = .ok (.value v) w) : YieldsIf P ops S ⟨dst, op, ty, pos, af, some (j, want)⟩ v (Ac n σ ds l) :=
  .inl ⟨by simp [Region.wanted, yld (σ := σ) (ds := ds) hj ht hv, hb], h⟩
theorem Y_no {n : Nat} {σ : Nat → Value} {ds : List Deferred} {l : Sl} {dst : Option Nat} {op : Op} {ty : TypeId} {pos : String} {af : Array Edge} {j t : Nat} {want : Bool} {oj : Oper} {b : Bool}
    (hj : ops[j]? = some oj) (ht : oj.dst = some t) (hv : ev n l (.tmp t) = some (.bool b)) (hb : b = !want) : YieldsIf P ops S ⟨dst, op, ty, pos, af, some (j, want)⟩ undef (Ac n σ ds l) :=
  .inr ⟨by simp [Region.wanted, yld (σ := σ) (ds := ds) hj ht hv, hb], rfl⟩
/-- These blocks are as they were. -/
def Same (w0 : World) (bs : List Nat) (w : World) : Prop := w0.heap.size ≤ w.heap.size ∧ ∀ b ∈ bs, b < w0.heap.size ∧ w.heap[b]? = w0.heap[b]?
theorem Same.refl {w : World} {bs : List Nat} (h : ∀ b ∈ bs, b < w.heap.size) : Same w bs w := ⟨Nat.le_refl _, fun b hb => ⟨h b hb, rfl⟩⟩
theorem Same.step {w0 w w' : World} {bs : List Nat} {row : Option Nat} (h : Same w0 bs w) (hg : w.grownBy w' row) (hr : ∀ b ∈ bs, some b ≠ row) : Same w0 bs w' :=
  ⟨Nat.le_trans h.1 hg.size, fun b hb => ⟨(h.2 b hb).1, (hg.block b (Nat.lt_of_lt_of_le (h.2 b hb).1 h.1) (hr b hb)).trans (h.2 b hb).2⟩⟩
theorem Same.gb {w0 w w' : World} {bs : List Nat} (h : Same w0 bs w) (hg : w.grownBy w' none) : Same w0 bs w' := h.step hg (fun _ _ e => by cases e)
theorem Same.cell {w0 w : World} {bs : List Nat} {g o : Nat} {v : Value} (h : Same w0 bs w) (hb : g ∈ bs) (hc : w0.cell? ⟨g, o, none⟩ = some v) : w.cell? ⟨g, o, none⟩ = some v :=
  (World.cell?_of_block (a := ⟨g, o, none⟩) (h.2 g hb).2).trans hc
theorem Same.at_ {w0 w : World} {bs : List Nat} {g o : Nat} {vs : List Value} (h : Same w0 bs w) (hb : g ∈ bs) (hc : At w0 g o vs) : At w g o vs := fun j v hj => h.cell hb (hc j v hj)
end
end Go.Proofs.YtbeafehpjjojnaaGreatDoor.Gw
