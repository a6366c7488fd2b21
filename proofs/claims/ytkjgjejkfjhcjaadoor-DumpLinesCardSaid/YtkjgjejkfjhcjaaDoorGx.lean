/-
  Step lemmas, sixth part: small words for the printed walks. They hold of every program.
-/
import Derived.Test.YtkjgjejkfjhcjaaDoorGd
namespace Go.Proofs.YtkjgjejkfjhcjaaDoor.Gw
open Go.RowKit
set_option linter.unusedVariables false
set_option linter.unusedSimpArgs false
section
variable {ro : Option Nat} {P : Program} {Q : Exit → Act → World → Prop} {w w' w0 : World} {ops : Array Oper} {rest : List Oper} {a : Act}
variable {n : Nat} {σ : Nat → Value} {ds : List Deferred} {l : Sl} {d : Nat} {ty : TypeId} {pos : String} {af : Array Edge} {dst : Option Nat} {gd : Option (Nat × Bool)}
theorem C_if {c : Operand} {x y : Code} {p : Prop} [Decidable p] (hc : ev n l c = some (.bool (decide p))) (ht : p → x.wpIn (wF ro) 0 P Q (Ac n σ ds l) w) (hf : ¬ p → y.wpIn (wF ro) 0 P Q (Ac n σ ds l) w) :
    (Code.cond c x y).wpIn (wF ro) 0 P Q (Ac n σ ds l) w := C_cond hc (fun h => ht (of_decide_eq_true h)) (fun h => hf (of_decide_eq_false h))
theorem C_ifN {c : Operand} {x y : Code} {p : Prop} [Decidable p] (hc : ev n l c = some (.bool (decide (¬ p)))) (ht : ¬ p → x.wpIn (wF ro) 0 P Q (Ac n σ ds l) w) (hf : p → y.wpIn (wF ro) 0 P Q (Ac n σ ds l) w) :
    (Code.cond c x y).wpIn (wF ro) 0 P Q (Ac n σ ds l) w := C_cond hc (fun h => ht (of_decide_eq_true h)) (fun h => hf (Decidable.not_not.1 (of_decide_eq_false h)))
theorem L_splitN {p : Prop} [Decidable p] {os : List Oper} (ht : ¬ p → wpL P ops Q os a w) (hf : p → wpL P ops Q os a w) : wpL P ops Q os a w := by
  by_cases h : p
  · exact hf h
  · exact ht h
theorem L_splitD {p : Prop} [Decidable p] {os : List Oper} (ht : p → wpL P ops Q os a w) (hf : ¬ p → wpL P ops Q os a w) : wpL P ops Q os a w := by
  by_cases h : p
  · exact ht h
  · exact hf h
theorem gb_newg {g : Nat} (h : w0.grownBy w none) (k : w.grownBy w' (some g)) (hg : w0.heap.size ≤ g) : w0.grownBy w' none := gb_new h k (by rintro _ ⟨rfl⟩; exact hg)
theorem gb_newo {lo t sz m : Nat} {v : Value} {vs : List Value} (h : w0.grownBy w none) (ho : w.ownsRow lo t sz v m vs) (k : w.grownBy w' v.ownBlock) (hg : w0.heap.size ≤ lo) : w0.grownBy w' none :=
  gb_new h k (fun g e => by have := (ho.lt g e).1; omega)
theorem gb_tr {row : Option Nat} (h : w0.grownBy w row) (k : w.grownBy w' none) : w0.grownBy w' row :=
  ⟨k.os.trans h.os, k.tape.trans h.tape, k.output.trans h.output, Nat.le_trans h.size k.size, fun i hi hne => (k.block i (Nat.lt_of_lt_of_le hi h.size) (by simp)).trans (h.block i hi hne)⟩
theorem gb_trg {g : Nat} {row : Option Nat} (h : w0.grownBy w row) (k : w.grownBy w' (some g)) (hg : w0.heap.size ≤ g) : w0.grownBy w' row :=
  ⟨k.os.trans h.os, k.tape.trans h.tape, k.output.trans h.output, Nat.le_trans h.size k.size, fun i hi hne => (k.block i (Nat.lt_of_lt_of_le hi h.size) (by intro e; injection e; omega)).trans (h.block i hi hne)⟩
theorem gb_tro {lo t sz m : Nat} {v : Value} {vs : List Value} {row : Option Nat} (h : w0.grownBy w row) (ho : w.ownsRow lo t sz v m vs) (k : w.grownBy w' v.ownBlock) (hg : w0.heap.size ≤ lo) : w0.grownBy w' row :=
  ⟨k.os.trans h.os, k.tape.trans h.tape, k.output.trans h.output, Nat.le_trans h.size k.size, fun i hi hne => (k.block i (Nat.lt_of_lt_of_le hi h.size) (by intro e; have := (ho.lt i e.symm).1; omega)).trans (h.block i hi hne)⟩
theorem eg_ge {g : Nat} {row : Option Nat} (h : w0.grownBy w row) (e : g = w.heap.size) : w0.heap.size ≤ g := by have := h.size; omega
theorem lt_of_eg {g g' : Nat} (h : g < w.heap.size) (e : g' = w.heap.size) : g < g' := by omega
theorem ne_lt {g g' : Nat} (h : g < g') : some g ≠ some g' := by intro e; injection e; omega
theorem ne_gt {g g' : Nat} (h : g' < g) : some g ≠ some g' := by intro e; injection e; omega
theorem At.pre {g o : Nat} {vs us : List Value} (h : At w g o us) (e : us.take vs.length = vs) : At w g o vs := fun j v hj => h j v (by
  rw [← e, List.getElem?_take] at hj
  split at hj
  · exact hj
  · cases hj)
theorem At.part {w : World} {g o k : Nat} {us vs : List Value} (h : At w g o us) (e : (us.drop k).take vs.length = vs) : At w g (o + k) vs := fun j v hj => by
  rw [Nat.add_assoc]
  refine h (k + j) v ?_
  rw [← e, List.getElem?_take] at hj
  split at hj
  · rwa [List.getElem?_drop] at hj
  · cases hj
theorem Blk.sli0 {w : World} {g : Nat} {t : TypeId} {cs : List Value} (h : Blk w g t cs) : Sli 0 0 w.heap.size w (some ⟨g, 0, none⟩) cs :=
  .inr ⟨g, 0, cs.toArray, (0, 0), rfl, Nat.zero_le _, h.lt, ⟨t, h, .inl rfl⟩, fun j v hj => by simpa using hj⟩
theorem agr {t : Nat} {v v' : Value} (h : lk l t = some v) (e : v = v') : lk l t = some v' := e ▸ h
theorem R_conv' {s t2 : Nat} {x : Operand} {k k2 : IntKind} {a b : Int} (hx : ev n l x = some (.int k a)) (hs : anyB P s = true) (ht : intB P t2 k2 = true) (hb : k2.wrap a = b) :
    (execOp (Ac n σ ds l).eval ⟨dst, .convert s t2 x, ty, pos, af, gd⟩).run P w = .ok (.value (.int k2 b)) w := hb ▸ R_conv hx hs ht
theorem R_convS {t t2 : Nat} {x : Operand} {s : ByteArray} (hx : ev n l x = some (.string s)) (hs : strB P t = true) (ht : strB P t2 = true) :
    (execOp (Ac n σ ds l).eval ⟨dst, .convert t t2 x, ty, pos, af, gd⟩).run P w = .ok (.value (.string s)) w := by
  simp only [execOp, ev_eval hx]
  exact v_run (by simp [convert, run_underlying (strB_u hs), run_underlying (strB_u ht)])
theorem own_type_ne' {b b' e e' s s' n n' : Nat} {v v' : Value} {xs xs' : List Value} (h : w.ownsRow b e s v n xs) (h' : w.ownsRow b' e' s' v' n' xs') (hne : Nat.beq e e' = false) : v.ownBlock = none ∨ v.ownBlock ≠ v'.ownBlock := by
  rcases h.2 with ⟨rfl, _⟩ | ⟨g, cap, cur, rfl, _, hh, _⟩
  · exact .inl rfl
  · refine .inr fun hk => ?_
    rcases h'.2 with ⟨rfl, _⟩ | ⟨g', cap', cur', rfl, _, hh', _⟩
    · simp [Value.ownBlock] at hk
    · have : g = g' := by simpa [Value.ownBlock] using hk
      subst this
      rw [hh] at hh'
      injection hh' with hh'
      injection hh' with _ ht
      exact Nat.ne_of_beq_eq_false hne ht
theorem L_noU {op : Op} {j : Nat} {want : Bool} {oj : Oper} {t : Nat} (hj : ops[j]? = some oj) (ht : oj.dst = some t) (hv : ev n l (.tmp t) = some undef) (hn : Nat.blt d n = true)
    (K : wpL P ops Q rest (Ac n σ ds ((d, undef) :: l)) w) : wpL P ops Q (⟨some d, op, ty, pos, af, some (j, want)⟩ :: rest) (Ac n σ ds l) w := by
  unfold wpL
  have hy : yielded ops (Ac n σ ds l).tmps j = none := by
    simp only [yielded, hj, Option.bind_some, ht]
    have h1 := eval_tmp (σ := σ) hv
    have hlt : t < n := by
      simp only [ev] at hv
      cases hx : Nat.blt t n with
      | false => rw [hx] at hv; cases hv
      | true => simpa [Nat.blt_eq] using hx
    have h2 : (fr n σ l)[t]? = some undef := by
      rw [← h1]; simp [Array.getD, fr, hlt]
    simp [Ac, h2, undef]
  rw [if_neg (by simp [Region.wanted, hy])]
  rw [Ac_put hn]
  exact K
theorem Y_noU {ops : Array Oper} {S : World → Prop} {n : Nat} {σ : Nat → Value} {ds : List Deferred} {l : Sl} {dst : Option Nat} {op : Op} {ty : TypeId} {pos : String} {af : Array Edge} {j t : Nat} {want : Bool} {oj : Oper}
    (hj : ops[j]? = some oj) (ht : oj.dst = some t) (hv : ev n l (.tmp t) = some undef) : YieldsIf P ops S ⟨dst, op, ty, pos, af, some (j, want)⟩ undef (Ac n σ ds l) := by
  have hy : yielded ops (Ac n σ ds l).tmps j = none := by
    simp only [yielded, hj, Option.bind_some, ht]
    have h1 := eval_tmp (σ := σ) hv
    have hlt : t < n := by
      simp only [ev] at hv
      cases hx : Nat.blt t n with
      | false => rw [hx] at hv; cases hv
      | true => simpa [Nat.blt_eq] using hx
    have h2 : (fr n σ l)[t]? = some undef := by
      rw [← h1]; simp [Array.getD, fr, hlt]
    simp [Ac, h2, undef]
  exact .inr ⟨by simp [Region.wanted, hy], rfl⟩
theorem bD {p q : Prop} [Decidable p] [Decidable q] (h : p ↔ q) : Value.bool (decide p) = .bool (decide q) := by simp [h]
theorem bT {q : Prop} [Decidable q] (h : q) : Value.bool true = .bool (decide q) := by simp [h]
theorem bF {q : Prop} [Decidable q] (h : ¬ q) : Value.bool false = .bool (decide q) := by simp [h]
theorem empty_iff (s : ByteArray) : s = ⟨#[]⟩ ↔ s.size = 0 := by
  constructor
  · rintro rfl; rfl
  · intro h
    cases s with
    | mk d => congr 1; exact Array.eq_empty_of_size_eq_zero h
theorem Ac_frg {l' : Sl} (h : Agrees l l') : Ac n σ ds l = Ac n (fun i => (lk l i).getD (σ i)) ds l' := by
  simp only [Ac]
  congr 1
  simp only [fr]
  apply Array.map_congr_left
  intro i _
  cases h' : lk l' i with
  | none => rfl
  | some v => rw [lk_agrees h i v h']; rfl
theorem C_draw2 {id : Nat} {os : List Oper} (hd : (ro.isNone || os.all notDefer) = true) (hm : P.follows .mixedOrders = true)
    (h : ∀ w', w.grownBy w' none → w'.heap.size = w.heap.size → ∃ S qs, wpAnyT P .any os.toArray (CalmE Q) S qs os.length (Array.replicate os.length false) a w') : (Code.region id os.toArray true).wpIn (wF ro) 0 P Q a w :=
  wpIn_mono (wpIn_region_any hm (by
    obtain ⟨S, qs, h⟩ := h { w with drawn := w.drawn + 1 } ⟨rfl, rfl, rfl, Nat.le_refl _, fun _ _ _ => rfl⟩ rfl
    have := wpAnyIn_of_T (ro := ro) (by simpa using hd) _ _ _ _ h
    simpa using this)) CalmE.imp
theorem T_takeA {md : Region.Mode} {S : World → Prop} {qs : List Nat} {i : Nat} {op : Op} {v : Value} {fuel : Nat} {listed : Array Bool} (hi : ops[i]? = some ⟨some d, op, ty, pos, af, gd⟩) (hq : (qs.contains i && ShutB md ops listed i) = true)
    (hs : Region.noSelect ops = true) (hf : Region.free md ops listed i = true) (hr : (Region.ready md ops listed).contains i = true)
    (hy : YieldsIf P ops S ⟨some d, op, ty, pos, af, gd⟩ v (Ac n σ ds l)) (hS : S w) (hn : Nat.blt d n = true)
    (h : wpAnyT P md ops (CalmE Q) S qs fuel (listed.setIfInBounds i true) (Ac n σ ds ((d, v) :: l)) w) : wpAnyT P md ops (CalmE Q) S qs (fuel + 1) listed (Ac n σ ds l) w :=
  T_take hi hq hs hf hr hy hS (by rw [Ac_put hn]; exact h)
/-- The same, with what the region's shape tells reckoned by itself. -/
theorem T_tk {md : Region.Mode} {S : World → Prop} {qs : List Nat} {i : Nat} {op : Op} {v : Value} {fuel : Nat} {listed : Array Bool} (hi : ops[i]? = some ⟨some d, op, ty, pos, af, gd⟩)
    (hy : YieldsIf P ops S ⟨some d, op, ty, pos, af, gd⟩ v (Ac n σ ds l)) (hS : S w) (hn : Nat.blt d n = true)
    (h : wpAnyT P md ops (CalmE Q) S qs fuel (listed.setIfInBounds i true) (Ac n σ ds ((d, v) :: l)) w)
    (hq : (qs.contains i && ShutB md ops listed i) = true := by kernel_rfl) (hs : Region.noSelect ops = true := by kernel_rfl) (hf : Region.free md ops listed i = true := by kernel_rfl) (hr : (Region.ready md ops listed).contains i = true := by kernel_rfl) :
    wpAnyT P md ops (CalmE Q) S qs (fuel + 1) listed (Ac n σ ds l) w := T_takeA hi hq hs hf hr hy hS hn h
theorem all1 {p : Nat → Prop} {i : Nat} (h : p i) : ∀ j ∈ [i], p j := by intro j hj; simp at hj; subst hj; exact h
theorem all2 {p : Nat → Prop} {i k : Nat} (h : p i) (h' : p k) : ∀ j ∈ [i, k], p j := by intro j hj; simp at hj; rcases hj with rfl | rfl <;> assumption
theorem all3 {p : Nat → Prop} {i k m : Nat} (h : p i) (h' : p k) (h'' : p m) : ∀ j ∈ [i, k, m], p j := by intro j hj; simp at hj; rcases hj with rfl | rfl | rfl <;> assumption
end
end Go.Proofs.YtkjgjejkfjhcjaaDoor.Gw
