/-
  Step lemmas, eighth part: bools compared, texts joined, rows within rows. They hold of every program.
-/
import Derived.Test.YtkjgjejkfjhcjaaDoorGr
namespace Go.Proofs.YtkjgjejkfjhcjaaDoor.Gw
open Go.RowKit
set_option linter.unusedVariables false
set_option linter.unusedSimpArgs false
section
variable {P : Program} {w : World} {n : Nat} {σ : Nat → Value} {ds : List Deferred} {l : Sl} {ty : TypeId} {pos : String} {af : Array Edge} {dst : Option Nat} {gd : Option (Nat × Bool)}
variable {t t' : TypeId} {x y : Operand} {p q : Prop} [Decidable p] [Decidable q] {a b : Bool}
theorem run_eqlB (ht : P.underlying t = some .bool) : (binOp .eql t (.bool a) (.bool b)).run P w = .ok (.bool (a == b)) w := by
  simp only [binOp, Op.equal, Op.maxDepth, Sem.run_bind, run_equalIn_bool w 9999 t a b ht, Result.andThen_ok]; rfl
theorem run_neqB (ht : P.underlying t = some .bool) : (binOp .neq t (.bool a) (.bool b)).run P w = .ok (.bool (!(a == b))) w := by
  simp only [binOp, Op.equal, Op.maxDepth, Sem.run_bind, run_equalIn_bool w 9999 t a b ht, Result.andThen_ok]; rfl
theorem R_eqlB (hx : ev n l x = some (.bool a)) (hy : ev n l y = some (.bool b)) (ht : P.underlying t = some .bool) :
    (execOp (Ac n σ ds l).eval ⟨dst, .binOp .eql t x y t', ty, pos, af, gd⟩).run P w = .ok (.value (.bool (a == b))) w := by
  simp only [execOp, ev_eval hx, ev_eval hy]
  refine v_run ?_
  simp [eqGuard, run_eqlB ht]
theorem R_neqB (hx : ev n l x = some (.bool a)) (hy : ev n l y = some (.bool b)) (ht : P.underlying t = some .bool) :
    (execOp (Ac n σ ds l).eval ⟨dst, .binOp .neq t x y t', ty, pos, af, gd⟩).run P w = .ok (.value (.bool (!(a == b)))) w := by
  simp only [execOp, ev_eval hx, ev_eval hy]
  refine v_run ?_
  simp [eqGuard, run_neqB ht]
theorem beq_dec : (decide p == decide q) = decide (p ↔ q) := by by_cases hp : p <;> by_cases hq : q <;> simp [hp, hq]
theorem bT' (h : p) : Value.bool (decide p) = .bool true := by simp [h]
theorem bF' (h : ¬ p) : Value.bool (decide p) = .bool false := by simp [h]
theorem R_addS {s r : ByteArray} (hx : ev n l x = some (.string s)) (hy : ev n l y = some (.string r)) (hb : s.size + r.size ≤ 9223372036854775807) :
    (execOp (Ac n σ ds l).eval ⟨dst, .binOp .add t x y t', ty, pos, af, gd⟩).run P w = .ok (.value (.string (s ++ r))) w := by
  have : ¬ (((s.size + r.size : Nat) : Int) > IntKind.i64.max) := by rw [show IntKind.i64.max = 9223372036854775807 from rfl]; omega
  simp only [execOp, ev_eval hx, ev_eval hy]
  refine v_run ?_
  simp only [eqGuard, binOp, Op.stringOp, if_neg this]
  rfl
end
theorem Sli.raw {t lo hi : Nat} {w : World} {A : Option Addr} {vs : List Value} (h : Sli t lo hi w A vs) : Sli 0 0 w.heap.size w A vs := by
  rcases h with h | ⟨g, off, c, fr, hA, h1, h2, ⟨t', h3, ht⟩, h4⟩
  · exact .inl h
  · exact .inr ⟨g, off, c, fr, hA, Nat.zero_le _, (Array.getElem?_eq_some_iff.1 h3).1, ⟨t', h3, .inl rfl⟩, h4⟩
theorem own_cap {w : World} {base t sz n c m : Nat} {A : Option Addr} {xs : List Value} (h : w.ownsRow base t sz (.slice A n c) m xs) : n ≤ c := by
  rcases h.2 with ⟨e, _⟩ | ⟨g, cap, cur, e, _, _, hc, _⟩
  · injection e with _ e2 e3; omega
  · injection e with _ e2 e3; omega
section
variable {P : Program} {Q : Exit → Act → World → Prop} {w w' : World} {ops : Array Oper} {rest : List Oper}
variable {n : Nat} {σ : Nat → Value} {ds : List Deferred} {l : Sl} {d : Nat} {ty : TypeId} {pos : String} {af : Array Edge}
/-- A literal's bytes turned to bytes: the run-time marks the row, the value stays. -/
theorem L_mark {t e g m c : Nat} {x : Operand} {cs : List Value} (hx : ev n l x = some (.slice (some ⟨g, 0, none⟩) m c)) (ht : slcB P t e 1 1 = true) (he : intB P e .u8 = true) (hb : Blk w g e cs) (hn : Nat.blt d n = true)
    (K : ∀ w', Sli e g (g + 1) w' (some ⟨g, 0, none⟩) cs → w.grownBy w' (some g) → w'.heap.size = w.heap.size → wpL P ops Q rest (Ac n σ ds ((d, .slice (some ⟨g, 0, none⟩) m c) :: l)) w') :
    wpL P ops Q (⟨some d, .convert t t x, ty, pos, af, none⟩ :: rest) (Ac n σ ds l) w := by
  have hsh : w.shape? g = some (e, cs.length) := by unfold World.shape?; unfold Blk at hb; rw [hb]; simp
  have hr : (convert t t (.slice (some ⟨g, 0, none⟩) m c)).run P w = .ok (.slice (some ⟨g, 0, none⟩) m c) (w.freeze ⟨g, cs.length, none⟩ 1) := by
    simp [convert, run_underlying (slcB_u ht).1, run_underlying (intB_u he), markStringish, hsh]
  have hlt := hb.lt
  have hat : (w.freeze ⟨g, cs.length, none⟩ 1).heap[g]? = some (.cells cs.toArray e (cs.length, cs.length + 1)) := by
    unfold World.freeze
    rw [if_neg (by decide)]
    show (w.heap.modify g _)[g]? = _
    rw [Array.getElem?_modify, if_pos rfl]
    unfold Blk at hb
    rw [hb]
    rfl
  refine L_run (by simp only [execOp, ev_eval hx]; exact v_run hr) hn (K _ (.inr ⟨g, 0, _, _, rfl, Nat.le_refl _, Nat.lt_succ_self _, ⟨e, hat, .inr rfl⟩, fun j v hj => ?_⟩) ⟨rfl, rfl, rfl, ?_, fun k _ hk => ?_⟩ ?_)
  · rw [Nat.zero_add]; simpa using hj
  · unfold World.freeze; rw [if_neg (by decide)]; simp
  · unfold World.freeze
    rw [if_neg (by decide)]
    show (w.heap.modify g _)[k]? = _
    rw [Array.getElem?_modify, if_neg (fun e => hk (by rw [e]))]
  · unfold World.freeze; rw [if_neg (by decide)]; simp
end
/-- A row of bytes as a value: where it begins, its room, its bytes. -/
structure Bys where
  a : Option Addr
  c : Nat
  xs : List UInt8
def encY (y : Bys) : List Value := [.slice y.a y.xs.length y.c]
theorem EncY : Enc encY 1 := ⟨fun _ => rfl, fun _ => rfl⟩
/-- Rows of bytes within a row, all of them older than the bound. -/
def Deep (hi : Nat) (w : World) (ls : List Bys) : Prop := ∀ y ∈ ls, Sli 0 0 hi w y.a (fl encB y.xs)
section
variable {hi : Nat} {w w' : World} {ls : List Bys}
theorem Deep.gb (h : Deep hi w ls) (hg : w.grownBy w' none) : Deep hi w' ls := fun y hy => (h y hy).gb hg
theorem Deep.old {g : Nat} (h : Deep hi w ls) (hg : w.grownBy w' (some g)) (hr : hi ≤ g) : Deep hi w' ls := fun y hy => (h y hy).old hg hr
theorem Deep.own {base t sz m : Nat} {v : Value} {us : List Value} (h : Deep hi w ls) (ho : w.ownsRow base t sz v m us) (hb : hi ≤ base) (hg : w.grownBy w' v.ownBlock) : Deep hi w' ls :=
  fun y hy => (h y hy).grown hg (fun k hk => .inr (Nat.le_trans hb (World.ownsRow.lt ho k hk).1))
theorem Deep.get (h : Deep hi w ls) {i : Nat} (hi' : i < ls.length) : Sli 0 0 hi w ls[i].a (fl encB ls[i].xs) := h _ (List.getElem_mem _)
theorem Deep.one {t lo hi2 : Nat} {A : Option Addr} {c : Nat} {xs : List UInt8} (h : Sli t lo hi2 w A (fl encB xs)) : Deep w.heap.size w [⟨A, c, xs⟩] := by
  intro y hy
  rw [List.mem_singleton] at hy
  subst hy
  exact h.raw
end
end Go.Proofs.YtkjgjejkfjhcjaaDoor.Gw
