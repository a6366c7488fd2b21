/-
  Steps as data: their rows in memory, rows of steps, and what is known of the rows within them.
-/
import Derived.Test.YtbmohojdlgedpaaGs
import Derived.Test.YtbmohojdlgedpaaGp
import Derived.Test.YtbmohojdlgedpaaVq
import Derived.Test.YtbmohojdlgedpaaVs
namespace Go.Proofs.Ytbmohojdlgedpaa.Gw
open Go.RowKit Pl
set_option linter.unusedVariables false
set_option linter.unusedSimpArgs false
/-- A step, and where its rows lie. -/
structure StepD where
  oa : Option Addr
  oc : Nat
  ka : Option Addr
  kc : Nat
  p : StepP
def encS (y : StepD) : List Value := [.int .i64 y.p.kind, .int .i64 y.p.n, .slice y.oa y.p.ops.length y.oc, .slice y.ka y.p.keep.length y.kc, .int .i64 y.p.torn, .int .i64 y.p.cut]
theorem EncS : Enc encS 6 := ⟨fun _ => rfl, fun _ => rfl⟩
/-- The rows of steps, all of them older than the bound. -/
def DeepS (hi : Nat) (w : World) (ls : List StepD) : Prop := ∀ y ∈ ls, Sli 0 0 hi w y.oa (fl encOp y.p.ops) ∧ Sli 0 0 hi w y.ka (fl encB y.p.keep)
section
variable {hi : Nat} {w w' : World} {ls : List StepD}
theorem DeepS.gb (h : DeepS hi w ls) (hg : w.grownBy w' none) : DeepS hi w' ls := fun y hy => ⟨(h y hy).1.gb hg, (h y hy).2.gb hg⟩
theorem DeepS.old {g : Nat} (h : DeepS hi w ls) (hg : w.grownBy w' (some g)) (hr : hi ≤ g) : DeepS hi w' ls := fun y hy => ⟨(h y hy).1.old hg hr, (h y hy).2.old hg hr⟩
theorem DeepS.own {base t sz m : Nat} {v : Value} {us : List Value} (h : DeepS hi w ls) (ho : w.ownsRow base t sz v m us) (hb : hi ≤ base) (hg : w.grownBy w' v.ownBlock) : DeepS hi w' ls :=
  fun y hy => ⟨(h y hy).1.grown hg (fun k hk => .inr (Nat.le_trans hb (World.ownsRow.lt ho k hk).1)), (h y hy).2.grown hg (fun k hk => .inr (Nat.le_trans hb (World.ownsRow.lt ho k hk).1))⟩
theorem DeepS.getO (h : DeepS hi w ls) {i : Nat} (hi' : i < ls.length) : Sli 0 0 hi w ls[i].oa (fl encOp ls[i].p.ops) := (h _ (List.getElem_mem _)).1
theorem DeepS.getK (h : DeepS hi w ls) {i : Nat} (hi' : i < ls.length) : Sli 0 0 hi w ls[i].ka (fl encB ls[i].p.keep) := (h _ (List.getElem_mem _)).2
theorem DeepS.top (h : DeepS hi w ls) : DeepS w.heap.size w ls := fun y hy => ⟨(h y hy).1.top, (h y hy).2.top⟩
end
theorem Sli.bare {t lo hi : Nat} {w : World} {A : Option Addr} {vs : List Value} (h : Sli t lo hi w A vs) : Sli 0 0 hi w A vs := by
  rcases h with h | ⟨g, off, c, fr, hA, h1, h2, ⟨t', h3, ht⟩, h4⟩
  · exact .inl h
  · exact .inr ⟨g, off, c, fr, hA, Nat.zero_le _, h2, ⟨t', h3, .inl rfl⟩, h4⟩
theorem Sli.zero {t lo hi : Nat} {w : World} {A : Option Addr} {vs : List Value} (h : Sli t lo hi w A vs) : Sli t 0 w.heap.size w A vs := by
  rcases h with h | ⟨g, off, c, fr, hA, h1, h2, ⟨t', h3, ht⟩, h4⟩
  · exact .inl h
  · exact .inr ⟨g, off, c, fr, hA, Nat.zero_le _, (Array.getElem?_eq_some_iff.1 h3).1, ⟨t', h3, ht⟩, h4⟩
/-- The rows of steps, told apart from others by their types. -/
def DeepT (a b : Nat) (w : World) (ls : List StepD) : Prop := ∀ y ∈ ls, Sli a 0 w.heap.size w y.oa (fl encOp y.p.ops) ∧ Sli b 0 w.heap.size w y.ka (fl encB y.p.keep)
section
variable {a b : Nat} {w w' : World} {ls : List StepD}
theorem DeepT.gb (h : DeepT a b w ls) (hg : w.grownBy w' none) : DeepT a b w' ls := fun y hy => ⟨((h y hy).1.gb hg).zero, ((h y hy).2.gb hg).zero⟩
theorem DeepT.other {g t' : Nat} {cs : List Value} (h : DeepT a b w ls) (hb : Blk w g t' cs) (ha0 : Nat.beq a 0 = false) (hb0 : Nat.beq b 0 = false) (ha : Nat.beq a t' = false) (hb' : Nat.beq b t' = false) (hg : w.grownBy w' (some g)) : DeepT a b w' ls :=
  fun y hy => ⟨((h y hy).1.other hb ha0 ha hg).zero, ((h y hy).2.other hb hb0 hb' hg).zero⟩
theorem DeepT.otherO {base t' sz m : Nat} {v : Value} {us : List Value} (h : DeepT a b w ls) (ho : w.ownsRow base t' sz v m us) (ha0 : Nat.beq a 0 = false) (hb0 : Nat.beq b 0 = false) (ha : Nat.beq a t' = false) (hb' : Nat.beq b t' = false) (hg : w.grownBy w' v.ownBlock) : DeepT a b w' ls :=
  fun y hy => ⟨((h y hy).1.otherO ho ha0 ha hg).zero, ((h y hy).2.otherO ho hb0 hb' hg).zero⟩
theorem DeepT.snoc {y : StepD} (h : DeepT a b w ls) (h1 : Sli a 0 w.heap.size w y.oa (fl encOp y.p.ops)) (h2 : Sli b 0 w.heap.size w y.ka (fl encB y.p.keep)) : DeepT a b w (ls ++ [y]) := by
  intro z hz
  rcases List.mem_append.1 hz with hz | hz
  · exact h z hz
  · rw [List.mem_singleton.1 hz]; exact ⟨h1, h2⟩
theorem DeepT.bare (h : DeepT a b w ls) : DeepS w.heap.size w ls := fun y hy => ⟨(h y hy).1.bare, (h y hy).2.bare⟩
theorem DeepT.nil : DeepT a b w [] := fun y hy => by cases hy
end
/-- What is known of a step where there is no error. -/
def Got (a b : Nat) (w : World) (e : Prop) (y : StepD) (p : StepP) : Prop := e → y.p = p ∧ Sli a 0 w.heap.size w y.oa (fl encOp y.p.ops) ∧ Sli b 0 w.heap.size w y.ka (fl encB y.p.keep)
section
variable {a b : Nat} {w w' : World} {e : Prop} {y : StepD} {p : StepP}
theorem Got.gb (h : Got a b w e y p) (hg : w.grownBy w' none) : Got a b w' e y p := fun q => ⟨(h q).1, ((h q).2.1.gb hg).zero, ((h q).2.2.gb hg).zero⟩
theorem Got.other {g t' : Nat} {cs : List Value} (h : Got a b w e y p) (hb : Blk w g t' cs) (ha0 : Nat.beq a 0 = false) (hb0 : Nat.beq b 0 = false) (ha : Nat.beq a t' = false) (hb' : Nat.beq b t' = false) (hg : w.grownBy w' (some g)) : Got a b w' e y p :=
  fun q => ⟨(h q).1, ((h q).2.1.other hb ha0 ha hg).zero, ((h q).2.2.other hb hb0 hb' hg).zero⟩
theorem Got.otherO {base t' sz m : Nat} {v : Value} {us : List Value} (h : Got a b w e y p) (ho : w.ownsRow base t' sz v m us) (ha0 : Nat.beq a 0 = false) (hb0 : Nat.beq b 0 = false) (ha : Nat.beq a t' = false) (hb' : Nat.beq b t' = false) (hg : w.grownBy w' v.ownBlock) : Got a b w' e y p :=
  fun q => ⟨(h q).1, ((h q).2.1.otherO ho ha0 ha hg).zero, ((h q).2.2.otherO ho hb0 hb' hg).zero⟩
end
def ps (l : List StepD) : List StepP := l.map (·.p)
theorem ps_len {l : List StepD} : (ps l).length = l.length := by unfold ps; rw [List.length_map]
theorem ps_get {l : List StepD} {i : Nat} (h : i < l.length) : (ps l)[i]'(by rw [ps_len]; exact h) = l[i].p := by simp [ps]
theorem ps_snoc {l : List StepD} {y : StepD} : ps (l ++ [y]) = ps l ++ [y.p] := by simp [ps]
theorem ps_take {l : List StepD} {k : Nat} : (ps l).take k = ps (l.take k) := by simp [ps, List.map_take]
theorem ps_succ {l m : List StepD} {k : Nat} (hk : ps (l.take k) = ps (m.take k)) (h1 : k < l.length) (h2 : k < m.length) (he : l[k].p = m[k].p) : ps (l.take (k + 1)) = ps (m.take (k + 1)) := by
  rw [List.take_succ_eq_append_getElem h1, List.take_succ_eq_append_getElem h2, ps_snoc, ps_snoc, hk, he]
theorem ps_ne {l m : List StepD} {k : Nat} (h1 : k < l.length) (h2 : k < m.length) (he : l[k].p ≠ m[k].p) : ps l ≠ ps m := by
  intro h
  have e : (ps l)[k]? = (ps m)[k]? := by rw [h]
  rw [List.getElem?_eq_getElem (by rw [ps_len]; exact h1), List.getElem?_eq_getElem (by rw [ps_len]; exact h2), ps_get h1, ps_get h2] at e
  exact he (Option.some.inj e)
theorem ps_sEnc {l : List StepD} {k : Nat} (h : k < l.length) : sencs (ps (l.take (k + 1))) = sencs (ps (l.take k)) ++ sEnc l[k].p := by
  rw [List.take_succ_eq_append_getElem h, ps_snoc]; unfold sencs; rw [List.flatMap_append]; simp
theorem sall {l : List StepD} (h : ∀ p ∈ ps l, sOk p) {k : Nat} (hk : k < l.length) : sOk l[k].p := h _ (by unfold ps; exact List.mem_map.2 ⟨_, List.getElem_mem hk, rfl⟩)
theorem sall_succ {l : List StepD} {k : Nat} (h : ∀ p ∈ ps (l.take k), sOk p) (hk : k < l.length) (h1 : sOk l[k].p) : ∀ p ∈ ps (l.take (k + 1)), sOk p := by
  intro p hp
  rw [List.take_succ_eq_append_getElem hk, ps_snoc] at hp
  rcases List.mem_append.1 hp with hp | hp
  · exact h p hp
  · rw [List.mem_singleton.1 hp]; exact h1
theorem sall_no {l : List StepD} {k : Nat} (hk : k < l.length) (h : ¬ sOk l[k].p) : ¬ ∀ p ∈ ps l, sOk p := fun hh => h (sall hh hk)
def FewS (y : StepD) : Prop := y.p.ops.length ≤ 30 ∧ y.p.keep.length ≤ 1000
instance (y : StepD) : Decidable (FewS y) := by unfold FewS; infer_instance
def FewSs (l : List StepD) : Prop := (∀ y ∈ l, FewS y) ∧ l.length ≤ 80
instance (l : List StepD) : Decidable (FewSs l) := by unfold FewSs; infer_instance
theorem few_succ {l : List StepD} {k : Nat} (h : ∀ y ∈ l.take k, FewS y) (hk : k < l.length) (h1 : FewS l[k]) : ∀ y ∈ l.take (k + 1), FewS y := by
  intro y hm
  rw [List.take_succ_eq_append_getElem hk] at hm
  rcases List.mem_append.1 hm with hm | hm
  · exact h y hm
  · rw [List.mem_singleton.1 hm]; exact h1
theorem step_eq {a b : StepP} : a = b ↔ a.kind = b.kind ∧ a.n = b.n ∧ a.ops = b.ops ∧ a.keep = b.keep ∧ a.torn = b.torn ∧ a.cut = b.cut := by
  cases a; cases b; simp
theorem ps_few {l : List StepD} (h : ∀ p ∈ ps l, sOk p) : ∀ y ∈ l, FewS y := fun y hy => by
  have := sOk_keep (h y.p (List.mem_map.2 ⟨y, hy, rfl⟩))
  exact ⟨by omega, by omega⟩
/-- What is told of a step that came in. -/
def GoodS (W : World) (y : StepD) : Prop := Sli 0 0 W.heap.size W y.oa (fl encOp y.p.ops) ∧ Sli 0 0 W.heap.size W y.ka (fl encB y.p.keep)
/-- the two steps that awake builds -/
theorem aw38_enc : sencs (ps [(⟨none, 0, none, 0, ⟨2, 0, [], [], 0, 0⟩⟩ : StepD), (⟨none, 0, none, 0, ⟨5, 3, [], [], 0, 0⟩⟩ : StepD)]) = [2, 5, 3] := by
  simp only [ps, List.map_cons, List.map_nil, sencs, List.flatMap_cons, List.flatMap_nil, sEnc]
  rfl
theorem aw38_few : ∀ y ∈ [(⟨none, 0, none, 0, ⟨2, 0, [], [], 0, 0⟩⟩ : StepD), (⟨none, 0, none, 0, ⟨5, 3, [], [], 0, 0⟩⟩ : StepD)], FewS y := by decide
theorem aw38_ok : ∀ p ∈ ps [(⟨none, 0, none, 0, ⟨2, 0, [], [], 0, 0⟩⟩ : StepD), (⟨none, 0, none, 0, ⟨5, 3, [], [], 0, 0⟩⟩ : StepD)], sOk p := by
  intro p hp
  simp only [ps, List.map_cons, List.map_nil, List.mem_cons, List.not_mem_nil, or_false] at hp
  rcases hp with rfl | rfl
  · exact .inr (.inl ⟨.inl rfl, rfl, rfl, rfl, rfl, rfl⟩)
  · exact .inr (.inr (.inl ⟨rfl, by simp, by simp, rfl, rfl, rfl, rfl⟩))
theorem aw38_deep {w : World} : DeepS w.heap.size w [(⟨none, 0, none, 0, ⟨2, 0, [], [], 0, 0⟩⟩ : StepD), (⟨none, 0, none, 0, ⟨5, 3, [], [], 0, 0⟩⟩ : StepD)] := by
  intro y hy
  simp only [List.mem_cons, List.not_mem_nil, or_false] at hy
  rcases hy with rfl | rfl <;> exact ⟨Sli.nil, Sli.nil⟩
theorem aw38_len {ls : List StepD} (h : ps ls = (sdec (sencs (ps [(⟨none, 0, none, 0, ⟨2, 0, [], [], 0, 0⟩⟩ : StepD), (⟨none, 0, none, 0, ⟨5, 3, [], [], 0, 0⟩⟩ : StepD)]))).1) : ls.length = 2 := by
  rw [← ps_len, h, aw38_enc, sdec_ex]; rfl
end Go.Proofs.Ytbmohojdlgedpaa.Gw
