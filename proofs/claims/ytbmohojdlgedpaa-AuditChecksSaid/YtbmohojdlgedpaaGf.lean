/-
  Step lemmas, seventeenth part: trees in memory, each node a row of its own that is never written again. They hold of every program.
-/
import Derived.Test.YtbmohojdlgedpaaGi
import Derived.Test.YtbmohojdlgedpaaGt
import Derived.Test.YtbmohojdlgedpaaVt
namespace Go.Proofs.Ytbmohojdlgedpaa.Gw
open Go.RowKit Go.Proofs.Ytbmohojdlgedpaa.Pl
set_option linter.unusedVariables false
set_option linter.unusedSimpArgs false
def taddr : Tr → Option Addr
  | .nil => none
  | .node g _ _ _ _ _ => some ⟨g, 0, none⟩
/-- The tree's nodes lie in memory, all below the bound. -/
def TreeF (T hi : Nat) (w : World) : Tr → Prop
  | .nil => True
  | .node g k v h l r => g < hi ∧ Blk w g T [.string k, .string v, .pointer (taddr l), .pointer (taddr r), .int .i64 h] ∧ TreeF T hi w l ∧ TreeF T hi w r
section
variable {T hi : Nat} {w w' : World}
theorem TreeF.nil : TreeF T hi w .nil := trivial
theorem TreeF.mk {g : Nat} {k v : ByteArray} {h : Int} {l r : Tr} (hb : Blk w g T [.string k, .string v, .pointer (taddr l), .pointer (taddr r), .int .i64 h]) (hl : TreeF T hi w l) (hr : TreeF T hi w r) (hg : g < hi) : TreeF T hi w (.node g k v h l r) := ⟨hg, hb, hl, hr⟩
theorem TreeF.gb : ∀ {t : Tr}, TreeF T hi w t → w.grownBy w' none → TreeF T hi w' t
  | .nil, _, _ => trivial
  | .node .., ⟨h1, h2, h3, h4⟩, hs => ⟨h1, h2.gb hs, TreeF.gb h3 hs, TreeF.gb h4 hs⟩
theorem TreeF.other {g' T' : Nat} {cs : List Value} : ∀ {t : Tr}, TreeF T hi w t → Blk w g' T' cs → Nat.beq T T' = false → w.grownBy w' (some g') → TreeF T hi w' t
  | .nil, _, _, _, _ => trivial
  | .node .., ⟨h1, h2, h3, h4⟩, hb, hn, hs => ⟨h1, h2.grown hs (ne_ty h2 hb hn), TreeF.other h3 hb hn hs, TreeF.other h4 hb hn hs⟩
theorem TreeF.otherO {base T' sz m : Nat} {v : Value} {us : List Value} : ∀ {t : Tr}, TreeF T hi w t → w.ownsRow base T' sz v m us → Nat.beq T' T = false → w.grownBy w' v.ownBlock → TreeF T hi w' t
  | .nil, _, _, _, _ => trivial
  | .node .., ⟨h1, h2, h3, h4⟩, ho, hn, hs => ⟨h1, blk_own h2 ho hn hs, TreeF.otherO h3 ho hn hs, TreeF.otherO h4 ho hn hs⟩
theorem TreeF.far {g' : Nat} : ∀ {t : Tr}, TreeF T hi w t → w.grownBy w' (some g') → hi ≤ g' → TreeF T hi w' t
  | .nil, _, _, _ => trivial
  | .node .., ⟨h1, h2, h3, h4⟩, hs, hg => ⟨h1, h2.grown hs (ne_lt (Nat.lt_of_lt_of_le h1 hg)), TreeF.far h3 hs hg, TreeF.far h4 hs hg⟩
theorem TreeF.wide {hi' : Nat} (hh : hi ≤ hi') : ∀ {t : Tr}, TreeF T hi w t → TreeF T hi' w t
  | .nil, _ => trivial
  | .node .., ⟨h1, h2, h3, h4⟩ => ⟨Nat.lt_of_lt_of_le h1 hh, h2, TreeF.wide hh h3, TreeF.wide hh h4⟩
theorem TreeF.top : ∀ {t : Tr}, TreeF T hi w t → TreeF T w.heap.size w t
  | .nil, _ => trivial
  | .node .., ⟨h1, h2, h3, h4⟩ => ⟨h2.lt, h2, TreeF.top h3, TreeF.top h4⟩
theorem taddr_nil {t : Tr} : taddr t = none ↔ t = .nil := by cases t <;> simp [taddr]
end
section
variable {P : Program} {n : Nat} {σ : Nat → Value} {ds : List Deferred} {l : List (Nat × Value)} {w : World} {x y : Operand} {t t' e : TypeId} {dst : Option Tmp} {ty : TypeId} {pos : String} {af : Array Edge} {gd : Option (Nat × Bool)} {tr : Tr}
theorem R_eqlT (hx : ev n l x = some (.pointer (taddr tr))) (hy : ev n l y = some (.pointer none)) (ht : P.underlying t = some (.pointer e)) :
    (execOp (Ac n σ ds l).eval ⟨dst, .binOp .eql t x y t', ty, pos, af, gd⟩).run P w = .ok (.value (.bool (decide (tr = .nil)))) w := by
  cases tr with
  | nil => exact R_eqlpNN hx hy ht
  | node g k v h a b => exact (R_eqlpPN hx hy ht).trans (by simp)
theorem R_neqT (hx : ev n l x = some (.pointer (taddr tr))) (hy : ev n l y = some (.pointer none)) (ht : P.underlying t = some (.pointer e)) :
    (execOp (Ac n σ ds l).eval ⟨dst, .binOp .neq t x y t', ty, pos, af, gd⟩).run P w = .ok (.value (.bool (decide (tr ≠ .nil)))) w := by
  cases tr with
  | nil => exact (R_neqpNN hx hy ht).trans (by simp)
  | node g k v h a b => exact (R_neqpPN hx hy ht).trans (by simp)
end
end Go.Proofs.Ytbmohojdlgedpaa.Gw
