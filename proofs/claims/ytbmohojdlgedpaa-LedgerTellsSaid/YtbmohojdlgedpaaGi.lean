/-
  Step lemmas, sixteenth part: a round of one value; rows compared with none. They hold of every program.
-/
import Derived.Test.YtbmohojdlgedpaaGl
import Derived.Test.YtbmohojdlgedpaaGq
namespace Go.Proofs.Ytbmohojdlgedpaa.Gw
open Go.RowKit Go.Proofs.Ytbmohojdlgedpaa.Pl
set_option linter.unusedVariables false
set_option linter.unusedSimpArgs false
section
variable {P : Program} {Q : Exit → Act → World → Prop} {w w' W : World} {n : Nat} {σ : Nat → Value} {ds : List Deferred} {l l' : Sl}
variable {asg body : Code} {fn : FuncId} {D L : Nat}
theorem yield_round1 {u : Value} {p : Nat} {R : Value → World → Prop} (hL : LpF W L (lrec fn (fr n σ l) #[p] asg body D .ready none)) (h1 : Nat.blt p n = true)
    (h : asg.wpIn (wF (some L)) 0 P (Exit.then (fun a₁ w₁ => LpF w₁ L (lrec fn (fr n σ l) #[p] asg body D .ready none) ∧ ∀ w₂, w₁.grownBy w₂ (some L) → LpF w₂ L (lrec fn (fr n σ l) #[p] asg body D .busy none) →
      body.wpIn (wF (some L)) 0 P (rdEnd2 L fn (fr n σ l) #[p] asg body D R) a₁ w₂) (fun _ _ _ => False)) (Ac n σ [] ((p, u) :: l)) W) : YieldR P L [u] W R := by
  refine yield_round hL.1 rfl ?_
  rw [fold1 h1]
  refine wpIn_mono (F := wF (some L)) h fun e a₁ w₁ he => ?_
  cases e with
  | normal =>
    obtain ⟨k1, k2⟩ := he
    refine ⟨k1.1, wpIn_mono (F := wF (some L)) (k2 _ (gb_obj _ _ _) (lp_put k1.lt lp_l)) fun e a₂ w₂ he => ?_⟩
    cases e with
    | normal => exact ⟨he.1.1, he.2 _ (gb_obj _ _ _) (lp_put he.1.lt lp_l)⟩
    | ret => exact ⟨he.1.1, he.2 _ (gb_obj _ _ _) (lp_put he.1.lt lp_l)⟩
    | exit id => exact ⟨he.1.1, he.2 _ (gb_obj _ _ _) (lp_put he.1.lt lp_l)⟩
    | goto t => exact he.elim
    | panic c => exact he.elim
    | outgrown => exact he.elim
  | ret => exact he.elim
  | exit id => exact he.elim
  | goto t => exact he.elim
  | panic c => exact he.elim
  | outgrown => exact he.elim
end
theorem LpF.own {w w' : World} {L : Nat} {o : Obj} {lo t sz n : Nat} {v : Value} {vs : List Value} (hL : LpF w L o) (ho : w.ownsRow lo t sz v n vs) (hs : w.grownBy w' v.ownBlock) : LpF w' L o := by
  rcases ho.2 with ⟨rfl, _⟩ | ⟨g, cap, cur, rfl, _, hh, _⟩
  · exact hL.gb hs
  · refine hL.grown hs fun e => ?_
    have e2 : L = g := by injection e
    subst e2
    exact hL.2 _ _ _ (Option.some.inj (hL.1.symm.trans hh))
section ptrs
variable {P : Program} {n : Nat} {σ : Nat → Value} {ds : List Deferred} {l : List (Nat × Value)} {w : World} {x y : Operand} {t t' e : TypeId} {dst : Option Tmp} {ty : TypeId} {pos : String} {af : Array Edge} {gd : Option (Nat × Bool)}
theorem eqs_nn {d : Nat} (ht : P.underlying t = some (.slice e)) : (Op.equalIn (d + 1) t (.slice none 0 0) (.slice none 0 0)).run P w = .ok true w := by
  unfold Op.equalIn
  simp [run_underlying ht]
theorem eqs_sn {d m c : Nat} {a : Addr} (ht : P.underlying t = some (.slice e)) : (Op.equalIn (d + 1) t (.slice (some a) m c) (.slice none 0 0)).run P w = .ok false w := by
  unfold Op.equalIn
  simp [run_underlying ht]
theorem R_eqlsNN (hx : ev n l x = some (.slice none 0 0)) (hy : ev n l y = some (.slice none 0 0)) (ht : P.underlying t = some (.slice e)) :
    (execOp (Ac n σ ds l).eval ⟨dst, .binOp .eql t x y t', ty, pos, af, gd⟩).run P w = .ok (.value (.bool true)) w := by
  simp only [execOp, ev_eval hx, ev_eval hy]
  refine v_run ?_
  simp only [eqGuard, binOp, Op.equal, Op.maxDepth]
  simp [eqs_nn (d := 9999) ht]
theorem R_eqlsSN {m c : Nat} {a : Addr} (hx : ev n l x = some (.slice (some a) m c)) (hy : ev n l y = some (.slice none 0 0)) (ht : P.underlying t = some (.slice e)) :
    (execOp (Ac n σ ds l).eval ⟨dst, .binOp .eql t x y t', ty, pos, af, gd⟩).run P w = .ok (.value (.bool false)) w := by
  simp only [execOp, ev_eval hx, ev_eval hy]
  refine v_run ?_
  simp only [eqGuard, binOp, Op.equal, Op.maxDepth]
  simp [eqs_sn (d := 9999) ht]
theorem R_neqsNN (hx : ev n l x = some (.slice none 0 0)) (hy : ev n l y = some (.slice none 0 0)) (ht : P.underlying t = some (.slice e)) :
    (execOp (Ac n σ ds l).eval ⟨dst, .binOp .neq t x y t', ty, pos, af, gd⟩).run P w = .ok (.value (.bool false)) w := by
  simp only [execOp, ev_eval hx, ev_eval hy]
  refine v_run ?_
  simp only [eqGuard, binOp, Op.equal, Op.maxDepth]
  simp [eqs_nn (d := 9999) ht]
theorem R_neqsSN {m c : Nat} {a : Addr} (hx : ev n l x = some (.slice (some a) m c)) (hy : ev n l y = some (.slice none 0 0)) (ht : P.underlying t = some (.slice e)) :
    (execOp (Ac n σ ds l).eval ⟨dst, .binOp .neq t x y t', ty, pos, af, gd⟩).run P w = .ok (.value (.bool true)) w := by
  simp only [execOp, ev_eval hx, ev_eval hy]
  refine v_run ?_
  simp only [eqGuard, binOp, Op.equal, Op.maxDepth]
  simp [eqs_sn (d := 9999) ht]
end ptrs
section structs
variable {P : Program} {w : World} {xs ys : Array Value}
theorem run_partA {t : TypeId} {off sz : Nat} {vs : List Value} (ht : aggB P t sz = true) (hc : (xs.toList.drop off).take sz = vs) : (part t xs off).run P w = .ok (.agg vs.toArray) w := by
  have e : xs.extract off (off + sz) = vs.toArray := by
    apply Array.ext'
    rw [← hc]
    simp [Array.toList_extract]
  simp [part, run_isAgg_yes ht, run_sizeOf (aggB_sz ht), e]
theorem eqf_consA {d sz : Nat} {f : Field} {fs : List Field} {vs us : List Value} {p q : Prop} [Decidable p] [Decidable q] (hn : f.name ≠ "_") (ht : aggB P f.type sz = true) (hx : (xs.toList.drop f.offset).take sz = vs) (hy : (ys.toList.drop f.offset).take sz = us)
    (he : (Op.equalIn d f.type (.agg vs.toArray) (.agg us.toArray)).run P w = .ok (decide p) w) (hr : (Op.eqFields d xs ys fs).run P w = .ok (decide q) w) : (Op.eqFields d xs ys (f :: fs)).run P w = .ok (decide (p ∧ q)) w := by
  by_cases hp : p <;> simp [Op.eqFields, hn, run_partA ht hx, run_partA ht hy, he, hp, hr]
end structs
end Go.Proofs.Ytbmohojdlgedpaa.Gw
