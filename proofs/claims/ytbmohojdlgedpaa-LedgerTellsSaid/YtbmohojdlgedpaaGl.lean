/-
  Step lemmas, thirteenth part: what a world holds of a loop over a function (its record, its put-off calls), as facts that are carried along. They hold of every program.
-/
import Derived.Test.YtbmohojdlgedpaaGq
import Derived.Test.YtbmohojdlgedpaaGx
namespace Go.Proofs.Ytbmohojdlgedpaa.Gw
open Go.RowKit
set_option linter.unusedVariables false
set_option linter.unusedSimpArgs false
/-- Here lies what is no row of cells. -/
def LpF (w : World) (g : Nat) (o : Obj) : Prop := w.heap[g]? = some o ∧ ∀ cs t fz, o ≠ .cells cs t fz
section
variable {w w' : World} {g h L D : Nat} {o : Obj}
theorem LpF.lt (hL : LpF w L o) : L < w.heap.size := (Array.getElem?_eq_some_iff.1 hL.1).1
theorem LpF.grown {row : Option Nat} (hL : LpF w L o) (hs : w.grownBy w' row) (hne : some L ≠ row) : LpF w' L o := ⟨(hs.block L hL.lt hne).trans hL.1, hL.2⟩
theorem LpF.gb (hL : LpF w L o) (hs : w.grownBy w' none) : LpF w' L o := hL.grown hs (by simp)
theorem LpF.blk {t : TypeId} {cs : List Value} (hL : LpF w L o) (hb : Blk w g t cs) (hs : w.grownBy w' (some g)) : LpF w' L o :=
  hL.grown hs (by rintro ⟨rfl⟩; exact hL.2 _ _ _ (Option.some.inj (hL.1.symm.trans hb)))
theorem Blk.lp {t : TypeId} {cs : List Value} (hb : Blk w g t cs) (hL : LpF w L o) (hs : w.grownBy w' (some L)) : Blk w' g t cs :=
  hb.grown hs (by rintro ⟨rfl⟩; exact hL.2 _ _ _ (Option.some.inj (hL.1.symm.trans hb)))
theorem own_lp {lo t sz n : Nat} {v : Value} {vs : List Value} (ho : w.ownsRow lo t sz v n vs) (hL : LpF w L o) (hs : w.grownBy w' (some L)) : w'.ownsRow lo t sz v n vs := by
  refine ho.kept hs ?_
  rcases ho.2 with ⟨rfl, _⟩ | ⟨g, cap, cur, rfl, _, hh, _⟩
  · exact .inl rfl
  · refine .inr fun e => ?_
    simp only [Value.ownBlock, Option.some.injEq] at e
    subst e
    exact hL.2 _ _ _ (Option.some.inj (hL.1.symm.trans hh))
theorem Sli.lp {t lo hi : Nat} {A : Option Addr} {vs : List Value} (hS : Sli t lo hi w A vs) (hL : LpF w L o) (hs : w.grownBy w' (some L)) : Sli t lo hi w' A vs := by
  rcases hS with hS | ⟨g, off, c, fr, hA, h1, h2, ⟨t2, h3, ht⟩, h4⟩
  · exact .inl hS
  · refine .inr ⟨g, off, c, fr, hA, h1, h2, ⟨t2, (hs.block g (Array.getElem?_eq_some_iff.1 h3).1 ?_).trans h3, ht⟩, h4⟩
    rintro ⟨rfl⟩
    exact hL.2 _ _ _ (Option.some.inj (hL.1.symm.trans h3))
theorem ne_ty {t t' : TypeId} {cs cs' : List Value} (h1 : Blk w g t cs) (h2 : Blk w h t' cs') (hne : Nat.beq t t' = false) : some g ≠ some h := by
  rintro ⟨rfl⟩
  have e := Option.some.inj (h1.symm.trans h2)
  injection e with e1 e2
  rw [e2, Nat.beq_refl] at hne
  cases hne
theorem lp_d : ∀ cs t fz, Obj.deferred (some []) ≠ Obj.cells cs t fz := by intro _ _ _ e; cases e
theorem lp_l {fn : FuncId} {T : Array Value} {ps : Array Tmp} {asg body : Code} {D : Nat} {st : LoopState} {pe : Option Code} : ∀ cs t fz, lrec fn T ps asg body D st pe ≠ Obj.cells cs t fz := by intro _ _ _ e; cases e
/-- The same record in another state. -/
def recSt (r : Obj) (st : LoopState) (pe : Option Code) : Obj := match r with
  | .loop x => .loop { x with state := st, pending := pe }
  | o => o
theorem gb_two (w : World) (a b : Obj) : w.grownBy ((w.alloc a).alloc b) none := gb_tr (gb_alloc w a) (gb_alloc _ b)
end
section
variable {P : Program} {Q : Exit → Act → World → Prop} {w w' W : World} {n : Nat} {σ : Nat → Value} {ds : List Deferred} {l l' : Sl}
variable {g : Operand} {ps : Array Tmp} {asg body : Code} {gf fn : FuncId} {fs cs : List Value} {T : Array Value} {D L : Nat}
/-- What a piece of code comes to, said once. -/
theorem C_join {c : Code} {ro : Option Nat} {a : Act} (R : Act → World → Prop) (h1 : c.wpIn (wF ro) 0 P (fun e a w => e = .normal ∧ R a w) a w) (h2 : ∀ a w, R a w → Q .normal a w) : c.wpIn (wF ro) 0 P Q a w :=
  wpIn_mono (F := wF ro) h1 fun e a w he => by
    obtain ⟨rfl, h⟩ := he
    exact h2 _ _ h
theorem sli_zero {t lo hi : Nat} {A : Option Addr} {vs : List Value} (h : Sli t lo hi w A vs) : Sli t 0 w.heap.size w A vs := by
  rcases h with h | ⟨g, off, c, fr, hA, h1, h2, ⟨t2, h3, ht⟩, h4⟩
  · exact .inl h
  · exact .inr ⟨g, off, c, fr, hA, Nat.zero_le _, (Array.getElem?_eq_some_iff.1 h3).1, ⟨t2, h3, ht⟩, h4⟩
theorem W_frg {c : Code} {ro : Option Nat} (h : Agrees l l') (K : ∀ σ', c.wpIn (wF ro) 0 P Q (Ac n σ' ds l') w) : c.wpIn (wF ro) 0 P Q (Ac n σ ds l) w := by
  rw [Ac_frg h]
  exact K _
/-- The loop's function is called with a function of its own; behind it either the round's end is done. -/
theorem C_range2 (hg : ev n l g = some (.func (.func gf) fs.toArray cs.toArray)) (hc : callB P gf = true)
    (h : ∀ fn D L W1 rec, rec = lrec fn (fr n σ l) ps asg body D .ready none → D = w.heap.size → L = w.heap.size + 1 → LpF W1 D (.deferred (some [])) → LpF W1 L rec → w.grownBy W1 none →
      Runs P gf (fs ++ [Value.func (.yield L) #[] #[]] ++ cs).toArray W1
      (fun _ w3 => ∃ st pe, LpF w3 L (recSt rec st pe) ∧ st ≠ .busy ∧
        ∀ w4, w3.grownBy w4 (some L) →
          match pe with
          | none => Q .normal (Ac n σ (lmark D :: ds) l) w4
          | some c => c.wpIn (wF none) 0 P Q (Ac n σ (lmark D :: ds) l) w4)) :
    (Code.rangeFunc g ps asg body).wpIn (wF none) 0 P Q (Ac n σ ds l) w := by
  refine C_range hg hc fun fn => ?_
  have e1 := heap_alloc_new (w.alloc (.deferred (some []))) (lrec fn (fr n σ l) ps asg body w.heap.size .ready none)
  have e0 : (w.alloc (.deferred (some []))).heap.size = w.heap.size + 1 := by show (w.heap.push _).size = _; exact Array.size_push ..
  rw [e0] at e1
  have e2 : ((w.alloc (.deferred (some []))).alloc (lrec fn (fr n σ l) ps asg body w.heap.size .ready none)).heap[w.heap.size]? = some (.deferred (some [])) := by
    rw [(gb_alloc (w.alloc (.deferred (some []))) (lrec fn (fr n σ l) ps asg body w.heap.size .ready none)).block w.heap.size (by omega) (by simp)]
    exact heap_alloc_new w _
  refine (h fn _ _ _ _ rfl rfl rfl ⟨e2, lp_d⟩ ⟨e1, lp_l⟩ (gb_two w _ _)).mono ?_
  rintro v w3 ⟨st, pe, hL, hb, K⟩
  exact ⟨_, hL.1, hb, fun w4 hs _ => K w4 hs⟩
/-- How a round's body may be left. -/
def rdEnd2 (L : Nat) (fn : FuncId) (T : Array Value) (ps : Array Tmp) (asg body : Code) (D : Nat) (R : Value → World → Prop) : Exit → Act → World → Prop
  | .normal, _, w' => LpF w' L (lrec fn T ps asg body D .busy none) ∧ ∀ w'', w'.grownBy w'' (some L) → LpF w'' L (lrec fn T ps asg body D .ready none) → R (.bool true) w''
  | .ret, _, w' => LpF w' L (lrec fn T ps asg body D .busy none) ∧ ∀ w'', w'.grownBy w'' (some L) → LpF w'' L (lrec fn T ps asg body D .done (some .ret)) → R (.bool false) w''
  | .exit id, _, w' => LpF w' L (lrec fn T ps asg body D .busy none) ∧ ∀ w'', w'.grownBy w'' (some L) → LpF w'' L (lrec fn T ps asg body D .done (some (.exit id))) → R (.bool false) w''
  | _, _, _ => False
section
variable {R : Value → World → Prop} {a : Act} {id : Nat}
theorem rd_n (h : LpF w' L (lrec fn T ps asg body D .busy none)) (k : ∀ w'', w'.grownBy w'' (some L) → LpF w'' L (lrec fn T ps asg body D .ready none) → R (.bool true) w'') : rdEnd2 L fn T ps asg body D R .normal a w' := ⟨h, k⟩
theorem rd_r (h : LpF w' L (lrec fn T ps asg body D .busy none)) (k : ∀ w'', w'.grownBy w'' (some L) → LpF w'' L (lrec fn T ps asg body D .done (some .ret)) → R (.bool false) w'') : rdEnd2 L fn T ps asg body D R .ret a w' := ⟨h, k⟩
theorem rd_x (h : LpF w' L (lrec fn T ps asg body D .busy none)) (k : ∀ w'', w'.grownBy w'' (some L) → LpF w'' L (lrec fn T ps asg body D .done (some (.exit id))) → R (.bool false) w'') : rdEnd2 L fn T ps asg body D R (.exit id) a w' := ⟨h, k⟩
end
theorem gb_obj (w : World) (L : Nat) (o : Obj) : w.grownBy (w.putObj L o) (some L) := ⟨rfl, rfl, rfl, by simp, fun k _ hk => World.putObj_heap_other (fun e => hk (by rw [e]))⟩
theorem lp_put {o : Obj} (h : L < w.heap.size) (hn : ∀ cs t fz, o ≠ .cells cs t fz) : LpF (w.putObj L o) L o := ⟨by simp [World.putObj, h], hn⟩
/-- One round, of two values. -/
theorem yield_round2 {u v : Value} {p q : Nat} {R : Value → World → Prop} (hL : LpF W L (lrec fn (fr n σ l) #[p, q] asg body D .ready none)) (h1 : Nat.blt p n = true) (h2 : Nat.blt q n = true)
    (h : asg.wpIn (wF (some L)) 0 P (Exit.then (fun a₁ w₁ => LpF w₁ L (lrec fn (fr n σ l) #[p, q] asg body D .ready none) ∧ ∀ w₂, w₁.grownBy w₂ (some L) → LpF w₂ L (lrec fn (fr n σ l) #[p, q] asg body D .busy none) →
      body.wpIn (wF (some L)) 0 P (rdEnd2 L fn (fr n σ l) #[p, q] asg body D R) a₁ w₂) (fun _ _ _ => False)) (Ac n σ [] ((q, v) :: (p, u) :: l)) W) : YieldR P L [u, v] W R := by
  refine yield_round hL.1 rfl ?_
  rw [fold2 h1 h2]
  refine wpIn_mono (F := wF (some L)) h fun e a₁ w₁ he => ?_
  cases e with
  | normal =>
    obtain ⟨k1, k2⟩ := he
    refine ⟨k1.1, wpIn_mono (F := wF (some L)) (k2 _ (gb_obj _ _ _) (lp_put k1.lt lp_l)) fun e a₂ w₂ he => ?_⟩
    cases e with
    | normal => exact ⟨he.1.1, he.2 _ (gb_obj _ _ _) (lp_put he.1.lt lp_l)⟩
    | ret => exact ⟨he.1.1, he.2 _ (gb_obj _ _ _) (lp_put he.1.lt lp_l)⟩
    | exit id => exact ⟨he.1.1, he.2 _ (gb_obj _ _ _) (lp_put he.1.lt lp_l)⟩
    | goto t => exact he.elim
    | panic c => exact he.elim
    | outgrown => exact he.elim
  | ret => exact he.elim
  | exit id => exact he.elim
  | goto t => exact he.elim
  | panic c => exact he.elim
  | outgrown => exact he.elim
theorem leaveM2 {R : Value → World → Prop} {fn : Func} {e : Exit} (he : e = .normal ∨ e = .ret) (hD : LpF w D (.deferred (some []))) (K : ∀ w', w.grownBy w' (some D) → bodyPost P fn (RetOf R) e (Ac n σ [] l) w') : bodyPostM (wF none) 0 P fn (RetOf R) e (Ac n σ [lmark D] l) w :=
  leaveM1 he hD.1 fun w' hs _ => K w' hs
end
end Go.Proofs.Ytbmohojdlgedpaa.Gw
