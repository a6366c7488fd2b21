/-
  Step lemmas, eighteenth part: a part with a capacity of its own; an append onto a full row that is not one's own. They hold of every program.
-/
import Derived.Test.YtbmohojdlgedpaaGi
import Derived.ArgAppend
namespace Go.Proofs.Ytbmohojdlgedpaa.Gw
open Go.RowKit
set_option linter.unusedVariables false
set_option linter.unusedSimpArgs false
section
variable {P : Program} {Q : Exit → Act → World → Prop} {w w' : World} {ops : Array Oper} {rest : List Oper}
variable {n : Nat} {σ : Nat → Value} {ds : List Deferred} {l : Sl} {d : Nat} {ty : TypeId} {pos : String} {af : Array Edge} {dst : Option Nat} {gd : Option (Nat × Bool)}
section
variable {t e te sz by_ m c lo hi hi' : Nat} {x : Operand} {A : Option Addr} {vs : List Value}
theorem L_slHM {k' k'' : IntKind} {b b' : Int} {j r : Nat} {y' y'' : Operand} (hx : ev n l x = some (.slice A m c)) (hy' : ev n l y' = some (.int k' b)) (hy'' : ev n l y'' = some (.int k'' b'))
    (hb : b = (j : Int)) (hb' : b' = (r : Int)) (hs : slcB P t e sz by_ = true) (hjm : j ≤ m) (hjr : j ≤ r) (hrc : r ≤ c) (hS : Sli te lo hi' w A vs) (hl : vs.length = m * sz) (hn : Nat.blt d n = true)
    (K : ∀ A', Sli te lo hi' w A' (vs.take (j * sz)) → wpL P ops Q rest (Ac n σ ds ((d, .slice A' j r) :: l)) w) :
    wpL P ops Q (⟨some d, .slice t x none (some y') (some y''), ty, pos, af, none⟩ :: rest) (Ac n σ ds l) w := by
  have hcut := cut_sli (i := 0) (j := j) (cap := r) hS hl (Nat.zero_le _) hjm (fun h => by omega)
  simp only [Nat.zero_mul, List.drop_zero, Nat.sub_zero] at hcut
  obtain ⟨hu, inf, z, hinf, hz, e1, e2, e3, e4, e5⟩ := slcB_u hs
  refine L_run ?_ hn (K _ hcut)
  simp only [execOp, ev_eval hx, Option.map_some, Option.map_none, ev_eval hy', ev_eval hy'']
  refine v_run ?_
  simp [Instr.sliceAt, run_underlying hu, Instr.slice, Instr.sliceBounds, run_bound hb hjr, run_bound hb' hrc, sizeOf, typeInfo, hinf, e1]
/-- append onto a full row: a new one. -/
theorem L_appendF {te2 lo2 hi2 c2 : Nat} {s : Operand} {A2 : Option Addr} {k : Nat} {news : List Value} (hs : slcB P t e sz by_ = true) (hv : ev n l s = some (.slice A k k)) (hx : ev n l x = some (.slice A2 m c2))
    (ho : Sli te lo hi w A vs) (hvs : vs.length = k * sz) (hr : Sli te2 lo2 hi2 w A2 news) (hm : news.length = m * sz) (hm0 : 0 < m) (h1 : ∀ u ∈ news, u.oneCell' = true) (hb : (k + m) * by_ ≤ 140737488355328) (hn : Nat.blt d n = true)
    (K : ∀ A' c' w', w'.ownsRow w.heap.size e sz (.slice A' (k + m) c') (k + m) (vs ++ news) → w.grownBy w' none → wpL P ops Q rest (Ac n σ ds ((d, .slice A' (k + m) c') :: l)) w') :
    wpL P ops Q (⟨some d, .call ⟨.builtin .append, #[s, x], #[t, t]⟩, ty, pos, af, none⟩ :: rest) (Ac n σ ds l) w := by
  obtain ⟨hu, i, z, hi_, hz, e1, e2, e3, e4, e5⟩ := slcB_u hs
  have h63 : k + m ≤ maxLen := by
    have : (k + m) * 1 ≤ (k + m) * by_ := Nat.mul_le_mul_left _ e5
    simp only [maxLen]; omega
  have hmz : 0 < m * sz := Nat.mul_pos hm0 e4
  have go : ∃ v' w', (Builtin.append_ #[t, t] ty #[.slice A k k, .slice A2 m c2]).run P w = .ok v' w' ∧ w'.ownsRow w.heap.size e sz v' (k + m) (vs ++ news) ∧ w.grownBy w' none := by
    rcases hr with hr | ⟨g, off, cc, fr, rfl, _, _, ⟨te', h3, _⟩, h4⟩
    · subst hr; simp at hm; omega
    · have hc2 : ∀ j u, news[j]? = some u → w.cell? (Addr.add ⟨g, off, none⟩ j) = some u := fun j u hj => by rw [Addr.add_lit, cell_of_row w g _ cc te' fr h3]; exact h4 j u hj
      by_cases hk : k = 0
      · subst hk
        obtain rfl : vs = [] := List.eq_nil_of_length_eq_zero (by simpa using hvs)
        cases A with
        | none =>
          obtain ⟨v', w', a1, a2, a3, _⟩ := run_append_own (P := P) w w.heap.size t ty e i z sz by_ hu hi_ hz e1 e2 e3 e4 (.slice none 0 0) 0 [] (World.ownsRow_nil w _ e sz) ⟨g, off, none⟩ m c2 news hm hc2 h1 h63 hb (Nat.le_refl _)
          exact ⟨v', w', a1, a2, a3⟩
        | some b => exact run_append_arg_grows (P := P) w t ty e i z sz by_ hu hi_ hz e1 e2 e3 e4 b 0 0 [] (by simp) (fun j u hj => by simp at hj) ⟨g, off, none⟩ m c2 news hm hc2 (by omega) h63 hb
      · rcases ho with ho | ⟨g', off', cc', fr', rfl, _, _, ⟨te'', h3', _⟩, h4'⟩
        · subst ho
          have : 0 < k * sz := Nat.mul_pos (by omega) e4
          simp at hvs; omega
        · exact run_append_arg_grows (P := P) w t ty e i z sz by_ hu hi_ hz e1 e2 e3 e4 ⟨g', off', none⟩ k k vs hvs (fun j u hj => by rw [Addr.add_lit, cell_of_row w g' _ cc' te'' fr' h3']; exact h4' j u hj) ⟨g, off, none⟩ m c2 news hm hc2 (by omega) h63 hb
  obtain ⟨v', w', hrun, hown, hg⟩ := go
  obtain ⟨A', c', rfl, _, _, _⟩ := own_sli hown
  refine L_run ?_ hn (K A' c' w' hown hg)
  simp only [execOp, resolve, invoke, builtin, ev_eval hv, ev_eval hx, List.map_toArray, List.map_cons, List.map_nil]
  simp [hrun, ev_eval hv, ev_eval hx]
end
section
variable {α : Type} {enc : α → List Value} {t e te sz by_ c lo hi : Nat} {x : Operand} {A : Option Addr} {xs : List α}
theorem T_slHM {k' k'' : IntKind} {b b' : Int} {j r : Nat} {y' y'' : Operand} (he : Enc enc sz) (hx : ev n l x = some (.slice A xs.length c)) (hy' : ev n l y' = some (.int k' b)) (hy'' : ev n l y'' = some (.int k'' b'))
    (hb : b = (j : Int)) (hb' : b' = (r : Int)) (hs : slcB P t e sz by_ = true) (hjm : j ≤ xs.length) (hjr : j ≤ r) (hrc : r ≤ c) (hS : Sli te lo hi w A (fl enc xs)) (hn : Nat.blt d n = true)
    (K : ∀ A', Sli te lo hi w A' (fl enc (xs.take j)) → wpL P ops Q rest (Ac n σ ds ((d, .slice A' (xs.take j).length r) :: l)) w) :
    wpL P ops Q (⟨some d, .slice t x none (some y') (some y''), ty, pos, af, none⟩ :: rest) (Ac n σ ds l) w :=
  L_slHM hx hy' hy'' hb hb' hs hjm hjr hrc hS (fl_len he xs) hn (fun A' h => by
    have := K A'
    rw [List.length_take, ← fl_take he, Nat.min_eq_left hjm] at this
    exact this h)
theorem T_appendF {te2 c2 lo2 hi2 : Nat} {s : Operand} {A2 : Option Addr} {ys : List α} (he : Enc enc sz) (hs : slcB P t e sz by_ = true) (hv : ev n l s = some (.slice A xs.length c)) (hx : ev n l x = some (.slice A2 ys.length c2)) (hc : c = xs.length)
    (ho : Sli te lo hi w A (fl enc xs)) (hr : Sli te2 lo2 hi2 w A2 (fl enc ys)) (hy : 0 < ys.length) (hb : (xs.length + ys.length) * by_ ≤ 140737488355328) (hn : Nat.blt d n = true)
    (K : ∀ A' c' w', w'.ownsRow w.heap.size e sz (.slice A' (xs ++ ys).length c') (xs ++ ys).length (fl enc (xs ++ ys)) → w.grownBy w' none → wpL P ops Q rest (Ac n σ ds ((d, .slice A' (xs ++ ys).length c') :: l)) w') :
    wpL P ops Q (⟨some d, .call ⟨.builtin .append, #[s, x], #[t, t]⟩, ty, pos, af, none⟩ :: rest) (Ac n σ ds l) w := by
  subst hc
  exact L_appendF hs hv hx ho (fl_len he xs) hr (fl_len he ys) hy (fl_all he ys) hb hn (fun A' c' w' h1 h2 => by
    have := K A' c' w'
    rw [List.length_append, fl_app] at this
    exact this h1 h2)
end
end
end Go.Proofs.Ytbmohojdlgedpaa.Gw
