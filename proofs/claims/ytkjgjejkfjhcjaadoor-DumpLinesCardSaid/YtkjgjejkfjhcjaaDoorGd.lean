/-
  Step lemmas, fifth part: a region whose operations may come in more than one order. They hold of every program.
-/
import Derived.Test.YtkjgjejkfjhcjaaDoorGn
import Derived.OrdersHeld
import Derived.Deep.RegionHeld3
namespace Go.Proofs.YtkjgjejkfjhcjaaDoor.Gw
open Go.RowKit
set_option linter.unusedVariables false
set_option linter.unusedSimpArgs false
section
variable {P : Program} {ops : Array Oper} {Q : Exit → Act → World → Prop} {md : Region.Mode} {S : World → Prop} {qs : List Nat}
/-- What comes behind operation q, and q. -/
def BackB (md : Region.Mode) (ops : Array Oper) (q : Nat) : List Nat :=
  (List.range ops.size).foldl (fun acc j => match ops[j]? with
    | some o => if o.after.any fun e => Region.binds md e && acc.contains e.on then j :: acc else acc
    | none => acc) [q]
theorem back_of {q : Nat} : ∀ (l acc : List Nat), (∀ b ∈ acc, b = q ∨ ∃ o, ops[b]? = some o ∧ ∃ e ∈ o.after, Region.binds md e = true ∧ e.on ∈ acc) →
    ∀ b ∈ l.foldl (fun acc j => match ops[j]? with
      | some o => if o.after.any fun e => Region.binds md e && acc.contains e.on then j :: acc else acc
      | none => acc) acc, b = q ∨ ∃ o, ops[b]? = some o ∧ ∃ e ∈ o.after, Region.binds md e = true ∧ e.on ∈ l.foldl (fun acc j => match ops[j]? with
      | some o => if o.after.any fun e => Region.binds md e && acc.contains e.on then j :: acc else acc
      | none => acc) acc := by
  intro l
  induction l with
  | nil => intro acc h; exact h
  | cons j l ih =>
    intro acc h
    rw [List.foldl_cons]
    refine ih _ ?_
    split
    · rename_i o ho
      split
      · rename_i hany
        intro b hb
        rcases List.mem_cons.1 hb with rfl | hb
        · obtain ⟨e, he, hx⟩ := Array.any_eq_true'.1 hany
          simp only [Bool.and_eq_true, List.contains_iff_mem] at hx
          exact .inr ⟨o, ho, e, he, hx.1, List.mem_cons_of_mem _ hx.2⟩
        · rcases h b hb with h | ⟨o', h1, e, h2, h3, h4⟩
          · exact .inl h
          · exact .inr ⟨o', h1, e, h2, h3, List.mem_cons_of_mem _ h4⟩
      · exact h
    · exact h
theorem back_pred {q b : Nat} (h : b ∈ BackB md ops q) : b = q ∨ ∃ o, ops[b]? = some o ∧ ∃ e ∈ o.after, Region.binds md e = true ∧ e.on ∈ BackB md ops q :=
  back_of (List.range ops.size) [q] (fun b hb => .inl (by simpa using hb)) b h
/-- Operation j need not wait for all of qs. -/
def NeedB (md : Region.Mode) (ops : Array Oper) (qs : List Nat) (j : Nat) : Bool :=
  match ops[j]? with
  | some _ => qs.any fun q => !(BackB md ops q).contains j
  | none => true
/-- Nothing of what comes behind q, nor q, is listed. -/
def ShutB (md : Region.Mode) (ops : Array Oper) (listed : Array Bool) (q : Nat) : Bool := (BackB md ops q).all fun b => !listed.getD b true
theorem need_of {i j : Nat} {oj : Oper} {listed : Array Bool} (hq : i ∈ qs) (hj : ops[j]? = some oj) (hji : j ≠ i) (hs : ∀ b ∈ BackB md ops i, listed.getD b true = false) (hall : ∀ e ∈ oj.after, Region.binds md e = true → listed.getD e.on false = true) : j ∉ BackB md ops i := by
  intro hb
  rcases back_pred hb with h | ⟨o, h1, e, h2, h3, h4⟩
  · exact hji h
  · rw [hj] at h1
    cases h1
    have h5 := hs _ h4
    have h6 := hall e h2 h3
    rcases Nat.lt_or_ge e.on listed.size with h' | h'
    · simp [h'] at h5 h6; rw [h6] at h5; cases h5
    · simp [Array.getElem?_eq_none h'] at h6
theorem need_in {i j : Nat} {oj : Oper} (hq : i ∈ qs) (hj : ops[j]? = some oj) (h : j ∉ BackB md ops i) : NeedB md ops qs j = true := by
  simp only [NeedB, hj]
  exact List.any_eq_true.2 ⟨i, hq, by simpa using h⟩
/-- Operation i, if it is wanted: it goes on, or hands a value to the body of a loop over a function. -/
def wpOpG (P : Program) (ops : Array Oper) (Q : Exit → Act → World → Prop) (i : Nat) (K : Act → World → Prop) (a : Act) (w : World) : Prop :=
  match ops[i]? with
  | none => K a w
  | some o => if Region.wanted o (yielded ops a.tmps) then o.wp P a w K Q ∨ Gives P o a w K else K (a.put o.dst undef) w
theorem Gives.mono {o : Oper} {a : Act} {w : World} {K K' : Act → World → Prop} (h : ∀ a w, K a w → K' a w) (hh : Gives P o a w K) : Gives P o a w K' := by
  obtain ⟨lp, f, tmps, asg, body, w', hr, h2⟩ := hh
  exact ⟨lp, f, tmps, asg, body, w', hr, RoundIn.mono h2 fun e w'' he => by cases e <;> first | exact h _ _ he | exact he⟩
theorem wp_monoG {o : Oper} {a : Act} {w : World} {K K' : Act → World → Prop} (h : ∀ a w, K a w → K' a w) (hh : o.wp P a w K Q) : o.wp P a w K' Q := by
  unfold Oper.wp at *
  generalize (execOp a.eval o).run P w = r at *
  cases r with
  | ok x w' =>
    cases x <;> simp only [Oper.upon] at hh ⊢ <;>
      first
        | exact h _ _ hh
        | exact Calls.mono hh (fun e w'' he => by cases e <;> first | exact h _ _ he | exact he)
        | exact Rows.mono hh (fun _ _ he => h _ _ he)
  | halt x w' => cases x <;> simp only [Oper.upon] at hh ⊢ <;> exact hh
theorem wpOpG_mono {i : Nat} {a : Act} {w : World} {K K' : Act → World → Prop} (h : ∀ a w, K a w → K' a w) (hh : wpOpG P ops Q i K a w) : wpOpG P ops Q i K' a w := by
  unfold wpOpG at *
  split
  · rename_i ho
    rw [ho] at hh
    exact h _ _ hh
  · rename_i o ho
    rw [ho] at hh
    simp only at hh
    split
    · rename_i hw
      rw [if_pos hw] at hh
      exact hh.imp (wp_monoG h) (Gives.mono h)
    · rename_i hw
      rw [if_neg hw] at hh
      exact h _ _ hh
theorem wpOpG_in {ro : Option Nat} (hd : (ro.isNone || ops.toList.all notDefer) = true) {i : Nat} {a : Act} {w : World} {K : Act → World → Prop} (h : wpOpG P ops Q i K a w) : wpOpIn (wF ro) 0 P ops Q i K a w := by
  unfold wpOpG at h
  unfold wpOpIn
  split
  · rename_i ho
    rw [ho] at h
    exact h
  · rename_i o ho
    rw [ho] at h
    simp only at h
    have h1 : ro.isNone = true ∨ notDefer o = true := by
      rw [Bool.or_eq_true] at hd
      exact hd.imp id fun hd => List.all_eq_true.1 hd o (by have := Array.mem_of_getElem? ho; simpa using this)
    split
    · rename_i hw
      rw [if_pos hw] at h
      rcases h with h | h
      · exact opIn_of_wp h1 h
      · exact opIn_of_gives h1 h
    · rename_i hw
      rw [if_neg hw] at h
      exact ⟨fun _ _ => trivial, h⟩
theorem yieldsG {i : Nat} {o : Oper} {v : Value} {a : Act} (hi : ops[i]? = some o) (hy : YieldsIf P ops S o v a) {K : Act → World → Prop} {w : World} (hS : S w) (h : K (a.put o.dst v) w) : wpOpG P ops Q i K a w := by
  unfold wpOpG
  rw [hi]
  simp only
  rcases hy with ⟨hw, hv⟩ | ⟨hw, rfl⟩
  · rw [if_pos hw]
    left
    unfold Oper.wp
    rw [hv w hS]
    exact h
  · rw [if_neg (by rw [hw]; simp)]
    exact h
theorem wpOpG_put {j : Nat} {oi oj : Oper} {v : Value} (hL : ¬ LetsOut Q) (hj : ops[j]? = some oj) (hap : oi.apart ops oj = true) (hsi : ∀ cs b, oi.op ≠ .select cs b) (hsj : ∀ cs b, oj.op ≠ .select cs b)
    (hQ : ∀ c a w, Q (.panic c) (a.put oi.dst v) w → Q (.panic c) a w) {K : Act → World → Prop} {a : Act} {w : World} (hy : YieldsIf P ops S oi v a) (h : wpOpG P ops Q j K (a.put oi.dst v) w) :
    wpOpG P ops Q j (fun a' w' => YieldsIf P ops S oi v a' ∧ K (a'.put oi.dst v) w') a w := by
  obtain ⟨h1, h2, h3⟩ := Oper.apart_spec hap
  have hwd := wanted_put oj a oi.dst v h1
  by_cases hw : Region.wanted oj (yielded ops a.tmps) = true
  · have hw' : Region.wanted oj (yielded ops (a.put oi.dst v).tmps) = true := hwd ▸ hw
    unfold wpOpG at h
    rw [hj] at h
    simp only at h
    rw [if_pos hw'] at h
    unfold wpOpG
    rw [hj]
    simp only
    rw [if_pos hw]
    rcases h with h | ⟨lp, f, tmps, asg, body, w', hr, hro⟩
    · left
      have hk : wpOp P ops Q j K (a.put oi.dst v) w := by
        unfold wpOp
        rw [hj]
        simp only
        rw [if_pos hw']
        exact .inl h
      have := wpOp_putIf hj hap hsi hsj hQ hy hk
      unfold wpOp at this
      rw [hj] at this
      simp only at this
      rw [if_pos hw] at this
      rcases this with this | ⟨_, hl⟩
      · exact this
      · exact absurd hl hL
    · right
      rw [execOp_put oj hsj a oi.dst v h1] at hr
      refine ⟨lp, f, tmps, asg, body, w', hr, RoundIn.mono hro fun e w'' he => ?_⟩
      cases e with
      | returned u => exact ⟨hy.of_same (execOp_put oi hsi a oj.dst u h3) (wanted_put oi a oj.dst u h3), by rw [← Act.put_comm a v u h2]; exact he⟩
      | panicked c => exact he
      | outgrown => exact he
  · have hw' : ¬ Region.wanted oj (yielded ops (a.put oi.dst v).tmps) = true := hwd ▸ hw
    unfold wpOpG at h ⊢
    rw [hj] at h ⊢
    simp only at h ⊢
    rw [if_neg hw'] at h
    rw [if_neg hw]
    exact ⟨hy.of_same (execOp_put oi hsi a oj.dst undef h3) (wanted_put oi a oj.dst undef h3), by rw [← Act.put_comm a v undef h2]; exact h⟩
/-- What a region that draws may end in: no panic. -/
def CalmE (Q : Exit → Act → World → Prop) : Exit → Act → World → Prop
  | .panic _, _, _ => False
  | .outgrown, _, _ => False
  | e, a, w => Q e a w
theorem CalmE.normal {a : Act} {w : World} (h : Q .normal a w) : CalmE Q .normal a w := h
theorem CalmE.imp : ∀ (e : Exit) (a : Act) (w : World), CalmE Q e a w → Q e a w := fun e a w h => by
  cases e <;> first | exact h | exact (h : False).elim
theorem CalmE.lets : ¬ LetsOut (CalmE Q) := fun ⟨_, _, h⟩ => h
/-- Whatever order is picked; behind each that need not wait for all of 'qs', S holds. -/
def wpAnyT (P : Program) (md : Region.Mode) (ops : Array Oper) (Q : Exit → Act → World → Prop) (S : World → Prop) (qs : List Nat) : Nat → Array Bool → Act → World → Prop
  | 0, listed, a, w => Region.ready md ops listed = [] ∧ Q .normal a w
  | fuel + 1, listed, a, w =>
    (Region.ready md ops listed = [] → Q .normal a w) ∧
    ∀ i ∈ Region.ready md ops listed, wpOpG P ops Q i (fun a' w' => (NeedB md ops qs i = true → S w') ∧ wpAnyT P md ops Q S qs fuel (listed.setIfInBounds i true) a' w') a w
theorem wpAnyIn_of_T {ro : Option Nat} (hd : (ro.isNone || ops.toList.all notDefer) = true) : ∀ (fuel : Nat) (listed : Array Bool) (a : Act) (w : World), wpAnyT P md ops Q S qs fuel listed a w → wpAnyIn (wF ro) 0 P md ops Q fuel listed a w
  | 0, _, _, _, h => h
  | fuel + 1, _, _, _, h => ⟨h.1, fun i hi => wpOpIn_mono (fun a' w' h' => wpAnyIn_of_T hd fuel _ a' w' h'.2) (wpOpG_in hd (h.2 i hi))⟩
theorem wpOpIn_of {ro : Option Nat} (hd : (ro.isNone || ops.toList.all notDefer) = true) (hL : ¬ LetsOut Q) {i : Nat} {a : Act} {w : World} {K : Act → World → Prop} (h : wpOp P ops Q i K a w) : wpOpIn (wF ro) 0 P ops Q i K a w := by
  refine wpOpG_in hd ?_
  unfold wpOp at h
  unfold wpOpG
  split
  · rename_i ho
    rw [ho] at h
    exact h
  · rename_i o ho
    rw [ho] at h
    simp only at h
    split
    · rename_i hw
      rw [if_pos hw] at h
      exact h.imp id fun h => absurd h.2 hL
    · rename_i hw
      rw [if_neg hw] at h
      exact h
theorem wpAnyIn_of_any {ro : Option Nat} (hd : (ro.isNone || ops.toList.all notDefer) = true) (hL : ¬ LetsOut Q) : ∀ (fuel : Nat) (listed : Array Bool) (a : Act) (w : World), wpAny P md ops Q fuel listed a w → wpAnyIn (wF ro) 0 P md ops Q fuel listed a w
  | 0, _, _, _, h => h
  | fuel + 1, _, _, _, h => ⟨h.1, fun i hi => wpOpIn_mono (fun a' w' h' => wpAnyIn_of_any hd hL fuel _ a' w' h') (wpOpIn_of hd hL (h.2 i hi))⟩
theorem regionIn_of_any {ro : Option Nat} {id : Nat} {a : Act} {w : World} (hd : (ro.isNone || ops.toList.all notDefer) = true) (hm : P.follows .mixedOrders = true) (h : wpAny P .any ops (CalmE Q) ops.size (Array.replicate ops.size false) a { w with drawn := w.drawn + 1 }) :
    (Code.region id ops true).wpIn (wF ro) 0 P Q a w := wpIn_mono (wpIn_region_any hm (wpAnyIn_of_any hd CalmE.lets _ _ _ _ h)) CalmE.imp
theorem T_first {i : Nat} {oi : Oper} {v : Value} (hL : ¬ LetsOut Q) (hq : i ∈ qs) (hi : ops[i]? = some oi) (hsel : ∀ (j : Nat) (o : Oper) cs b, ops[j]? = some o → o.op ≠ .select cs b)
    (hQ : ∀ c a w, Q (.panic c) (a.put oi.dst v) w → Q (.panic c) a w) :
    ∀ (fuel : Nat) (listed : Array Bool) (a : Act) (w : World),
      (∀ j oj, ops[j]? = some oj → j ≠ i → listed.getD j true = false → (∀ e ∈ oj.after, Region.binds md e = true → e.on ≠ i) → oi.apart ops oj = true) → (∀ b ∈ BackB md ops i, listed.getD b true = false) →
      i ∈ Region.ready md ops listed → YieldsIf P ops S oi v a → S w →
      wpAnyT P md ops Q S qs fuel (listed.setIfInBounds i true) (a.put oi.dst v) w → wpAnyT P md ops Q S qs (fuel + 1) listed a w := by
  intro fuel
  induction fuel with
  | zero =>
    intro listed a w _ _ hr hy hS H
    refine ⟨fun h => (by rw [h] at hr; cases hr), fun j hj => ?_⟩
    by_cases hji : j = i
    · subst hji; exact yieldsG hi hy hS ⟨fun _ => hS, H⟩
    · have := ready_mono hj hji
      rw [H.1] at this
      cases this
  | succ fuel ih =>
    intro listed a w hfree hsh hr hy hS H
    refine ⟨fun h => (by rw [h] at hr; cases hr), fun j hj => ?_⟩
    by_cases hji : j = i
    · subst hji; exact yieldsG hi hy hS ⟨fun _ => hS, H⟩
    · have h1 := H.2 j (ready_mono hj hji)
      obtain ⟨hjun, oj, hoj, hall⟩ := mem_ready.1 hj
      have hiun : listed.getD i true = false := (mem_ready.1 hr).1
      have hnot : ∀ e ∈ oj.after, Region.binds md e = true → e.on ≠ i := fun e he hb heq => by
        have h1 := hall e he hb
        rw [heq] at h1
        rcases Nat.lt_or_ge i listed.size with h' | h'
        · simp [h'] at hiun h1; rw [hiun] at h1; cases h1
        · simp [Array.getElem?_eq_none h'] at h1
      have h2 := wpOpG_put hL hoj (hfree j oj hoj hji hjun hnot) (fun cs b => hsel i oi cs b hi) (fun cs b => hsel j oj cs b hoj) hQ hy h1
      have hfree' : ∀ k ok, ops[k]? = some ok → k ≠ i → (listed.setIfInBounds j true).getD k true = false →
          (∀ e ∈ ok.after, Region.binds md e = true → e.on ≠ i) → oi.apart ops ok = true := fun k ok hk hki hun hno => by
        refine hfree k ok hk hki ?_ hno
        by_cases hjk : j = k
        · subst hjk; exact hjun
        · rw [getD_set_ne true hjk] at hun; exact hun
      have hout := need_of hq hoj hji hsh hall
      have hneed := need_in hq hoj hout
      have hsh' : ∀ b ∈ BackB md ops i, (listed.setIfInBounds j true).getD b true = false := fun b hb => by
        by_cases e : j = b
        · exact absurd (by rw [e]; exact hb) hout
        · rw [getD_set_ne true e]; exact hsh b hb
      refine wpOpG_mono (fun a' w' h3 => ⟨h3.2.1, ih (listed.setIfInBounds j true) a' w' hfree' hsh' (ready_mono hr (Ne.symm hji)) h3.1 (h3.2.1 hneed) ?_⟩) h2
      rw [Array.setIfInBounds_comm _ _ hji]
      exact h3.2.2
theorem T_take {i : Nat} {oi : Oper} {v : Value} {fuel : Nat} {listed : Array Bool} {a : Act} {w : World} (hi : ops[i]? = some oi) (hq : (qs.contains i && ShutB md ops listed i) = true)
    (hs : Region.noSelect ops = true) (hf : Region.free md ops listed i = true) (hr : (Region.ready md ops listed).contains i = true)
    (hy : YieldsIf P ops S oi v a) (hS : S w)
    (h : wpAnyT P md ops (CalmE Q) S qs fuel (listed.setIfInBounds i true) (a.put oi.dst v) w) : wpAnyT P md ops (CalmE Q) S qs (fuel + 1) listed a w :=
  T_first CalmE.lets (by simpa using (Bool.and_eq_true_iff.1 hq).1) hi (Region.noSelect_spec hs) (fun _ _ _ h => h) fuel listed a w (Region.free_spec hi hf) (fun b hb => by
    have := List.all_eq_true.1 (Bool.and_eq_true_iff.1 hq).2 b hb
    simpa using this) (by simpa using hr) hy hS h
/-- Whichever of those that may come up comes up. -/
theorem T_all {rs : List Nat} {fuel : Nat} {listed : Array Bool} {a : Act} {w : World} (hr : Region.ready md ops listed = rs) (hne : rs.isEmpty = false)
    (h : ∀ i ∈ rs, wpOpG P ops Q i (fun a' w' => (NeedB md ops qs i = true → S w') ∧ wpAnyT P md ops Q S qs fuel (listed.setIfInBounds i true) a' w') a w) : wpAnyT P md ops Q S qs (fuel + 1) listed a w :=
  ⟨fun h0 => (by rw [hr] at h0; subst h0; cases hne), hr ▸ h⟩
theorem T_done {fuel : Nat} {listed : Array Bool} {a : Act} {w : World} (hr : Region.ready md ops listed = []) (h : Q .normal a w) : wpAnyT P md ops Q S qs fuel listed a w := by
  cases fuel with
  | zero => exact ⟨hr, h⟩
  | succ fuel => exact ⟨fun _ => h, fun i hi => by rw [hr] at hi; cases hi⟩
/-- No operation that is left asks for S. -/
theorem T_switch {S' : World → Prop} {qs' : List Nat} : ∀ {fuel : Nat} {listed : Array Bool} {a : Act} {w : World},
    (List.range ops.size).all (fun j => listed.getD j true || !NeedB md ops qs j) = true →
    wpAnyT P md ops Q S' qs' fuel listed a w → wpAnyT P md ops Q S qs fuel listed a w := by
  intro fuel
  induction fuel with
  | zero => intro listed a w _ h; exact h
  | succ fuel ih =>
    intro listed a w hall h
    refine ⟨h.1, fun i hi => wpOpG_mono (fun a' w' h' => ⟨fun hn => ?_, ih ?_ h'.2⟩) (h.2 i hi)⟩
    · obtain ⟨hun, o, ho, _⟩ := mem_ready.1 hi
      have hlt : i < ops.size := (Array.getElem?_eq_some_iff.1 ho).1
      have := List.all_eq_true.1 hall i (by simpa using hlt)
      rw [hun, hn] at this
      cases this
    · refine List.all_eq_true.2 fun j hj => ?_
      have := List.all_eq_true.1 hall j hj
      by_cases hij : i = j
      · subst hij
        obtain ⟨hun, o, ho, _⟩ := mem_ready.1 hi
        rcases Nat.lt_or_ge i listed.size with h' | h'
        · simp [h']
        · simp [h']
      · rw [getD_set_ne true hij]; exact this
/-- One operation, by the laws for a list. -/
theorem O_one {i : Nat} {o : Oper} {K : Act → World → Prop} {a : Act} {w : World} (hi : ops[i]? = some o) (h : wpL P ops (Exit.then K Q) [o] a w) : wpOpG P ops Q i K a w := by
  unfold wpOpG
  rw [hi]
  simp only [wpL] at h ⊢
  split
  · rename_i hw
    rw [if_pos hw] at h
    rcases h with h | h
    · left
      unfold Oper.wp at *
      generalize (execOp a.eval o).run P w = r at *
      cases r with
      | ok n w' =>
        cases n <;> simp only [Oper.upon] at h ⊢
        all_goals first | exact h | skip
      | halt x w' => cases x <;> simp only [Oper.upon] at h ⊢ <;> exact h
    · exact .inr h
  · rename_i hw
    rw [if_neg hw] at h
    exact h
/-- An operation without a guard that leaves the world as it is. -/
theorem Y_of {n : Nat} {σ : Nat → Value} {ds : List Deferred} {l : Sl} {dst : Option Nat} {op : Op} {ty : TypeId} {pos : String} {af : Array Edge} {v : Value}
    (h : ∀ w, S w → (execOp (Ac n σ ds l).eval ⟨dst, op, ty, pos, af, none⟩).run P w = .ok (.value v) w) : YieldsIf P ops S ⟨dst, op, ty, pos, af, none⟩ v (Ac n σ ds l) :=
  .inl ⟨by simp [Region.wanted], h⟩
theorem yld {n : Nat} {σ : Nat → Value} {ds : List Deferred} {l : Sl} {j t : Nat} {oj : Oper} {b : Bool} (hj : ops[j]? = some oj) (ht : oj.dst = some t) (hv : ev n l (.tmp t) = some (.bool b)) :
    yielded ops (Ac n σ ds l).tmps j = some b := by
  simp only [yielded, hj, Option.bind_some, ht]
  have h1 := eval_tmp (σ := σ) hv
  have hlt : t < n := by
    simp only [ev] at hv
    cases hx : Nat.blt t n with
    | false => rw [hx] at hv; cases hv
    | true => simpa [Nat.blt_eq] using hx
  have h2 : (fr n σ l)[t]? = some (.bool b) := by
    rw [← h1]; simp [Array.getD, fr, hlt]
  simp [Ac, h2]
theorem Y_yes {n : Nat} {σ : Nat → Value} {ds : List Deferred} {l : Sl} {dst : Option Nat} {op : Op} {ty : TypeId} {pos : String} {af : Array Edge} {v : Value} {j t : Nat} {want : Bool} {oj : Oper} {b : Bool}
    (hj : ops[j]? = some oj) (ht : oj.dst = some t) (hv : ev n l (.tmp t) = some (.bool b)) (hb : b = want)
    (h : ∀ w, S w → (execOp (Ac n σ ds l).eval ⟨dst, op, ty, pos, af, some (j, want)⟩).run P w = .ok (.value v) w) : YieldsIf P ops S ⟨dst, op, ty, pos, af, some (j, want)⟩ v (Ac n σ ds l) :=
  .inl ⟨by simp [Region.wanted, yld (σ := σ) (ds := ds) hj ht hv, hb], h⟩
theorem Y_no {n : Nat} {σ : Nat → Value} {ds : List Deferred} {l : Sl} {dst : Option Nat} {op : Op} {ty : TypeId} {pos : String} {af : Array Edge} {j t : Nat} {want : Bool} {oj : Oper} {b : Bool}
    (hj : ops[j]? = some oj) (ht : oj.dst = some t) (hv : ev n l (.tmp t) = some (.bool b)) (hb : b = !want) : YieldsIf P ops S ⟨dst, op, ty, pos, af, some (j, want)⟩ undef (Ac n σ ds l) :=
  .inr ⟨by simp [Region.wanted, yld (σ := σ) (ds := ds) hj ht hv, hb], rfl⟩
/-- These blocks are as they were. -/
def Same (w0 : World) (bs : List Nat) (w : World) : Prop := w0.heap.size ≤ w.heap.size ∧ ∀ b ∈ bs, b < w0.heap.size ∧ w.heap[b]? = w0.heap[b]?
theorem Same.refl {w : World} {bs : List Nat} (h : ∀ b ∈ bs, b < w.heap.size) : Same w bs w := ⟨Nat.le_refl _, fun b hb => ⟨h b hb, rfl⟩⟩
theorem Same.step {w0 w w' : World} {bs : List Nat} {row : Option Nat} (h : Same w0 bs w) (hg : w.grownBy w' row) (hr : ∀ b ∈ bs, some b ≠ row) : Same w0 bs w' :=
  ⟨Nat.le_trans h.1 hg.size, fun b hb => ⟨(h.2 b hb).1, (hg.block b (Nat.lt_of_lt_of_le (h.2 b hb).1 h.1) (hr b hb)).trans (h.2 b hb).2⟩⟩
theorem Same.gb {w0 w w' : World} {bs : List Nat} (h : Same w0 bs w) (hg : w.grownBy w' none) : Same w0 bs w' := h.step hg (fun _ _ e => by cases e)
theorem Same.cell {w0 w : World} {bs : List Nat} {g o : Nat} {v : Value} (h : Same w0 bs w) (hb : g ∈ bs) (hc : w0.cell? ⟨g, o, none⟩ = some v) : w.cell? ⟨g, o, none⟩ = some v :=
  (World.cell?_of_block (a := ⟨g, o, none⟩) (h.2 g hb).2).trans hc
theorem Same.at_ {w0 w : World} {bs : List Nat} {g o : Nat} {vs : List Value} (h : Same w0 bs w) (hb : g ∈ bs) (hc : At w0 g o vs) : At w g o vs := fun j v hj => h.cell hb (hc j v hj)
end
end Go.Proofs.YtkjgjejkfjhcjaaDoor.Gw
