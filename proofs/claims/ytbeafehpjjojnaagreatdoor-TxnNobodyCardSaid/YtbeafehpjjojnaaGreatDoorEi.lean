/-
  An evaluator for closed calls, ninth part: code and calls. It holds of every program.
-/
import Derived.Test.YtbeafehpjjojnaaGreatDoorEh
namespace Go.Proofs.YtbeafehpjjojnaaGreatDoor.Ev
open Go.RowKit Gw
set_option linter.unusedVariables false
set_option linter.unusedSimpArgs false
inductive Ex where
  | normal
  | exit (id : Nat)
  | ret
def Ex.to : Ex → Exit
  | .normal => .normal
  | .exit id => .exit id
  | .ret => .ret
abbrev Go := Code → Fr → List Df → St → Option (Ex × Fr × List Df × St)
abbrev Drw := Array Oper → Fr → St → Option (Fr × St)
def stepC (P : Program) (rec : Rec) (drw : Drw) (gl : Gl) (n : Nat) (go : Go) : Go := fun c fr dd st =>
  match c with
  | .skip => some (.normal, fr, dd, st)
  | .region _ ops draw => match draw with
    | true => match drw ops fr st with | some (fr', st') => some (.normal, fr', dd, st') | none => none
    | false => match evOps P rec gl n ops ops.toList fr dd st with | some (fr', dd', st') => some (.normal, fr', dd', st') | none => none
  | .seq a b => match go a fr dd st with
    | some (.normal, fr', dd', st') => go b fr' dd' st'
    | r => r
  | .cond c x y => match evO gl n fr c with
    | some (vK (.bool true)) => go x fr dd st
    | some (vK (.bool false)) => go y fr dd st
    | _ => none
  | .block id b => match go b fr dd st with
    | some (.exit i, fr', dd', st') => bif Nat.beq i id then some (.normal, fr', dd', st') else some (.exit i, fr', dd', st')
    | r => r
  | .loop b => match go b fr dd st with
    | some (.normal, fr', dd', st') => go (.loop b) fr' dd' st'
    | r => r
  | .exit id => some (.exit id, fr, dd, st)
  | .ret => some (.ret, fr, dd, st)
  | _ => none
def evC (P : Program) (rec : Rec) (drw : Drw) (gl : Gl) (n : Nat) (k : Nat) : Go := Nat.rec (fun _ _ _ _ => none) (fun _ go => stepC P rec drw gl n go) k
def DrwOk (P : Program) (w0 : Wd) (gl : Gl) (n : Nat) (drw : Drw) : Prop :=
  ∀ ops fr st fr' st', drw ops fr st = some (fr', st') → ∀ {ρ : Rho} {l : Sl} {w : World} {σ : Nat → Value} {ds : List Deferred} {Q : Exit → Act → World → Prop} {id : Nat}, GL ρ gl → FR ρ n fr l → MR w0 ρ st w →
    (∀ ρ' l' w', Le ρ ρ' → FR ρ' n fr' l' → MR w0 ρ' st' w' → Q .normal (Ac n σ ds l') w') → (Code.region id ops true).wp P Q (Ac n σ ds l) w
section
variable {P : Program} {gl : Gl} {n : Nat} {w0 : Wd} {rec : Rec} {drw : Drw} {σ : Nat → Value}
theorem evC_ok (hR : RecOk P w0 gl rec) (hD : DrwOk P w0 gl n drw) : ∀ (k : Nat) {c : Code} {fr fr' : Fr} {dd dd' : List Df} {st st' : St} {x : Ex} {ρ : Rho} {l : Sl} {ds : List Deferred} {w : World} {Q : Exit → Act → World → Prop}, evC P rec drw gl n k c fr dd st = some (x, fr', dd', st') →
    GL ρ gl → FR ρ n fr l → DS ρ dd ds → MR w0 ρ st w → (∀ ρ' l' ds' w', Le ρ ρ' → FR ρ' n fr' l' → DS ρ' dd' ds' → MR w0 ρ' st' w' → Q x.to (Ac n σ ds' l') w') → c.wp P Q (Ac n σ ds l) w := by
  intro k
  induction k using Nat.strongRecOn with
  | _ k ih =>
    intro c fr fr' dd dd' st st' x ρ l ds w Q h hG hF hS hM kk
    cases k with
    | zero => cases h
    | succ k =>
      replace h : stepC P rec drw gl n (evC P rec drw gl n k) c fr dd st = some (x, fr', dd', st') := h
      have ihk := fun {c fr fr' dd dd' st st' x ρ l ds w Q} => @ih k (Nat.lt_succ_self k) c fr fr' dd dd' st st' x ρ l ds w Q
      unfold stepC at h
      split at h
      · obtain ⟨rfl, rfl, rfl, rfl⟩ : Ex.normal = x ∧ fr = fr' ∧ dd = dd' ∧ st = st' := by simpa using h
        exact C_skip (kk ρ l ds w (Le.refl ρ) hF hS hM)
      · rename_i id ops draw
        split at h
        · split at h
          · rename_i fr1 st1 hd
            obtain ⟨rfl, rfl, rfl, rfl⟩ : Ex.normal = x ∧ fr1 = fr' ∧ dd = dd' ∧ st1 = st' := by simpa using h
            exact hD _ _ _ _ _ hd hG hF hM fun ρ' l' w' q1 q2 q3 => kk ρ' l' ds w' q1 q2 (hS.mono q1) q3
          · cases h
        · split at h
          · rename_i fr1 dd1 st1 hd
            obtain ⟨rfl, rfl, rfl, rfl⟩ : Ex.normal = x ∧ fr1 = fr' ∧ dd1 = dd' ∧ st1 = st' := by simpa using h
            have := C_reg (P := P) (Q := Q) (a := Ac n σ ds l) (w := w) (id := id) (l := ops.toList) (by
              simp only [Array.toArray_toList]
              exact evOps_ok hR hd hG hF hS hM kk)
            simpa using this
          · cases h
      · split at h
        · rename_i fr1 dd1 st1 h1
          refine C_seq (ihk h1 hG hF hS hM fun ρ1 l1 ds1 w1 hle hF1 hS1 hM1 => ?_)
          exact ihk h (hG.mono hle) hF1 hS1 hM1 fun ρ' l' ds' w' q1 q2 q3 q4 => kk ρ' l' ds' w' (hle.trans q1) q2 q3 q4
        · rename_i hn
          refine C_seq (ihk h hG hF hS hM fun ρ1 l1 ds1 w1 hle hF1 hS1 hM1 => ?_)
          have hk := kk ρ1 l1 ds1 w1 hle hF1 hS1 hM1
          cases x with
          | normal => exact absurd h (hn _ _ _)
          | exit i => exact hk
          | ret => exact hk
      · split at h
        · rename_i hc
          obtain ⟨v, e, r⟩ := evO_ev hG hF hc
          obtain rfl : v = _ := r
          exact C_condT e rfl (ihk h hG hF hS hM kk)
        · rename_i hc
          obtain ⟨v, e, r⟩ := evO_ev hG hF hc
          obtain rfl : v = _ := r
          exact C_condF e rfl (ihk h hG hF hS hM kk)
        · cases h
      · rename_i id b
        split at h
        · rename_i i fr1 dd1 st1 h1
          cases hb : Nat.beq i id with
          | true =>
            rw [hb] at h
            obtain ⟨rfl, rfl, rfl, rfl⟩ : Ex.normal = x ∧ fr1 = fr' ∧ dd1 = dd' ∧ st1 = st' := by simpa using h
            obtain rfl := Nat.eq_of_beq_eq_true hb
            exact C_block (ihk h1 hG hF hS hM fun ρ1 l1 ds1 w1 hle hF1 hS1 hM1 => X_hit (kk ρ1 l1 ds1 w1 hle hF1 hS1 hM1))
          | false =>
            rw [hb] at h
            obtain ⟨rfl, rfl, rfl, rfl⟩ : Ex.exit i = x ∧ fr1 = fr' ∧ dd1 = dd' ∧ st1 = st' := by simpa using h
            exact C_block (ihk h1 hG hF hS hM fun ρ1 l1 ds1 w1 hle hF1 hS1 hM1 => X_miss hb (kk ρ1 l1 ds1 w1 hle hF1 hS1 hM1))
        · rename_i hn
          refine C_block (ihk h hG hF hS hM fun ρ1 l1 ds1 w1 hle hF1 hS1 hM1 => ?_)
          have hk := kk ρ1 l1 ds1 w1 hle hF1 hS1 hM1
          cases x with
          | normal => exact hk
          | exit i => exact absurd h (hn _ _ _ _)
          | ret => exact hk
      · rename_i b
        refine C_loop (fun m a w => m ≤ k + 1 ∧ ∃ fr dd st ρ1 l ds, a = Ac n σ ds l ∧ Le ρ ρ1 ∧ FR ρ1 n fr l ∧ DS ρ1 dd ds ∧ MR w0 ρ1 st w ∧ evC P rec drw gl n m (.loop b) fr dd st = some (x, fr', dd', st')) (k + 1) ⟨Nat.le_refl _, fr, dd, st, ρ, l, ds, rfl, Le.refl ρ, hF, hS, hM, ?_⟩ ?_
        · show stepC P rec drw gl n (evC P rec drw gl n k) (.loop b) fr dd st = _
          exact h
        · rintro m a w ⟨hm, fr1, dd1, st1, ρ1, l1, ds1, rfl, hle1, hF1, hS1, hM1, h1⟩
          cases m with
          | zero => cases h1
          | succ m =>
            replace h1 : stepC P rec drw gl n (evC P rec drw gl n m) (.loop b) fr1 dd1 st1 = some (x, fr', dd', st') := h1
            simp only [stepC] at h1
            have ihm := fun {c fr fr' dd dd' st st' x ρ l ds w Q} => @ih m (by omega) c fr fr' dd dd' st st' x ρ l ds w Q
            split at h1
            · rename_i fr2 dd2 st2 h2
              refine ihm h2 (hG.mono hle1) hF1 hS1 hM1 fun ρ2 l2 ds2 w2 hle2 hF2 hS2 hM2 => ?_
              exact ⟨m, Nat.lt_succ_self m, by omega, fr2, dd2, st2, ρ2, l2, ds2, rfl, hle1.trans hle2, hF2, hS2, hM2, h1⟩
            · rename_i hn
              refine ihm h1 (hG.mono hle1) hF1 hS1 hM1 fun ρ2 l2 ds2 w2 hle2 hF2 hS2 hM2 => ?_
              have hk := kk ρ2 l2 ds2 w2 (hle1.trans hle2) hF2 hS2 hM2
              cases x with
              | normal => exact absurd h1 (hn _ _ _)
              | exit i => exact hk
              | ret => exact hk
      · obtain ⟨rfl, rfl, rfl, rfl⟩ : Ex.exit _ = x ∧ fr = fr' ∧ dd = dd' ∧ st = st' := by simpa using h
        exact C_exit (kk ρ l ds w (Le.refl ρ) hF hS hM)
      · obtain ⟨rfl, rfl, rfl, rfl⟩ : Ex.ret = x ∧ fr = fr' ∧ dd = dd' ∧ st = st' := by simpa using h
        exact C_ret (kk ρ l ds w (Le.refl ρ) hF hS hM)
      · cases h
end
/-! ### calls -/
def ldA (P : Program) (st : St) (t b o : Nat) : Option V1 := match ev1 P [] 1 (.n .e (some (vP b o)) .e) st (.load t (.tmp 0)) with | some (.v x) => some x | _ => none
def res1 (P : Program) (fr : Fr) (st : St) : ResultVar → Option V1
  | .tmp t => match fr.get t with | some (.v x) => some x | _ => none
  | .cell a t => match fr.get a with | some (vP b o) => ldA P st t b o | _ => none
def resA (P : Program) (fr : Fr) (st : St) : List ResultVar → Option V2
  | [] => some (.t [])
  | [.tmp t] => fr.get t
  | [a] => match res1 P fr st a with | some x => some (.v x) | none => none
  | [a, b] => match res1 P fr st a, res1 P fr st b with | some x, some y => some (.t [x, y]) | _, _ => none
  | [a, b, c] => match res1 P fr st a, res1 P fr st b, res1 P fr st c with | some x, some y, some z => some (.t [x, y, z]) | _, _, _ => none
  | _ => none
def fr0 : Nat → List V2 → Fr → Option Fr
  | _, [], fr => some fr
  | k, x :: r, fr => match Tr.set df fr k (some x) with | some fr' => fr0 (k + 1) r fr' | none => none
/-- A function's body: the frame, what is put off, the memory behind it. -/
def bodyF (P : Program) (drw : Nat → Rec → Drw) (gl : Gl) (fuel : Nat) (rec : Rec) (f : FuncId) (xs : List V2) (st : St) : Option (Func × Fr × List Df × St) :=
  match P.funcs[f]? with
  | some fn => match fn.body, fr0 0 xs .e with
    | some c, some fr => bif Nat.ble xs.length fn.ntmps then
        match evC P rec (drw fn.ntmps rec) gl fn.ntmps fuel c fr [] st with
        | some (.normal, fr', dd, st') => some (fn, fr', dd, st')
        | some (.ret, fr', dd, st') => some (fn, fr', dd, st')
        | _ => none
      else none
    | _, _ => none
  | none => none
abbrev Bo := FuncId → List V2 → St → Option (Func × Fr × List Df × St)
/-- What was put off is done. -/
def leaveA (P : Program) (bo : Bo) : List Df → St → Option St
  | [], st => some st
  | (f, us, cs) :: r, st => bif callB P f then match bo f (us ++ ofB cs) st with
      | some (fn, fr', [], st') => match resA P fr' st' fn.results.toList with | some _ => leaveA P bo r st' | none => none
      | _ => none
    else none
def stepF (P : Program) (drw : Nat → Rec → Drw) (gl : Gl) (fuel : Nat) (rec : Rec) : Rec := fun f xs st =>
  match bodyF P drw gl fuel rec f xs st with
  | some (fn, fr', dd, st1) => match leaveA P (bodyF P drw gl fuel rec) dd st1 with
    | some st2 => match resA P fr' st2 fn.results.toList with | some v => some (v, st2) | none => none
    | none => none
  | none => none
section
variable {P : Program} {gl : Gl} {n : Nat} {w0 : Wd} {rec : Rec} {drw : Nat → Rec → Drw}
theorem ldA_ok {ρ : Rho} {st : St} {w : World} {t b o g c : Nat} {x : V1} (hM : MR w0 ρ st w) (h : ldA P st t b o = some x) (hb : ρ b = some (g, c)) : ∃ v, (loadVar t ⟨g, o, none⟩).run P w = .ok v w ∧ R1 ρ x v := by
  unfold ldA at h
  split at h
  · rename_i y hy
    obtain rfl := Option.some.inj h
    have hF : FR ρ 1 (.n .e (some (vP b o)) .e) [(0, .pointer (some ⟨g, o, none⟩))] := by
      intro t x e
      simp only [Tr.get] at e
      cases h0 : Nat.beq t 0 with
      | true =>
        obtain rfl := Nat.eq_of_beq_eq_true h0
        rw [h0] at e
        obtain rfl := Option.some.inj e
        exact ⟨by omega, _, rfl, g, c, hb, rfl⟩
      | false =>
        rw [h0] at e
        simp only [cond_false] at e
        cases h1 : Nat.beq (t % 2) 1 <;> rw [h1] at e <;> cases e
    obtain ⟨v, hr, hx⟩ := ev1_ok (P := P) (σ := fun _ => undef) (ds := []) (ty := 0) (pos := "") (af := #[]) (dst := none) (gd := none) (gl := []) (fun _ _ e => by cases e) hF hM hy
    have e1 : ev 1 [(0, Value.pointer (some ⟨g, o, none⟩))] (.tmp 0) = some (.pointer (some ⟨g, o, none⟩)) := rfl
    simp only [execOp, ev_eval e1] at hr
    refine ⟨v, ?_, hx⟩
    simp only [Instr.loadAt, Instr.sureAddr] at hr
    generalize hq : (loadVar t ⟨g, o, none⟩).run P w = q at *
    cases q with
    | ok a w' => simp [hq] at hr; obtain ⟨rfl, rfl⟩ := hr; rfl
    | halt x w' => simp [hq] at hr
  · cases h
def rv (tmps : Array Value) : ResultVar → Sem Value
  | .tmp t => pure (tmps.getD t undef)
  | .cell a t => do loadVar t (← asAddr (tmps.getD a undef))
theorem fr_getD {ρ : Rho} {fr : Fr} {l : Sl} {σ : Nat → Value} {t : Nat} {x : V2} (hF : FR ρ n fr l) (h : fr.get t = some x) : ∃ v, (Gw.fr n σ l).getD t undef = v ∧ R2 ρ x v := by
  obtain ⟨hlt, v, e, r⟩ := hF t x h
  refine ⟨v, ?_, r⟩
  rw [Gw.fr_get t hlt, e]; rfl
theorem res1_ok {ρ : Rho} {fr : Fr} {l : Sl} {st : St} {w : World} {σ : Nat → Value} {r : ResultVar} {x : V1} (hF : FR ρ n fr l) (hM : MR w0 ρ st w) (h : res1 P fr st r = some x) : ∃ v, (rv (Gw.fr n σ l) r).run P w = .ok v w ∧ R1 ρ x v := by
  cases r with
  | tmp t =>
    simp only [res1] at h
    split at h
    · rename_i y hy
      obtain rfl := Option.some.inj h
      obtain ⟨v, e, r⟩ := fr_getD (σ := σ) hF hy
      exact ⟨v, by simp [rv, e], r⟩
    · cases h
  | cell a t =>
    simp only [res1] at h
    split at h
    · rename_i b o hb
      obtain ⟨v, e, r⟩ := fr_getD (σ := σ) hF hb
      obtain ⟨g, c, q1, rfl⟩ := r
      obtain ⟨u, e2, r2⟩ := ldA_ok hM h q1
      exact ⟨u, by simp [rv, e, asAddr, e2], r2⟩
    · cases h
theorem resA_ok {ρ : Rho} {fr : Fr} {l : Sl} {st : St} {w : World} {σ : Nat → Value} {fn : Func} {x : V2} (hF : FR ρ n fr l) (hM : MR w0 ρ st w) (h : resA P fr st fn.results.toList = some x) : ∃ v, (results fn (Gw.fr n σ l)).run P w = .ok v w ∧ R2 ρ x v := by
  have hres : results fn (Gw.fr n σ l) = (do let vs ← fn.results.mapM (rv (Gw.fr n σ l)); pure (if h : vs.size = 1 then vs[0] else .tuple vs)) := by
    unfold results
    congr 1
  rw [hres]
  generalize hq : fn.results = q at *
  obtain ⟨q⟩ := q
  simp only at h
  unfold resA at h
  split at h
  · obtain rfl := Option.some.inj h
    exact ⟨.tuple #[], by simp, [], trivial, rfl⟩
  · rename_i t
    obtain ⟨v, e, r⟩ := fr_getD (σ := σ) hF h
    exact ⟨v, by simp [rv, e], r⟩
  · rename_i a _
    split at h
    · rename_i y hy
      obtain rfl := Option.some.inj h
      obtain ⟨v, e, r⟩ := res1_ok (σ := σ) hF hM hy
      exact ⟨v, by simp [e], r⟩
    · cases h
  · split at h
    · rename_i y z hy hz
      obtain rfl := Option.some.inj h
      obtain ⟨v, e, r⟩ := res1_ok (σ := σ) hF hM hy
      obtain ⟨v', e', r'⟩ := res1_ok (σ := σ) hF hM hz
      exact ⟨.tuple #[v, v'], by simp [e, e'], [v, v'], ⟨r, r', trivial⟩, rfl⟩
    · cases h
  · split at h
    · rename_i y z y3 hy hz hz3
      obtain rfl := Option.some.inj h
      obtain ⟨v, e, r⟩ := res1_ok (σ := σ) hF hM hy
      obtain ⟨v', e', r'⟩ := res1_ok (σ := σ) hF hM hz
      obtain ⟨v'', e'', r''⟩ := res1_ok (σ := σ) hF hM hz3
      exact ⟨.tuple #[v, v', v''], by simp [e, e', e''], [v, v', v''], ⟨r, r', r'', trivial⟩, rfl⟩
    · cases h
  · cases h
theorem fr0_ok {ρ : Rho} : ∀ {xs : List V2} {vs : List Value} {k : Nat} {fr fr' : Fr} {l : Sl}, fr0 k xs fr = some fr' → A2 (R2 ρ) xs vs → k + xs.length ≤ n → (∀ t x, fr.get t = some x → t < k ∧ ∃ v, lk l t = some v ∧ R2 ρ x v) →
    ∃ l', (∀ t x, fr'.get t = some x → (t < n ∧ ∃ v, lk (zipA k vs) t = some v ∧ k ≤ t ∧ R2 ρ x v) ∨ (t < k ∧ ∃ v, lk l t = some v ∧ R2 ρ x v)) ∧ l' = l
  | [], [], k, fr, fr', l, h, _, hk, hF => by
    obtain rfl := Option.some.inj h
    exact ⟨l, fun t x e => .inr (hF t x e), rfl⟩
  | x :: xs, v :: vs, k, fr, fr', l, h, hr, hk, hF => by
    simp only [fr0] at h
    split at h
    · rename_i fr1 hs
      have hget := Tr.get_set df _ _ _ _ hs
      obtain ⟨l', h1, h2⟩ := fr0_ok (k := k + 1) (l := (k, v) :: l) h hr.2 (by simp at hk; omega) (fun t y e => by
        rw [hget] at e
        by_cases ht : t = k
        · rw [if_pos ht] at e
          obtain rfl := Option.some.inj e
          subst ht
          exact ⟨by omega, v, by simp [lk], hr.1⟩
        · rw [if_neg ht] at e
          obtain ⟨q1, u, q2, q3⟩ := hF t y e
          exact ⟨by omega, u, by simp only [lk, beq_no (Ne.symm ht), cond_false]; exact q2, q3⟩)
      refine ⟨l, fun t y e => ?_, rfl⟩
      rcases h1 t y e with ⟨q0, u, q1, q2, q3⟩ | ⟨q1, u, q2, q3⟩
      · exact .inl ⟨q0, u, by simp only [zipA, lk, beq_no (by omega : k ≠ t), cond_false]; exact q1, by omega, q3⟩
      · by_cases ht : t = k
        · subst ht
          left
          refine ⟨by simp at hk; omega, u, ?_, Nat.le_refl _, q3⟩
          simp only [lk, Nat.beq_refl, cond_true] at q2
          simp only [zipA, lk, Nat.beq_refl, cond_true]
          exact q2
        · right
          refine ⟨by omega, u, ?_, q3⟩
          simp only [lk, beq_no (Ne.symm ht), cond_false] at q2
          exact q2
    · cases h
  | [], _ :: _, _, _, _, _, _, h, _, _ => h.elim
  | _ :: _, [], _, _, _, _, _, h, _, _ => h.elim
theorem bodyF_ok {fuel : Nat} {f : FuncId} {xs : List V2} {st st' : St} {fn : Func} {fr' : Fr} {dd : List Df} (hR : RecOk P w0 gl rec) (hD : ∀ n, DrwOk P w0 gl n (drw n rec)) (h : bodyF P drw gl fuel rec f xs st = some (fn, fr', dd, st')) :
    P.funcs[f]? = some fn ∧ ∃ c, fn.body = some c ∧ ∀ ρ w vals, GL ρ gl → MR w0 ρ st w → A2 (R2 ρ) xs vals → ∀ Q : Exit → Act → World → Prop,
      (∀ e, (e = .normal ∨ e = .ret) → ∀ ρ' l' ds' w', Le ρ ρ' → FR ρ' fn.ntmps fr' l' → DS ρ' dd ds' → MR w0 ρ' st' w' → Q e (Ac fn.ntmps (fun _ => undef) ds' l') w') →
      c.wp P Q { tmps := vals.toArray ++ Array.replicate (fn.ntmps - vals.toArray.size) undef, defers := [] } w := by
  unfold bodyF at h
  split at h
  · rename_i fn' hfn
    split at h
    · rename_i c fr hc hfr
      cases hb : Nat.ble xs.length fn'.ntmps with
      | false => rw [hb] at h; cases h
      | true =>
        rw [hb] at h
        simp only [cond_true] at h
        have hle := Nat.le_of_ble_eq_true hb
        have key : ∀ {ex : Ex} {fr1 : Fr} {dd1 : List Df} {st1 : St}, (ex = .normal ∨ ex = .ret) → evC P rec (drw fn'.ntmps rec) gl fn'.ntmps fuel c fr [] st = some (ex, fr1, dd1, st1) → some (fn', fr1, dd1, st1) = some (fn, fr', dd, st') →
            P.funcs[f]? = some fn ∧ ∃ c, fn.body = some c ∧ ∀ ρ w vals, GL ρ gl → MR w0 ρ st w → A2 (R2 ρ) xs vals → ∀ Q : Exit → Act → World → Prop,
              (∀ e, (e = .normal ∨ e = .ret) → ∀ ρ' l' ds' w', Le ρ ρ' → FR ρ' fn.ntmps fr' l' → DS ρ' dd ds' → MR w0 ρ' st' w' → Q e (Ac fn.ntmps (fun _ => undef) ds' l') w') →
              c.wp P Q { tmps := vals.toArray ++ Array.replicate (fn.ntmps - vals.toArray.size) undef, defers := [] } w := by
          intro ex fr1 dd1 st1 hex hev he
          obtain ⟨rfl, rfl, rfl, rfl⟩ : fn' = fn ∧ fr1 = fr' ∧ dd1 = dd ∧ st1 = st' := by simpa using he
          refine ⟨hfn, c, hc, fun ρ w vals hG hM hA Q kk => ?_⟩
          obtain ⟨_, hF0, _⟩ := fr0_ok (n := fn'.ntmps) (l := []) hfr hA (by omega) (fun t x e => by cases e)
          have hF : FR ρ fn'.ntmps fr (zipA 0 vals) := fun t y e => by
            rcases hF0 t y e with ⟨q0, u, q1, _, q3⟩ | ⟨q1, _⟩
            · exact ⟨q0, u, q1, q3⟩
            · omega
          rw [enterG (P := P) rfl (by rw [← hA.len]; exact hb)]
          refine evC_ok hR (hD _) fuel hev hG hF trivial hM fun ρ' l' ds' w' q1 q2 q3 q4 => ?_
          rcases hex with rfl | rfl
          · exact kk _ (.inl rfl) ρ' l' ds' w' q1 q2 q3 q4
          · exact kk _ (.inr rfl) ρ' l' ds' w' q1 q2 q3 q4
        split at h
        · rename_i hev
          exact key (.inl rfl) hev h
        · rename_i hev
          exact key (.inr rfl) hev h
        · cases h
    · cases h
  · cases h
theorem leaveA_ok {bo : Bo} {fn0 : Func} {tmps : Array Value} {R : Ending → World → Prop}
    (hB : ∀ {f xs st fn fr' dd st'}, bo f xs st = some (fn, fr', dd, st') → P.funcs[f]? = some fn ∧ ∃ c, fn.body = some c ∧ ∀ ρ w vals, GL ρ gl → MR w0 ρ st w → A2 (R2 ρ) xs vals → ∀ Q : Exit → Act → World → Prop,
      (∀ e, (e = .normal ∨ e = .ret) → ∀ ρ' l' ds' w', Le ρ ρ' → FR ρ' fn.ntmps fr' l' → DS ρ' dd ds' → MR w0 ρ' st' w' → Q e (Ac fn.ntmps (fun _ => undef) ds' l') w') →
      c.wp P Q { tmps := vals.toArray ++ Array.replicate (fn.ntmps - vals.toArray.size) undef, defers := [] } w) :
    ∀ {dd : List Df} {ds : List Deferred} {st st2 : St} {ρ : Rho} {w : World}, leaveA P bo dd st = some st2 → GL ρ gl → DS ρ dd ds → MR w0 ρ st w →
      (∀ ρ' w', Le ρ ρ' → MR w0 ρ' st2 w' → ∃ v, (results fn0 tmps).run P w' = .ok v w' ∧ R (.returned v) w') → Leaves P fn0 tmps R ds .returning w
  | [], [], st, st2, ρ, w, h, _, _, hM, k => by
    obtain rfl := Option.some.inj h
    exact k ρ w (Le.refl ρ) hM
  | (f, us, cs) :: dd, d :: ds, st, st2, ρ, w, h, hG, hS, hM, k => by
    obtain ⟨⟨us', cs', rfl, r1, r2⟩, hS⟩ := hS
    simp only [leaveA] at h
    cases hc : callB P f with
    | false => rw [hc] at h; cases h
    | true =>
      rw [hc] at h
      simp only [cond_true] at h
      split at h
      · rename_i fn fr' st' hb
        split at h
        · rename_i x hres
          obtain ⟨hf, c, hc2, hwp⟩ := hB hb
          refine leaves_cons (by simp) (invoke_fn hc) (CallsD.mono (callsD_of_wp (R := fun e w' => ∃ v, e = .returned v ∧ ∃ ρ', Le ρ ρ' ∧ MR w0 ρ' st' w') hf hc2 (hwp ρ w (us' ++ cs') hG hM (r1.app (ofB_A2 r2)) _ fun e he ρ' l' ds' w' q1 q2 q3 q4 => ?_)) fun e u' w' hh => ?_)
          · have hd : ds' = [] := by
              cases ds' with
              | nil => rfl
              | cons _ _ => exact q3.elim
            subst hd
            obtain ⟨v, e1, _⟩ := resA_ok (σ := fun _ => undef) q2 q4 hres
            rcases he with rfl | rfl
            · exact ⟨rfl, v, e1, v, rfl, ρ', q1, q4⟩
            · exact ⟨rfl, v, e1, v, rfl, ρ', q1, q4⟩
          · obtain ⟨rfl, v, rfl, ρ', q1, q2⟩ := hh
            exact leaveA_ok hB h (hG.mono q1) (DS.mono q1 hS) q2 fun ρ'' w'' q3 q4 => k ρ'' w'' (q1.trans q3) q4
        · cases h
      · cases h
  | [], _ :: _, _, _, _, _, _, _, h, _, _ => h.elim
  | _ :: _, [], _, _, _, _, _, _, h, _, _ => h.elim
theorem stepF_ok {fuel : Nat} (hR : RecOk P w0 gl rec) (hD : ∀ n, DrwOk P w0 gl n (drw n rec)) : RecOk P w0 gl (stepF P drw gl fuel rec) := fun f xs st x st' h ρ w vals hG hM hA => by
  unfold stepF at h
  split at h
  · rename_i fn fr' dd st1 hb
    split at h
    · rename_i st2 hl
      split at h
      · rename_i v hres
        obtain ⟨rfl, rfl⟩ := Prod.mk.inj (Option.some.inj h)
        obtain ⟨hf, c, hc, hwp⟩ := bodyF_ok hR hD hb
        refine calls_of_wp_defers hf hc (hwp ρ w vals hG hM hA _ fun e he ρ' l' ds' w' q1 q2 q3 q4 => ?_)
        have : Leaves P fn (Gw.fr fn.ntmps (fun _ => undef) l') (RetOf fun u w' => ∃ ρ', Le ρ ρ' ∧ MR w0 ρ' st2 w' ∧ R2 ρ' v u) ds' .returning w' :=
          leaveA_ok (fun hb => bodyF_ok hR hD hb) hl (hG.mono q1) q3 q4 fun ρ'' w'' q5 q6 => by
            obtain ⟨u, e1, r1⟩ := resA_ok (σ := fun _ => undef) (q2.mono q5) q6 hres
            exact ⟨u, e1, ρ'', q1.trans q5, q6, r1⟩
        rcases he with rfl | rfl
        · exact this
        · exact this
      · cases h
    · cases h
  · cases h
end
end Go.Proofs.YtbeafehpjjojnaaGreatDoor.Ev
