/-
  An evaluator for closed calls, ninth part: code and calls. It holds of every program.
-/
import Derived.Test.YtbmohojdlgedpaaEh
namespace Go.Proofs.Ytbmohojdlgedpaa.Ev
open Go.RowKit Gw
set_option linter.unusedVariables false
set_option linter.unusedSimpArgs false
abbrev Go := Code → Fr → List Df → St → Option (Ex × Fr × List Df × St)
abbrev Drw := Array Oper → Fr → St → Option (Fr × St)
/-- What a loop over a function comes to. -/
abbrev RF := Fr → List Df → St → Operand → Array Tmp → Code → Code → Option (Ex × Fr × List Df × St)
def norf : RF := fun _ _ _ _ _ _ _ => none
/-- 'rd': it is a round's body. -/
def stepC (P : Program) (rec ry : Rec) (drw : Drw) (rf : RF) (rd : Bool) (gl : Gl) (n : Nat) (go : Go) : Go := fun c fr dd st =>
  match c with
  | .skip => some (.normal, fr, dd, st)
  | .region _ ops draw => bif !rd || ops.toList.all notDefer then (match draw with
    | true => match drw ops fr st with | some (fr', st') => some (.normal, fr', dd, st') | none => none
    | false => match evOps P rec ry gl n ops ops.toList fr dd st with | some (fr', dd', st') => some (.normal, fr', dd', st') | none => none) else none
  | .seq a b => match go a fr dd st with
    | some (.normal, fr', dd', st') => go b fr' dd' st'
    | r => r
  | .cond c x y => match evO gl n fr c with
    | some (vK (.bool true)) => go x fr dd st
    | some (vK (.bool false)) => go y fr dd st
    | _ => none
  | .block id b => match go b fr dd st with
    | some (.exit i, fr', dd', st') => bif Nat.beq i id then some (.normal, fr', dd', st') else some (.exit i, fr', dd', st')
    | r => r
  | .loop b => match go b fr dd st with
    | some (.normal, fr', dd', st') => go (.loop b) fr' dd' st'
    | r => r
  | .exit id => some (.exit id, fr, dd, st)
  | .ret => some (.ret, fr, dd, st)
  | .rangeFunc g ps asg body => rf fr dd st g ps asg body
  | _ => none
def evC (P : Program) (rec ry : Rec) (drw : Drw) (rf : RF) (rd : Bool) (gl : Gl) (n : Nat) (k : Nat) : Go := Nat.rec (fun _ _ _ _ => none) (fun _ go => stepC P rec ry drw rf rd gl n go) k
def DrwOk (P : Program) (w0 : Wd) (gl : Gl) (n : Nat) (drw : Drw) : Prop :=
  ∀ ops fr st fr' st', drw ops fr st = some (fr', st') → ∀ {ρ : Rho} {l : Sl} {w : World} {σ : Nat → Value} {ds : List Deferred} {Q : Exit → Act → World → Prop} {id : Nat} {ro : Option Nat}, (ro.isNone || ops.toList.all notDefer) = true → GL ρ gl → FR ρ n fr l → MR w0 ρ st w →
    (∀ ρ' l' w', Le ρ ρ' → FR ρ' n fr' l' → MR w0 ρ' st' w' → Q .normal (Ac n σ ds l') w') → (Code.region id ops true).wpIn (wF ro) 0 P Q (Ac n σ ds l) w
def RfOk (P : Program) (w0 : Wd) (gl : Gl) (n : Nat) (ro : Option Nat) (rf : RF) : Prop :=
  ∀ fr dd st g ps asg body x fr' dd' st', rf fr dd st g ps asg body = some (x, fr', dd', st') → ∀ {ρ : Rho} {l : Sl} {ds : List Deferred} {w : World} {σ : Nat → Value} {Q : Exit → Act → World → Prop}, GL ρ gl → FR ρ n fr l → DS ρ dd ds → MR w0 ρ st w →
    (∀ ρ' l' ds' w', Le ρ ρ' → FR ρ' n fr' l' → DS ρ' dd' ds' → MR w0 ρ' st' w' → Q x.to (Ac n σ ds' l') w') → (Code.rangeFunc g ps asg body).wpIn (wF ro) 0 P Q (Ac n σ ds l) w
theorem norf_ok {P : Program} {w0 : Wd} {gl : Gl} {n : Nat} {ro : Option Nat} : RfOk P w0 gl n ro norf := fun _ _ _ _ _ _ _ _ _ _ _ h => by cases h
section
variable {P : Program} {gl : Gl} {n : Nat} {w0 : Wd} {rec ry : Rec} {drw : Drw} {σ : Nat → Value} {rf : RF} {rd : Bool} {ro : Option Nat}
theorem evC_ok (hrd : (ro.isNone || rd) = true) (hR : RecOk P w0 gl rec) (hY : YecOk P w0 gl ry) (hD : DrwOk P w0 gl n drw) (hF0 : RfOk P w0 gl n ro rf) : ∀ (k : Nat) {c : Code} {fr fr' : Fr} {dd dd' : List Df} {st st' : St} {x : Ex} {ρ : Rho} {l : Sl} {ds : List Deferred} {w : World} {Q : Exit → Act → World → Prop}, evC P rec ry drw rf rd gl n k c fr dd st = some (x, fr', dd', st') →
    GL ρ gl → FR ρ n fr l → DS ρ dd ds → MR w0 ρ st w → (∀ ρ' l' ds' w', Le ρ ρ' → FR ρ' n fr' l' → DS ρ' dd' ds' → MR w0 ρ' st' w' → Q x.to (Ac n σ ds' l') w') → c.wpIn (wF ro) 0 P Q (Ac n σ ds l) w := by
  intro k
  induction k using Nat.strongRecOn with
  | _ k ih =>
    intro c fr fr' dd dd' st st' x ρ l ds w Q h hG hF hS hM kk
    cases k with
    | zero => cases h
    | succ k =>
      replace h : stepC P rec ry drw rf rd gl n (evC P rec ry drw rf rd gl n k) c fr dd st = some (x, fr', dd', st') := h
      have ihk := fun {c fr fr' dd dd' st st' x ρ l ds w Q} => @ih k (Nat.lt_succ_self k) c fr fr' dd dd' st st' x ρ l ds w Q
      unfold stepC at h
      split at h
      · obtain ⟨rfl, rfl, rfl, rfl⟩ : Ex.normal = x ∧ fr = fr' ∧ dd = dd' ∧ st = st' := by simpa using h
        exact C_skip (kk ρ l ds w (Le.refl ρ) hF hS hM)
      · rename_i id ops draw
        have hb : (!rd || ops.toList.all notDefer) = true := by
          cases hb : (!rd || ops.toList.all notDefer) with
          | false => rw [hb] at h; cases h
          | true => rfl
        rw [hb] at h
        simp only [cond_true] at h
        have hnd : (ro.isNone || ops.toList.all notDefer) = true := by
          cases rd with
          | false =>
            have h1 : ro.isNone = true := by simpa using hrd
            rw [h1]; rfl
          | true =>
            have h1 : ops.toList.all notDefer = true := hb
            rw [h1, Bool.or_true]
        split at h
        · split at h
          · rename_i fr1 st1 hd
            obtain ⟨rfl, rfl, rfl, rfl⟩ : Ex.normal = x ∧ fr1 = fr' ∧ dd = dd' ∧ st1 = st' := by simpa using h
            exact hD _ _ _ _ _ hd hnd hG hF hM fun ρ' l' w' q1 q2 q3 => kk ρ' l' ds w' q1 q2 (hS.mono q1) q3
          · cases h
        · split at h
          · rename_i fr1 dd1 st1 hd
            obtain ⟨rfl, rfl, rfl, rfl⟩ : Ex.normal = x ∧ fr1 = fr' ∧ dd1 = dd' ∧ st1 = st' := by simpa using h
            have := C_reg (ro := ro) (P := P) (Q := Q) (a := Ac n σ ds l) (w := w) (id := id) (l := ops.toList) hnd (by
              simp only [Array.toArray_toList]
              exact evOps_ok hR hY hd hG hF hS hM kk)
            simpa using this
          · cases h
      · split at h
        · rename_i fr1 dd1 st1 h1
          refine C_seq (ihk h1 hG hF hS hM fun ρ1 l1 ds1 w1 hle hF1 hS1 hM1 => ?_)
          exact ihk h (hG.mono hle) hF1 hS1 hM1 fun ρ' l' ds' w' q1 q2 q3 q4 => kk ρ' l' ds' w' (hle.trans q1) q2 q3 q4
        · rename_i hn
          refine C_seq (ihk h hG hF hS hM fun ρ1 l1 ds1 w1 hle hF1 hS1 hM1 => ?_)
          have hk := kk ρ1 l1 ds1 w1 hle hF1 hS1 hM1
          cases x with
          | normal => exact absurd h (hn _ _ _)
          | exit i => exact hk
          | ret => exact hk
      · split at h
        · rename_i hc
          obtain ⟨v, e, r⟩ := evO_ev hG hF hc
          obtain rfl : v = _ := r
          exact C_condT e rfl (ihk h hG hF hS hM kk)
        · rename_i hc
          obtain ⟨v, e, r⟩ := evO_ev hG hF hc
          obtain rfl : v = _ := r
          exact C_condF e rfl (ihk h hG hF hS hM kk)
        · cases h
      · rename_i id b
        split at h
        · rename_i i fr1 dd1 st1 h1
          cases hb : Nat.beq i id with
          | true =>
            rw [hb] at h
            obtain ⟨rfl, rfl, rfl, rfl⟩ : Ex.normal = x ∧ fr1 = fr' ∧ dd1 = dd' ∧ st1 = st' := by simpa using h
            obtain rfl := Nat.eq_of_beq_eq_true hb
            exact C_block (ihk h1 hG hF hS hM fun ρ1 l1 ds1 w1 hle hF1 hS1 hM1 => X_hit (kk ρ1 l1 ds1 w1 hle hF1 hS1 hM1))
          | false =>
            rw [hb] at h
            obtain ⟨rfl, rfl, rfl, rfl⟩ : Ex.exit i = x ∧ fr1 = fr' ∧ dd1 = dd' ∧ st1 = st' := by simpa using h
            exact C_block (ihk h1 hG hF hS hM fun ρ1 l1 ds1 w1 hle hF1 hS1 hM1 => X_miss hb (kk ρ1 l1 ds1 w1 hle hF1 hS1 hM1))
        · rename_i hn
          refine C_block (ihk h hG hF hS hM fun ρ1 l1 ds1 w1 hle hF1 hS1 hM1 => ?_)
          have hk := kk ρ1 l1 ds1 w1 hle hF1 hS1 hM1
          cases x with
          | normal => exact hk
          | exit i => exact absurd h (hn _ _ _ _)
          | ret => exact hk
      · rename_i b
        refine C_loop (fun m a w => m ≤ k + 1 ∧ ∃ fr dd st ρ1 l ds, a = Ac n σ ds l ∧ Le ρ ρ1 ∧ FR ρ1 n fr l ∧ DS ρ1 dd ds ∧ MR w0 ρ1 st w ∧ evC P rec ry drw rf rd gl n m (.loop b) fr dd st = some (x, fr', dd', st')) (k + 1) ⟨Nat.le_refl _, fr, dd, st, ρ, l, ds, rfl, Le.refl ρ, hF, hS, hM, ?_⟩ ?_
        · show stepC P rec ry drw rf rd gl n (evC P rec ry drw rf rd gl n k) (.loop b) fr dd st = _
          exact h
        · rintro m a w ⟨hm, fr1, dd1, st1, ρ1, l1, ds1, rfl, hle1, hF1, hS1, hM1, h1⟩
          cases m with
          | zero => cases h1
          | succ m =>
            replace h1 : stepC P rec ry drw rf rd gl n (evC P rec ry drw rf rd gl n m) (.loop b) fr1 dd1 st1 = some (x, fr', dd', st') := h1
            simp only [stepC] at h1
            have ihm := fun {c fr fr' dd dd' st st' x ρ l ds w Q} => @ih m (by omega) c fr fr' dd dd' st st' x ρ l ds w Q
            split at h1
            · rename_i fr2 dd2 st2 h2
              refine ihm h2 (hG.mono hle1) hF1 hS1 hM1 fun ρ2 l2 ds2 w2 hle2 hF2 hS2 hM2 => ?_
              exact ⟨m, Nat.lt_succ_self m, by omega, fr2, dd2, st2, ρ2, l2, ds2, rfl, hle1.trans hle2, hF2, hS2, hM2, h1⟩
            · rename_i hn
              refine ihm h1 (hG.mono hle1) hF1 hS1 hM1 fun ρ2 l2 ds2 w2 hle2 hF2 hS2 hM2 => ?_
              have hk := kk ρ2 l2 ds2 w2 (hle1.trans hle2) hF2 hS2 hM2
              cases x with
              | normal => exact absurd h1 (hn _ _ _)
              | exit i => exact hk
              | ret => exact hk
      · obtain ⟨rfl, rfl, rfl, rfl⟩ : Ex.exit _ = x ∧ fr = fr' ∧ dd = dd' ∧ st = st' := by simpa using h
        exact C_exit (kk ρ l ds w (Le.refl ρ) hF hS hM)
      · obtain ⟨rfl, rfl, rfl, rfl⟩ : Ex.ret = x ∧ fr = fr' ∧ dd = dd' ∧ st = st' := by simpa using h
        exact C_ret (kk ρ l ds w (Le.refl ρ) hF hS hM)
      · exact hF0 _ _ _ _ _ _ _ _ _ _ _ h hG hF hS hM kk
      · cases h
end
/-! ### calls -/
def ldA (P : Program) (st : St) (t b o : Nat) : Option V1 := match ev1 P [] 1 (.n .e (some (vP b o)) .e) st (.load t (.tmp 0)) with | some (.v x) => some x | _ => none
def res1 (P : Program) (fr : Fr) (st : St) : ResultVar → Option V1
  | .tmp t => match fr.get t with | some (.v x) => some x | _ => none
  | .cell a t => match fr.get a with | some (vP b o) => ldA P st t b o | _ => none
def resA (P : Program) (fr : Fr) (st : St) : List ResultVar → Option V2
  | [] => some (.t [])
  | [.tmp t] => fr.get t
  | [a] => match res1 P fr st a with | some x => some (.v x) | none => none
  | [a, b] => match res1 P fr st a, res1 P fr st b with | some x, some y => some (.t [x, y]) | _, _ => none
  | [a, b, c] => match res1 P fr st a, res1 P fr st b, res1 P fr st c with | some x, some y, some z => some (.t [x, y, z]) | _, _, _ => none
  | _ => none
def fr0 : Nat → List V2 → Fr → Option Fr
  | _, [], fr => some fr
  | k, x :: r, fr => match Tr.set df fr k (some x) with | some fr' => fr0 (k + 1) r fr' | none => none
/-- A loop over a function, not within another: its record is laid, the function is called with a function of the loop's. -/
def rangeA (P : Program) (rec : Rec) (gl : Gl) (n : Nat) : RF := fun fr dd st g ps asg body =>
  match evO gl n fr g with
  | some (.v (.c (.f f fs cs))) => bif callB P f then
      match newB st .dfr with
      | some st1 => match newB st1 (.loop n fr ps asg body st.next .ready .normal) with
        | some st2 => match rec f (ofB fs ++ [vY st1.next] ++ ofB cs) st2 with
          | some (_, st3) => match st3.mem.get st1.next with
            | some (.loop _ _ _ _ _ _ ls x) => match ls with
              | .ready => match delB st3 st1.next with | some st4 => some (x, fr, .mk st.next :: dd, st4) | none => none
              | .done => match delB st3 st1.next with | some st4 => some (x, fr, .mk st.next :: dd, st4) | none => none
              | _ => none
            | _ => none
          | none => none
        | none => none
      | none => none
    else none
  | _ => none
/-- What is handed on, in the loop's variables. -/
def setP (n : Nat) : List Tmp → List V2 → Fr → Option Fr
  | [], [], fr => some fr
  | t :: ts, x :: xs, fr => match putF n fr (some t) x with | some fr' => setP n ts xs fr' | none => none
  | _, _, _ => none
/-- One round of such a loop. -/
def roundA (P : Program) (rec ry : Rec) (drw : Nat → Rec → Drw) (gl : Gl) (fuel : Nat) : Rec := fun b xs st =>
  match st.mem.get b with
  | some (.loop n fr ps asg body _ .ready .normal) => match setP n ps.toList xs fr with
    | some fr1 => match evC P rec ry (drw n rec) norf true gl n fuel asg fr1 [] st with
      | some (.normal, fr2, [], st1) => match st1.mem.get b with
        | some (.loop n1 fra ps1 asg1 body1 dk1 .ready .normal) => match putB st1 b (.loop n1 fra ps1 asg1 body1 dk1 .busy .normal) with
          | some st2 => match evC P rec ry (drw n rec) norf true gl n fuel body fr2 [] st2 with
            | some (x, _, [], st3) => match st3.mem.get b with
              | some (.loop n4 fr4 ps4 asg4 body4 dk4 .busy .normal) => match x with
                | .normal => match putB st3 b (.loop n4 fr4 ps4 asg4 body4 dk4 .ready .normal) with | some st4 => some (vK (.bool true), st4) | none => none
                | x => match putB st3 b (.loop n4 fr4 ps4 asg4 body4 dk4 .done x) with | some st4 => some (vK (.bool false), st4) | none => none
              | _ => none
            | _ => none
          | none => none
        | _ => none
      | _ => none
    | none => none
  | _ => none
/-- A function's body: the frame, what is put off, the memory behind it. -/
def bodyF (P : Program) (drw : Nat → Rec → Drw) (gl : Gl) (fuel : Nat) (rec ry : Rec) (f : FuncId) (xs : List V2) (st : St) : Option (Func × Fr × List Df × St) :=
  match P.funcs[f]? with
  | some fn => match fn.body, fr0 0 xs .e with
    | some c, some fr => bif Nat.ble xs.length fn.ntmps then
        match evC P rec ry (drw fn.ntmps rec) (rangeA P rec gl fn.ntmps) false gl fn.ntmps fuel c fr [] st with
        | some (.normal, fr', dd, st') => some (fn, fr', dd, st')
        | some (.ret, fr', dd, st') => some (fn, fr', dd, st')
        | _ => none
      else none
    | _, _ => none
  | none => none
abbrev Bo := FuncId → List V2 → St → Option (Func × Fr × List Df × St)
/-- What was put off is done. -/
def leaveA (P : Program) (bo : Bo) : List Df → St → Option St
  | [], st => some st
  | .mk b :: r, st => match st.mem.get b with
    | some .dfr => match delB st b with | some st' => leaveA P bo r st' | none => none
    | _ => none
  | .fn f us cs :: r, st => bif callB P f then match bo f (us ++ ofB cs) st with
      | some (fn, fr', [], st') => match resA P fr' st' fn.results.toList with | some _ => leaveA P bo r st' | none => none
      | _ => none
    else none
def stepF (P : Program) (drw : Nat → Rec → Drw) (gl : Gl) (fuel : Nat) (rec ry : Rec) : Rec := fun f xs st =>
  match bodyF P drw gl fuel rec ry f xs st with
  | some (fn, fr', dd, st1) => match leaveA P (bodyF P drw gl fuel rec ry) dd st1 with
    | some st2 => match resA P fr' st2 fn.results.toList with | some v => some (v, st2) | none => none
    | none => none
  | none => none
section
variable {P : Program} {gl : Gl} {n : Nat} {w0 : Wd} {rec ry : Rec} {drw : Nat → Rec → Drw}
theorem ldA_ok {ρ : Rho} {st : St} {w : World} {t b o g c : Nat} {x : V1} (hM : MR w0 ρ st w) (h : ldA P st t b o = some x) (hb : ρ b = some (g, c)) : ∃ v, (loadVar t ⟨g, o, none⟩).run P w = .ok v w ∧ R1 ρ x v := by
  unfold ldA at h
  split at h
  · rename_i y hy
    obtain rfl := Option.some.inj h
    have hF : FR ρ 1 (.n .e (some (vP b o)) .e) [(0, .pointer (some ⟨g, o, none⟩))] := by
      intro t x e
      simp only [Tr.get] at e
      cases h0 : Nat.beq t 0 with
      | true =>
        obtain rfl := Nat.eq_of_beq_eq_true h0
        rw [h0] at e
        obtain rfl := Option.some.inj e
        exact ⟨by omega, _, rfl, g, c, hb, rfl⟩
      | false =>
        rw [h0] at e
        simp only [cond_false] at e
        cases h1 : Nat.beq (t % 2) 1 <;> rw [h1] at e <;> cases e
    obtain ⟨v, hr, hx⟩ := ev1_ok (P := P) (σ := fun _ => undef) (ds := []) (ty := 0) (pos := "") (af := #[]) (dst := none) (gd := none) (gl := []) (fun _ _ e => by cases e) hF hM hy
    have e1 : ev 1 [(0, Value.pointer (some ⟨g, o, none⟩))] (.tmp 0) = some (.pointer (some ⟨g, o, none⟩)) := rfl
    simp only [execOp, ev_eval e1] at hr
    refine ⟨v, ?_, hx⟩
    simp only [Instr.loadAt, Instr.sureAddr] at hr
    generalize hq : (loadVar t ⟨g, o, none⟩).run P w = q at *
    cases q with
    | ok a w' => simp [hq] at hr; obtain ⟨rfl, rfl⟩ := hr; rfl
    | halt x w' => simp [hq] at hr
  · cases h
def rv (tmps : Array Value) : ResultVar → Sem Value
  | .tmp t => pure (tmps.getD t undef)
  | .cell a t => do loadVar t (← asAddr (tmps.getD a undef))
theorem fr_getD {ρ : Rho} {fr : Fr} {l : Sl} {σ : Nat → Value} {t : Nat} {x : V2} (hF : FR ρ n fr l) (h : fr.get t = some x) : ∃ v, (Gw.fr n σ l).getD t undef = v ∧ R2 ρ x v := by
  obtain ⟨hlt, v, e, r⟩ := hF t x h
  refine ⟨v, ?_, r⟩
  rw [Gw.fr_get t hlt, e]; rfl
theorem res1_ok {ρ : Rho} {fr : Fr} {l : Sl} {st : St} {w : World} {σ : Nat → Value} {r : ResultVar} {x : V1} (hF : FR ρ n fr l) (hM : MR w0 ρ st w) (h : res1 P fr st r = some x) : ∃ v, (rv (Gw.fr n σ l) r).run P w = .ok v w ∧ R1 ρ x v := by
  cases r with
  | tmp t =>
    simp only [res1] at h
    split at h
    · rename_i y hy
      obtain rfl := Option.some.inj h
      obtain ⟨v, e, r⟩ := fr_getD (σ := σ) hF hy
      exact ⟨v, by simp [rv, e], r⟩
    · cases h
  | cell a t =>
    simp only [res1] at h
    split at h
    · rename_i b o hb
      obtain ⟨v, e, r⟩ := fr_getD (σ := σ) hF hb
      obtain ⟨g, c, q1, rfl⟩ := r
      obtain ⟨u, e2, r2⟩ := ldA_ok hM h q1
      exact ⟨u, by simp [rv, e, asAddr, e2], r2⟩
    · cases h
theorem resA_ok {ρ : Rho} {fr : Fr} {l : Sl} {st : St} {w : World} {σ : Nat → Value} {fn : Func} {x : V2} (hF : FR ρ n fr l) (hM : MR w0 ρ st w) (h : resA P fr st fn.results.toList = some x) : ∃ v, (results fn (Gw.fr n σ l)).run P w = .ok v w ∧ R2 ρ x v := by
  have hres : results fn (Gw.fr n σ l) = (do let vs ← fn.results.mapM (rv (Gw.fr n σ l)); pure (if h : vs.size = 1 then vs[0] else .tuple vs)) := by
    unfold results
    congr 1
  rw [hres]
  generalize hq : fn.results = q at *
  obtain ⟨q⟩ := q
  simp only at h
  unfold resA at h
  split at h
  · obtain rfl := Option.some.inj h
    exact ⟨.tuple #[], by simp, [], trivial, rfl⟩
  · rename_i t
    obtain ⟨v, e, r⟩ := fr_getD (σ := σ) hF h
    exact ⟨v, by simp [rv, e], r⟩
  · rename_i a _
    split at h
    · rename_i y hy
      obtain rfl := Option.some.inj h
      obtain ⟨v, e, r⟩ := res1_ok (σ := σ) hF hM hy
      exact ⟨v, by simp [e], r⟩
    · cases h
  · split at h
    · rename_i y z hy hz
      obtain rfl := Option.some.inj h
      obtain ⟨v, e, r⟩ := res1_ok (σ := σ) hF hM hy
      obtain ⟨v', e', r'⟩ := res1_ok (σ := σ) hF hM hz
      exact ⟨.tuple #[v, v'], by simp [e, e'], [v, v'], ⟨r, r', trivial⟩, rfl⟩
    · cases h
  · split at h
    · rename_i y z y3 hy hz hz3
      obtain rfl := Option.some.inj h
      obtain ⟨v, e, r⟩ := res1_ok (σ := σ) hF hM hy
      obtain ⟨v', e', r'⟩ := res1_ok (σ := σ) hF hM hz
      obtain ⟨v'', e'', r''⟩ := res1_ok (σ := σ) hF hM hz3
      exact ⟨.tuple #[v, v', v''], by simp [e, e', e''], [v, v', v''], ⟨r, r', r'', trivial⟩, rfl⟩
    · cases h
  · cases h
theorem fr0_ok {ρ : Rho} : ∀ {xs : List V2} {vs : List Value} {k : Nat} {fr fr' : Fr} {l : Sl}, fr0 k xs fr = some fr' → A2 (R2 ρ) xs vs → k + xs.length ≤ n → (∀ t x, fr.get t = some x → t < k ∧ ∃ v, lk l t = some v ∧ R2 ρ x v) →
    ∃ l', (∀ t x, fr'.get t = some x → (t < n ∧ ∃ v, lk (zipA k vs) t = some v ∧ k ≤ t ∧ R2 ρ x v) ∨ (t < k ∧ ∃ v, lk l t = some v ∧ R2 ρ x v)) ∧ l' = l
  | [], [], k, fr, fr', l, h, _, hk, hF => by
    obtain rfl := Option.some.inj h
    exact ⟨l, fun t x e => .inr (hF t x e), rfl⟩
  | x :: xs, v :: vs, k, fr, fr', l, h, hr, hk, hF => by
    simp only [fr0] at h
    split at h
    · rename_i fr1 hs
      have hget := Tr.get_set df _ _ _ _ hs
      obtain ⟨l', h1, h2⟩ := fr0_ok (k := k + 1) (l := (k, v) :: l) h hr.2 (by simp at hk; omega) (fun t y e => by
        rw [hget] at e
        by_cases ht : t = k
        · rw [if_pos ht] at e
          obtain rfl := Option.some.inj e
          subst ht
          exact ⟨by omega, v, by simp [lk], hr.1⟩
        · rw [if_neg ht] at e
          obtain ⟨q1, u, q2, q3⟩ := hF t y e
          exact ⟨by omega, u, by simp only [lk, beq_no (Ne.symm ht), cond_false]; exact q2, q3⟩)
      refine ⟨l, fun t y e => ?_, rfl⟩
      rcases h1 t y e with ⟨q0, u, q1, q2, q3⟩ | ⟨q1, u, q2, q3⟩
      · exact .inl ⟨q0, u, by simp only [zipA, lk, beq_no (by omega : k ≠ t), cond_false]; exact q1, by omega, q3⟩
      · by_cases ht : t = k
        · subst ht
          left
          refine ⟨by simp at hk; omega, u, ?_, Nat.le_refl _, q3⟩
          simp only [lk, Nat.beq_refl, cond_true] at q2
          simp only [zipA, lk, Nat.beq_refl, cond_true]
          exact q2
        · right
          refine ⟨by omega, u, ?_, q3⟩
          simp only [lk, beq_no (Ne.symm ht), cond_false] at q2
          exact q2
    · cases h
  | [], _ :: _, _, _, _, _, _, h, _, _ => h.elim
  | _ :: _, [], _, _, _, _, _, h, _, _ => h.elim
theorem Ex.jump_get {x : Ex} {Q : Exit → Act → World → Prop} {P : Program} {a : Act} {w : World} (h : Q x.to a w) : (match x.jump with | none => Q .normal a w | some c => c.wpIn (wF none) 0 P Q a w) := by
  cases x with
  | normal => exact h
  | exit id => exact C_exit h
  | ret => exact C_ret h
theorem rangeA_ok (hR : RecOk P w0 gl rec) : RfOk P w0 gl n none (rangeA P rec gl n) := fun fr dd st g ps asg body x fr' dd' st' h ρ l ds w σ Q hG hF hS hM kk => by
  unfold rangeA at h
  split at h
  · rename_i f fs cs hg
    cases hc : callB P f with
    | false => rw [hc] at h; cases h
    | true =>
      rw [hc] at h
      simp only [cond_true] at h
      split at h
      · rename_i st1 hn1
        split at h
        · rename_i st2 hn2
          split at h
          · rename_i v st3 hrec
            obtain ⟨fv, e1, r1⟩ := evO_ev hG hF hg
            obtain ⟨fs', cs', r3, r4, rfl⟩ := r1
            refine C_range e1 hc fun fn => ?_
            have hM1 := newB_ok (g := w.heap.size) (c := 0) hM hn1 (gb_alloc w (.deferred (some []))) (Nat.le_refl _) (by show (w.alloc (.deferred (some []))).heap[w.heap.size]? = _; exact World.alloc_heap_new w _)
            have hle1 := hM.ext_le (w.heap.size, 0)
            have hM2 := newB_ok (g := (w.alloc (.deferred (some []))).heap.size) (c := 0) hM1 hn2 (gb_alloc _ (lrec fn (Gw.fr n σ l) ps asg body w.heap.size .ready none)) (Nat.le_refl _)
              ⟨fn, σ, l, w.heap.size, 0, hM1.ext_le _ _ _ (ext_at _ _ _), (hF.mono hle1).mono (hM1.ext_le _), World.alloc_heap_new _ _⟩
            have hle2 := hM1.ext_le ((w.alloc (.deferred (some []))).heap.size, 0)
            have hL := ext_at (ext ρ st.next (w.heap.size, 0)) st1.next ((w.alloc (.deferred (some []))).heap.size, 0)
            have hsz : (w.alloc (.deferred (some []))).heap.size = w.heap.size + 1 := by simp
            have hA : A2 (R2 (ext (ext ρ st.next (w.heap.size, 0)) st1.next ((w.alloc (.deferred (some []))).heap.size, 0))) (ofB fs ++ [vY st1.next] ++ ofB cs) (fs' ++ [Value.func (.yield (w.heap.size + 1)) #[] #[]] ++ cs') :=
              ((ofB_A2 (r3.mono fun _ _ => RB.mono (hle1.trans hle2))).app (show A2 (R2 _) [vY st1.next] [Value.func (.yield (w.heap.size + 1)) #[] #[]] from ⟨⟨_, _, hL, by rw [hsz]⟩, trivial⟩)).app (ofB_A2 (r4.mono fun _ _ => RB.mono (hle1.trans hle2)))
            refine (hR _ _ _ _ _ hrec _ _ _ (hG.mono (hle1.trans hle2)) hM2 hA).mono fun u w3 hu => ?_
            obtain ⟨ρ3, hle3, hM3, _⟩ := hu
            have fin : ∀ {n' : Nat} {fra : Fr} {ps' : Array Tmp} {asg' body' : Code} {dk : Nat} {ls : LoopState} {y : Ex} {st4 : St}, st3.mem.get st1.next = some (.loop n' fra ps' asg' body' dk ls y) → ls ≠ .busy → delB st3 st1.next = some st4 → some (y, fr, Df.mk st.next :: dd, st4) = some (x, fr', dd', st') →
                ∃ r : Loop, w3.heap[w.heap.size + 1]? = some (.loop r) ∧ r.state ≠ .busy ∧ ∀ w4, w3.grownBy w4 (some (w.heap.size + 1)) → w4.heap.size = w3.heap.size →
                  (match r.pending with | none => Q .normal (Ac n σ (lmark w.heap.size :: ds) l) w4 | some c => c.wpIn (wF none) 0 P Q (Ac n σ (lmark w.heap.size :: ds) l) w4) := by
              intro n' fra ps' asg' body' dk ls y st4 hget hls hdel he
              obtain ⟨rfl, rfl, rfl, rfl⟩ : y = x ∧ fr = fr' ∧ Df.mk st.next :: dd = dd' ∧ st4 = st' := by simpa using he
              obtain ⟨gL, cL, q1, q2, fn3, σ3, l3, gd, cd, q3, q4, q5⟩ := hM3.at_ _ _ hget
              obtain ⟨rfl, rfl⟩ := Prod.mk.inj (Option.some.inj ((hle3 _ _ hL).symm.trans q1))
              refine ⟨_, by rw [← hsz]; exact q5, hls, fun w4 hg4 hs4 => ?_⟩
              have hMd := delB_ok hM3 hdel
              have hM4 : MR w0 ρ3 st4 w4 := by
                refine hMd.skip hg4 (by rintro _ ⟨rfl⟩; rw [← hsz]; exact ⟨q2.1 rfl, q2.2⟩) fun b mb g c e r hh => ?_
                obtain rfl := Option.some.inj hh
                obtain ⟨e1, e2⟩ := delB_get hdel e
                exact e2 (hM3.inj _ _ _ _ _ _ _ e1 hget r (by rw [hsz] at q1; exact q1))
              exact Ex.jump_get (kk ρ3 l _ w4 ((hle1.trans hle2).trans hle3) (hF.mono ((hle1.trans hle2).trans hle3)) ⟨⟨_, _, hle3 _ _ (hle2 _ _ (ext_at _ _ _)), rfl⟩, hS.mono ((hle1.trans hle2).trans hle3)⟩ hM4)
            split at h
            · rename_i n' fra ps' asg' body' dk ls y hget
              split at h
              · split at h
                · rename_i st4 hdel; exact fin hget (fun e => by cases e) hdel h
                · cases h
              · split at h
                · rename_i st4 hdel; exact fin hget (fun e => by cases e) hdel h
                · cases h
              · cases h
            · cases h
          · cases h
        · cases h
      · cases h
  · cases h
theorem setP_ok {ρ : Rho} {σ : Nat → Value} : ∀ {ps : List Tmp} {xs : List V2} {vs : List Value} {fr fr' : Fr} {l : Sl}, setP n ps xs fr = some fr' → FR ρ n fr l → A2 (R2 ρ) xs vs → ∃ l', (ps.zip vs).foldl (fun t (q : Tmp × Value) => t.setIfInBounds q.1 q.2) (Gw.fr n σ l) = Gw.fr n σ l' ∧ FR ρ n fr' l' ∧ vs.length = ps.length
  | [], [], [], fr, fr', l, h, hF, _ => by
    obtain rfl := Option.some.inj h
    exact ⟨l, rfl, hF, rfl⟩
  | t :: ts, x :: xs, v :: vs, fr, fr', l, h, hF, hA => by
    simp only [setP] at h
    split at h
    · rename_i fr1 hp
      obtain ⟨f1, f2⟩ := putF_ok (σ := σ) (ds := []) hp hF hA.1
      obtain ⟨l', h1, h2, h3⟩ := setP_ok (σ := σ) h f1 hA.2
      refine ⟨l', ?_, h2, by simp [h3]⟩
      rw [List.zip_cons_cons, List.foldl_cons]
      have : (Gw.fr n σ l).setIfInBounds t v = Gw.fr n σ ((t, v) :: l) := congrArg Act.tmps f2
      rw [this]
      exact h1
    · cases h
  | [], _ :: _, _, _, _, _, h, _, _ => by cases h
  | _ :: _, [], _, _, _, _, h, _, _ => by cases h
  | [], [], _ :: _, _, _, _, _, _, hA => hA.elim
  | _ :: _, _ :: _, [], _, _, _, _, _, hA => hA.elim
theorem roundA_ok {fuel : Nat} (hR : RecOk P w0 gl rec) (hY : YecOk P w0 gl ry) (hD : ∀ n, DrwOk P w0 gl n (drw n rec)) : YecOk P w0 gl (roundA P rec ry drw gl fuel) := fun b xs st x st' h ρ w vals g c hG hM hb hA => by
  unfold roundA at h
  split at h
  · rename_i n fr ps asg body dk hget
    split at h
    · rename_i fr1 hset
      split at h
      · rename_i fr2 st1 hasg
        split at h
        · rename_i n1 fra ps1 asg1 body1 dk1 hget1
          split at h
          · rename_i st2 hput2
            split at h
            · rename_i y frx st3 hbody
              split at h
              · rename_i n4 fr4 ps4 asg4 body4 dk4 hget3
                obtain ⟨g0, c0, q1, q2, fn, σ, l, gd, cd, q3, q4, q5⟩ := hM.at_ _ _ hget
                obtain ⟨rfl, rfl⟩ := Prod.mk.inj (Option.some.inj (hb.symm.trans q1))
                obtain ⟨l1, e1, e2, e3⟩ := setP_ok (σ := σ) hset q4 hA
                refine ⟨fn, _, asg, body, run_yield q5 (by simpa using e3), roundIn_of_wpIn (F := Fence.wide) trivial ?_⟩
                have htm : (ps.zip vals.toArray).foldl (fun tmps (q : Tmp × Value) => tmps.setIfInBounds q.1 q.2) (Gw.fr n σ l) = Gw.fr n σ l1 := by
                  rw [← e1, ← Array.foldl_toList]
                  simp
                show asg.wpIn (wF (some g)) 0 P _ { tmps := (ps.zip vals.toArray).foldl (fun tmps (q : Tmp × Value) => tmps.setIfInBounds q.1 q.2) (Gw.fr n σ l), defers := [] } w
                rw [htm]
                refine evC_ok (ro := some g) (rd := true) (σ := σ) (ds := []) rfl hR hY (hD _) norf_ok fuel hasg hG e2 trivial hM fun ρ1 l2 ds2 w1 p1 p2 p3 p4 => ?_
                have hd2 : ds2 = [] := by
                  cases ds2 with
                  | nil => rfl
                  | cons _ _ => exact p3.elim
                subst hd2
                obtain ⟨g1, c1, t1, t2, fn1, σ1, lx1, gd1, cd1, t3, t4, t5⟩ := p4.at_ _ _ hget1
                obtain ⟨rfl, rfl⟩ := Prod.mk.inj (Option.some.inj ((p1 _ _ hb).symm.trans t1))
                refine ⟨_, run_beginRound t5 rfl, ?_⟩
                have hlt1 := (Array.getElem?_eq_some_iff.1 t5).1
                have hM2 := putB_ok (mb' := .loop n1 fra ps1 asg1 body1 dk1 .busy .normal) p4 hput2 hget1 rfl t1 (⟨rfl, rfl, rfl, by simp, fun k _ hk => World.putObj_heap_other (fun e => hk (by rw [e]))⟩ : w1.grownBy (w1.putObj g (lrec fn1 (Gw.fr n1 σ1 lx1) ps1 asg1 body1 gd1 .busy none)) (some g))
                  ⟨fn1, σ1, lx1, gd1, cd1, t3, t4, World.putObj_heap_same hlt1⟩
                refine evC_ok (ro := some g) (rd := true) (σ := σ) (ds := []) rfl hR hY (hD _) norf_ok fuel hbody (hG.mono p1) p2 trivial hM2 fun ρ3 l3 ds3 w3 u1 u2 u3 u4 => ?_
                obtain ⟨g3, c3, v1, v2, fn3, σ3, lx3, gd3, cd3, v3, v4, v5⟩ := u4.at_ _ _ hget3
                obtain ⟨rfl, rfl⟩ := Prod.mk.inj (Option.some.inj ((u1 _ _ t1).symm.trans v1))
                have hlt3 := (Array.getElem?_eq_some_iff.1 v5).1
                have fin : ∀ (ls : LoopState) (y' : Ex) (st4 : St), putB st3 b (.loop n4 fr4 ps4 asg4 body4 dk4 ls y') = some st4 → MR w0 ρ3 st4 (w3.putObj g (lrec fn3 (Gw.fr n4 σ3 lx3) ps4 asg4 body4 gd3 ls y'.jump)) := fun ls y' st4 hp =>
                  putB_ok (mb' := .loop n4 fr4 ps4 asg4 body4 dk4 ls y') u4 hp hget3 rfl v1 ⟨rfl, rfl, rfl, by simp, fun k _ hk => World.putObj_heap_other (fun e => hk (by rw [e]))⟩ ⟨fn3, σ3, lx3, gd3, cd3, v3, v4, World.putObj_heap_same hlt3⟩
                cases y with
                | normal =>
                  simp only at h
                  split at h
                  · rename_i st4 hp
                    obtain ⟨rfl, rfl⟩ := Prod.mk.inj (Option.some.inj h)
                    exact ⟨_, _, run_endRound none v5, ρ3, p1.trans u1, fin .ready .normal _ hp, rfl⟩
                  · cases h
                | exit id =>
                  simp only at h
                  split at h
                  · rename_i st4 hp
                    obtain ⟨rfl, rfl⟩ := Prod.mk.inj (Option.some.inj h)
                    exact ⟨_, _, run_endRound (some (.exit id)) v5, ρ3, p1.trans u1, fin .done (.exit id) _ hp, rfl⟩
                  · cases h
                | ret =>
                  simp only at h
                  split at h
                  · rename_i st4 hp
                    obtain ⟨rfl, rfl⟩ := Prod.mk.inj (Option.some.inj h)
                    exact ⟨_, _, run_endRound (some .ret) v5, ρ3, p1.trans u1, fin .done .ret _ hp, rfl⟩
                  · cases h
              · cases h
            · cases h
          · cases h
        · cases h
      · cases h
    · cases h
  · cases h
theorem bodyF_ok {fuel : Nat} {f : FuncId} {xs : List V2} {st st' : St} {fn : Func} {fr' : Fr} {dd : List Df} (hR : RecOk P w0 gl rec) (hY : YecOk P w0 gl ry) (hD : ∀ n, DrwOk P w0 gl n (drw n rec)) (h : bodyF P drw gl fuel rec ry f xs st = some (fn, fr', dd, st')) :
    P.funcs[f]? = some fn ∧ ∃ c, fn.body = some c ∧ ∀ ρ w vals, GL ρ gl → MR w0 ρ st w → A2 (R2 ρ) xs vals → ∀ Q : Exit → Act → World → Prop,
      (∀ e, (e = .normal ∨ e = .ret) → ∀ ρ' l' ds' w', Le ρ ρ' → FR ρ' fn.ntmps fr' l' → DS ρ' dd ds' → MR w0 ρ' st' w' → Q e (Ac fn.ntmps (fun _ => undef) ds' l') w') →
      c.wpIn (wF none) 0 P Q { tmps := vals.toArray ++ Array.replicate (fn.ntmps - vals.toArray.size) undef, defers := [] } w := by
  unfold bodyF at h
  split at h
  · rename_i fn' hfn
    split at h
    · rename_i c fr hc hfr
      cases hb : Nat.ble xs.length fn'.ntmps with
      | false => rw [hb] at h; cases h
      | true =>
        rw [hb] at h
        simp only [cond_true] at h
        have hle := Nat.le_of_ble_eq_true hb
        have key : ∀ {ex : Ex} {fr1 : Fr} {dd1 : List Df} {st1 : St}, (ex = .normal ∨ ex = .ret) → evC P rec ry (drw fn'.ntmps rec) (rangeA P rec gl fn'.ntmps) false gl fn'.ntmps fuel c fr [] st = some (ex, fr1, dd1, st1) → some (fn', fr1, dd1, st1) = some (fn, fr', dd, st') →
            P.funcs[f]? = some fn ∧ ∃ c, fn.body = some c ∧ ∀ ρ w vals, GL ρ gl → MR w0 ρ st w → A2 (R2 ρ) xs vals → ∀ Q : Exit → Act → World → Prop,
              (∀ e, (e = .normal ∨ e = .ret) → ∀ ρ' l' ds' w', Le ρ ρ' → FR ρ' fn.ntmps fr' l' → DS ρ' dd ds' → MR w0 ρ' st' w' → Q e (Ac fn.ntmps (fun _ => undef) ds' l') w') →
              c.wpIn (wF none) 0 P Q { tmps := vals.toArray ++ Array.replicate (fn.ntmps - vals.toArray.size) undef, defers := [] } w := by
          intro ex fr1 dd1 st1 hex hev he
          obtain ⟨rfl, rfl, rfl, rfl⟩ : fn' = fn ∧ fr1 = fr' ∧ dd1 = dd ∧ st1 = st' := by simpa using he
          refine ⟨hfn, c, hc, fun ρ w vals hG hM hA Q kk => ?_⟩
          obtain ⟨_, hF0, _⟩ := fr0_ok (n := fn'.ntmps) (l := []) hfr hA (by omega) (fun t x e => by cases e)
          have hF : FR ρ fn'.ntmps fr (zipA 0 vals) := fun t y e => by
            rcases hF0 t y e with ⟨q0, u, q1, _, q3⟩ | ⟨q1, _⟩
            · exact ⟨q0, u, q1, q3⟩
            · omega
          rw [enterG (P := P) rfl (by rw [← hA.len]; exact hb)]
          refine evC_ok (ro := none) rfl hR hY (hD _) (rangeA_ok hR) fuel hev hG hF trivial hM fun ρ' l' ds' w' q1 q2 q3 q4 => ?_
          rcases hex with rfl | rfl
          · exact kk _ (.inl rfl) ρ' l' ds' w' q1 q2 q3 q4
          · exact kk _ (.inr rfl) ρ' l' ds' w' q1 q2 q3 q4
        split at h
        · rename_i hev
          exact key (.inl rfl) hev h
        · rename_i hev
          exact key (.inr rfl) hev h
        · cases h
    · cases h
  · cases h
theorem leaveA_ok {bo : Bo} {fn0 : Func} {tmps : Array Value} {R : Ending → World → Prop}
    (hB : ∀ {f xs st fn fr' dd st'}, bo f xs st = some (fn, fr', dd, st') → P.funcs[f]? = some fn ∧ ∃ c, fn.body = some c ∧ ∀ ρ w vals, GL ρ gl → MR w0 ρ st w → A2 (R2 ρ) xs vals → ∀ Q : Exit → Act → World → Prop,
      (∀ e, (e = .normal ∨ e = .ret) → ∀ ρ' l' ds' w', Le ρ ρ' → FR ρ' fn.ntmps fr' l' → DS ρ' dd ds' → MR w0 ρ' st' w' → Q e (Ac fn.ntmps (fun _ => undef) ds' l') w') →
      c.wpIn (wF none) 0 P Q { tmps := vals.toArray ++ Array.replicate (fn.ntmps - vals.toArray.size) undef, defers := [] } w) :
    ∀ {dd : List Df} {ds : List Deferred} {st st2 : St} {ρ : Rho} {w : World}, leaveA P bo dd st = some st2 → GL ρ gl → DS ρ dd ds → MR w0 ρ st w →
      (∀ ρ' w', Le ρ ρ' → MR w0 ρ' st2 w' → ∃ v, (results fn0 tmps).run P w' = .ok v w' ∧ R (.returned v) w') → LeavesInM (wF none) 0 P fn0 tmps R ds .returning w
  | [], [], st, st2, ρ, w, h, _, _, hM, k => by
    obtain rfl := Option.some.inj h
    exact k ρ w (Le.refl ρ) hM
  | .mk b :: dd, d :: ds, st, st2, ρ, w, h, hG, hS, hM, k => by
    obtain ⟨⟨g, c, r1, rfl⟩, hS⟩ := hS
    simp only [leaveA] at h
    split at h
    · rename_i hget
      split at h
      · rename_i st' hdel
        obtain ⟨g0, c0, q1, q2, q3⟩ := hM.at_ _ _ hget
        obtain ⟨rfl, rfl⟩ := Prod.mk.inj (Option.some.inj (r1.symm.trans q1))
        refine ⟨(fun e => by cases e), .inl ⟨g, _, rfl, run_takeDeferred q3, ?_⟩⟩
        have hMd := delB_ok hM hdel
        have hM4 : MR w0 ρ st' (w.putObj g (.deferred none)) := by
          refine hMd.skip (row := some g) ⟨rfl, rfl, rfl, by simp, fun k _ hk => World.putObj_heap_other (fun e => hk (by rw [e]))⟩ (by rintro _ ⟨rfl⟩; exact ⟨q2.1 rfl, q2.2⟩) fun b' mb g' c' e r hh => ?_
          obtain rfl := Option.some.inj hh
          obtain ⟨e1, e2⟩ := delB_get hdel e
          exact e2 (hM.inj _ _ _ _ _ _ _ e1 hget r q1)
        exact leaveA_ok hB h hG hS hM4 k
      · cases h
    · cases h
  | .fn f us cs :: dd, d :: ds, st, st2, ρ, w, h, hG, hS, hM, k => by
    obtain ⟨⟨us', cs', rfl, r1, r2⟩, hS⟩ := hS
    simp only [leaveA] at h
    cases hc : callB P f with
    | false => rw [hc] at h; cases h
    | true =>
      rw [hc] at h
      simp only [cond_true] at h
      split at h
      · rename_i fn fr' st' hb
        split at h
        · rename_i x hres
          obtain ⟨hf, c, hc2, hwp⟩ := hB hb
          refine ⟨(fun e => by cases e), .inr ⟨(fun e => by cases e), _, _, f, (us' ++ cs').toArray, rfl, invoke_fn hc, fun _ _ => trivial, CallsDIn.mono (callsDIn_of_wp (F := wF none) (n := 0) (R := fun e w' => ∃ v, e = .returned v ∧ ∃ ρ', Le ρ ρ' ∧ MR w0 ρ' st' w') hf hc2 trivial (hwp ρ w (us' ++ cs') hG hM (r1.app (ofB_A2 r2)) _ fun e he ρ' l' ds' w' q1 q2 q3 q4 => ?_)) fun e u' w' hh => ?_⟩⟩
          · have hd : ds' = [] := by
              cases ds' with
              | nil => rfl
              | cons _ _ => exact q3.elim
            subst hd
            obtain ⟨v, e1, _⟩ := resA_ok (σ := fun _ => undef) q2 q4 hres
            rcases he with rfl | rfl
            · exact ⟨rfl, v, e1, v, rfl, ρ', q1, q4⟩
            · exact ⟨rfl, v, e1, v, rfl, ρ', q1, q4⟩
          · obtain ⟨rfl, v, rfl, ρ', q1, q2⟩ := hh
            exact leaveA_ok hB h (hG.mono q1) (DS.mono q1 hS) q2 fun ρ'' w'' q3 q4 => k ρ'' w'' (q1.trans q3) q4
        · cases h
      · cases h
  | [], _ :: _, _, _, _, _, _, _, h, _, _ => h.elim
  | _ :: _, [], _, _, _, _, _, _, h, _, _ => h.elim
theorem stepF_ok {fuel : Nat} (hR : RecOk P w0 gl rec) (hY : YecOk P w0 gl ry) (hD : ∀ n, DrwOk P w0 gl n (drw n rec)) : RecOk P w0 gl (stepF P drw gl fuel rec ry) := fun f xs st x st' h ρ w vals hG hM hA => by
  unfold stepF at h
  split at h
  · rename_i fn fr' dd st1 hb
    split at h
    · rename_i st2 hl
      split at h
      · rename_i v hres
        obtain ⟨rfl, rfl⟩ := Prod.mk.inj (Option.some.inj h)
        obtain ⟨hf, c, hc, hwp⟩ := bodyF_ok hR hY hD hb
        refine callsIn_wide.1 (callsIn_of_wp_marks (F := wF none) (n := 0) hf hc trivial (hwp ρ w vals hG hM hA _ fun e he ρ' l' ds' w' q1 q2 q3 q4 => ?_))
        have : LeavesInM (wF none) 0 P fn (Gw.fr fn.ntmps (fun _ => undef) l') (RetOf fun u w' => ∃ ρ', Le ρ ρ' ∧ MR w0 ρ' st2 w' ∧ R2 ρ' v u) ds' .returning w' :=
          leaveA_ok (fun hb => bodyF_ok hR hY hD hb) hl (hG.mono q1) q3 q4 fun ρ'' w'' q5 q6 => by
            obtain ⟨u, e1, r1⟩ := resA_ok (σ := fun _ => undef) (q2.mono q5) q6 hres
            exact ⟨u, e1, ρ'', q1.trans q5, q6, r1⟩
        rcases he with rfl | rfl
        · exact this
        · exact this
      · cases h
    · cases h
  · cases h
end
end Go.Proofs.Ytbmohojdlgedpaa.Ev
