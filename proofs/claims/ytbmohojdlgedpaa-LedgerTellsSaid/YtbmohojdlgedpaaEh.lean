/-
  An evaluator for closed calls, eighth part: regions, code, calls. It holds of every program.
-/
import Derived.Test.YtbmohojdlgedpaaEj
import Derived.Test.YtbmohojdlgedpaaGp
namespace Go.Proofs.Ytbmohojdlgedpaa.Ev
open Go.RowKit Gw
set_option linter.unusedVariables false
set_option linter.unusedSimpArgs false
/-- how deep a frame's map may go -/
def df : Nat := 16
def putF (n : Nat) (fr : Fr) (dst : Option Nat) (x : V2) : Option Fr :=
  match dst with
  | none => some fr
  | some d => bif Nat.blt d n then fV2 x fun x => Tr.set df fr d (some x) else none
theorem putF_some (n : Nat) (fr : Fr) (d : Nat) (x : V2) : putF n fr (some d) x = bif Nat.blt d n then Tr.set df fr d (some x) else none := by
  simp only [putF, fV2_eq]
def putl (dst : Option Nat) (v : Value) (l : Sl) : Sl := match dst with | some d => (d, v) :: l | none => l
abbrev Rec := FuncId → List V2 → St → Option (V2 × St)
def ofB (l : List B) : List V2 := l.map fun b => .v (.c (.b b))
/-- Is it wanted? -/
def wants (ops : Array Oper) (fr : Fr) : Option (Nat × Bool) → Option Bool
  | none => some true
  | some (j, want) => match (ops[j]?).bind (·.dst) with
    | some t => match fr.get t with
      | some (vK (.bool b)) => some (b == want)
      | some (vK (.tuple _)) => some false
      | _ => none
    | none => none
def evX (P : Program) (rec ry : Rec) (gl : Gl) (n : Nat) (o : Oper) (fr : Fr) (st : St) : Option (Fr × St) :=
  match ev1 P gl n fr st o.op with
  | some x => match putF n fr o.dst x with | some fr' => some (fr', st) | none => none
  | none => match ev2 P gl n fr st o.op with
    | some (x, st') => match putF n fr o.dst x with | some fr' => some (fr', st') | none => none
    | none => match ev1b P gl n fr st o.op with
      | some x => match putF n fr o.dst x with | some fr' => some (fr', st) | none => none
      | none => match ev3 P gl n fr st o.op with
        | some st' => match putF n fr o.dst (vK undef) with | some fr' => some (fr', st') | none => none
        | none => match ev4 P gl n fr st o.op with
          | some x => match putF n fr o.dst x with | some fr' => some (fr', st) | none => none
          | none => match ev5 P gl n fr st o.op with
            | some (x, st') => match putF n fr o.dst x with | some fr' => some (fr', st') | none => none
            | none => match ev6 P gl n fr st o.op with
              | some st' => match putF n fr o.dst (vK undef) with | some fr' => some (fr', st') | none => none
              | none => match ev7 P gl n fr st o.op with
               | some (x, st') => match putF n fr o.dst x with | some fr' => some (fr', st') | none => none
               | none => match o.op with
                | .call ⟨.value f, xs, _⟩ => match evO gl n fr f, evOs gl n fr xs.toList with
                  | some (.v (.c (.f f fs cs))), some vs => bif callB P f then
                      match rec f (ofB fs ++ vs ++ ofB cs) st with
                      | some (x, st') => match putF n fr o.dst x with | some fr' => some (fr', st') | none => none
                      | none => none
                    else none
                  | some (vY b), some vs => match ry b vs st with
                    | some (x, st') => match putF n fr o.dst x with | some fr' => some (fr', st') | none => none
                    | none => none
                  | _, _ => none
                | _ => none
/-! ### the same, quicker -/
def put1 (n : Nat) (fr : Fr) (dst : Option Nat) (st : St) : Option V2 → Option (Fr × St)
  | some x => match putF n fr dst x with | some fr' => some (fr', st) | none => none
  | none => none
/-- What is only handed on is not looked at. -/
def putM (n : Nat) (fr : Fr) (dst : Option Nat) (x : V2) : Option Fr :=
  match dst with
  | none => some fr
  | some d => bif Nat.blt d n then Tr.set df fr d (some x) else none
theorem putM_eq (n : Nat) (fr : Fr) (dst : Option Nat) (x : V2) : putM n fr dst x = putF n fr dst x := by
  cases dst with
  | none => rfl
  | some d => rw [putF_some]; rfl
def put2 (n : Nat) (fr : Fr) (dst : Option Nat) (st : St) : Option V2 → Option (Fr × St)
  | some x => match putM n fr dst x with | some fr' => some (fr', st) | none => none
  | none => none
theorem put2_eq (n : Nat) (fr : Fr) (dst : Option Nat) (st : St) (x : Option V2) : put2 n fr dst st x = put1 n fr dst st x := by
  cases x with
  | none => rfl
  | some x => simp only [put1, put2, putM_eq]
def eLoad (P : Program) (st : St) (t : TypeId) : Option V2 → Option V2
  | some (vP b o) => match st.mem.get b with
    | some (.cells _ cs _) => match sclB P t with
      | true => match cs[o]? with | some c => some (.v (.c c)) | none => none
      | false => match aggI P t with
        | some sz => match sub cs o sz with | some r => some (.v (.a r)) | none => none
        | none => none
    | _ => none
  | _ => none
def eField (x : Option V2) (f : Option Nat) : Option V2 := match x, f with
  | some (vP b o), some off => some (vP b (o + off))
  | _, _ => none
def eIndex (P : Program) (t : TypeId) (a b : Option V2) : Option V2 := match a, b with
  | some (vS b o m _), some (vK (.int _ (.ofNat i))) => match slcI P t with
    | some (_, sz, _) => bif Nat.blt i m then some (vP b (o + i * sz)) else none
    | none => none
  | some (vP b o), some (vK (.int _ (.ofNat i))) => match arrI P t with
    | some (_, m, sz) => bif Nat.blt i m then some (vP b (o + i * sz)) else none
    | none => none
  | _, _ => none
def eBin (P : Program) (op : BinOp) (t : TypeId) (x y : Operand) (a b : Option V2) : Option V2 := match a, b with
  | some a, some b => match kOf a, kOf b with
    | some u, some v => match binK P op t x y u v with | some r => some (vK r) | none => none
    | _, _ => match op with
      | .eql => match eqA P t a b with | some r => some (vK (.bool r)) | none => none
      | .neq => match eqA P t a b with | some r => some (vK (.bool (!r))) | none => none
      | _ => none
  | _, _ => none
def ePick (c : Option V2) (a b : Option V2) : Option V2 := match c with
  | some (vK (.bool true)) => a
  | some (vK (.bool false)) => b
  | _ => none
def eExtract (x : Option V2) (i : Nat) : Option V2 := match x with
  | some (.t l) => match l[i]? with | some y => some (.v y) | none => none
  | _ => none
def eNil (x : Option V2) : Option V2 := match x with
  | some (vP b o) => some (vP b o)
  | _ => none
def eConv (P : Program) (s t : TypeId) (x : Option V2) : Option V2 := match x with
  | some (vK v) => match pureOf P (convert s t v) with | some r => some (vK r) | none => none
  | _ => none
def eStore (P : Program) (st : St) (t : TypeId) (a b : Option V2) : Option St := match a, b with
  | some (vP b o), some (.v v) => match st.mem.get b with
    | some (.cells T cs md) => bif szB P t (cel v).length && (cel v).all oneC && !(Nat.beq md 2) && Nat.ble (o + (cel v).length) cs.length then putB st b (.cells T (splice cs o (cel v)) md) else none
    | _ => none
  | _, _ => none
def eCall (P : Program) (rec ry : Rec) (n : Nat) (fr : Fr) (dst : Option Nat) (st : St) (f : Option V2) (xs : Option (List V2)) : Option (Fr × St) := match f, xs with
  | some (.v (.c (.f f fs cs))), some vs => bif callB P f then
      match rec f (ofB fs ++ vs ++ ofB cs) st with
      | some (x, st') => match putF n fr dst x with | some fr' => some (fr', st') | none => none
      | none => none
    else none
  | some (vY b), some vs => match ry b vs st with
    | some (x, st') => match putF n fr dst x with | some fr' => some (fr', st') | none => none
    | none => none
  | _, _ => none
def orX (a : Option (Fr × St)) (b : Unit → Option (Fr × St)) : Option (Fr × St) := match a with | some r => some r | none => b ()
def evXf (P : Program) (rec ry : Rec) (gl : Gl) (n : Nat) (o : Oper) (fr : Fr) (st : St) : Option (Fr × St) :=
  match o.op with
  | .move x => put2 n fr o.dst st (evO gl n fr x)
  | .assign x => put2 n fr o.dst st (evO gl n fr x)
  | .load t x => put1 n fr o.dst st (eLoad P st t (evO gl n fr x))
  | .fieldAddr t x f => put1 n fr o.dst st (eField (evO gl n fr x) (fldI P t f))
  | .indexAddr t x y => put1 n fr o.dst st (eIndex P t (evO gl n fr x) (evO gl n fr y))
  | .binOp op t x y _ => put1 n fr o.dst st (eBin P op t x y (evO gl n fr x) (evO gl n fr y))
  | .pick c a b => put1 n fr o.dst st (ePick (evO gl n fr c) (evO gl n fr a) (evO gl n fr b))
  | .extract x i => put1 n fr o.dst st (eExtract (evO gl n fr x) i)
  | .nilCheck x => put1 n fr o.dst st (eNil (evO gl n fr x))
  | .convert s t x => orX (put1 n fr o.dst st (eConv P s t (evO gl n fr x))) fun _ => evX P rec ry gl n o fr st
  | .store t x y => match eStore P st t (evO gl n fr x) (evO gl n fr y) with
    | some st' => put1 n fr o.dst st' (some (vK undef))
    | none => none
  | .call c => match c.callee with
    | .value f => eCall P rec ry n fr o.dst st (evO gl n fr f) (evOs gl n fr c.args.toList)
    | _ => evX P rec ry gl n o fr st
  | _ => evX P rec ry gl n o fr st
section
variable {P : Program} {rec ry : Rec} {gl : Gl} {n : Nat} {fr : Fr} {st : St}
theorem evX_of1 {o : Oper} {x : Option V2} {r : Fr × St} (h : ev1 P gl n fr st o.op = x) (h2 : put1 n fr o.dst st x = some r) : evX P rec ry gl n o fr st = some r := by
  unfold evX
  rw [h]
  cases x with
  | none => cases h2
  | some x => exact h2
theorem evXf_ok {o : Oper} {r : Fr × St} (h : evXf P rec ry gl n o fr st = some r) : evX P rec ry gl n o fr st = some r := by
  obtain ⟨dst, op, ty, pos, af, gd⟩ := o
  cases op with
  | move x =>
    have h' : put2 n fr dst st (evO gl n fr x) = some r := h
    rw [put2_eq] at h'
    exact evX_of1 rfl h'
  | assign x =>
    have h' : put2 n fr dst st (evO gl n fr x) = some r := h
    rw [put2_eq] at h'
    exact evX_of1 rfl h'
  | load t x => exact evX_of1 rfl h
  | fieldAddr t x f => exact evX_of1 rfl h
  | indexAddr t x y => exact evX_of1 rfl h
  | binOp op t x y t2 => exact evX_of1 rfl h
  | pick c a b => exact evX_of1 rfl h
  | extract x i => exact evX_of1 rfl h
  | nilCheck x => exact evX_of1 rfl h
  | convert s t x =>
    have h' : orX (put1 n fr dst st (eConv P s t (evO gl n fr x))) (fun _ => evX P rec ry gl n ⟨dst, .convert s t x, ty, pos, af, gd⟩ fr st) = some r := h
    unfold orX at h'
    split at h'
    · rename_i q hq
      rw [← h']
      exact evX_of1 rfl hq
    · exact h'
  | store t x y =>
    have h' : (match eStore P st t (evO gl n fr x) (evO gl n fr y) with | some st' => put1 n fr dst st' (some (vK undef)) | none => none) = some r := h
    have e : evX P rec ry gl n ⟨dst, .store t x y, ty, pos, af, gd⟩ fr st = (match eStore P st t (evO gl n fr x) (evO gl n fr y) with | some st' => (match putF n fr dst (vK undef) with | some fr' => some (fr', st') | none => none) | none => none) := by
      show (match eStore P st t (evO gl n fr x) (evO gl n fr y) with | some st' => (match putF n fr dst (vK undef) with | some fr' => some (fr', st') | none => none) | none => none) = _
      rfl
    rw [e]
    exact h'
  | call c =>
    obtain ⟨cl, args, ts⟩ := c
    cases cl with
    | value f => exact h
    | _ => exact h
  | _ => exact h
end
/-- A call put off: its function, its arguments, what it holds; or a loop's own block of such. -/
inductive Df where
  | fn (f : FuncId) (us : List V2) (cs : List B)
  | mk (b : Nat)
def DR (ρ : Rho) (d : Deferred) : Df → Prop
  | .fn f xs bs => ∃ us cs, d = ⟨.fn (.func f) cs.toArray, us.toArray⟩ ∧ A2 (R2 ρ) xs us ∧ A2 (RB ρ) bs cs
  | .mk b => ∃ g c, ρ b = some (g, c) ∧ d = lmark g
theorem DR.mono {ρ ρ' : Rho} {d : Deferred} (hl : Le ρ ρ') : ∀ {x : Df}, DR ρ d x → DR ρ' d x
  | .fn _ _ _, ⟨us, cs, h1, h2, h3⟩ => ⟨us, cs, h1, h2.mono fun _ _ => R2.mono hl, h3.mono fun _ _ => RB.mono hl⟩
  | .mk _, ⟨g, c, h1, h2⟩ => ⟨g, c, hl _ _ h1, h2⟩
def DS (ρ : Rho) (dd : List Df) (ds : List Deferred) : Prop := A2 (fun (x : Df) (d : Deferred) => DR ρ d x) dd ds
theorem DS.mono {ρ ρ' : Rho} {dd : List Df} {ds : List Deferred} (hl : Le ρ ρ') (h : DS ρ dd ds) : DS ρ' dd ds :=
  A2.mono (fun _ _ => DR.mono hl) h
def evD (gl : Gl) (n : Nat) (fr : Fr) : Op → Option Df
  | .defer ⟨.value f, xs, _⟩ => match evO gl n fr f, evOs gl n fr xs.toList with
    | some (.v (.c (.f f fs cs))), some vs => some (.fn f (ofB fs ++ vs) cs)
    | _, _ => none
  | _ => none
def evOps (P : Program) (rec ry : Rec) (gl : Gl) (n : Nat) (ops : Array Oper) : List Oper → Fr → List Df → St → Option (Fr × List Df × St)
  | [], fr, dd, st => some (fr, dd, st)
  | o :: os, fr, dd, st => match wants ops fr o.guard with
    | some true => match evXf P rec ry gl n o fr st with
      | some (fr', st') => evOps P rec ry gl n ops os fr' dd st'
      | none => match evD gl n fr o.op, putF n fr o.dst (vK undef) with
        | some d, some fr' => evOps P rec ry gl n ops os fr' (d :: dd) st
        | _, _ => none
    | some false => match putF n fr o.dst (vK undef) with
      | some fr' => evOps P rec ry gl n ops os fr' dd st
      | none => none
    | none => none
section
variable {P : Program} {ρ ρ' : Rho} {gl : Gl} {n : Nat} {fr fr' : Fr} {l : Sl} {w0 : Wd} {w w' : World} {st st' : St}
variable {Q : Exit → Act → World → Prop} {ops : Array Oper} {rest : List Oper} {σ : Nat → Value} {ds : List Deferred} {rec ry : Rec}
def RecOk (P : Program) (w0 : Wd) (gl : Gl) (rec : Rec) : Prop :=
  ∀ f xs st x st', rec f xs st = some (x, st') → ∀ ρ w vals, GL ρ gl → MR w0 ρ st w → A2 (R2 ρ) xs vals → Runs P f vals.toArray w (fun u w' => ∃ ρ', Le ρ ρ' ∧ MR w0 ρ' st' w' ∧ R2 ρ' x u)
/-- The same of the functions that loops hand on. -/
def YecOk (P : Program) (w0 : Wd) (gl : Gl) (ry : Rec) : Prop :=
  ∀ b xs st x st', ry b xs st = some (x, st') → ∀ ρ w vals g c, GL ρ gl → MR w0 ρ st w → ρ b = some (g, c) → A2 (R2 ρ) xs vals → YieldR P g vals w (fun u w' => ∃ ρ', Le ρ ρ' ∧ MR w0 ρ' st' w' ∧ R2 ρ' x u)
def noY : Rec := fun _ _ _ => none
theorem noY_ok : YecOk P w0 gl noY := fun _ _ _ _ _ h => by cases h
def Used (ry : Rec) : Prop := ∃ b xs st r, ry b xs st = some r
theorem noY_used : ¬ Used noY := fun ⟨_, _, _, _, h⟩ => by cases h
theorem putF_ok {dst : Option Nat} {x : V2} {v : Value} (h : putF n fr dst x = some fr') (hF : FR ρ n fr l) (hx : R2 ρ x v) : FR ρ n fr' (putl dst v l) ∧ (Ac n σ ds l).put dst v = Ac n σ ds (putl dst v l) := by
  cases dst with
  | none => obtain rfl := Option.some.inj h; exact ⟨hF, rfl⟩
  | some d =>
    rw [putF_some] at h
    cases hb : Nat.blt d n with
    | false => rw [hb] at h; cases h
    | true => rw [hb] at h; exact ⟨hF.put h hx (by simpa [Nat.blt_eq] using hb), Ac_put hb⟩
theorem yielded_at {j t : Nat} {v : Value} (ht : (ops[j]?).bind (·.dst) = some t) (hv : lk l t = some v) (hlt : t < n) : yielded ops (Ac n σ ds l).tmps j = (match v with | .bool b => some b | _ => none) := by
  simp only [yielded, ht, Option.bind_some]
  have h3 : (Gw.fr n σ l)[t]? = some v := by
    have := Gw.fr_get (σ := σ) (l := l) t hlt
    rw [hv] at this
    rw [← Option.getD_some (a := v) (b := σ t), ← this]
    simp [Array.getD, Gw.fr, hlt]
  simp only [Ac, h3]
  cases v <;> rfl
theorem wants_ok {gd : Option (Nat × Bool)} {b : Bool} {o : Oper} (hg : o.guard = gd) (h : wants ops fr gd = some b) (hF : FR ρ n fr l) : Region.wanted o (yielded ops (Ac n σ ds l).tmps) = b := by
  cases gd with
  | none => obtain rfl := Option.some.inj h; simp [Region.wanted, hg]
  | some p =>
    obtain ⟨j, want⟩ := p
    simp only [wants] at h
    split at h
    · rename_i t ht
      split at h
      · rename_i b' hb
        obtain rfl := Option.some.inj h
        obtain ⟨hlt, v, e1, e2⟩ := hF t _ hb
        obtain rfl : v = _ := e2
        simp only [Region.wanted, hg, yielded_at ht e1 hlt]
        cases b' <;> cases want <;> rfl
      · rename_i vs hb
        obtain rfl := Option.some.inj h
        obtain ⟨hlt, v, e1, e2⟩ := hF t _ hb
        obtain rfl : v = _ := e2
        simp only [Region.wanted, hg, yielded_at ht e1 hlt]
        cases want <;> rfl
      · cases h
    · cases h
theorem run_callX {f : Operand} {xs : Array Operand} {ts : Array TypeId} {ff : FuncId} {fs' avs cs' : List Value} {dst : Option Nat} {ty : TypeId} {pos : String} {af : Array Edge} {gd : Option (Nat × Bool)}
    (e1 : ev n l f = some (.func (.func ff) fs'.toArray cs'.toArray)) (e2 : evL n l xs.toList = some avs) (hc : callB P ff = true) :
    (execOp (Ac n σ ds l).eval ⟨dst, .call ⟨.value f, xs, ts⟩, ty, pos, af, gd⟩).run P w = .ok (.enter ff (fs' ++ avs ++ cs').toArray) w := by
  have hm := evL_map (σ := σ) (ds := ds) e2
  have hmap : xs.map (Ac n σ ds l).eval = avs.toArray := by rw [← Array.toList_inj]; simpa using hm
  simp [execOp, resolve, Deferred.ofValue, invoke, ev_eval e1, run_callFunc hc, hmap]
theorem ofB_A2 : ∀ {bs : List B} {us : List Value}, A2 (RB ρ) bs us → A2 (R2 ρ) (ofB bs) us
  | [], [], _ => trivial
  | _ :: _, _ :: _, h => ⟨h.1, ofB_A2 h.2⟩
  | [], _ :: _, h => h.elim
  | _ :: _, [], h => h.elim
theorem run_callY {f : Operand} {xs : Array Operand} {ts : Array TypeId} {L : Nat} {avs : List Value} {dst : Option Nat} {ty : TypeId} {pos : String} {af : Array Edge} {gd : Option (Nat × Bool)} {r : Result Next}
    (e1 : ev n l f = some (.func (.yield L) #[] #[])) (e2 : evL n l xs.toList = some avs) (hr : (Instr.yield L avs.toArray).run P w = r) :
    (execOp (Ac n σ ds l).eval ⟨dst, .call ⟨.value f, xs, ts⟩, ty, pos, af, gd⟩).run P w = r := by
  have hm := evL_map (σ := σ) (ds := ds) e2
  have hmap : xs.map (Ac n σ ds l).eval = avs.toArray := by rw [← Array.toList_inj]; simpa using hm
  simp [execOp, resolve, Deferred.ofValue, invoke, ev_eval e1, hmap, hr]
/-- What one operation comes to: it goes on. -/
theorem evX_ok (hR : RecOk P w0 gl rec) (hY : YecOk P w0 gl ry) (hG : GL ρ gl) (hF : FR ρ n fr l) (hM : MR w0 ρ st w) {o : Oper} (h : evX P rec ry gl n o fr st = some (fr', st')) {K : Act → World → Prop}
    (k : ∀ ρ' v w', Le ρ ρ' → FR ρ' n fr' (putl o.dst v l) → MR w0 ρ' st' w' → K (Ac n σ ds (putl o.dst v l)) w') : o.wp P (Ac n σ ds l) w K Q ∨ (Used ry ∧ Gives P o (Ac n σ ds l) w K) := by
  obtain ⟨dst, op, ty, pos, af, gd⟩ := o
  unfold evX at h
  simp only at h
  have val : ∀ {x : V2} {v : Value} {w' : World} {ρ' : Rho} {st1 : St}, (execOp (Ac n σ ds l).eval ⟨dst, op, ty, pos, af, gd⟩).run P w = .ok (.value v) w' → Le ρ ρ' → MR w0 ρ' st1 w' → R2 ρ' x v → (match putF n fr dst x with | some fr' => some (fr', st1) | none => none) = some (fr', st') →
      Oper.wp P ⟨dst, op, ty, pos, af, gd⟩ (Ac n σ ds l) w K Q ∨ (Used ry ∧ Gives P ⟨dst, op, ty, pos, af, gd⟩ (Ac n σ ds l) w K) := by
    intro x v w' ρ' st1 hr hle hm hx hp
    left
    unfold Oper.wp
    split at hp
    · rename_i fr1 hp1
      obtain ⟨rfl, rfl⟩ := Prod.mk.inj (Option.some.inj hp)
      obtain ⟨f1, f2⟩ := putF_ok (σ := σ) (ds := ds) hp1 (hF.mono hle) hx
      rw [hr]
      simp only [Oper.upon]
      rw [f2]
      exact k ρ' _ w' hle f1 hm
    · cases hp
  split at h
  · rename_i x hx
    obtain ⟨v, hr, hx2⟩ := ev1_ok (σ := σ) (ds := ds) (ty := ty) (pos := pos) (af := af) (dst := dst) (gd := gd) hG hF hM hx
    exact val hr (Le.refl ρ) hM hx2 h
  · split at h
    · rename_i x st1 hx
      obtain ⟨v, w', ρ', hr, hle, hm, hx2⟩ := ev2_ok (σ := σ) (ds := ds) (ty := ty) (pos := pos) (af := af) (dst := dst) (gd := gd) hG hF hM hx
      exact val hr hle hm hx2 h
    · split at h
      · rename_i x hx
        obtain ⟨v, hr, hx2⟩ := ev1b_ok (σ := σ) (ds := ds) (ty := ty) (pos := pos) (af := af) (dst := dst) (gd := gd) hG hF hM hx
        exact val hr (Le.refl ρ) hM hx2 h
      · split at h
        · rename_i st1 hx
          obtain ⟨w', hr, hm⟩ := ev3_ok (σ := σ) (ds := ds) (ty := ty) (pos := pos) (af := af) (dst := dst) (gd := gd) hG hF hM hx
          split at h
          · rename_i fr1 hp1
            obtain ⟨rfl, rfl⟩ := Prod.mk.inj (Option.some.inj h)
            obtain ⟨f1, f2⟩ := putF_ok (σ := σ) (ds := ds) (v := undef) hp1 hF rfl
            left
            unfold Oper.wp
            rw [hr]
            simp only [Oper.upon]
            rw [f2]
            exact k ρ _ w' (Le.refl ρ) f1 hm
          · cases h
        · split at h
          · rename_i x hx
            obtain ⟨v, hr, hx2⟩ := ev4_ok (σ := σ) (ds := ds) (ty := ty) (pos := pos) (af := af) (dst := dst) (gd := gd) hG hF hM hx
            exact val hr (Le.refl ρ) hM hx2 h
          · split at h
            · rename_i x st1 hx
              obtain ⟨v, w', ρ', hr, hle, hm, hx2⟩ := ev5_ok (σ := σ) (ds := ds) (ty := ty) (pos := pos) (af := af) (dst := dst) (gd := gd) hG hF hM hx
              exact val hr hle hm hx2 h
            · split at h
              · rename_i st1 hx
                obtain ⟨w', hr, hm⟩ := ev6_ok (σ := σ) (ds := ds) (ty := ty) (pos := pos) (af := af) (dst := dst) (gd := gd) hG hF hM hx
                split at h
                · rename_i fr1 hp1
                  obtain ⟨rfl, rfl⟩ := Prod.mk.inj (Option.some.inj h)
                  obtain ⟨f1, f2⟩ := putF_ok (σ := σ) (ds := ds) (v := undef) hp1 hF rfl
                  left
                  unfold Oper.wp
                  rw [hr]
                  simp only [Oper.upon]
                  rw [f2]
                  exact k ρ _ w' (Le.refl ρ) f1 hm
                · cases h
              · split at h
                · rename_i x st1 hx
                  obtain ⟨v, w', ρ', hr, hle, hm, hx2⟩ := ev7_ok (σ := σ) (ds := ds) (ty := ty) (pos := pos) (af := af) (dst := dst) (gd := gd) hG hF hM hx
                  exact val hr hle hm hx2 h
                split at h
                · split at h
                  · rename_i ff fs cs vs hf hvs
                    cases hc : callB P ff with
                    | false => rw [hc] at h; cases h
                    | true =>
                      rw [hc] at h
                      simp only [cond_true] at h
                      split at h
                      · rename_i x st1 hrec
                        obtain ⟨fv, e1, r1⟩ := evO_ev hG hF hf
                        obtain ⟨avs, e2, r2⟩ := evOs_ev hG hF hvs
                        obtain ⟨fs', cs', r3, r4, rfl⟩ := r1
                        have hrun := hR _ _ _ _ _ hrec ρ w (fs' ++ avs ++ cs') hG hM (((ofB_A2 r3).app r2).app (ofB_A2 r4))
                        left
                        unfold Oper.wp
                        rw [run_callX e1 e2 hc]
                        simp only [Oper.upon]
                        refine Calls.mono hrun fun e w' he => ?_
                        cases e with
                        | returned v =>
                          obtain ⟨ρ', hle, hm', hx2⟩ := he
                          split at h
                          · rename_i fr1 hp1
                            obtain ⟨rfl, rfl⟩ := Prod.mk.inj (Option.some.inj h)
                            obtain ⟨f1, f2⟩ := putF_ok (σ := σ) (ds := ds) hp1 (hF.mono hle) hx2
                            simp only []
                            rw [f2]
                            exact k ρ' _ w' hle f1 hm'
                          · cases h
                        | panicked c => exact he.elim
                        | outgrown => exact he.elim
                      · cases h
                  · rename_i b vs hf hvs
                    split at h
                    · rename_i x st1 hrec
                      obtain ⟨fv, e1, r1⟩ := evO_ev hG hF hf
                      obtain ⟨avs, e2, r2⟩ := evOs_ev hG hF hvs
                      obtain ⟨g, c, q1, rfl⟩ := r1
                      obtain ⟨f, tm, a, bo, hy, hr⟩ := hY _ _ _ _ _ hrec ρ w avs g c hG hM q1 r2
                      refine .inr ⟨⟨_, _, _, _, hrec⟩, g, f, tm, a, bo, w, run_callY e1 e2 hy, RoundIn.mono hr fun e w' he => ?_⟩
                      cases e with
                      | returned v =>
                        obtain ⟨ρ', hle, hm', hx2⟩ := he
                        split at h
                        · rename_i fr1 hp1
                          obtain ⟨rfl, rfl⟩ := Prod.mk.inj (Option.some.inj h)
                          obtain ⟨f1, f2⟩ := putF_ok (σ := σ) (ds := ds) hp1 (hF.mono hle) hx2
                          simp only []
                          rw [f2]
                          exact k ρ' _ w' hle f1 hm'
                        · cases h
                      | panicked c => exact he.elim
                      | outgrown => exact he.elim
                    · cases h
                  · cases h
                · cases h
theorem evX_wp (hR : RecOk P w0 gl rec) (hG : GL ρ gl) (hF : FR ρ n fr l) (hM : MR w0 ρ st w) {o : Oper} (h : evX P rec noY gl n o fr st = some (fr', st')) {K : Act → World → Prop}
    (k : ∀ ρ' v w', Le ρ ρ' → FR ρ' n fr' (putl o.dst v l) → MR w0 ρ' st' w' → K (Ac n σ ds (putl o.dst v l)) w') : o.wp P (Ac n σ ds l) w K Q :=
  (evX_ok hR noY_ok hG hF hM h k).resolve_right fun h => noY_used h.1
theorem evD_ok (hG : GL ρ gl) (hF : FR ρ n fr l) {dst : Option Nat} {op : Op} {ty : TypeId} {pos : String} {af : Array Edge} {gd : Option (Nat × Bool)} {d : Df} (h : evD gl n fr op = some d) :
    ∃ x, (execOp (Ac n σ ds l).eval ⟨dst, op, ty, pos, af, gd⟩).run P w = .ok (.defer x) w ∧ DR ρ x d := by
  unfold evD at h
  split at h
  · rename_i f xs ts
    split at h
    · rename_i ff fs cs vs hf hvs
      obtain rfl := Option.some.inj h
      obtain ⟨fv, e1, r1⟩ := evO_ev hG hF hf
      obtain ⟨avs, e2, r2⟩ := evOs_ev hG hF hvs
      obtain ⟨fs', cs', r3, r4, rfl⟩ := r1
      have hm := evL_map (σ := σ) (ds := ds) e2
      have hmap : xs.map (Ac n σ ds l).eval = avs.toArray := by rw [← Array.toList_inj]; simpa using hm
      refine ⟨_, ?_, fs' ++ avs, cs', rfl, (ofB_A2 r3).app r2, r4⟩
      simp [execOp, resolve, Deferred.ofValue, ev_eval e1, hmap]
    · cases h
  · cases h
theorem Ac_defer {d : Deferred} {dst : Option Nat} {v : Value} {l' : Sl} (h : ∀ ds, (Ac n σ ds l).put dst v = Ac n σ ds l') : ({ Ac n σ ds l with defers := d :: (Ac n σ ds l).defers } : Act).put dst v = Ac n σ (d :: ds) l' := h (d :: ds)
theorem evOps_ok (hR : RecOk P w0 gl rec) (hY : YecOk P w0 gl ry) : ∀ {os : List Oper} {fr fr' : Fr} {dd dd' : List Df} {st st' : St} {ρ : Rho} {l : Sl} {ds : List Deferred} {w : World}, evOps P rec ry gl n ops os fr dd st = some (fr', dd', st') → GL ρ gl → FR ρ n fr l → DS ρ dd ds → MR w0 ρ st w →
    (∀ ρ' l' ds' w', Le ρ ρ' → FR ρ' n fr' l' → DS ρ' dd' ds' → MR w0 ρ' st' w' → Q .normal (Ac n σ ds' l') w') → wpL P ops Q os (Ac n σ ds l) w
  | [], fr, fr', dd, dd', st, st', ρ, l, ds, w, h, hG, hF, hS, hM, k => by
    obtain ⟨rfl, rfl, rfl⟩ : fr = fr' ∧ dd = dd' ∧ st = st' := by simpa [evOps] using h
    exact k ρ l ds w (Le.refl ρ) hF hS hM
  | o :: os, fr, fr', dd, dd', st, st', ρ, l, ds, w, h, hG, hF, hS, hM, k => by
    simp only [evOps] at h
    unfold wpL
    split at h
    · rename_i hw
      rw [if_pos (wants_ok rfl hw hF)]
      split at h
      · rename_i fr1 st1 hx
        exact (evX_ok hR hY hG hF hM (evXf_ok hx) fun ρ1 v1 w1 hle hF1 hM1 => evOps_ok hR hY h (hG.mono hle) hF1 (hS.mono hle) hM1 fun ρ' l' ds' w' h1 h2 h3 h4 => k ρ' l' ds' w' (hle.trans h1) h2 h3 h4).imp id (·.2)
      · split at h
        · rename_i d fr1 hd hp
          left
          obtain ⟨dst, op, ty, pos, af, gd⟩ := o
          obtain ⟨x, hr, r1⟩ := evD_ok (P := P) (w := w) (σ := σ) (ds := ds) (dst := dst) (ty := ty) (pos := pos) (af := af) (gd := gd) hG hF hd
          unfold Oper.wp
          rw [hr]
          simp only [Oper.upon]
          obtain ⟨f1, _⟩ := putF_ok (σ := σ) (ds := ds) (v := undef) hp hF rfl
          rw [Ac_defer (fun ds => (putF_ok (σ := σ) (ds := ds) (v := undef) hp hF rfl).2)]
          exact evOps_ok hR hY h hG f1 ⟨r1, hS⟩ hM k
        · cases h
    · rename_i hw
      rw [if_neg (by rw [wants_ok rfl hw hF]; simp)]
      split at h
      · rename_i fr1 hp
        obtain ⟨f1, f2⟩ := putF_ok (σ := σ) (ds := ds) (v := undef) hp hF rfl
        rw [f2]
        exact evOps_ok hR hY h hG f1 hS hM k
      · cases h
    · cases h
end
end Go.Proofs.Ytbmohojdlgedpaa.Ev
