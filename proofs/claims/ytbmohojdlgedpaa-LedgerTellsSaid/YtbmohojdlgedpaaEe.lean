/-
  An evaluator for closed calls, fifth part: more quiet operations, and those that make or turn memory. It holds of every program.
-/
import Derived.Test.YtbmohojdlgedpaaEd
import Derived.Test.YtbmohojdlgedpaaGk
import Derived.Laws.CopyRow
namespace Go.Proofs.Ytbmohojdlgedpaa.Ev
open Go.RowKit Gw
set_option linter.unusedVariables false
set_option linter.unusedSimpArgs false

/-! ### more quiet operations -/
def builtA (P : Program) (t : TypeId) (ps : List (Nat × V1)) : Option (List C) :=
  match P.info? t, P.underlying t with
  | some it, some (.array _ e) =>
    match it.zero, P.info? e with
    | some z, some ie => fillA (fun i => some (i * ie.size, ie.size)) (kcells z) ps
    | _, _ => none
  | some it, some (.struct fields) =>
    match it.zero, fields.toList.mapM (fun f => (P.info? f.type).map fun i => (f.offset, i.size)) with
    | some z, some places => fillA (places.toArray[·]?) (kcells z) ps
    | _, _ => none
  | _, _ => none
/-- A bound that is not given, or a number. -/
def evB (gl : Gl) (n : Nat) (fr : Fr) : Option Operand → Option (Option (IntKind × Nat))
  | none => some none
  | some y => match evO gl n fr y with | some (vK (.int k (.ofNat a))) => some (some (k, a)) | _ => none
def bv (x : Option (IntKind × Nat)) : Option Value := x.map fun p => .int p.1 (p.2 : Int)
def bn (x : Option (IntKind × Nat)) (d : Nat) : Nat := match x with | some p => p.2 | none => d
/-- from, to, and the new capacity; false: it starts where the old one does -/
def cutA (m : Nat) (c : Cap) (lo hi mx : Option (IntKind × Nat)) : Option (Nat × Nat × Cap × Bool) :=
  let i := bn lo 0
  let j := bn hi m
  bif Nat.ble i j && Nat.ble j m then
    match mx, hi with
    | some r, some _ => match c with
      | .k C => bif Nat.ble j r.2 && Nat.ble r.2 C then some (i, j, .k (r.2 - i), !(Nat.beq r.2 i)) else none
      | .u _ => bif Nat.ble j r.2 && Nat.ble r.2 m then some (i, j, .k (r.2 - i), !(Nat.beq r.2 i)) else none
    | some _, none => none
    | none, _ => match c with
      | .k C => some (i, j, .k (C - i), !(Nat.beq C i))
      | .u d => bif Nat.blt i m || Nat.beq i 0 then some (i, j, .u (d + i), Nat.blt i m) else none
  else none
def u8L : List C → Option (List UInt8)
  | [] => some []
  | .b (.k (.int .u8 (.ofNat a))) :: r => bif Nat.blt a 256 then (match u8L r with | some bs => some (UInt8.ofNat a :: bs) | none => none) else none
  | _ => none
def nowA (kd : TypeDesc) (k : Value) : List (Value × C × Nat) → Nat → Option (Option (Nat × C))
  | [], _ => some none
  | e :: es, i => match Instr.sameNow kd k e.1 with
    | some true => some (some (i, e.2.1))
    | some false => nowA kd k es (i + 1)
    | none => none
def askA (P : Program) (kt : TypeId) (k : Value) : List (Value × C × Nat) → Nat → Option (Option (Nat × C))
  | [], _ => some none
  | e :: es, i => match pureOf P (Op.equal kt k e.1) with
    | some true => some (some (i, e.2.1))
    | some false => askA P kt k es (i + 1)
    | none => none
/-- Where the key stands in a map, and its value. -/
def ixA (P : Program) (kt : TypeId) (k : Value) (es : List (Value × C × Nat)) : Option (Option (Nat × C)) :=
  match P.underlying kt with
  | some kd => match nowA kd k es 0 with
    | some r => some r
    | none => askA P kt k es 0
  | none => none
def ev1b (P : Program) (gl : Gl) (n : Nat) (fr : Fr) (st : St) : Op → Option V2
  | .build t ps => match evPs gl n fr ps.toList with
    | some a => match builtA P t a with | some cs => some (.v (.a cs)) | none => none
    | none => none
  | .slice t x lo hi mx => match evO gl n fr x, evB gl n fr lo, evB gl n fr hi, evB gl n fr mx with
    | some (vS b o m c), some i, some j, some r => match slcI P t with
      | some (_, sz, _) => match cutA m c i j r with
        | some (i, j, c', s) => some (vS b (bif s then o + i * sz else o) (j - i) c')
        | none => match c, i, j, r with
          | .u d, some (_, a), none, none => bif Nat.beq a m then some (vZ b o (o + a * sz) (d + a)) else none
          | _, _, _, _ => none
      | none => none
    | some (vP b o), some i, some j, some r => match arrI P t with
      | some (_, m, sz) => match cutA m (.k m) i j r with
        | some (i, j, c', s) => some (vS b (bif s then o + i * sz else o) (j - i) c')
        | none => none
      | none => none
    | some (vK v), some i, some j, some r => match pureOf P (Instr.sliceAt t v (bv i) (bv j) (bv r)) with | some u => some (vK u) | none => none
    | _, _, _, _ => none
  | .convert s t x => match evO gl n fr x, slcI P s with
    | some (vS b o m _), some (e, 1, 1) => bif intB P e .u8 && strB P t then
        match st.mem.get b with
        | some (.cells _ cs _) => match sub cs o m with
          | some r => match u8L r with | some bs => some (vK (.string ⟨bs.toArray⟩)) | none => none
          | none => none
        | _ => none
      else none
    | _, _ => none
  | .field t x f => match evO gl n fr x, fldI P t f, P.underlying t with
    | some (.v (.a l)), some off, some (.struct fs) => match fs[f]? with
      | some y => match sclB P y.type with
        | true => match l[off]? with | some c => some (.v (.c c)) | none => none
        | false => match aggI P y.type with
          | some sz => match sub l off sz with | some r => some (.v (.a r)) | none => none
          | none => none
      | none => none
    | _, _, _ => none
  | .lookup t x y ok => match evO gl n fr x, evO gl n fr y, P.underlying t with
    | some (vM b), some a, some (.map kt et) => match kOf a, st.mem.get b, zcells P et with
      | some k, some (.map es _ _), some z => match pureOf P (Instr.checkKey es.isEmpty 10000 kt k) with
        | some () => match ixA P kt k es with
          | some (some (_, c)) => bif ok then some (.t [.c c, .c (.b (.k (.bool true)))]) else some (.v (.c c))
          | some none => bif ok then some (.t [.c (.b (.k z)), .c (.b (.k (.bool false)))]) else some (vK z)
          | none => none
        | none => none
      | _, _, _ => none
    | some (vK m), some (vK k), _ => match pureOf P (Instr.lookup t m k ok) with
      | some (.tuple vs) => match vs.toList with | [a, b] => some (.t [.c (.b (.k a)), .c (.b (.k b))]) | _ => none
      | some v => some (vK v)
      | none => none
    | _, _, _ => none
  | .call ⟨.builtin .cap, xs, ts⟩ => match xs.toList, ts.toList with
    | [x], [t] => match evO gl n fr x, slcI P t with
      | some (vS _ _ _ (.k c)), some _ => some (vK (.int .i64 (.ofNat c)))
      | _, _ => none
    | _, _ => none
  | .call ⟨.builtin .min, xs, ts⟩ => match evOs gl n fr xs.toList with
    | some [vK a, vK b] => match pureOf P (Builtin.min2 a b) with | some v => some (vK v) | none => none
    | _ => none
  | .call ⟨.builtin .max, xs, ts⟩ => match evOs gl n fr xs.toList with
    | some [vK a, vK b] => match pureOf P (Builtin.max2 a b) with | some v => some (vK v) | none => none
    | _ => none
  | _ => none
section
variable {P : Program} {ρ : Rho} {gl : Gl} {n : Nat} {fr : Fr} {l : Sl} {w0 : Wd} {w : World} {st : St}
variable {σ : Nat → Value} {ds : List Deferred} {ty : TypeId} {pos : String} {af : Array Edge} {dst : Option Nat} {gd : Option (Nat × Bool)}
theorem builtA_ok {t : TypeId} {ps : List (Nat × V1)} {pv : List (Nat × Value)} {cs : List C} (h : builtA P t ps = some cs) (hp : A2 (fun (a : Nat × V1) (b : Nat × Value) => b.1 = a.1 ∧ R1 ρ a.2 b.2) ps pv) :
    ∃ vs, P.built t pv = some vs.toArray ∧ A2 (RC ρ) cs vs := by
  unfold builtA at h
  unfold Program.built
  split at h
  · rename_i it m e h1 h2
    split at h
    · rename_i z ie h3 h4
      obtain ⟨vs, e1, e2⟩ := fillA_ok hp (kcells_ok z) h
      exact ⟨vs, by simp only [h1, h2, h3, h4]; simpa using e1, e2⟩
    · cases h
  · rename_i it fs h1 h2
    split at h
    · rename_i z places h3 h4
      obtain ⟨vs, e1, e2⟩ := fillA_ok hp (kcells_ok z) h
      exact ⟨vs, by simp only [h1, h2, h3, h4]; simpa using e1, e2⟩
    · cases h
  · cases h
theorem evB_ev (hG : GL ρ gl) (hF : FR ρ n fr l) {y : Option Operand} {r : Option (IntKind × Nat)} (h : evB gl n fr y = some r) : y.map (Ac n σ ds l).eval = bv r := by
  cases y with
  | none => obtain rfl := Option.some.inj h; rfl
  | some y =>
    simp only [evB] at h
    split at h
    · rename_i k a hy
      obtain rfl := Option.some.inj h
      obtain ⟨v, e, r⟩ := evO_ev hG hF hy
      obtain rfl : v = _ := r
      simp [ev_eval e, bv]
    · cases h
theorem run_bounds {isS : Bool} {m C i j r : Nat} {c' : Cap} {s : Bool} {lo hi mx : Option (IntKind × Nat)} (hi0 : i = bn lo 0) (hj : j = bn hi m) (hr : r = bn mx C) (h1 : i ≤ j) (h2 : j ≤ r) (h3 : r ≤ C) (hx : mx.isSome = true → hi.isSome = true) :
    (Instr.sliceBounds isS m C (bv lo) (bv hi) (bv mx)).run P w = .ok (i, j, r) w := by
  subst hi0; subst hj; subst hr
  cases lo with
  | none =>
    cases hi with
    | none =>
      cases mx with
      | none => simp [Instr.sliceBounds, bv, bn]
      | some r => simp at hx
    | some j =>
      cases mx with
      | none => simp [Instr.sliceBounds, bv, bn] at *; simp [run_bound (a := (j.2 : Int)) (i := j.2) rfl (by omega)]
      | some r => simp [Instr.sliceBounds, bv, bn] at *; simp [run_bound (a := (j.2 : Int)) (i := j.2) rfl h2, run_bound (a := (r.2 : Int)) (i := r.2) rfl h3]
  | some i =>
    cases hi with
    | none =>
      cases mx with
      | none => simp [Instr.sliceBounds, bv, bn] at *; simp [run_bound (a := (i.2 : Int)) (i := i.2) rfl h1]
      | some r => simp at hx
    | some j =>
      cases mx with
      | none => simp [Instr.sliceBounds, bv, bn] at *; simp [run_bound (a := (j.2 : Int)) (i := j.2) rfl h2, run_bound (a := (i.2 : Int)) (i := i.2) rfl h1]
      | some r => simp [Instr.sliceBounds, bv, bn] at *; simp [run_bound (a := (j.2 : Int)) (i := j.2) rfl h2, run_bound (a := (r.2 : Int)) (i := r.2) rfl h3, run_bound (a := (i.2 : Int)) (i := i.2) rfl h1]
/-- What a cut says, of a capacity that is known. -/
theorem cutA_ok {m C : Nat} {c : Cap} {lo hi mx : Option (IntKind × Nat)} {i j : Nat} {c' : Cap} {s : Bool} (h : cutA m c lo hi mx = some (i, j, c', s)) (hc : ∀ k, c = .k k → k = C) (hmC : m ≤ C) :
    ∃ r, i = bn lo 0 ∧ j = bn hi m ∧ r = bn mx C ∧ i ≤ j ∧ j ≤ m ∧ j ≤ r ∧ r ≤ C ∧ (mx.isSome = true → hi.isSome = true) ∧ (i = 0 ∨ (r = i ↔ s = false)) ∧ ((c' = .k (r - i)) ∨ (∃ d, c = .u d ∧ c' = .u (d + i) ∧ r = C)) := by
  unfold cutA at h
  simp only at h
  cases hb : (Nat.ble (bn lo 0) (bn hi m) && Nat.ble (bn hi m) m) with
  | false => rw [hb] at h; cases h
  | true =>
    rw [hb] at h
    simp only [Bool.and_eq_true] at hb
    have b1 := Nat.le_of_ble_eq_true hb.1
    have b2 := Nat.le_of_ble_eq_true hb.2
    simp only [cond_true] at h
    have beqF : ∀ x y : Nat, (!(Nat.beq x y)) = false ↔ x = y := fun x y => by
      rw [Bool.not_eq_false']
      exact ⟨Nat.eq_of_beq_eq_true, fun e => by subst e; simp⟩
    split at h
    · rename_i r q
      split at h
      · rename_i C'
        obtain rfl := hc C' rfl
        cases hb2 : (Nat.ble (bn (some q) m) r.2 && Nat.ble r.2 C') with
        | false => rw [hb2] at h; cases h
        | true =>
          rw [hb2] at h
          simp only [Bool.and_eq_true] at hb2
          have b3 := Nat.le_of_ble_eq_true hb2.1
          have b4 := Nat.le_of_ble_eq_true hb2.2
          simp only [cond_true, Option.some.injEq, Prod.mk.injEq] at h
          obtain ⟨rfl, rfl, rfl, rfl⟩ := h
          exact ⟨r.2, rfl, rfl, rfl, b1, b2, b3, b4, fun _ => rfl, .inr (beqF _ _).symm, .inl rfl⟩
      · cases hb2 : (Nat.ble (bn (some q) m) r.2 && Nat.ble r.2 m) with
        | false => rw [hb2] at h; cases h
        | true =>
          rw [hb2] at h
          simp only [Bool.and_eq_true] at hb2
          have b3 := Nat.le_of_ble_eq_true hb2.1
          have b4 := Nat.le_of_ble_eq_true hb2.2
          simp only [cond_true, Option.some.injEq, Prod.mk.injEq] at h
          obtain ⟨rfl, rfl, rfl, rfl⟩ := h
          exact ⟨r.2, rfl, rfl, rfl, b1, b2, b3, by omega, fun _ => rfl, .inr (beqF _ _).symm, .inl rfl⟩
    · cases h
    · split at h
      · rename_i C'
        obtain rfl := hc C' rfl
        simp only [Option.some.injEq, Prod.mk.injEq] at h
        obtain ⟨rfl, rfl, rfl, rfl⟩ := h
        exact ⟨C', rfl, rfl, rfl, b1, b2, by omega, Nat.le_refl _, fun e => by simp at e, .inr (beqF _ _).symm, .inl rfl⟩
      · rename_i d
        cases hb2 : (Nat.blt (bn lo 0) m || Nat.beq (bn lo 0) 0) with
        | false => rw [hb2] at h; cases h
        | true =>
          rw [hb2] at h
          simp only [cond_true, Option.some.injEq, Prod.mk.injEq] at h
          obtain ⟨rfl, rfl, rfl, rfl⟩ := h
          refine ⟨C, rfl, rfl, rfl, b1, b2, by omega, Nat.le_refl _, fun e => by simp at e, ?_, .inr ⟨d, rfl, rfl, rfl⟩⟩
          by_cases h0 : bn lo 0 = 0
          · exact .inl h0
          · right
            have hlt : bn lo 0 < m := by
              simp only [Bool.or_eq_true] at hb2
              rcases hb2 with hb2 | hb2
              · simpa [Nat.blt_eq] using hb2
              · exact absurd (Nat.eq_of_beq_eq_true hb2) h0
            have : Nat.blt (bn lo 0) m = true := by simpa [Nat.blt_eq] using hlt
            rw [this]
            constructor
            · intro e; omega
            · intro e; cases e
theorem u8L_ok : ∀ {r : List C} {bs : List UInt8} {vs : List Value}, u8L r = some bs → A2 (RC ρ) r vs → vs = byts bs
  | [], bs, vs, h, q => by
    obtain rfl := Option.some.inj h
    cases vs with
    | nil => rfl
    | cons _ _ => exact q.elim
  | c :: r, bs, vs, h, q => by
    cases vs with
    | nil => exact q.elim
    | cons v vs =>
      unfold u8L at h
      split at h
      · rename_i e; cases e
      · rename_i a r' e
        obtain ⟨rfl, rfl⟩ := List.cons.inj e
        cases hb : Nat.blt a 256 with
        | false => rw [hb] at h; cases h
        | true =>
          rw [hb] at h
          simp only [cond_true] at h
          split at h
          · rename_i bs' hbs
            obtain rfl := Option.some.inj h
            have := u8L_ok hbs q.2
            subst this
            have hv : v = .int .u8 (.ofNat a) := q.1
            have ha : a < 256 := by simpa [Nat.blt_eq] using hb
            simp only [byts, List.map_cons]
            congr 1
            rw [hv]
            simp only [u8v]
            congr 1
            show (a : Int) = ((UInt8.ofNat a).toNat : Int)
            rw [UInt8.toNat_ofNat_of_lt' (by simpa using ha)]
          · cases h
      · cases h
theorem holds_sub {b o m : Nat} {T : TypeId} {cs r : List C} {md : Nat} {g c : Nat} (hM : MR w0 ρ st w) (hm : st.mem.get b = some (.cells T cs md)) (hb : ρ b = some (g, c)) (hs : sub cs o m = some r) :
    ∃ us T' cc fz, w.heap[g]? = some (.cells cc T' fz) ∧ A2 (RC ρ) r us ∧ us.length = m ∧ ∀ (j : Nat) (v : Value), us[j]? = some v → cc[o + j]? = some v := by
  obtain ⟨g', c2, q1, q2, vs, vs', fz, q3, q4, q5⟩ := hM.at_ b _ hm
  obtain ⟨rfl, rfl⟩ := Prod.mk.inj (Option.some.inj (q1.symm.trans hb))
  obtain ⟨e1, e2⟩ := sub_eq hs
  have hA : A2 (RC ρ) r ((vs.drop o).take m) := by rw [e1]; exact (q4.drop o).take m
  refine ⟨_, _, _, _, q3, hA, by rw [← hA.len]; exact e2, fun j v hj => ?_⟩
  rw [List.getElem?_take] at hj
  split at hj
  · rw [List.getElem?_drop] at hj
    have hlt : o + j < vs.length := (List.getElem?_eq_some_iff.1 hj).1
    simp only [List.getElem?_toArray]
    rw [List.getElem?_append_left hlt]; exact hj
  · cases hj
theorem nowA_ok {kd : TypeDesc} {k : Value} : ∀ {es : List (Value × C × Nat)} {ms : List MapEntry} {i : Nat}, A2 (EN ρ) es ms →
    (match nowA kd k es i with | none => Instr.findNow kd k ms i = none | some none => Instr.findNow kd k ms i = some none | some (some (j, c)) => ∃ v, Instr.findNow kd k ms i = some (some (j, v)) ∧ RC ρ c v)
  | [], [], i, _ => rfl
  | e :: es, m :: ms, i, hr => by
    obtain ⟨⟨h1, h2, _⟩, h3⟩ := hr
    simp only [nowA, Instr.findNow, h1]
    cases hs : Instr.sameNow kd k e.1 with
    | none => rfl
    | some b =>
      cases b with
      | true => exact ⟨m.val, rfl, h2⟩
      | false => exact nowA_ok h3
  | [], _ :: _, _, h => h.elim
  | _ :: _, [], _, h => h.elim
theorem askA_ok {kt : TypeId} {k : Value} : ∀ {es : List (Value × C × Nat)} {ms : List MapEntry} {i : Nat} {r : Option (Nat × C)}, A2 (EN ρ) es ms → askA P kt k es i = some r →
    ∃ q, (Instr.findAsking kt k ms i).run P w = .ok q w ∧ (match r with | none => q = none | some (j, c) => ∃ v, q = some (j, v) ∧ RC ρ c v)
  | [], [], i, r, _, h => by obtain rfl := Option.some.inj h; exact ⟨none, rfl, rfl⟩
  | e :: es, m :: ms, i, r, hr, h => by
    obtain ⟨⟨h1, h2, _⟩, h3⟩ := hr
    simp only [askA] at h
    simp only [Instr.findAsking, h1]
    split at h
    · rename_i hs
      obtain rfl := Option.some.inj h
      exact ⟨some (i, m.val), by simp [pureOf_run (w := w) hs], m.val, rfl, h2⟩
    · rename_i hs
      obtain ⟨q, e1, e2⟩ := askA_ok (i := i + 1) h3 h
      exact ⟨q, by simp [pureOf_run (w := w) hs, e1], e2⟩
    · cases h
  | [], _ :: _, _, _, h, _ => h.elim
  | _ :: _, [], _, _, h, _ => h.elim
theorem ixA_ok {kt : TypeId} {k : Value} {es : List (Value × C × Nat)} {ms : List MapEntry} {r : Option (Nat × C)} (hr : A2 (EN ρ) es ms) (h : ixA P kt k es = some r) :
    ∃ q, (Instr.findKey kt k ms).run P w = .ok q w ∧ (match r with | none => q = none | some (j, c) => ∃ v, q = some (j, v) ∧ RC ρ c v) := by
  unfold ixA at h
  split at h
  · rename_i kd hk
    have hn := nowA_ok (kd := kd) (k := k) (i := 0) hr
    split at h
    · rename_i r' hr'
      obtain rfl := Option.some.inj h
      rw [hr'] at hn
      cases r' with
      | none => exact ⟨none, by simp [Instr.findKey, run_underlying hk, hn], rfl⟩
      | some p =>
        obtain ⟨j, c⟩ := p
        obtain ⟨v, e1, e2⟩ := hn
        exact ⟨some (j, v), by simp [Instr.findKey, run_underlying hk, e1], v, rfl, e2⟩
    · rename_i hr'
      rw [hr'] at hn
      obtain ⟨q, e1, e2⟩ := askA_ok (w := w) hr h
      exact ⟨q, by simp [Instr.findKey, run_underlying hk, hn, e1], by cases r <;> exact e2⟩
  · cases h
theorem isE_ok {es : List (Value × C × Nat)} {ms : List MapEntry} (hr : A2 (EN ρ) es ms) : ms.toArray.isEmpty = es.isEmpty := by
  cases es <;> cases ms <;> first | rfl | exact hr.elim
theorem ev1b_ok (hG : GL ρ gl) (hF : FR ρ n fr l) (hM : MR w0 ρ st w) {op : Op} {x : V2} (h : ev1b P gl n fr st op = some x) : Ok1 P ρ n σ ds l w dst op ty pos af gd x := by
  unfold Ok1
  unfold ev1b at h
  split at h
  -- build
  · split at h
    · rename_i a ha
      split at h
      · rename_i cs hcs
        obtain rfl := Option.some.inj h
        obtain ⟨pv, e1, r1⟩ := evPs_ev hG hF ha
        obtain ⟨vs, e2, r2⟩ := builtA_ok hcs r1
        exact ⟨_, by simpa using R_build (P := P) (w := w) (σ := σ) (ds := ds) (dst := dst) (ty := ty) (pos := pos) (af := af) (gd := gd) e1 e2, vs, r2, rfl⟩
      · cases h
    · cases h
  -- slice
  · split at h
    · rename_i b o m c i j r hx hi hj hr
      split at h
      · rename_i e sz by_ hs
        split at h
        · rename_i i' j' c' s hc
          obtain rfl := Option.some.inj h
          obtain ⟨u, e1, r1⟩ := evO_ev hG hF hx
          have f1 := evB_ev (σ := σ) (ds := ds) hG hF hi
          have f2 := evB_ev (σ := σ) (ds := ds) hG hF hj
          have f3 := evB_ev (σ := σ) (ds := ds) hG hF hr
          obtain ⟨hu, inf, z, hinf, hz, g1, g2, g3, g4, g5⟩ := slcB_u (slcI_B hs)
          obtain ⟨g, cc, C, q1, q2, q3, q4⟩ : ∃ g cc C, ρ b = some (g, cc) ∧ m ≤ C ∧ u = .slice (some ⟨g, o, none⟩) m C ∧ (∀ k, c = .k k → k = C) ∧ (∀ d, c = .u d → C = cc - d ∧ m + d ≤ cc) := by
            cases c with
            | k c => obtain ⟨g, cc, a1, a2, a3⟩ := r1; exact ⟨g, cc, c, a1, a2, a3, (fun k e => by cases e; rfl), (fun d e => by cases e)⟩
            | u d => obtain ⟨g, cc, a1, a2, a3⟩ := r1; exact ⟨g, cc, cc - d, a1, by omega, a3, (fun k e => by cases e), (fun d' e => by cases e; exact ⟨rfl, a2⟩)⟩
          subst q3
          obtain ⟨R, k1, k2, k3, k4, k5, k6, k7, k8, k9, k10⟩ := cutA_ok hc q4.1 q2
          have hb := run_bounds (P := P) (w := w) (isS := true) (c' := c') (s := s) k1 k2 k3 k4 k6 k7 k8
          refine ⟨.slice (some (if R = i' then ⟨g, o, none⟩ else ⟨g, o + i' * sz, none⟩)) (j' - i') (R - i'), ?_, ?_⟩
          · simp only [execOp, ev_eval e1, f1, f2, f3]
            refine v_run ?_
            simp [Instr.sliceAt, run_underlying hu, Instr.slice, hb, sizeOf, typeInfo, hinf, g1, Addr.add_lit]
            split <;> rfl
          · have ho : (if R = i' then (⟨g, o, none⟩ : Addr) else ⟨g, o + i' * sz, none⟩) = ⟨g, bif s then o + i' * sz else o, none⟩ := by
              rcases k9 with h0 | h0
              · subst h0; simp
              · cases s with
                | false => rw [if_pos (h0.2 rfl)]; rfl
                | true => rw [if_neg (fun e => by have := h0.1 e; cases this)]; rfl
            rw [ho]
            rcases k10 with rfl | ⟨d, rfl, rfl, rfl⟩
            · exact ⟨g, cc, q1, by omega, rfl⟩
            · obtain ⟨p1, p2⟩ := q4.2 d rfl
              exact ⟨g, cc, q1, by omega, by congr 1; omega⟩
        · split at h
          · rename_i d ki a hcut
            cases hb : Nat.beq a m with
            | false => rw [hb] at h; cases h
            | true =>
              rw [hb] at h
              obtain rfl := Nat.eq_of_beq_eq_true hb
              obtain rfl := Option.some.inj h
              obtain ⟨u, e1, g, cc, a1, a2, rfl⟩ := evO_ev hG hF hx
              have f1 := evB_ev (σ := σ) (ds := ds) hG hF hi
              have f2 := evB_ev (σ := σ) (ds := ds) hG hF hj
              have f3 := evB_ev (σ := σ) (ds := ds) hG hF hr
              obtain ⟨hu, inf, z, hinf, hz, g1, g2, g3, g4, g5⟩ := slcB_u (slcI_B hs)
              refine ⟨.slice (some (if cc - d = a then ⟨g, o, none⟩ else ⟨g, o + a * sz, none⟩)) (a - a) (cc - d - a), ?_, ?_⟩
              · simp only [execOp, ev_eval e1, f1, f2, f3, bv, Option.map_some, Option.map_none]
                refine v_run ?_
                simp [Instr.sliceAt, run_underlying hu, Instr.slice, Instr.sliceBounds, run_bound (rfl : ((a : Nat) : Int) = (a : Int)) (Nat.le_refl a), sizeOf, typeInfo, hinf, g1, Addr.add_lit]
                split <;> rfl
              · refine ⟨g, cc, a1, by omega, ?_⟩
                have e3 : (cc - d = a) ↔ (cc = d + a) := by omega
                rw [Nat.sub_self, show cc - d - a = cc - (d + a) by omega]
                by_cases hq : cc = d + a
                · rw [if_pos (e3.2 hq), if_pos hq]
                · rw [if_neg (fun q => hq (e3.1 q)), if_neg hq]
          · cases h
      · cases h
    · rename_i b o i j r hx hi hj hr
      split at h
      · rename_i e m sz hs
        split at h
        · rename_i i' j' c' s hc
          obtain rfl := Option.some.inj h
          obtain ⟨u, e1, r1⟩ := evO_ev hG hF hx
          have f1 := evB_ev (σ := σ) (ds := ds) hG hF hi
          have f2 := evB_ev (σ := σ) (ds := ds) hG hF hj
          have f3 := evB_ev (σ := σ) (ds := ds) hG hF hr
          obtain ⟨hu, hz⟩ := arrB_u (arrI_B hs)
          obtain ⟨g, cc, q1, rfl⟩ := r1
          obtain ⟨R, k1, k2, k3, k4, k5, k6, k7, k8, k9, k10⟩ := cutA_ok (C := m) hc (fun k e => by cases e; rfl) (Nat.le_refl _)
          have hb := run_bounds (P := P) (w := w) (isS := false) (c' := c') (s := s) k1 k2 k3 k4 k6 k7 k8
          refine ⟨.slice (some (if R = i' then ⟨g, o, none⟩ else ⟨g, o + i' * sz, none⟩)) (j' - i') (R - i'), ?_, ?_⟩
          · simp only [execOp, ev_eval e1, f1, f2, f3]
            refine v_run ?_
            simp [Instr.sliceAt, run_underlying hu, Instr.sureAddr, hb, Gw.run_sizeOf hz, Addr.add_lit]
          · have ho : (if R = i' then (⟨g, o, none⟩ : Addr) else ⟨g, o + i' * sz, none⟩) = ⟨g, bif s then o + i' * sz else o, none⟩ := by
              rcases k9 with h0 | h0
              · subst h0; simp
              · cases s with
                | false => rw [if_pos (h0.2 rfl)]; rfl
                | true => rw [if_neg (fun e => by have := h0.1 e; cases this)]; rfl
            rw [ho]
            rcases k10 with rfl | ⟨d, e, _⟩
            · exact ⟨g, cc, q1, by omega, rfl⟩
            · cases e
        · cases h
      · cases h
    · rename_i v i j r hx hi hj hr
      split at h
      · rename_i u hu
        obtain rfl := Option.some.inj h
        obtain ⟨v', e1, r1⟩ := evO_ev hG hF hx
        obtain rfl : v' = v := r1
        have f1 := evB_ev (σ := σ) (ds := ds) hG hF hi
        have f2 := evB_ev (σ := σ) (ds := ds) hG hF hj
        have f3 := evB_ev (σ := σ) (ds := ds) hG hF hr
        refine ⟨u, ?_, rfl⟩
        simp only [execOp, ev_eval e1, f1, f2, f3]
        exact v_run (pureOf_run hu)
      · cases h
    · cases h
  -- convert
  · split at h
    · rename_i b o m c e hx hs
      cases hb : (intB P e .u8 && strB P _) with
      | false => rw [hb] at h; cases h
      | true =>
        rw [hb] at h
        simp only [Bool.and_eq_true] at hb
        simp only [cond_true] at h
        split at h
        · rename_i T cs md hm
          split at h
          · rename_i r hr
            split at h
            · rename_i bs hbs
              obtain rfl := Option.some.inj h
              obtain ⟨u, e1, r1⟩ := evO_ev hG hF hx
              obtain ⟨g, cc, C, q1, q2, rfl⟩ := RB.sl r1
              obtain ⟨us, T', cc', fz, p1, p2, p3, p4⟩ := holds_sub hM hm q1 hr
              obtain rfl := u8L_ok hbs p2
              refine ⟨_, R_b2s (te := 0) (lo := 0) (hi := w.heap.size) (bs := bs) e1 (slcI_B hs) hb.1 hb.2 (.inr ⟨g, o, cc', fz, rfl, Nat.zero_le _, (Array.getElem?_eq_some_iff.1 p1).1, ⟨T', p1, .inl rfl⟩, p4⟩) (by simpa [byts] using p3), rfl⟩
            · cases h
          · cases h
        · cases h
    · cases h
  -- field
  · split at h
    · rename_i lv off fs hx hf hu
      split at h
      · rename_i y hy
        obtain ⟨u, e1, r1⟩ := evO_ev hG hF hx
        obtain ⟨vs, r1, rfl⟩ := r1
        have hoff : y.offset = off := by
          have hB := fldI_B hf
          unfold fldB at hB
          rw [hu] at hB
          simp only [hy, Bool.and_eq_true, beq_iff_eq] at hB
          exact hB.1
        subst hoff
        split at h
        · rename_i hsc
          split at h
          · rename_i c hc
            obtain rfl := Option.some.inj h
            obtain ⟨v, hv, hr⟩ := r1.get _ _ hc
            refine ⟨v, ?_, hr⟩
            simp only [execOp, ev_eval e1]
            refine v_run ?_
            simp [Instr.field, run_underlying hu, hy, asAgg, part, run_isAgg_no hsc, hv]
          · cases h
        · split at h
          · rename_i sz ha
            split at h
            · rename_i rr hsub
              obtain rfl := Option.some.inj h
              obtain ⟨q1, q2⟩ := sub_eq hsub
              have hA : A2 (RC ρ) rr ((vs.drop y.offset).take sz) := by rw [q1]; exact (r1.drop _).take sz
              refine ⟨.agg ((vs.drop y.offset).take sz).toArray, ?_, _, hA, rfl⟩
              simp only [execOp, ev_eval e1]
              refine v_run ?_
              have hB := aggI_B ha
              simp [Instr.field, run_underlying hu, hy, asAgg, part, run_isAgg_yes hB, Gw.run_sizeOf (aggB_sz hB), List.extract_eq_take_drop]
            · cases h
          · cases h
      · cases h
    · cases h
  -- lookup
  · rename_i tt xx yy okk
    split at h
    · rename_i b a kt et hx hy hu
      split at h
      · rename_i k es clock ro z hk hm hz
        split at h
        · rename_i hck0
          obtain ⟨u, e1, r1⟩ := evO_ev hG hF hx
          obtain ⟨k', e2, r2⟩ := evO_ev hG hF hy
          obtain rfl := kOf_eq hk r2
          obtain ⟨g, c, q1, rfl⟩ := r1
          obtain ⟨g', c2, q2, _, ms, q3, q4⟩ := hM.at_ b _ hm
          obtain ⟨rfl, rfl⟩ := Prod.mk.inj (Option.some.inj (q2.symm.trans q1))
          have hzz : ∀ w, (zeroValue et).run P w = .ok z w := fun w => by
            obtain ⟨i, hi, hz'⟩ := Option.bind_eq_some_iff.1 hz
            simp [zeroValue, typeInfo, hi, hz']
          have hck : (Instr.checkKey ms.toArray.isEmpty 10000 kt k').run P w = .ok () w := by rw [isE_ok q4]; exact pureOf_run hck0
          have hgo : (getObj g').run P w = .ok (.map ms.toArray clock) w := by simp [getObj, Sem.run, q3]
          split at h
          · rename_i j cc hf
            obtain ⟨q, f1, v, rfl, f2⟩ := ixA_ok (w := w) q4 hf
            cases hok : okk with
            | true =>
              rw [hok] at h
              obtain rfl := Option.some.inj h
              refine ⟨.tuple #[v, .bool true], ?_, [v, .bool true], ⟨f2, rfl, trivial⟩, rfl⟩
              simp only [execOp, ev_eval e1, ev_eval e2]
              refine v_run ?_
              simp only [Instr.lookup, Sem.run_bind, run_underlying hu, Result.andThen_ok, hgo, Sem.run_pure, hck, List.toList_toArray, f1]
              rfl
            | false =>
              rw [hok] at h
              obtain rfl := Option.some.inj h
              refine ⟨v, ?_, f2⟩
              simp only [execOp, ev_eval e1, ev_eval e2]
              refine v_run ?_
              simp only [Instr.lookup, Sem.run_bind, run_underlying hu, Result.andThen_ok, hgo, Sem.run_pure, hck, List.toList_toArray, f1]
              rfl
          · rename_i hf
            obtain ⟨q, f1, f2⟩ := ixA_ok (w := w) q4 hf
            simp only at f2
            subst f2
            cases hok : okk with
            | true =>
              rw [hok] at h
              obtain rfl := Option.some.inj h
              refine ⟨.tuple #[z, .bool false], ?_, [z, .bool false], ⟨rfl, rfl, trivial⟩, rfl⟩
              simp only [execOp, ev_eval e1, ev_eval e2]
              refine v_run ?_
              simp only [Instr.lookup, Sem.run_bind, run_underlying hu, Result.andThen_ok, hgo, Sem.run_pure, hck, List.toList_toArray, f1, hzz]
              rfl
            | false =>
              rw [hok] at h
              obtain rfl := Option.some.inj h
              refine ⟨z, ?_, rfl⟩
              simp only [execOp, ev_eval e1, ev_eval e2]
              refine v_run ?_
              simp only [Instr.lookup, Sem.run_bind, run_underlying hu, Result.andThen_ok, hgo, Sem.run_pure, hck, List.toList_toArray, f1, hzz]
              rfl
          · cases h
        · cases h
      · cases h
    · rename_i m k hx hy
      obtain ⟨u, e1, r1⟩ := evO_ev hG hF hx
      obtain ⟨k', e2, r2⟩ := evO_ev hG hF hy
      obtain rfl : u = _ := r1
      obtain rfl : k' = _ := r2
      split at h
      · rename_i vs hp
        split at h
        · rename_i a b hvs
          obtain rfl := Option.some.inj h
          obtain rfl : vs = #[a, b] := by cases vs; simp_all
          refine ⟨.tuple #[a, b], ?_, [a, b], ⟨rfl, rfl, trivial⟩, rfl⟩
          simp only [execOp, ev_eval e1, ev_eval e2]
          exact v_run (pureOf_run hp)
        · cases h
      · rename_i v _ hp
        obtain rfl := Option.some.inj h
        refine ⟨v, ?_, rfl⟩
        simp only [execOp, ev_eval e1, ev_eval e2]
        exact v_run (pureOf_run hp)
      · cases h
    · cases h
  -- cap
  · rename_i xs ts
    split at h
    · rename_i x t hxs hts
      obtain rfl : xs = #[x] := by cases xs; simp_all
      obtain rfl : ts = #[t] := by cases ts; simp_all
      split at h
      · rename_i b o m c q hx hs
        obtain rfl := Option.some.inj h
        obtain ⟨e', sz, by_⟩ := q
        obtain ⟨u, e, r⟩ := evO_ev hG hF hx
        obtain ⟨g, c1, r1, _, rfl⟩ := r
        refine ⟨.int .i64 (.ofNat c), ?_, rfl⟩
        have := (slcB_u (slcI_B hs)).1
        simp [execOp, resolve, invoke, builtin, ev_eval e, Builtin.cap_, run_underlying this, goInt]
      · cases h
    · cases h
  -- min
  · rename_i xs ts
    split at h
    · rename_i a b hxs
      split at h
      · rename_i v hv
        obtain rfl := Option.some.inj h
        obtain ⟨vs, e, r⟩ := evOs_ev hG hF hxs
        have hm := evL_map (σ := σ) (ds := ds) e
        match vs, r with
        | [p, q], r =>
          obtain rfl : p = a := r.1
          obtain rfl : q = b := r.2.1
          refine ⟨v, ?_, rfl⟩
          have hxs' : xs.map (Ac n σ ds l).eval = #[p, q] := by rw [← Array.toList_inj]; simpa using hm
          have hr := pureOf_run (w := w) hv
          simp [execOp, resolve, invoke, builtin, hxs', Builtin.min_, hr]
      · cases h
    · cases h
  -- max
  · rename_i xs ts
    split at h
    · rename_i a b hxs
      split at h
      · rename_i v hv
        obtain rfl := Option.some.inj h
        obtain ⟨vs, e, r⟩ := evOs_ev hG hF hxs
        have hm := evL_map (σ := σ) (ds := ds) e
        match vs, r with
        | [p, q], r =>
          obtain rfl : p = a := r.1
          obtain rfl : q = b := r.2.1
          refine ⟨v, ?_, rfl⟩
          have hxs' : xs.map (Ac n σ ds l).eval = #[p, q] := by rw [← Array.toList_inj]; simpa using hm
          have hr := pureOf_run (w := w) hv
          simp [execOp, resolve, invoke, builtin, hxs', Builtin.max_, hr]
      · cases h
    · cases h
  · cases h
end
end Go.Proofs.Ytbmohojdlgedpaa.Ev
