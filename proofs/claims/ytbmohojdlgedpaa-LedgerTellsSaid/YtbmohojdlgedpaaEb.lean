/-
  An evaluator for closed calls, second part: the operations that leave the memory xs it is. It holds of every program.
-/
import Derived.Test.YtbmohojdlgedpaaEa
import Derived.Test.YtbmohojdlgedpaaGs
namespace Go.Proofs.Ytbmohojdlgedpaa.Ev
open Go.RowKit Gw
set_option linter.unusedVariables false
set_option linter.unusedSimpArgs false

/-! ### what of a semantics' text needs no memory -/
def pureOf {α : Type} (p : Program) : Sem α → Option α
  | .pure a => some a
  | .program k => pureOf p (k p)
  | .mark _ k => pureOf p k
  | _ => none
theorem pureOf_run {α : Type} {p : Program} {w : World} : ∀ {s : Sem α} {a : α}, pureOf p s = some a → s.run p w = .ok a w := by
  intro s
  induction s with
  | pure a => intro b h; obtain rfl := Option.some.inj h; rfl
  | program k ih => intro b h; exact ih p h
  | mark m k ih => intro b h; exact ih h
  | _ => intro b h; cases h

/-! ### frames -/
theorem FR.put {ρ : Rho} {n d k : Nat} {fr fr' : Fr} {l : Sl} {x : V2} {v : Value} (h : FR ρ n fr l) (hs : Tr.set k fr d (some x) = some fr') (hx : R2 ρ x v) (hd : d < n) : FR ρ n fr' ((d, v) :: l) := fun t y e => by
  rw [Tr.get_set k _ _ _ _ hs] at e
  by_cases ht : t = d
  · rw [if_pos ht] at e
    obtain rfl := Option.some.inj e
    subst ht
    exact ⟨hd, v, by simp [lk], hx⟩
  · rw [if_neg ht] at e
    obtain ⟨h0, u, h1, h2⟩ := h t y e
    exact ⟨h0, u, by simp only [lk, beq_no (Ne.symm ht), cond_false]; exact h1, h2⟩
@[match_pattern] abbrev vK (v : Value) : V2 := .v (.c (.b (.k v)))
@[match_pattern] abbrev vP (b o : Nat) : V2 := .v (.c (.b (.p b o)))
@[match_pattern] abbrev vS (b o n : Nat) (c : Cap) : V2 := .v (.c (.b (.s b o n c)))
@[match_pattern] abbrev vM (b : Nat) : V2 := .v (.c (.b (.m b)))
@[match_pattern] abbrev vY (b : Nat) : V2 := .v (.c (.b (.y b)))
@[match_pattern] abbrev vZ (b o o' e : Nat) : V2 := .v (.c (.b (.z b o o' e)))
/-- Globals that are known: their block's number here. -/
abbrev Gl := List (Nat × Nat)
def gl1 : Gl → Nat → Option Nat
  | [], _ => none
  | (g, b) :: r, i => bif Nat.beq g i then some b else gl1 r i
def GL (ρ : Rho) (gl : Gl) : Prop := ∀ g b, gl1 gl g = some b → ∃ c, ρ b = some (g, c)
theorem GL.mono {ρ ρ' : Rho} {gl : Gl} (hl : Le ρ ρ') (h : GL ρ gl) : GL ρ' gl := fun g b e => by
  obtain ⟨c, h1⟩ := h g b e
  exact ⟨c, hl _ _ h1⟩
def evO (gl : Gl) (n : Nat) (fr : Fr) : Operand → Option V2
  | .tmp t => bif Nat.blt t n then fr.get t else none
  | .const v => some (vK v)
  | .global g => match gl1 gl g with | some b => some (vP b 0) | none => none
  | .func f => some (.v (.c (.f f [] [])))
section
variable {ρ : Rho} {gl : Gl} {n : Nat} {fr : Fr} {l : Sl}
theorem evO_ev (hG : GL ρ gl) (hF : FR ρ n fr l) {x : Operand} {a : V2} (h : evO gl n fr x = some a) : ∃ v, ev n l x = some v ∧ R2 ρ a v := by
  cases x with
  | tmp t =>
    simp only [evO] at h
    cases hb : Nat.blt t n with
    | false => rw [hb] at h; cases h
    | true =>
      rw [hb] at h
      obtain ⟨_, v, h1, h2⟩ := hF t a h
      exact ⟨v, by simp only [ev, hb]; exact h1, h2⟩
  | const v => obtain rfl := Option.some.inj h; exact ⟨v, rfl, rfl⟩
  | global g =>
    simp only [evO] at h
    split at h
    · rename_i b hb
      obtain rfl := Option.some.inj h
      obtain ⟨c, hc⟩ := hG g b hb
      exact ⟨_, rfl, g, c, hc, rfl⟩
    · cases h
  | func f => obtain rfl := Option.some.inj h; exact ⟨_, rfl, [], [], trivial, trivial, rfl⟩
def evOs (gl : Gl) (n : Nat) (fr : Fr) : List Operand → Option (List V2)
  | [] => some []
  | x :: r => match evO gl n fr x, evOs gl n fr r with | some a, some xs => some (a :: xs) | _, _ => none
theorem evOs_ev (hG : GL ρ gl) (hF : FR ρ n fr l) : ∀ {qs : List Operand} {xs : List V2}, evOs gl n fr qs = some xs → ∃ vs, evL n l qs = some vs ∧ A2 (R2 ρ) xs vs
  | [], xs, h => by obtain rfl := Option.some.inj h; exact ⟨[], rfl, trivial⟩
  | x :: r, xs, h => by
    simp only [evOs] at h
    split at h
    · rename_i a xs' h1 h2
      obtain rfl := Option.some.inj h
      obtain ⟨v, e1, r1⟩ := evO_ev hG hF h1
      obtain ⟨vs, e2, r2⟩ := evOs_ev hG hF h2
      exact ⟨v :: vs, by simp [evL, e1, e2], r1, r2⟩
    · cases h
/-- A value that holds no address. -/
def kC : C → Option Value
  | .b (.k v) => some v
  | _ => none
def kL : List C → Option (List Value)
  | [] => some []
  | c :: r => match kC c, kL r with | some v, some vs => some (v :: vs) | _, _ => none
def kOf : V2 → Option Value
  | vK v => some v
  | .v (.a l) => match kL l with | some vs => some (.agg vs.toArray) | none => none
  | _ => none
theorem RB.sl {b o m : Nat} {c : Cap} {v : Value} (h : RB ρ (.s b o m c) v) : ∃ g c1 c2, ρ b = some (g, c1) ∧ m ≤ c2 ∧ v = .slice (some ⟨g, o, none⟩) m c2 := by
  cases c with
  | k c => obtain ⟨g, c1, h1, h2, h3⟩ := h; exact ⟨g, c1, c, h1, h2, h3⟩
  | u d => obtain ⟨g, c1, h1, h2, h3⟩ := h; exact ⟨g, c1, c1 - d, h1, by omega, h3⟩
theorem kL_eq : ∀ {l : List C} {vs us : List Value}, kL l = some vs → A2 (RC ρ) l us → us = vs
  | [], vs, us, h, r => by
    obtain rfl := Option.some.inj h
    cases us with
    | nil => rfl
    | cons _ _ => exact r.elim
  | c :: q, vs, us, h, r => by
    cases us with
    | nil => exact r.elim
    | cons u us =>
      simp only [kL] at h
      split at h
      · rename_i v vs' h1 h2
        obtain rfl := Option.some.inj h
        have e1 : u = v := by
          cases c with
          | b x =>
            cases x with
            | k v' => obtain rfl := Option.some.inj h1; exact r.1
            | _ => cases h1
          | f _ _ _ => cases h1
        rw [e1, kL_eq h2 r.2]
      · cases h
theorem kOf_eq {x : V2} {v u : Value} (h : kOf x = some v) (r : R2 ρ x u) : u = v := by
  unfold kOf at h
  split at h
  · obtain rfl := Option.some.inj h; exact r
  · split at h
    · rename_i vs hk
      obtain rfl := Option.some.inj h
      obtain ⟨us, h1, rfl⟩ := r
      rw [kL_eq hk h1]
    · cases h
  · cases h
def cel : V1 → List C
  | .c (.b (.k (.agg cs))) => cs.toList.map fun v => .b (.k v)
  | .c x => [x]
  | .a l => l
theorem A2_k : ∀ (l : List Value), A2 (RC ρ) (l.map fun v => .b (.k v)) l
  | [] => trivial
  | _ :: r => ⟨rfl, A2_k r⟩
theorem RC.one {x : C} {v : Value} (h : RC ρ x v) (hn : ∀ cs, x ≠ .b (.k (.agg cs))) : v.cells = #[v] := by
  cases x with
  | b y =>
    cases y with
    | k u => obtain rfl : v = u := h; cases v <;> first | rfl | exact absurd rfl (hn _)
    | p b o => obtain ⟨g, _, _, rfl⟩ := h; rfl
    | s b o n c => cases c with
      | k c => obtain ⟨g, _, _, _, rfl⟩ := h; rfl
      | u d => obtain ⟨g, _, _, _, rfl⟩ := h; rfl
    | m b => obtain ⟨g, _, _, rfl⟩ := h; rfl
    | y b => obtain ⟨g, _, _, rfl⟩ := h; rfl
    | z b o o' e => obtain ⟨g, _, _, _, rfl⟩ := h; rfl
  | f a b c => obtain ⟨_, _, _, _, rfl⟩ := h; rfl
theorem cel_A2 {x : V1} {v : Value} (h : R1 ρ x v) : A2 (RC ρ) (cel x) v.cells.toList := by
  unfold cel
  split
  · obtain rfl : v = _ := h; exact A2_k _
  · rename_i hn
    rw [RC.one h hn]
    exact ⟨h, trivial⟩
  · obtain ⟨l', h1, rfl⟩ := h
    simpa [Value.cells] using h1
end

/-! ### quiet operations -/
def fldI (P : Program) (t f : Nat) : Option Nat :=
  match P.underlying t with
  | some (.struct fs) => match fs[f]? with | some x => bif fldB P t f x.offset then some x.offset else none | none => none
  | _ => none
theorem fldI_B {P : Program} {t f off : Nat} (h : fldI P t f = some off) : fldB P t f off = true := by
  unfold fldI at h
  split at h
  · split at h
    · rename_i x _
      cases hb : fldB P t f x.offset with
      | false => rw [hb] at h; cases h
      | true => rw [hb] at h; obtain rfl := Option.some.inj h; exact hb
    · cases h
  · cases h
def slcI (P : Program) (t : Nat) : Option (Nat × Nat × Nat) :=
  match P.underlying t with
  | some (.slice e) => match P.info? e with | some i => bif slcB P t e i.size i.bytes then some (e, i.size, i.bytes) else none | none => none
  | _ => none
theorem slcI_B {P : Program} {t e sz b : Nat} (h : slcI P t = some (e, sz, b)) : slcB P t e sz b = true := by
  unfold slcI at h
  split at h
  · rename_i e' _
    split at h
    · rename_i i _
      cases hb : slcB P t e' i.size i.bytes with
      | false => rw [hb] at h; cases h
      | true => rw [hb] at h; obtain ⟨rfl, rfl, rfl⟩ : e' = e ∧ i.size = sz ∧ i.bytes = b := by simpa using h
                exact hb
    · cases h
  · cases h
def arrI (P : Program) (t : Nat) : Option (Nat × Nat × Nat) :=
  match P.underlying t with
  | some (.array m e) => match P.info? e with | some i => bif arrB P t e m i.size then some (e, m, i.size) else none | none => none
  | _ => none
theorem arrI_B {P : Program} {t e m sz : Nat} (h : arrI P t = some (e, m, sz)) : arrB P t e m sz = true := by
  unfold arrI at h
  split at h
  · rename_i m' e' _
    split at h
    · rename_i i _
      cases hb : arrB P t e' m' i.size with
      | false => rw [hb] at h; cases h
      | true => rw [hb] at h; obtain ⟨rfl, rfl, rfl⟩ : e' = e ∧ m' = m ∧ i.size = sz := by simpa using h
                exact hb
    · cases h
  · cases h
def aggI (P : Program) (t : Nat) : Option Nat := match P.info? t with | some i => bif aggB P t i.size then some i.size else none | none => none
theorem aggI_B {P : Program} {t sz : Nat} (h : aggI P t = some sz) : aggB P t sz = true := by
  unfold aggI at h
  split at h
  · rename_i i _
    cases hb : aggB P t i.size with
    | false => rw [hb] at h; cases h
    | true => rw [hb] at h; obtain rfl := Option.some.inj h; exact hb
  · cases h
/-- A list without its first k, of which some n. -/
def sub {α : Type} (l : List α) (k n : Nat) : Option (List α) := let r := (l.drop k).take n; bif Nat.beq r.length n then some r else none
theorem sub_eq {α : Type} {l r : List α} {k n : Nat} (h : sub l k n = some r) : r = (l.drop k).take n ∧ r.length = n := by
  unfold sub at h
  cases hb : Nat.beq ((l.drop k).take n).length n with
  | false => simp only [hb, cond_false] at h; cases h
  | true =>
    simp only [hb, cond_true] at h
    obtain rfl := Option.some.inj h
    exact ⟨rfl, Nat.eq_of_beq_eq_true hb⟩
def natI : V2 → Option (IntKind × Nat)
  | vK (.int k (.ofNat a)) => some (k, a)
  | _ => none
def bl (x : V2) : Option B := match x with | .v (.c (.b b)) => some b | _ => none
def bls : List V2 → Option (List B)
  | [] => some []
  | x :: r => match bl x, bls r with | some b, some bs => some (b :: bs) | _, _ => none
def v1s : List V2 → Option (List V1)
  | [] => some []
  | .v x :: r => match v1s r with | some bs => some (x :: bs) | _ => none
  | _ :: _ => none
/-- equal, of two values of which one holds an address -/
def eqA (P : Program) (t : TypeId) (x y : V2) : Option Bool :=
  match P.underlying t, x, y with
  | some (.pointer _), vP _ _, vK (.pointer none) => some false
  | some (.pointer _), vK (.pointer none), vP _ _ => some false
  | some (.slice _), vS _ _ _ _, vK (.slice none _ _) => some false
  | some (.slice _), vK (.slice none _ _), vS _ _ _ _ => some false
  | some (.map _ _), vM _, vK (.map none) => some false
  | some (.map _ _), vK (.map none), vM _ => some false
  | some (.func _ _ _), .v (.c (.f _ _ _)), vK .nilFunc => some false
  | some (.func _ _ _), vK .nilFunc, .v (.c (.f _ _ _)) => some false
  | _, _, _ => none
def binK (P : Program) (op : BinOp) (t : TypeId) (x y : Operand) (a b : Value) : Option Value := pureOf P (do eqGuard op t x y a b; binOp op t a b)
def ev1 (P : Program) (gl : Gl) (n : Nat) (fr : Fr) (st : St) : Op → Option V2
  | .move x => evO gl n fr x
  | .assign x => evO gl n fr x
  | .pick c a b => match evO gl n fr c with
    | some (vK (.bool true)) => evO gl n fr a
    | some (vK (.bool false)) => evO gl n fr b
    | _ => none
  | .nilCheck x => match evO gl n fr x with
    | some (vP b o) => some (vP b o)
    | _ => none
  | .binOp op t x y _ => match evO gl n fr x, evO gl n fr y with
    | some a, some b => match kOf a, kOf b with
      | some u, some v => match binK P op t x y u v with | some r => some (vK r) | none => none
      | _, _ => match op with
        | .eql => match eqA P t a b with | some r => some (vK (.bool r)) | none => none
        | .neq => match eqA P t a b with | some r => some (vK (.bool (!r))) | none => none
        | _ => none
    | _, _ => none
  | .unOp op _ x => match evO gl n fr x with
    | some (vK v) => match pureOf P (Op.unary op v) with | some r => some (vK r) | none => none
    | _ => none
  | .convert s t x => match evO gl n fr x with
    | some (vK v) => match pureOf P (convert s t v) with | some r => some (vK r) | none => none
    | _ => none
  | .fieldAddr t x f => match evO gl n fr x, fldI P t f with
    | some (vP b o), some off => some (vP b (o + off))
    | _, _ => none
  | .indexAddr t x y => match evO gl n fr x, evO gl n fr y with
    | some (vS b o m _), some (vK (.int _ (.ofNat i))) => match slcI P t with
      | some (_, sz, _) => bif Nat.blt i m then some (vP b (o + i * sz)) else none
      | none => none
    | some (vP b o), some (vK (.int _ (.ofNat i))) => match arrI P t with
      | some (_, m, sz) => bif Nat.blt i m then some (vP b (o + i * sz)) else none
      | none => none
    | _, _ => none
  | .load t x => match evO gl n fr x with
    | some (vP b o) => match st.mem.get b with
      | some (.cells _ cs _) => match sclB P t with
        | true => match cs[o]? with | some c => some (.v (.c c)) | none => none
        | false => match aggI P t with
          | some sz => match sub cs o sz with | some r => some (.v (.a r)) | none => none
          | none => none
      | _ => none
    | _ => none
  | .extract x i => match evO gl n fr x with
    | some (.t l) => match l[i]? with | some y => some (.v y) | none => none
    | _ => none
  | .makeFunc (.func f) fs cs => match evOs gl n fr fs.toList, evOs gl n fr cs.toList with
    | some a, some b => match bls a, bls b with | some a, some b => some (.v (.c (.f f a b))) | _, _ => none
    | _, _ => none
  | .index t x y => match evO gl n fr x, evO gl n fr y with
    | some a, some (vK i) => match kOf a with
      | some u => match pureOf P (Instr.index t u i) with | some r => some (vK r) | none => none
      | none => none
    | _, _ => none
  | .call ⟨.builtin .len, xs, ts⟩ => match xs.toList, ts.toList with
    | [x], [t] => match evO gl n fr x with
      | some (vS _ _ m _) => match slcI P t with | some _ => some (vK (.int .i64 (.ofNat m))) | none => none
      | some (vZ _ _ _ _) => match slcI P t with | some _ => some (vK (.int .i64 (.ofNat 0))) | none => none
      | some (vK v) => match pureOf P (Builtin.len_ #[t] 0 #[v]) with | some r => some (vK r) | none => none
      | _ => none
    | _, _ => none
  | _ => none
end Go.Proofs.Ytbmohojdlgedpaa.Ev
