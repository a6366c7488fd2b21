/-
  An evaluator for closed calls: functions that go over a map, in whatever order; they only read what was there, and answer a list of texts. It holds of every program.
-/
import Derived.Test.YtbmohojdlgedpaaEi
namespace Go.Proofs.Ytbmohojdlgedpaa.Ev
open Go.RowKit Gw
set_option linter.unusedVariables false
set_option linter.unusedSimpArgs false
/-- What such a function answers: nil, or a new row of texts. -/
inductive An where
  | nil
  | row (t : TypeId) (ss : List ByteArray) (md n : Nat) (c : Cap)
def ssB : List ByteArray → List ByteArray → Bool
  | [], [] => true
  | a :: r, b :: q => a == b && ssB r q
  | _, _ => false
theorem ssB_eq : ∀ {a b : List ByteArray}, ssB a b = true → a = b
  | [], [], _ => rfl
  | a :: r, b :: q, h => by
    simp only [ssB, Bool.and_eq_true] at h
    rw [(MapKept.bytes_beq a b).1 h.1, ssB_eq h.2]
  | [], _ :: _, h => by cases h
  | _ :: _, [], h => by cases h
def capB : Cap → Cap → Bool
  | .k a, .k b => Nat.beq a b
  | .u a, .u b => Nat.beq a b
  | _, _ => false
theorem capB_eq {a b : Cap} (h : capB a b = true) : a = b := by
  cases a <;> cases b <;> first | (rw [Nat.eq_of_beq_eq_true h]) | cases h
def anB : An → An → Bool
  | .nil, .nil => true
  | .row t ss md n c, .row t' ss' md' n' c' => Nat.beq t t' && ssB ss ss' && Nat.beq md md' && Nat.beq n n' && capB c c'
  | _, _ => false
theorem anB_eq {a b : An} (h : anB a b = true) : a = b := by
  cases a with
  | nil => cases b with
    | nil => rfl
    | row _ _ _ _ _ => cases h
  | row t ss md n c => cases b with
    | nil => cases h
    | row t' ss' md' n' c' =>
      simp only [anB, Bool.and_eq_true] at h
      obtain ⟨⟨⟨⟨h1, h2⟩, h3⟩, h4⟩, h5⟩ := h
      rw [Nat.eq_of_beq_eq_true h1, ssB_eq h2, Nat.eq_of_beq_eq_true h3, Nat.eq_of_beq_eq_true h4, capB_eq h5]
/-- All the same. -/
def an2 (x y : Option An) : Option An := match x, y with | some a, some b => bif anB a b then some b else none | _, _ => none
theorem an2_eq {x y : Option An} {o : An} (h : an2 x y = some o) : x = some o ∧ y = some o := by
  unfold an2 at h
  split at h
  · rename_i a b
    cases hab : anB a b with
    | false => rw [hab] at h; cases h
    | true =>
      rw [hab] at h
      obtain rfl := Option.some.inj h
      exact ⟨by rw [anB_eq hab], rfl⟩
  · cases h
def same : List (Option An) → Option An
  | [] => none
  | [x] => x
  | x :: r => an2 x (same r)
theorem same_mem : ∀ {l : List (Option An)} {o : An}, same l = some o → ∀ x ∈ l, x = some o
  | [], _, h, _, _ => by cases h
  | [x], o, h, y, hy => by
    obtain rfl : y = x := by simpa using hy
    exact h
  | x :: z :: r, o, h, y, hy => by
    obtain ⟨h1, h2⟩ := an2_eq (x := x) (y := same (z :: r)) h
    rcases List.mem_cons.1 hy with rfl | hy
    · exact h1
    · exact same_mem h2 y hy
/-- The next entry of a map: what may come up, and the memory behind it. -/
def leftA (es : List (Value × C × Nat)) (seen : List Nat) : List (Value × C × Nat) := es.filter fun e => !seen.contains e.2.2
def nextA (gl : Gl) (n : Nat) (fr : Fr) (st : St) : Op → Option (List (V2 × Option St))
  | .next x false => match evO gl n fr x with
    | some (vP b 0) => match st.mem.get b with
      | some (.iter mb since seen last) => match st.mem.get mb with
        | some (.map es clock _) => bif es.all (fun e => Nat.blt e.2.2 since) && Nat.ble since last then
            match leftA es seen with
            | [] => some [(.t [.c (.b (.k (.bool false)))], some st)]
            | l => some (l.map fun e => (.t [.c (.b (.k (.bool true))), .c (.b (.k e.1)), .c e.2.1], putB st b (.iter mb since (seen ++ [e.2.2]) clock)))
          else none
        | _ => none
      | _ => none
    | _ => none
  | _ => none
abbrev Ko := Fr → St → Option An
def evOpsK (P : Program) (rec : Rec) (gl : Gl) (n : Nat) (ops : Array Oper) : List Oper → Fr → St → Ko → Option An
  | [], fr, st, κ => κ fr st
  | o :: os, fr, st, κ => match wants ops fr o.guard with
    | some true => match nextA gl n fr st o.op with
      | some outs => same (outs.map fun p => match putF n fr o.dst p.1, p.2 with | some fr', some st' => evOpsK P rec gl n ops os fr' st' κ | _, _ => none)
      | none => match evXf P rec noY gl n o fr st with
        | some (fr', st') => evOpsK P rec gl n ops os fr' st' κ
        | none => none
    | some false => match putF n fr o.dst (vK undef) with
      | some fr' => evOpsK P rec gl n ops os fr' st κ
      | none => none
    | none => none
abbrev Kx := Ex → Fr → St → Option An
abbrev Gk := Code → Fr → St → Kx → Option An
def stepK (P : Program) (rec : Rec) (drw : Drw) (gl : Gl) (n : Nat) (go : Gk) : Gk := fun c fr st κ =>
  match c with
  | .skip => κ .normal fr st
  | .region _ ops draw => match draw with
    | true => match drw ops fr st with | some (fr', st') => κ .normal fr' st' | none => none
    | false => evOpsK P rec gl n ops ops.toList fr st (fun fr' st' => κ .normal fr' st')
  | .seq a b => go a fr st (fun x fr' st' => match x with | .normal => go b fr' st' κ | x => κ x fr' st')
  | .cond c x y => match evO gl n fr c with
    | some (vK (.bool true)) => go x fr st κ
    | some (vK (.bool false)) => go y fr st κ
    | _ => none
  | .block id b => go b fr st (fun x fr' st' => match x with | .exit i => (bif Nat.beq i id then κ .normal fr' st' else κ (.exit i) fr' st') | x => κ x fr' st')
  | .loop b => go b fr st (fun x fr' st' => match x with | .normal => go (.loop b) fr' st' κ | x => κ x fr' st')
  | .exit id => κ (.exit id) fr st
  | .ret => κ .ret fr st
  | _ => none
def evK (P : Program) (rec : Rec) (drw : Drw) (gl : Gl) (n : Nat) (k : Nat) : Gk := Nat.rec (fun _ _ _ _ => none) (fun _ go => stepK P rec drw gl n go) k
section
variable {P : Program} {gl : Gl} {n : Nat} {w0 : Wd} {rec : Rec} {σ : Nat → Value} {ds : List Deferred} {ops : Array Oper} {Q : Exit → Act → World → Prop}
theorem leftA_ok {ρ : Rho} : ∀ {es : List (Value × C × Nat)} {ms : List MapEntry} {seen : List Nat}, A2 (EN ρ) es ms → A2 (EN ρ) (leftA es seen) (leftOf ms.toArray seen.toArray).toList := by
  intro es ms seen h
  have e : (leftOf ms.toArray seen.toArray).toList = ms.filter (fun e => !seen.contains e.born) := by
    unfold leftOf
    simp
  rw [e]
  unfold leftA
  induction es generalizing ms with
  | nil => cases ms with
    | nil => trivial
    | cons _ _ => exact h.elim
  | cons x es ih => cases ms with
    | nil => exact h.elim
    | cons m ms =>
      have hb : m.born = x.2.2 := h.1.2.2
      have := ih (ms := ms) h.2 (by unfold leftOf; simp)
      simp only [List.filter_cons, hb]
      cases hc : !seen.contains x.2.2 with
      | false => simpa using this
      | true => exact ⟨h.1, this⟩
theorem a2_mem {α β : Type} {R : α → β → Prop} : ∀ {xs : List α} {ys : List β} {y : β}, A2 R xs ys → y ∈ ys → ∃ x ∈ xs, R x y
  | [], [], _, _, h => by cases h
  | x :: xs, z :: ys, y, hr, h => by
    rcases List.mem_cons.1 h with rfl | h
    · exact ⟨x, by simp, hr.1⟩
    · obtain ⟨x', h1, h2⟩ := a2_mem hr.2 h
      exact ⟨x', by simp [h1], h2⟩
  | [], _ :: _, _, h, _ => h.elim
  | _ :: _, [], _, h, _ => h.elim
theorem nextA_ok {ρ : Rho} {fr : Fr} {l : Sl} {st : St} {w : World} {dst : Option Nat} {op : Op} {ty : TypeId} {pos : String} {af : Array Edge} {gd : Option (Nat × Bool)} {outs : List (V2 × Option St)} (hG : GL ρ gl) (hF : FR ρ n fr l) (hM : MR w0 ρ st w) (h : nextA gl n fr st op = some outs) :
    ∃ p ∈ outs, ∃ v w', (execOp (Ac n σ ds l).eval ⟨dst, op, ty, pos, af, gd⟩).run P w = .ok (.value v) w' ∧ R2 ρ p.1 v ∧ ∀ st', p.2 = some st' → MR w0 ρ st' w' := by
  unfold nextA at h
  split at h
  · rename_i x
    split at h
    · rename_i b hx
      split at h
      · rename_i mb since seen last hi
        split at h
        · rename_i es clock ro hm
          cases hb : (es.all (fun e => Nat.blt e.2.2 since) && Nat.ble since last) with
          | false => rw [hb] at h; cases h
          | true =>
            rw [hb] at h
            simp only [cond_true] at h
            simp only [Bool.and_eq_true] at hb
            obtain ⟨u, e1, g, c, q1, rfl⟩ := evO_ev hG hF hx
            obtain ⟨g', c', q2, q3, gm, cm, q4, q5⟩ := hM.at_ b _ hi
            obtain ⟨rfl, rfl⟩ := Prod.mk.inj (Option.some.inj (q2.symm.trans q1))
            obtain ⟨gm', cm', p1, p2, ms, p3, p4⟩ := hM.at_ mb _ hm
            obtain ⟨rfl, rfl⟩ := Prod.mk.inj (Option.some.inj (p1.symm.trans q4))
            have hold : ∀ x ∈ ms.toArray.toList, x.born < since := fun x hx => by
              obtain ⟨y, y1, y2⟩ := a2_mem p4 (by simpa using hx)
              have := List.all_eq_true.1 hb.1 y y1
              rw [y2.2.2]
              simpa [Nat.blt_eq] using this
            have hleft := leftA_ok (seen := seen) p4
            rcases run_next_at (P := P) w ty g' gm' since last seen.toArray ms.toArray clock q5 p3 hold (Nat.le_of_ble_eq_true hb.2) with ⟨h0, hrun⟩ | ⟨e, he, w1, hw1, hrun⟩
            · have hl0 : leftA es seen = [] := by
                exact List.eq_nil_of_length_eq_zero (hleft.len.trans (by rw [Array.length_toList]; exact h0))
              rw [hl0] at h
              obtain rfl := Option.some.inj h
              refine ⟨_, List.mem_singleton.2 rfl, .tuple #[.bool false], w, ?_, ⟨[.bool false], ⟨rfl, trivial⟩, rfl⟩, fun st' hst => by obtain rfl := Option.some.inj hst; exact hM⟩
              simp only [execOp, ev_eval e1]
              exact v_run hrun
            · obtain ⟨x, hx1, hx2⟩ := a2_mem hleft he
              have hne : leftA es seen ≠ [] := fun h0 => by rw [h0] at hx1; cases hx1
              have hout : outs = (leftA es seen).map fun e => ((.t [.c (.b (.k (.bool true))), .c (.b (.k e.1)), .c e.2.1] : V2), putB st b (.iter mb since (seen ++ [e.2.2]) clock)) := by
                split at h
                · rename_i h0; exact absurd h0 hne
                · exact (Option.some.inj h).symm
              subst hout
              refine ⟨_, List.mem_map.2 ⟨x, hx1, rfl⟩, .tuple #[.bool true, e.key, e.val], ChangeMaps.setBlock w1 g' (.mapIter (some gm') since (seen.toArray.push e.born) clock), ?_, ⟨[.bool true, e.key, e.val], ⟨rfl, hx2.1, hx2.2.1, trivial⟩, rfl⟩, fun st' hst => ?_⟩
              · simp only [execOp, ev_eval e1]
                exact v_run hrun
              · have hrw : w1.heap = w.heap := by rcases hw1 with rfl | rfl <;> rfl
                have hlt : g' < w.heap.size := (Array.getElem?_eq_some_iff.1 q5).1
                have hg1 : w.grownBy w1 none := by rcases hw1 with rfl | rfl; exact World.grownBy.refl _ _; exact ⟨rfl, rfl, rfl, Nat.le_refl _, fun _ _ _ => rfl⟩
                refine putB_ok (mb' := .iter mb since (seen ++ [x.2.2]) clock) hM hst hi rfl q1 ⟨hg1.os, hg1.tape, hg1.output, by simp [ChangeMaps.setBlock, hrw], fun i hi hne => by
                  have : g' ≠ i := fun q => hne (by rw [q])
                  simp only [ChangeMaps.setBlock, hrw]
                  rw [Array.getElem?_setIfInBounds_ne this]⟩ ⟨gm', cm', q4, ?_⟩
                simp only [ChangeMaps.setBlock, hrw]
                rw [Array.getElem?_setIfInBounds_self_of_lt hlt]
                rw [hx2.2.2]
                simp
        · cases h
      · cases h
    · cases h
  · cases h
theorem evOpsK_ok (hR : RecOk P w0 gl rec) {o : An} : ∀ {os : List Oper} {fr : Fr} {st : St} {κ : Ko} {ρ : Rho} {l : Sl} {w : World}, evOpsK P rec gl n ops os fr st κ = some o → GL ρ gl → FR ρ n fr l → MR w0 ρ st w →
    (∀ fr' st', κ fr' st' = some o → ∀ ρ' l' w', Le ρ ρ' → FR ρ' n fr' l' → MR w0 ρ' st' w' → Q .normal (Ac n σ ds l') w') → wpL P ops Q os (Ac n σ ds l) w
  | [], fr, st, κ, ρ, l, w, h, hG, hF, hM, k => k fr st h ρ l w (Le.refl ρ) hF hM
  | oo :: os, fr, st, κ, ρ, l, w, h, hG, hF, hM, k => by
    simp only [evOpsK] at h
    unfold wpL
    split at h
    · rename_i hw
      rw [if_pos (wants_ok rfl hw hF)]
      split at h
      · rename_i outs hn
        left
        obtain ⟨dst, op, ty, pos, af, gd⟩ := oo
        obtain ⟨p, hp, v, w', hr, hx, hst⟩ := nextA_ok (P := P) (σ := σ) (ds := ds) (dst := dst) (ty := ty) (pos := pos) (af := af) (gd := gd) hG hF hM hn
        have hs := same_mem h _ (List.mem_map.2 ⟨p, hp, rfl⟩)
        split at hs
        · rename_i fr' st' hp1 hp2
          obtain ⟨f1, f2⟩ := putF_ok (σ := σ) (ds := ds) hp1 hF hx
          unfold Oper.wp
          rw [hr]
          simp only [Oper.upon]
          rw [f2]
          exact evOpsK_ok hR hs hG f1 (hst _ hp2) k
        · cases hs
      · split at h
        · rename_i fr1 st1 hx
          exact (evX_ok hR noY_ok hG hF hM (evXf_ok hx) fun ρ1 l1 w1 hle hF1 hM1 => evOpsK_ok hR h (hG.mono hle) hF1 hM1 fun fr' st' hk ρ' l' w' h1 h2 h3 => k fr' st' hk ρ' l' w' (hle.trans h1) h2 h3).imp id (·.2)
        · cases h
    · rename_i hw
      rw [if_neg (by rw [wants_ok rfl hw hF]; simp)]
      split at h
      · rename_i fr1 hp
        obtain ⟨f1, f2⟩ := putF_ok (σ := σ) (ds := ds) (v := undef) hp hF rfl
        rw [f2]
        exact evOpsK_ok hR h hG f1 hM k
      · cases h
    · cases h
theorem evK_ok {drw : Drw} (hR : RecOk P w0 gl rec) (hD : DrwOk P w0 gl n drw) {o : An} : ∀ (k : Nat) {c : Code} {fr : Fr} {st : St} {κ : Kx} {ρ : Rho} {l : Sl} {w : World} {Q : Exit → Act → World → Prop}, evK P rec drw gl n k c fr st κ = some o →
    GL ρ gl → FR ρ n fr l → MR w0 ρ st w → (∀ x fr' st', κ x fr' st' = some o → ∀ ρ' l' w', Le ρ ρ' → FR ρ' n fr' l' → MR w0 ρ' st' w' → Q x.to (Ac n σ ds l') w') → c.wpIn (wF none) 0 P Q (Ac n σ ds l) w := by
  intro k
  induction k using Nat.strongRecOn with
  | _ k ih =>
    intro c fr st κ ρ l w Q h hG hF hM kk
    cases k with
    | zero => cases h
    | succ k =>
      replace h : stepK P rec drw gl n (evK P rec drw gl n k) c fr st κ = some o := h
      have ihk := fun {c fr st κ ρ l w Q} => @ih k (Nat.lt_succ_self k) c fr st κ ρ l w Q
      unfold stepK at h
      split at h
      · exact C_skip (kk _ _ _ h ρ l w (Le.refl ρ) hF hM)
      · rename_i id ops draw
        split at h
        · split at h
          · rename_i fr1 st1 hd
            exact hD _ _ _ _ _ hd rfl hG hF hM fun ρ' l' w' q1 q2 q3 => kk .normal fr1 st1 h ρ' l' w' q1 q2 q3
          · cases h
        have := C_reg (ro := none) (P := P) (Q := Q) (a := Ac n σ ds l) (w := w) (id := id) (l := ops.toList) rfl (by
          simp only [Array.toArray_toList]
          exact evOpsK_ok hR h hG hF hM fun fr' st' hk ρ' l' w' q1 q2 q3 => kk .normal fr' st' hk ρ' l' w' q1 q2 q3)
        simpa using this
      · rename_i a b
        refine C_seq (ihk h hG hF hM fun x fr1 st1 hk ρ1 l1 w1 hle hF1 hM1 => ?_)
        cases x with
        | normal => exact ihk hk (hG.mono hle) hF1 hM1 fun x fr' st' hk ρ' l' w' q1 q2 q3 => kk x fr' st' hk ρ' l' w' (hle.trans q1) q2 q3
        | exit i => exact kk _ _ _ hk ρ1 l1 w1 hle hF1 hM1
        | ret => exact kk _ _ _ hk ρ1 l1 w1 hle hF1 hM1
      · split at h
        · rename_i hc
          obtain ⟨v, e, r⟩ := evO_ev hG hF hc
          obtain rfl : v = _ := r
          exact C_condT e rfl (ihk h hG hF hM kk)
        · rename_i hc
          obtain ⟨v, e, r⟩ := evO_ev hG hF hc
          obtain rfl : v = _ := r
          exact C_condF e rfl (ihk h hG hF hM kk)
        · cases h
      · rename_i id b
        refine C_block (ihk h hG hF hM fun x fr1 st1 hk ρ1 l1 w1 hle hF1 hM1 => ?_)
        cases x with
        | normal => exact kk _ _ _ hk ρ1 l1 w1 hle hF1 hM1
        | exit i =>
          simp only at hk
          cases hb : Nat.beq i id with
          | true =>
            rw [hb] at hk
            obtain rfl := Nat.eq_of_beq_eq_true hb
            exact X_hit (kk _ _ _ hk ρ1 l1 w1 hle hF1 hM1)
          | false =>
            rw [hb] at hk
            exact X_miss hb (kk _ _ _ hk ρ1 l1 w1 hle hF1 hM1)
        | ret => exact kk _ _ _ hk ρ1 l1 w1 hle hF1 hM1
      · rename_i b
        refine C_loop (fun m a w => m ≤ k + 1 ∧ ∃ fr st ρ1 l, a = Ac n σ ds l ∧ Le ρ ρ1 ∧ FR ρ1 n fr l ∧ MR w0 ρ1 st w ∧ ∃ m', m = m' + 1 ∧ evK P rec drw gl n m' b fr st (fun x fr' st' => match x with | .normal => evK P rec drw gl n m' (.loop b) fr' st' κ | x => κ x fr' st') = some o) (k + 1) ⟨Nat.le_refl _, fr, st, ρ, l, rfl, Le.refl ρ, hF, hM, k, rfl, h⟩ ?_
        rintro m a w ⟨hm, fr1, st1, ρ1, l1, rfl, hle1, hF1, hM1, m', rfl, h1⟩
        have ihm := fun {c fr st κ ρ l w Q} => @ih m' (by omega) c fr st κ ρ l w Q
        refine ihm h1 (hG.mono hle1) hF1 hM1 fun x fr2 st2 hk ρ2 l2 w2 hle2 hF2 hM2 => ?_
        cases x with
        | normal =>
          simp only at hk
          cases m' with
          | zero => cases hk
          | succ m2 =>
            replace hk : stepK P rec drw gl n (evK P rec drw gl n m2) (.loop b) fr2 st2 κ = some o := hk
            exact ⟨m2 + 1, Nat.lt_succ_self _, by omega, fr2, st2, ρ2, l2, rfl, hle1.trans hle2, hF2, hM2, m2, rfl, hk⟩
        | exit i => exact kk _ _ _ hk ρ2 l2 w2 (hle1.trans hle2) hF2 hM2
        | ret => exact kk _ _ _ hk ρ2 l2 w2 (hle1.trans hle2) hF2 hM2
      · exact C_exit (kk _ _ _ h ρ l w (Le.refl ρ) hF hM)
      · exact C_ret (kk _ _ _ h ρ l w (Le.refl ρ) hF hM)
      · cases h
end
/-! ### a call that only reads -/
def strs : List C → Option (List ByteArray)
  | [] => some []
  | .b (.k (.string s)) :: r => match strs r with | some ss => some (s :: ss) | none => none
  | _ => none
def anOf (P : Program) (fn : Func) (fr : Fr) (st : St) : Option An := match resA P fr st fn.results.toList with
  | some (vS b 0 n c) => match st.mem.get b with
    | some (.cells t cs md) => bif Nat.beq md 2 then none else match strs cs with | some ss => some (.row t ss md n c) | none => none
    | _ => none
  | some (vK (.slice none 0 0)) => some .nil
  | _ => none
def bodyK (P : Program) (drw : Nat → Rec → Drw) (gl : Gl) (fuel : Nat) (rec : Rec) (f : FuncId) (xs : List V2) (st : St) : Option An :=
  match P.funcs[f]? with
  | some fn => match fn.body, fr0 0 xs .e with
    | some c, some fr => bif Nat.ble xs.length fn.ntmps then
        evK P rec (drw fn.ntmps rec) gl fn.ntmps fuel c fr st (fun x fr' st' => match x with | .exit _ => none | _ => anOf P fn fr' st')
      else none
    | _, _ => none
  | none => none
def roB : MB → Option MB
  | .cells t cs _ => some (.cells t cs 2)
  | .map es c _ => some (.map es c true)
  | .iter _ _ _ _ => none
  | .loop _ _ _ _ _ _ _ _ => none
  | .dfr => none
/-- Only these blocks, and only to be read. -/
def tiny (m : Tr MB) : List Nat → Tr MB → Option (Tr MB)
  | [], t => some t
  | b :: r, t => match m.get b with
    | some mb => match roB mb with
      | some mb' => match Tr.set dp t b (some mb') with | some t' => tiny m r t' | none => none
      | none => none
    | none => none
def ptrs : List V2 → List Nat
  | [] => []
  | vP b _ :: r => b :: ptrs r
  | _ :: r => ptrs r
def maps : List C → List Nat
  | [] => []
  | .b (.m b) :: r => b :: maps r
  | _ :: r => maps r
def mapsAll (m : Tr MB) : List Nat → List Nat
  | [] => []
  | b :: r => match m.get b with | some (.cells _ cs _) => maps cs ++ mapsAll m r | _ => mapsAll m r
def cellS (ss : List ByteArray) : List C := ss.map fun s => .b (.k (.string s))
def pureF (P : Program) (drw : Nat → Rec → Drw) (gl : Gl) (fuel : Nat) (rec : Rec) : Rec := fun f xs st =>
  match tiny st.mem (ptrs xs ++ mapsAll st.mem (ptrs xs)) .e with
  | some t => match bodyK P drw gl fuel rec f xs ⟨t, st.next⟩ with
    | some .nil => some (vK (.slice none 0 0), st)
    | some (.row t ss md n c) => match newB st (.cells t (cellS ss) md) with | some st' => some (vS st.next 0 n c, st') | none => none
    | none => none
  | none => none
section
variable {P : Program} {gl : Gl} {w0 : Wd} {rec : Rec}
theorem holds_ro {ρ : Rho} {w : World} {g c : Nat} {mb mb' : MB} (h : roB mb = some mb') (hh : Holds ρ w g c mb) : Holds ρ w g c mb' ∧ mb'.ro = true := by
  cases mb with
  | cells t cs md =>
    obtain rfl := Option.some.inj h
    obtain ⟨vs, vs', fz, h1, h2, _⟩ := hh
    exact ⟨⟨vs, vs', fz, h1, h2, fun h => by omega, fun h => by omega, fun h => by omega⟩, rfl⟩
  | map es c ro => obtain rfl := Option.some.inj h; exact ⟨hh, rfl⟩
  | iter _ _ _ _ => cases h
  | loop _ _ _ _ _ _ _ _ => cases h
  | dfr => cases h
theorem tiny_ok {m : Tr MB} : ∀ {bs : List Nat} {t t' : Tr MB}, tiny m bs t = some t' → (∀ b mb, t.get b = some mb → ∃ mb0, m.get b = some mb0 ∧ roB mb0 = some mb) → ∀ b mb, t'.get b = some mb → ∃ mb0, m.get b = some mb0 ∧ roB mb0 = some mb
  | [], t, t', h, hT => by obtain rfl := Option.some.inj h; exact hT
  | b :: r, t, t', h, hT => by
    simp only [tiny] at h
    split at h
    · rename_i mb hm
      split at h
      · rename_i mb' hr
        split at h
        · rename_i t1 hs
          refine tiny_ok h fun b' mb1 e => ?_
          rw [Tr.get_set _ _ _ _ _ hs] at e
          by_cases hb : b' = b
          · rw [if_pos hb] at e
            obtain rfl := Option.some.inj e
            exact ⟨mb, hb ▸ hm, hr⟩
          · rw [if_neg hb] at e
            exact hT b' mb1 e
        · cases h
      · cases h
    · cases h
theorem tiny_MR {ρ : Rho} {st : St} {w : World} {t : Tr MB} {bs : List Nat} (hM : MR w0 ρ st w) (h : tiny st.mem bs .e = some t) : MR (Wd.old w) ρ ⟨t, st.next⟩ w := by
  have hT := tiny_ok h (fun b mb e => by simp [Tr.get] at e)
  refine ⟨Wd.old_refl w, hM.top, fun b mb e => ?_, fun b b' mb mb' g c c' e e' r r' => ?_⟩
  · obtain ⟨mb0, h1, h2⟩ := hT b mb e
    obtain ⟨g, c, q1, _, q3⟩ := hM.at_ b mb0 h1
    obtain ⟨q4, q5⟩ := holds_ro h2 q3
    exact ⟨g, c, q1, ⟨(fun hr => by rw [q5] at hr; cases hr), fun h => h⟩, q4⟩
  · obtain ⟨m1, h1, _⟩ := hT b mb e
    obtain ⟨m2, h2, _⟩ := hT b' mb' e'
    exact hM.inj b b' m1 m2 g c c' h1 h2 r r'
theorem strs_eq : ∀ {cs : List C} {ss : List ByteArray}, strs cs = some ss → cs = cellS ss
  | [], ss, h => by obtain rfl := Option.some.inj h; rfl
  | c :: r, ss, h => by
    unfold strs at h
    split at h
    · rename_i h0; cases h0
    · rename_i s r' h0
      obtain ⟨rfl, rfl⟩ := List.cons.inj h0
      split at h
      · rename_i ss' hs
        obtain rfl := Option.some.inj h
        rw [strs_eq hs]; rfl
      · cases h
    · cases h
theorem a2_cellS {ρ ρ' : Rho} : ∀ {ss : List ByteArray} {vs : List Value}, A2 (RC ρ) (cellS ss) vs → A2 (RC ρ') (cellS ss) vs
  | [], [], _ => trivial
  | s :: ss, v :: vs, h => ⟨h.1, a2_cellS h.2⟩
  | [], _ :: _, h => h.elim
  | _ :: _, [], h => h.elim
/-- What such an answer stands for. -/
def AnR (w w' : World) (u : Value) : An → Prop
  | .nil => u = .slice none 0 0
  | .row T ss md n c => ∃ g cc, w.heap.size ≤ g ∧ (∀ ρ', Holds ρ' w' g cc (.cells T (cellS ss) md)) ∧ ∀ ρ' b, ρ' b = some (g, cc) → RB ρ' (.s b 0 n c) u
theorem pureF_ok {drw : Nat → Rec → Drw} {fuel : Nat} (hR : ∀ w0, RecOk P w0 gl rec) (hD : ∀ w0 n, DrwOk P w0 gl n (drw n rec)) : RecOk P w0 gl (pureF P drw gl fuel rec) := fun f xs st x st' h ρ w vals hG hM hA => by
  unfold pureF at h
  split at h
  · rename_i t ht
    have hM1 := tiny_MR hM ht
    have key : ∀ an, bodyK P drw gl fuel rec f xs ⟨t, st.next⟩ = some an → Runs P f vals.toArray w (fun u w' => w.grownBy w' none ∧ AnR w w' u an) := by
      intro an hb
      unfold bodyK at hb
      split at hb
      · rename_i fn hfn
        split at hb
        · rename_i c fr hc hfr
          cases hbl : Nat.ble xs.length fn.ntmps with
          | false => rw [hbl] at hb; cases hb
          | true =>
            rw [hbl] at hb
            simp only [cond_true] at hb
            have hle := Nat.le_of_ble_eq_true hbl
            obtain ⟨_, hF0, _⟩ := fr0_ok (n := fn.ntmps) (l := []) hfr hA (by omega) (fun t x e => by cases e)
            have hF : FR ρ fn.ntmps fr (zipA 0 vals) := fun t y e => by
              rcases hF0 t y e with ⟨q0, u, q1, _, q3⟩ | ⟨q1, _⟩
              · exact ⟨q0, u, q1, q3⟩
              · omega
            refine enter hfn rfl (by rw [← hA.len]; exact hbl) hc ?_
            refine evK_ok (hR (Wd.old w)) (hD (Wd.old w) _) fuel hb hG hF hM1 fun x fr' st2 hk ρ' l' w' q1 q2 q3 => ?_
            have fin : anOf P fn fr' st2 = some an → ∃ v, (results fn (Gw.fr fn.ntmps (fun _ => undef) l')).run P w' = .ok v w' ∧ (w.grownBy w' none ∧ AnR w w' v an) := by
              intro han
              unfold anOf at han
              split at han
              · rename_i b n c hres
                obtain ⟨v, e1, r1⟩ := resA_ok (σ := fun _ => undef) q2 q3 hres
                split at han
                · rename_i T cs md hm
                  cases hmd : Nat.beq md 2 with
                  | true => rw [hmd] at han; cases han
                  | false =>
                    rw [hmd] at han
                    simp only [cond_false] at han
                    split at han
                    · rename_i ss hss
                      obtain rfl := Option.some.inj han
                      obtain rfl := strs_eq hss
                      obtain ⟨g, cc, p1, p2, vs, vs', fz, p3, p4, p5⟩ := q3.at_ b _ hm
                      refine ⟨v, e1, Wd.old_gb q3.gb, g, cc, Nat.not_lt.1 (p2.1 (by simp [MB.ro, hmd])), fun ρ' => ⟨vs, vs', fz, p3, a2_cellS p4, p5⟩, fun ρ'' b' hb' => ?_⟩
                      cases c with
                      | k c =>
                        obtain ⟨g2, c2, y1, y2, y3⟩ := r1
                        obtain ⟨rfl, rfl⟩ := Prod.mk.inj (Option.some.inj (y1.symm.trans p1))
                        exact ⟨g2, c2, hb', y2, y3⟩
                      | u d =>
                        obtain ⟨g2, c2, y1, y2, y3⟩ := r1
                        obtain ⟨rfl, rfl⟩ := Prod.mk.inj (Option.some.inj (y1.symm.trans p1))
                        exact ⟨g2, c2, hb', y2, y3⟩
                    · cases han
                · cases han
              · rename_i hres
                obtain rfl := Option.some.inj han
                obtain ⟨v, e1, r1⟩ := resA_ok (σ := fun _ => undef) q2 q3 hres
                exact ⟨v, e1, Wd.old_gb q3.gb, r1⟩
              · cases han
            cases x with
            | exit i => cases hk
            | normal => obtain ⟨v, e1, e2⟩ := fin hk; exact ⟨rfl, v, e1, e2⟩
            | ret => obtain ⟨v, e1, e2⟩ := fin hk; exact ⟨rfl, v, e1, e2⟩
        · cases hb
      · cases hb
    split at h
    · rename_i hb
      obtain ⟨rfl, rfl⟩ := Prod.mk.inj (Option.some.inj h)
      refine (key _ hb).mono fun u w' hu => ⟨ρ, Le.refl ρ, hM.grow hu.1, hu.2⟩
    · rename_i T ss md n c hb
      split at h
      · rename_i st1 hn
        obtain ⟨rfl, rfl⟩ := Prod.mk.inj (Option.some.inj h)
        refine (key _ hb).mono fun u w' hu => ?_
        obtain ⟨h1, g, cc, h2, h3, h4⟩ := hu
        exact ⟨ext ρ st.next (g, cc), hM.ext_le _, newB_ok hM hn h1 h2 (h3 _), h4 _ _ (ext_at _ _ _)⟩
      · cases h
    · cases h
  · cases h
/-! ### all together -/
def stepM (P : Program) (drw : Nat → Rec → Drw) (gl : Gl) (mu : Nat → Bool) (ov : Rec) (fuel : Nat) (rec ry : Rec) : Rec := fun f xs st => match ov f xs st with
  | some r => some r
  | none => bif mu f then pureF P drw gl fuel rec f xs st else stepF P drw gl fuel rec ry f xs st
def evP (P : Program) (drw : Nat → Rec → Drw) (gl : Gl) (mu : Nat → Bool) (ov : Rec) (fuel : Nat) (d : Nat) : Rec × Rec :=
  Nat.rec (fun _ _ _ => none, fun _ _ _ => none) (fun _ p => (stepM P drw gl mu ov fuel p.1 p.2, roundA P p.1 p.2 drw gl fuel)) d
/-- 'mu': which functions go over a map; 'ov': what is known of calls already. -/
def evF (P : Program) (drw : Nat → Rec → Drw) (gl : Gl) (mu : Nat → Bool) (ov : Rec) (fuel : Nat) (d : Nat) : Rec := (evP P drw gl mu ov fuel d).1
theorem evP_ok {drw : Nat → Rec → Drw} {mu : Nat → Bool} {ov : Rec} {fuel : Nat} (hO : ∀ w0, RecOk P w0 gl ov) (hD : ∀ n rec, (∀ w0, RecOk P w0 gl rec) → ∀ w0, DrwOk P w0 gl n (drw n rec)) :
    ∀ d, (∀ w0, RecOk P w0 gl (evP P drw gl mu ov fuel d).1) ∧ ∀ w0, YecOk P w0 gl (evP P drw gl mu ov fuel d).2
  | 0 => ⟨fun _ f xs st x st' h => (by cases h), fun _ f xs st x st' h => (by cases h)⟩
  | d + 1 => by
    obtain ⟨ih, ihy⟩ := evP_ok (mu := mu) (fuel := fuel) hO hD d
    refine ⟨fun w0 f xs st x st' h => ?_, fun w0 => roundA_ok (ih w0) (ihy w0) (fun n => hD n _ ih w0)⟩
    replace h : stepM P drw gl mu ov fuel (evP P drw gl mu ov fuel d).1 (evP P drw gl mu ov fuel d).2 f xs st = some (x, st') := h
    unfold stepM at h
    split at h
    · rename_i r hr
      rw [Option.some.inj h] at hr
      exact hO w0 f xs st x st' hr
    rename_i hnone
    cases hm : mu f with
    | true => rw [hm] at h; exact pureF_ok ih (fun w0 n => hD n _ ih w0) f xs st x st' h
    | false => rw [hm] at h; exact stepF_ok (ih w0) (ihy w0) (fun n => hD n _ ih w0) f xs st x st' h
theorem evF_ok {drw : Nat → Rec → Drw} {mu : Nat → Bool} {ov : Rec} {fuel : Nat} (hO : ∀ w0, RecOk P w0 gl ov) (hD : ∀ n rec, (∀ w0, RecOk P w0 gl rec) → ∀ w0, DrwOk P w0 gl n (drw n rec)) (d : Nat) (w0 : Wd) : RecOk P w0 gl (evF P drw gl mu ov fuel d) :=
  (evP_ok hO hD d).1 w0
end
/-! ### a closed call -/
def st0 : St := ⟨.e, 0⟩
theorem MR.start (w : World) : MR (Wd.old w) (fun _ => none) st0 w :=
  ⟨Wd.old_refl w, fun _ _ => rfl, fun b mb e => by simp [st0, Tr.get] at e, fun b b' mb mb' g c c' e => by simp [st0, Tr.get] at e⟩
def valOf (r : Option (V2 × St)) : Option Value := match r with | some (vK v, _) => some v | _ => none
/-- no order is drawn -/
def nod : Nat → Rec → Drw := fun _ _ _ _ _ => none
theorem nod_ok {P : Program} {gl : Gl} (n : Nat) (rec : Rec) (w0 : Wd) : DrwOk P w0 gl n (nod n rec) := fun _ _ _ _ _ h => by cases h
def nomu : Nat → Bool := fun _ => false
def noov : Rec := fun _ _ _ => none
theorem noov_ok {P : Program} {gl : Gl} (w0 : Wd) : RecOk P w0 gl noov := fun _ _ _ _ _ h => by cases h
/-- What the evaluator reckons of a call with constants is so, wherever it is made. -/
theorem closed {P : Program} {drw : Nat → Rec → Drw} {mu : Nat → Bool} {fuel d f : Nat} {xs : List Value} {v : Value} {w : World} (hD : ∀ n rec, (∀ w0, RecOk P w0 [] rec) → ∀ w0, DrwOk P w0 [] n (drw n rec)) (h : valOf (evF P drw [] mu noov fuel d f (xs.map vK) st0) = some v) :
    Runs P f xs.toArray w (fun u w' => w.grownBy w' none ∧ u = v) := by
  unfold valOf at h
  split at h
  · rename_i u st1 he
    obtain rfl := Option.some.inj h
    have hA : A2 (R2 (fun _ => none)) (xs.map vK) xs := by
      clear he h
      induction xs with
      | nil => trivial
      | cons x r ih => exact ⟨rfl, ih⟩
    refine (evF_ok noov_ok hD d (Wd.old w) f _ st0 _ st1 he (fun _ => none) w xs (fun _ _ e => by cases e) (MR.start w) hA).mono fun u' w' hr => ?_
    obtain ⟨ρ', _, hM, hx⟩ := hr
    exact ⟨Wd.old_gb hM.gb, hx⟩
  · cases h
end Go.Proofs.Ytbmohojdlgedpaa.Ev
