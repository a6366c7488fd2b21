/-
  A region that draws its order, of operations whose answers do not hang on the order: all of them at once. It holds of every program.
-/
import Derived.Test.YtkjgjejkfjhcjaaDoorGx
namespace Go.Proofs.YtkjgjejkfjhcjaaDoor.Gw
open Go.RowKit
set_option linter.unusedVariables false
set_option linter.unusedSimpArgs false
/-- An operation, its slot, its answer, what it reads. -/
structure Cm where
  i : Nat
  d : Nat
  v : Value
  L : Sl
def finL (cs : List Cm) (l : Sl) : Sl := cs.map (fun c => (c.d, c.v)) ++ l
def calmB1 (n : Nat) (md : Region.Mode) (os : List Oper) (cs : List (Nat × Nat × List Nat)) (c : Nat × Nat × List Nat) : Bool :=
  match os.toArray[c.1]? with
  | some o => Nat.blt c.2.1 n && ((c.2.2.all fun t => cs.all fun c' => !Nat.beq c'.2.1 t || o.after.any fun e => Region.binds md e && Nat.beq e.on c'.1) && (o.after.all fun e => !Region.binds md e || (Nat.blt e.on c.1 && cs.any fun c' => Nat.beq c'.1 e.on)))
  | none => false
def calmB2 (md : Region.Mode) (os : List Oper) (cs : List (Nat × Nat × List Nat)) (j : Nat) : Bool := (cs.any fun c => Nat.beq c.1 j) || (cs.all fun c => (BackB md os.toArray c.1).contains j)
def calmB (n : Nat) (md : Region.Mode) (os : List Oper) (cs : List (Nat × Nat × List Nat)) : Bool := (cs.all fun c => calmB1 n md os cs c) && ((List.range os.length).all fun j => calmB2 md os cs j)
def nodB : List Nat → Bool
  | [] => true
  | a :: r => (r.all fun b => !Nat.beq a b) && nodB r
theorem nodB_of : ∀ {l : List Nat}, nodB l = true → l.Nodup
  | [], _ => List.nodup_nil
  | a :: r, h => by
    rw [nodB, Bool.and_eq_true] at h
    refine List.nodup_cons.2 ⟨fun hm => ?_, nodB_of h.2⟩
    have := List.all_eq_true.1 h.1 a hm
    simp at this
def AllC (p : Cm → Prop) : List Cm → Prop
  | [] => True
  | c :: r => p c ∧ AllC p r
theorem allC_of {p : Cm → Prop} : ∀ {cs : List Cm}, AllC p cs → ∀ c ∈ cs, p c
  | [], _, c, hc => by cases hc
  | x :: r, h, c, hc => by
    rcases List.mem_cons.1 hc with rfl | hc
    · exact h.1
    · exact allC_of h.2 c hc
def listedC (k : Nat) (is : List Nat) : Array Bool := ((List.range k).map fun i => is.any fun j => Nat.beq j i).toArray
section
variable {P : Program} {Q : Exit → Act → World → Prop} {n : Nat} {ds : List Deferred} {l : Sl} {md : Region.Mode} {os : List Oper} {cs : List Cm} {I : World → Prop}
theorem beqf {a b : Nat} (h : a ≠ b) : Nat.beq a b = false := by
  cases hx : Nat.beq a b with
  | false => rfl
  | true => exact absurd (Nat.eq_of_beq_eq_true hx) h
theorem lk_mem {d : Nat} {v : Value} : ∀ {l : Sl}, lk l d = some v → (d, v) ∈ l
  | [], h => by cases h
  | (k, u) :: r, h => by
    simp only [lk] at h
    cases hk : Nat.beq k d with
    | true => rw [hk] at h; simp at h; have := Nat.eq_of_beq_eq_true hk; subst this; subst h; exact List.mem_cons_self ..
    | false => rw [hk] at h; simp at h; exact List.mem_cons_of_mem _ (lk_mem h)
theorem lk_none {d : Nat} : ∀ {l : Sl}, (∀ p ∈ l, p.1 ≠ d) → lk l d = none
  | [], _ => rfl
  | (k, u) :: r, h => by
    simp only [lk]
    rw [beqf (h (k, u) (List.mem_cons_self ..))]
    exact lk_none fun p hp => h p (List.mem_cons_of_mem _ hp)
theorem lk_app {d : Nat} {r : Sl} : ∀ {l : Sl}, lk (l ++ r) d = (lk l d).orElse fun _ => lk r d
  | [] => rfl
  | (k, u) :: l => by
    simp only [List.cons_append, lk]
    cases Nat.beq k d with
    | true => rfl
    | false => exact lk_app
theorem agrees_of {l l' : Sl} (h : ∀ p ∈ l', lk l p.1 = some p.2) : Agrees l l' := by
  induction l' with
  | nil => trivial
  | cons p r ih => exact ⟨h p (List.mem_cons_self ..), ih fun q hq => h q (List.mem_cons_of_mem _ hq)⟩
theorem agrees_mem {l : Sl} : ∀ {l' : Sl}, Agrees l l' → ∀ p ∈ l', lk l p.1 = some p.2
  | [], _, p, hp => by cases hp
  | (k, u) :: r, h, p, hp => by
    rcases List.mem_cons.1 hp with rfl | hp
    · exact h.1
    · exact agrees_mem h.2 p hp
/-- How far a frame has come. -/
structure Come (os : List Oper) (cs : List Cm) (md : Region.Mode) (l lc : Sl) (listed : Array Bool) : Prop where
  size : listed.size = os.length
  only : ∀ j, listed.getD j false = true → ∃ c ∈ cs, c.i = j
  shut : ∀ c ∈ cs, listed.getD c.i true = false → ∀ b ∈ BackB md os.toArray c.i, listed.getD b true = false
  has : ∀ c ∈ cs, listed.getD c.i false = true → lk lc c.d = some c.v
  old : ∀ t, (∀ c ∈ cs, c.d ≠ t) → lk lc t = lk l t
theorem cnt_step {c : Cm} {p : Cm → Bool} : ∀ {cs : List Cm}, c ∈ cs → p c = true → (cs.map Cm.i).Nodup → (cs.filter fun x => p x && !Nat.beq x.i c.i).length + 1 = (cs.filter p).length
  | [], h, _, _ => by cases h
  | x :: cs, h, hp, hn => by
    rw [List.map_cons, List.nodup_cons] at hn
    rcases List.mem_cons.1 h with rfl | h
    · have e : cs.filter (fun x => p x && !Nat.beq x.i c.i) = cs.filter p := by
        refine List.filter_congr fun y hy => ?_
        rw [beqf (fun e => hn.1 (List.mem_map.2 ⟨y, hy, e⟩))]
        simp
      rw [List.filter_cons_of_neg (by simp), e, List.filter_cons_of_pos hp]
      rfl
    · have hne : Nat.beq x.i c.i = false := beqf (fun e => hn.1 (e ▸ List.mem_map.2 ⟨c, h, rfl⟩))
      have ih := cnt_step h hp hn.2
      by_cases hx : p x = true
      · rw [List.filter_cons_of_pos (by simp [hx, hne]), List.filter_cons_of_pos hx, List.length_cons, List.length_cons, ih]
      · rw [List.filter_cons_of_neg (by simp [hx]), List.filter_cons_of_neg hx]
        exact ih
theorem fin_has : ∀ {cs : List Cm} {c : Cm} {l : Sl}, c ∈ cs → (cs.map Cm.d).Nodup → lk (finL cs l) c.d = some c.v
  | [], _, _, h, _ => by cases h
  | c' :: r, c, l, h, hn => by
    rw [List.map_cons, List.nodup_cons] at hn
    simp only [finL, List.map_cons, List.cons_append, lk]
    rcases List.mem_cons.1 h with rfl | h
    · rw [Nat.beq_refl]; rfl
    · rw [beqf (fun e => hn.1 (List.mem_map.2 ⟨c, h, e.symm⟩))]
      exact fin_has h hn.2
theorem fin_old {t : Nat} : ∀ {cs : List Cm} {l : Sl}, (∀ c ∈ cs, c.d ≠ t) → lk (finL cs l) t = lk l t
  | [], _, _ => rfl
  | c' :: r, l, h => by
    simp only [finL, List.map_cons, List.cons_append, lk]
    rw [beqf (h c' (List.mem_cons_self ..))]
    exact fin_old fun c hc => h c (List.mem_cons_of_mem _ hc)
theorem ac_eq {σ : Nat → Value} {l1 l2 : Sl} (h : ∀ t, lk l1 t = lk l2 t) : Ac n σ ds l1 = Ac n σ ds l2 := by
  simp only [Ac]
  congr 1
  unfold fr
  apply Array.map_congr_left
  intro i _
  rw [h]
theorem inj_of {f : Cm → Nat} : ∀ {cs : List Cm}, (cs.map f).Nodup → ∀ {c q : Cm}, c ∈ cs → q ∈ cs → f c = f q → c = q
  | [], _, _, _, h, _, _ => by cases h
  | x :: r, hn, c, q, hc, hq, he => by
    rw [List.map_cons, List.nodup_cons] at hn
    rcases List.mem_cons.1 hc with h1 | h1
    · rcases List.mem_cons.1 hq with h2 | h2
      · rw [h1, h2]
      · exact absurd (List.mem_map.2 ⟨q, h2, by rw [← he, h1]⟩) hn.1
    · rcases List.mem_cons.1 hq with h2 | h2
      · exact absurd (List.mem_map.2 ⟨c, h1, by rw [he, h2]⟩) hn.1
      · exact inj_of hn.2 h1 h2 he
theorem T_calm0 (hb : calmB n md os (cs.map fun c => (c.i, c.d, c.L.map Prod.fst)) = true) (hL : ∀ c ∈ cs, Agrees (finL cs l) c.L)
    (hop : ∀ c ∈ cs, ∀ (o : Oper), os.toArray[c.i]? = some o → ∀ (σ : Nat → Value) (w : World), I w → wpL P os.toArray (Exit.then (fun a' w' => a' = Ac n σ ds ((c.d, c.v) :: c.L) ∧ I w') (CalmE Q)) [o] (Ac n σ ds c.L) w)
    {S : World → Prop} {qs : List Nat} (hS : ∀ w, S w) {fuel0 : Nat} (K : ∀ (σ : Nat → Value) (w : World), I w → wpAnyT P md os.toArray (CalmE Q) S qs fuel0 (listedC os.length (cs.map Cm.i)) (Ac n σ ds (finL cs l)) w) :
    ∀ (m : Nat) (listed : Array Bool) (lc : Sl) (σ : Nat → Value) (w : World), m = (cs.filter fun c => !listed.getD c.i true).length → Come os cs md l lc listed → I w → (cs.map Cm.i).Nodup → (cs.map Cm.d).Nodup → wpAnyT P md os.toArray (CalmE Q) S qs (fuel0 + m) listed (Ac n σ ds lc) w := by
  have hnum : ∀ c ∈ cs, ∃ o, os.toArray[c.i]? = some o ∧ c.i < os.length ∧ Nat.blt c.d n = true ∧ (∀ p ∈ c.L, ∀ c' ∈ cs, c'.d = p.1 → ∃ e ∈ o.after, Region.binds md e = true ∧ e.on = c'.i) ∧ (∀ e ∈ o.after, Region.binds md e = true → e.on < c.i ∧ ∃ c' ∈ cs, c'.i = e.on) := by
    intro c hc
    unfold calmB at hb
    have h2 := List.all_eq_true.1 (Bool.and_eq_true_iff.1 hb).1 _ (List.mem_map.2 ⟨c, hc, rfl⟩)
    unfold calmB1 at h2
    simp only at h2
    cases ho : os.toArray[c.i]? with
    | none => rw [ho] at h2; cases h2
    | some o =>
      rw [ho] at h2
      simp only at h2
      obtain ⟨g3, g45⟩ := Bool.and_eq_true_iff.1 h2
      obtain ⟨g4, g5⟩ := Bool.and_eq_true_iff.1 g45
      refine ⟨o, rfl, by have := (Array.getElem?_eq_some_iff.1 ho).1; simpa using this, g3, fun p hp c' hc' he => ?_, fun e he hbn => ?_⟩
      · have h3 := List.all_eq_true.1 (List.all_eq_true.1 g4 p.1 (List.mem_map.2 ⟨p, hp, rfl⟩)) _ (List.mem_map.2 ⟨c', hc', rfl⟩)
        rw [Bool.or_eq_true] at h3
        rcases h3 with h3 | h3
        · simp only [he, Nat.beq_refl] at h3; cases h3
        · obtain ⟨e, he', hx⟩ := Array.any_eq_true'.1 h3
          rw [Bool.and_eq_true] at hx
          exact ⟨e, he', hx.1, Nat.eq_of_beq_eq_true hx.2⟩
      · have h3 := Array.all_eq_true'.1 g5 e he
        rw [Bool.or_eq_true] at h3
        rcases h3 with h3 | h3
        · rw [hbn] at h3; cases h3
        · rw [Bool.and_eq_true] at h3
          obtain ⟨c', hc', hx⟩ := List.any_eq_true.1 h3.2
          obtain ⟨c'', hc'', rfl⟩ := List.mem_map.1 hc'
          exact ⟨by simpa [Nat.blt_eq] using h3.1, c'', hc'', Nat.eq_of_beq_eq_true hx⟩
  have hout : ∀ j, j < os.length → (∃ c ∈ cs, c.i = j) ∨ ∀ c ∈ cs, j ∈ BackB md os.toArray c.i := by
    intro j hj
    unfold calmB at hb
    have h1 := List.all_eq_true.1 (Bool.and_eq_true_iff.1 hb).2 j (by simpa using hj)
    unfold calmB2 at h1
    rw [Bool.or_eq_true] at h1
    rcases h1 with h1 | h1
    · obtain ⟨c', hc', hx⟩ := List.any_eq_true.1 h1
      obtain ⟨c'', hc'', rfl⟩ := List.mem_map.1 hc'
      exact .inl ⟨c'', hc'', Nat.eq_of_beq_eq_true hx⟩
    · refine .inr fun c hc => ?_
      have := List.all_eq_true.1 h1 _ (List.mem_map.2 ⟨c, hc, rfl⟩)
      simpa using this
  intro m
  induction m with
  | zero =>
    intro listed lc σ w hm hc hI hn1 hn2
    have hallF : ∀ c ∈ cs, listed.getD c.i false = true := by
      intro c hcm
      cases hx : listed.getD c.i true with
      | true =>
        obtain ⟨o, ho, hlt, _⟩ := hnum c hcm
        have h2 : c.i < listed.size := by rw [hc.size]; exact hlt
        simpa [Array.getD, h2] using hx
      | false =>
        have : c ∈ cs.filter fun c => !listed.getD c.i true := List.mem_filter.2 ⟨hcm, by simp [hx]⟩
        rw [List.eq_nil_of_length_eq_zero hm.symm] at this
        cases this
    have e1 : listed = listedC os.length (cs.map Cm.i) := by
      apply Array.ext
      · simp [listedC, hc.size]
      · intro i h1 h2
        have h3 : listed[i] = listed.getD i false := by simp [Array.getD, h1]
        rw [h3]
        simp only [listedC, List.getElem_toArray, List.getElem_map, List.getElem_range]
        cases hx : listed.getD i false with
        | true =>
          obtain ⟨c, hcm, rfl⟩ := hc.only i hx
          symm
          rw [List.any_eq_true]
          exact ⟨c.i, List.mem_map.2 ⟨c, hcm, rfl⟩, Nat.beq_refl _⟩
        | false =>
          symm
          rw [List.any_eq_false]
          intro j hj
          obtain ⟨c, hcm, rfl⟩ := List.mem_map.1 hj
          intro hbe
          have := Nat.eq_of_beq_eq_true hbe
          rw [← this, hallF c hcm] at hx
          cases hx
    have e3 : Ac n σ ds lc = Ac n σ ds (finL cs l) := ac_eq fun t => by
      by_cases hx : ∃ c ∈ cs, c.d = t
      · obtain ⟨c, hcm, rfl⟩ := hx
        rw [fin_has hcm hn2, hc.has c hcm (hallF c hcm)]
      · have hx' : ∀ c ∈ cs, c.d ≠ t := fun c hcm e => hx ⟨c, hcm, e⟩
        rw [fin_old hx', hc.old t hx']
    rw [e3, e1]
    exact K σ w hI
  | succ m ih =>
    intro listed lc σ w hm hc hI hn1 hn2
    -- the first that is not listed
    have hmin : ∀ k, (∃ c ∈ cs, c.i ≤ k ∧ listed.getD c.i true = false) → ∃ c ∈ cs, listed.getD c.i true = false ∧ ∀ c' ∈ cs, c'.i < c.i → listed.getD c'.i true = true := by
      intro k
      induction k with
      | zero =>
        rintro ⟨c, hcm, h0, hu⟩
        exact ⟨c, hcm, hu, fun c' _ h => by omega⟩
      | succ k ihk =>
        rintro ⟨c, hcm, h0, hu⟩
        by_cases hx : ∃ c' ∈ cs, c'.i < c.i ∧ listed.getD c'.i true = false
        · obtain ⟨c', hc', h1, h2⟩ := hx
          exact ihk ⟨c', hc', by omega, h2⟩
        · refine ⟨c, hcm, hu, fun c' hc' h => ?_⟩
          cases hy : listed.getD c'.i true with
          | true => rfl
          | false => exact absurd ⟨c', hc', h, hy⟩ hx
    obtain ⟨c1, hc1⟩ : ∃ c, c ∈ cs.filter fun c => !listed.getD c.i true := by
      cases hx : cs.filter fun c => !listed.getD c.i true with
      | nil => rw [hx] at hm; cases hm
      | cons c r => exact ⟨c, List.mem_cons_self ..⟩
    have hc1u : listed.getD c1.i true = false := by simpa using (List.mem_filter.1 hc1).2
    obtain ⟨c0, hc0m, hc0u, hc0f⟩ := hmin c1.i ⟨c1, (List.mem_filter.1 hc1).1, Nat.le_refl _, hc1u⟩
    have toF : ∀ c ∈ cs, listed.getD c.i true = true → listed.getD c.i false = true := by
      intro c hcm hx
      obtain ⟨o, ho, hlt, _⟩ := hnum c hcm
      have h2 : c.i < listed.size := by rw [hc.size]; exact hlt
      simpa [Array.getD, h2] using hx
    have hrdy : c0.i ∈ Region.ready md os.toArray listed := by
      obtain ⟨o, ho, hlt, hbl, hk, hed⟩ := hnum c0 hc0m
      refine mem_ready.2 ⟨hc0u, o, ho, fun e he hbn => ?_⟩
      obtain ⟨h1, c', hc', h2⟩ := hed e he hbn
      rw [← h2]
      exact toF c' hc' (hc0f c' hc' (by rw [h2]; exact h1))
    show wpAnyT P md os.toArray (CalmE Q) S qs (fuel0 + m + 1) listed (Ac n σ ds lc) w
    refine ⟨fun h0 => (by rw [h0] at hrdy; cases hrdy), fun j hj => ?_⟩
    obtain ⟨hun, o, ho, hall⟩ := mem_ready.1 hj
    have hjlt : j < os.length := by have := (Array.getElem?_eq_some_iff.1 ho).1; simpa using this
    obtain ⟨c, hcm, rfl⟩ : ∃ c ∈ cs, c.i = j := by
      by_cases hji : j = c0.i
      · exact ⟨c0, hc0m, hji.symm⟩
      · rcases hout j hjlt with h | h
        · exact h
        · exact absurd (h c0 hc0m) (need_of (qs := [c0.i]) (List.mem_singleton_self _) ho hji (hc.shut c0 hc0m hc0u) hall)
    obtain ⟨o', ho', hlt, hbl, hk, hed⟩ := hnum c hcm
    obtain rfl : o' = o := Option.some.inj (ho'.symm.trans ho)
    have hag : Agrees lc c.L := agrees_of fun p hp => by
      have h1 := agrees_mem (hL c hcm) p hp
      by_cases hx : ∃ c' ∈ cs, c'.d = p.1
      · obtain ⟨c', hc', he⟩ := hx
        obtain ⟨e, he1, he2, he3⟩ := hk p hp c' hc' he
        have h2 := hall e he1 he2
        rw [he3] at h2
        have h3 := hc.has c' hc' h2
        have h4 := fin_has (l := l) hc' hn2
        rw [he] at h3 h4
        rw [h3, ← h4]
        exact h1
      · have hx' : ∀ c ∈ cs, c.d ≠ p.1 := fun c hcm e => hx ⟨c, hcm, e⟩
        rw [hc.old _ hx', ← fin_old hx']
        exact h1
    have e1 : Ac n σ ds lc = Ac n (fun i => (lk lc i).getD (σ i)) ds c.L := Ac_frg hag
    have h5 := hop c hcm o' ho (fun i => (lk lc i).getD (σ i)) w hI
    rw [e1]
    refine wpOpG_mono (fun a' w' hh => ⟨fun _ => hS w', ?_⟩) (O_one ho h5)
    have hI' := hh.2
    rw [hh.1]
    rw [← Ac_put hbl, ← e1, Ac_put hbl]
    have hsz : c.i < listed.size := by rw [hc.size]; exact hlt
    refine ih _ _ σ w' ?_ ⟨by rw [Array.size_setIfInBounds]; exact hc.size, ?_, ?_, ?_, ?_⟩ hI' hn1 hn2
    · have h6 := cnt_step (p := fun c => !listed.getD c.i true) hcm (by simp [hun]) hn1
      have h7 : (cs.filter fun x => !(listed.setIfInBounds c.i true).getD x.i true) = cs.filter fun x => (!listed.getD x.i true) && !Nat.beq x.i c.i := by
        refine List.filter_congr fun x hx => ?_
        by_cases hxi : c.i = x.i
        · rw [← hxi, Nat.beq_refl]; simp [hsz]
        · rw [getD_set_ne true hxi, beqf (fun e => hxi e.symm)]; simp
      rw [h7]
      omega
    · intro k hk'
      by_cases hki : c.i = k
      · exact ⟨c, hcm, hki⟩
      · rw [getD_set_ne false hki] at hk'
        exact hc.only k hk'
    · intro q hq hqu b hbq
      have hqi : c.i ≠ q.i := fun e => by rw [← e] at hqu; simp [hsz] at hqu
      rw [getD_set_ne true hqi] at hqu
      have hnb := need_of (qs := [q.i]) (List.mem_singleton_self _) ho hqi (hc.shut q hq hqu) hall
      have hbi : c.i ≠ b := fun e => hnb (e ▸ hbq)
      rw [getD_set_ne true hbi]
      exact hc.shut q hq hqu b hbq
    · intro q hq hql
      simp only [lk]
      by_cases hqi : c.i = q.i
      · have hcq : c = q := inj_of hn1 hcm hq hqi
        rw [hcq, Nat.beq_refl]
        rfl
      · have hdd : c.d ≠ q.d := fun e => hqi (by rw [inj_of hn2 hcm hq e])
        rw [beqf hdd]
        rw [getD_set_ne false hqi] at hql
        exact hc.has q hq hql
    · intro t ht
      simp only [lk]
      rw [beqf (ht c hcm)]
      exact hc.old t ht
/-- All of these at once. -/
theorem T_calm {S : World → Prop} {qs : List Nat} {fuel : Nat} {listed : Array Bool} {σ : Nat → Value} {w : World} (cs : List Cm) (fuel0 : Nat) (I : World → Prop) (hf : fuel = fuel0 + cs.length) (hl : listed = Array.replicate os.length false)
    (hb : calmB n md os (cs.map fun c => (c.i, c.d, c.L.map Prod.fst)) = true) (hn : nodB (cs.map Cm.i) = true ∧ nodB (cs.map Cm.d) = true) (hS : ∀ w, S w) (hI : I w) (hL : AllC (fun c => Agrees (finL cs l) c.L) cs)
    (hop : AllC (fun c => ∃ o, os.toArray[c.i]? = some o ∧ ∀ (σ : Nat → Value) (w : World), I w → wpL P os.toArray (Exit.then (fun a' w' => a' = Ac n σ ds ((c.d, c.v) :: c.L) ∧ I w') (CalmE Q)) [o] (Ac n σ ds c.L) w) cs)
    (K : ∀ (σ : Nat → Value) (w : World), I w → wpAnyT P md os.toArray (CalmE Q) S qs fuel0 (listedC os.length (cs.map Cm.i)) (Ac n σ ds (finL cs l)) w) :
    wpAnyT P md os.toArray (CalmE Q) S qs fuel listed (Ac n σ ds l) w := by
  have hop' : ∀ c ∈ cs, ∀ (o : Oper), os.toArray[c.i]? = some o → ∀ (σ : Nat → Value) (w : World), I w → wpL P os.toArray (Exit.then (fun a' w' => a' = Ac n σ ds ((c.d, c.v) :: c.L) ∧ I w') (CalmE Q)) [o] (Ac n σ ds c.L) w := by
    intro c hc o ho
    obtain ⟨o', ho', h⟩ := allC_of hop c hc
    obtain rfl : o' = o := Option.some.inj (ho'.symm.trans ho)
    exact h
  subst hf
  subst hl
  have hlt : ∀ c ∈ cs, c.i < os.length := by
    intro c hc
    obtain ⟨o', ho', _⟩ := allC_of hop c hc
    have := (Array.getElem?_eq_some_iff.1 ho').1
    simpa using this
  refine T_calm0 hb (allC_of hL) hop' hS K cs.length _ l σ w ?_ ⟨by simp, ?_, ?_, ?_, fun _ _ => rfl⟩ hI (nodB_of hn.1) (nodB_of hn.2)
  · rw [List.filter_eq_self.2]
    intro c hc
    simp [hlt c hc]
  · intro j hj
    by_cases h : j < os.length
    · simp [h] at hj
    · simp [h] at hj
  · intro c hc _ b hb'
    rcases Nat.lt_or_ge b os.length with h | h
    · simp [h]
    · rcases back_pred hb' with h1 | ⟨o, h1, _⟩
      · subst h1; exact absurd (hlt c hc) (by omega)
      · rw [Array.getElem?_eq_none (by simpa using h)] at h1; cases h1
  · intro c hc h
    simp [hlt c hc] at h
end
end Go.Proofs.YtkjgjejkfjhcjaaDoor.Gw
