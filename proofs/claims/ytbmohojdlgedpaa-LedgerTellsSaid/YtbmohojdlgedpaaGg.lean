/-
  Step lemmas: maps whose keys are arrays or structs: made, looked up, entries laid and stored, struck while they are ranged over. They hold of every program.
-/
import Derived.Test.YtbmohojdlgedpaaGk
import Derived.WideKeyRuns
namespace Go.Proofs.Ytbmohojdlgedpaa.Gw
open Go.RowKit Go.MapKept Pl
set_option linter.unusedSectionVars false
set_option linter.unusedVariables false
set_option linter.unusedSimpArgs false
/-- What a key's type must allow. -/
structure KeyOk {K : Type} [DecidableEq K] (P : Program) (kt : TypeId) (eK : K → Value) : Prop where
  inj : ∀ a b, eK a = eK b → a = b
  chk : ∀ e k w, (Instr.checkKey e 10000 kt (eK k)).run P w = .ok () w
  eq : ∀ a b w, (Op.equal kt (eK a) (eK b)).run P w = .ok (decide (a = b)) w
  ask : ∀ k es w, (Instr.findKey kt (eK k) es).run P w = (Instr.findAsking kt (eK k) es 0).run P w
  bits : ∀ k, Instr.sameBits 10000 (eK k) (eK k) = true
section
variable {K V : Type} [DecidableEq K] {P : Program} {w w' : World} {g : Nat} {eK : K → Value} {eV : V → Value} {m : List (K × V)} {k : K} {v z : V} {kt et : TypeId}
def lkS (m : List (K × V)) (k : K) (z : V) : V := (alook m k).getD z
theorem alook_adel {m : List (K × V)} {k x : K} : alook (adel m k) x = if x = k then none else alook m x := by
  induction m with
  | nil => unfold adel; simp [alook]
  | cons p r ih =>
    obtain ⟨a, b⟩ := p
    unfold adel at ih ⊢
    by_cases h : a = k
    · rw [List.filter_cons_of_neg (by simp [h]), ih]
      by_cases hx : x = k
      · simp [hx]
      · rw [if_neg hx, if_neg hx]; unfold alook; rw [if_neg (by rw [h]; exact fun q => hx q.symm)]; cases r <;> rfl
    · rw [List.filter_cons_of_pos (by simp [h])]
      by_cases hx : x = k
      · rw [if_pos hx] at ih ⊢; unfold alook; rw [if_neg (by rw [hx]; exact h)]; exact ih
      · rw [if_neg hx] at ih ⊢; unfold alook; rw [ih]
theorem aput_same : ∀ {m : List (K × V)} {k : K} {v : V}, alook m k = some v → aput m k v = m
  | [], _, _, h => by cases h
  | (a, b) :: r, k, v, h => by
    unfold alook at h
    unfold aput
    split at h
    · rename_i e; injection h with h; rw [if_pos e, e, h]
    · rename_i e; rw [if_neg e, aput_same h]
theorem aput_aput : ∀ {m : List (K × V)} {k : K} {v u : V}, aput (aput m k u) k v = aput m k v
  | [], k, v, u => by unfold aput; unfold aput; simp [aput]
  | (a, b) :: r, k, v, u => by
    by_cases e : a = k
    · simp [aput, e]
    · simp [aput, e, aput_aput]
theorem lkS_aput {u : V} : lkS (aput m k u) k z = u := by unfold lkS; rw [alook_aput, if_pos rfl]; rfl
theorem adel_sub {k : K} : ∀ p ∈ adel m k, p ∈ m ∧ p.1 ≠ k := fun p hp => by unfold adel at hp; have := List.mem_filter.1 hp; exact ⟨this.1, by simpa using this.2⟩
/-- Block g is a map of just these entries. -/
def MapS (w : World) (g : Nat) (eK : K → Value) (eV : V → Value) (m : List (K × V)) : Prop :=
  ∃ es c, w.heap[g]? = some (.map es c) ∧ Stamped es c ∧ es.toList.map kv = m.map (fun p => (eK p.1, eV p.2))
/-- The same, and the entry of the key k has the stamp b. -/
def MapE (w : World) (g : Nat) (eK : K → Value) (eV : V → Value) (m : List (K × V)) (k : K) (b : Int) : Prop :=
  ∃ (es : Array MapEntry) (c j : Nat) (e : MapEntry), w.heap[g]? = some (.map es c) ∧ Stamped es c ∧ es.toList.map kv = m.map (fun p => (eK p.1, eV p.2)) ∧ es.toList[j]? = some e ∧ e.key = eK k ∧ (e.born : Int) = b
/-- Block r goes over the map in block g; these are left. -/
def IterS (w : World) (r g : Nat) (eK : K → Value) (eV : V → Value) (m left : List (K × V)) : Prop :=
  ∃ es c since seen, w.heap[g]? = some (.map es c) ∧ w.heap[r]? = some (.mapIter (some g) since seen c) ∧ Stamped es c ∧ es.toList.map kv = m.map (fun p => (eK p.1, eV p.2)) ∧ (∀ x ∈ es.toList, x.born < since) ∧ since ≤ c ∧ (leftOf es seen).toList.map kv = left.map (fun p => (eK p.1, eV p.2))
/-- The same, and it has just handed out p. -/
def CurS (w : World) (r g : Nat) (eK : K → Value) (eV : V → Value) (m left : List (K × V)) (p : K × V) : Prop :=
  ∃ (es : Array MapEntry) (c since : Nat) (seen : Array Nat) (e : MapEntry), w.heap[g]? = some (.map es c) ∧ w.heap[r]? = some (.mapIter (some g) since (seen.push e.born) c) ∧ Stamped es c ∧ es.toList.map kv = m.map (fun p => (eK p.1, eV p.2)) ∧ (∀ x ∈ es.toList, x.born < since) ∧ since ≤ c ∧ (leftOf es (seen.push e.born)).toList.map kv = left.map (fun p => (eK p.1, eV p.2)) ∧ e ∈ es.toList ∧ kv e = (eK p.1, eV p.2)
theorem MapE.map {b : Int} (h : MapE w g eK eV m k b) : MapS w g eK eV m := by obtain ⟨es, c, j, e, h1, h2, h3, _⟩ := h; exact ⟨es, c, h1, h2, h3⟩
theorem MapS.oth (h : MapS w g eK eV m) : Other w g := by
  obtain ⟨es, c, h1, _⟩ := h
  intro c' t fr q
  rw [h1] at q; cases q
theorem MapE.oth {b : Int} (h : MapE w g eK eV m k b) : Other w g := h.map.oth
theorem MapS.grown {row : Option Nat} (h : MapS w g eK eV m) (hg : w.grownBy w' row) (hr : some g ≠ row) : MapS w' g eK eV m := by
  obtain ⟨es, c, h1, h2⟩ := h
  exact ⟨es, c, (hg.block g (Array.getElem?_eq_some_iff.1 h1).1 hr).trans h1, h2⟩
theorem other_ne {T : Nat} {cs : List Value} {g' : Nat} (h : Other w g) (hb : Blk w g' T cs) : some g ≠ some g' := by rintro ⟨rfl⟩; exact h _ _ _ hb
theorem other_own {lo T sz n : Nat} {u : Value} {us : List Value} (h : Other w g) (ho : w.ownsRow lo T sz u n us) : some g ≠ u.ownBlock := by
  rcases ho with ⟨_, h2 | ⟨g', cap, cc, rfl, _, hh, _⟩⟩
  · intro e; rw [h2.1] at e; cases e
  · intro e
    have : g = g' := by simpa [Value.ownBlock] using e
    subst this
    exact h _ _ _ hh
theorem MapS.gb (h : MapS w g eK eV m) (hg : w.grownBy w' none) : MapS w' g eK eV m := h.grown hg (by simp)
theorem MapS.blk {g' T : Nat} {cs : List Value} (h : MapS w g eK eV m) (hb : Blk w g' T cs) (hg : w.grownBy w' (some g')) : MapS w' g eK eV m := h.grown hg (other_ne h.oth hb)
theorem MapS.own {lo T sz n : Nat} {u : Value} {us : List Value} (h : MapS w g eK eV m) (ho : w.ownsRow lo T sz u n us) (hg : w.grownBy w' u.ownBlock) : MapS w' g eK eV m := h.grown hg (other_own h.oth ho)
theorem MapE.grown {b : Int} {row : Option Nat} (h : MapE w g eK eV m k b) (hg : w.grownBy w' row) (hr : some g ≠ row) : MapE w' g eK eV m k b := by
  obtain ⟨es, c, j, e, h1, h2⟩ := h
  exact ⟨es, c, j, e, (hg.block g (Array.getElem?_eq_some_iff.1 h1).1 hr).trans h1, h2⟩
theorem MapE.gb {b : Int} (h : MapE w g eK eV m k b) (hg : w.grownBy w' none) : MapE w' g eK eV m k b := h.grown hg (by simp)
section
variable {r : Nat} {left : List (K × V)} {p : K × V}
theorem IterS.map (h : IterS w r g eK eV m left) : MapS w g eK eV m := by obtain ⟨es, c, since, seen, h1, h2, h3, h4, _⟩ := h; exact ⟨es, c, h1, h3, h4⟩
theorem IterS.oth (h : IterS w r g eK eV m left) : Other w r := by
  obtain ⟨es, c, since, seen, h1, h2, _⟩ := h
  intro c' t fr q
  rw [h2] at q; cases q
theorem CurS.iter (h : CurS w r g eK eV m left p) : IterS w r g eK eV m left := by obtain ⟨es, c, since, seen, e, h1, h2, h3, h4, h5, h6, h7, _⟩ := h; exact ⟨es, c, since, seen.push e.born, h1, h2, h3, h4, h5, h6, h7⟩
theorem CurS.oth (h : CurS w r g eK eV m left p) : Other w g := h.iter.map.oth
theorem IterS.grown {row : Option Nat} (h : IterS w r g eK eV m left) (hg : w.grownBy w' row) (h1 : some g ≠ row) (h2 : some r ≠ row) : IterS w' r g eK eV m left := by
  obtain ⟨es, c, since, seen, a, b, rest⟩ := h
  exact ⟨es, c, since, seen, (hg.block g (Array.getElem?_eq_some_iff.1 a).1 h1).trans a, (hg.block r (Array.getElem?_eq_some_iff.1 b).1 h2).trans b, rest⟩
theorem CurS.grown {row : Option Nat} (h : CurS w r g eK eV m left p) (hg : w.grownBy w' row) (h1 : some g ≠ row) (h2 : some r ≠ row) : CurS w' r g eK eV m left p := by
  obtain ⟨es, c, since, seen, e, a, b, rest⟩ := h
  exact ⟨es, c, since, seen, e, (hg.block g (Array.getElem?_eq_some_iff.1 a).1 h1).trans a, (hg.block r (Array.getElem?_eq_some_iff.1 b).1 h2).trans b, rest⟩
theorem IterS.gb (h : IterS w r g eK eV m left) (hg : w.grownBy w' none) : IterS w' r g eK eV m left := h.grown hg (by simp) (by simp)
theorem CurS.gb (h : CurS w r g eK eV m left p) (hg : w.grownBy w' none) : CurS w' r g eK eV m left p := h.grown hg (by simp) (by simp)
theorem IterS.blk {g' T : Nat} {cs : List Value} (h : IterS w r g eK eV m left) (hb : Blk w g' T cs) (hg : w.grownBy w' (some g')) : IterS w' r g eK eV m left := h.grown hg (other_ne h.map.oth hb) (other_ne h.oth hb)
theorem CurS.blk {g' T : Nat} {cs : List Value} (h : CurS w r g eK eV m left p) (hb : Blk w g' T cs) (hg : w.grownBy w' (some g')) : CurS w' r g eK eV m left p := h.grown hg (other_ne h.oth hb) (other_ne h.iter.oth hb)
theorem IterS.own {lo T sz n : Nat} {u : Value} {us : List Value} (h : IterS w r g eK eV m left) (ho : w.ownsRow lo T sz u n us) (hg : w.grownBy w' u.ownBlock) : IterS w' r g eK eV m left := h.grown hg (other_own h.map.oth ho) (other_own h.oth ho)
end
theorem ask_typed (hK : KeyOk P kt eK) : ∀ (es : List MapEntry) (m : List (K × V)) (i : Nat), es.map kv = m.map (fun p => (eK p.1, eV p.2)) →
    ((alook m k = none ∧ (Instr.findAsking kt (eK k) es i).run P w = .ok none w ∧ ∀ x ∈ es, x.key ≠ eK k) ∨ ∃ (v : V) (j : Nat) (e : MapEntry), alook m k = some v ∧ (Instr.findAsking kt (eK k) es i).run P w = .ok (some (i + j, eV v)) w ∧ es[j]? = some e ∧ e.key = eK k ∧ e.val = eV v)
  | [], [], i, _ => .inl ⟨rfl, by simp [Instr.findAsking], by simp⟩
  | [], _ :: _, _, h => by simp at h
  | _ :: _, [], _, h => by simp at h
  | e :: es, (k', v') :: r, i, h => by
    simp only [List.map_cons, List.cons.injEq, kv, Prod.mk.injEq] at h
    obtain ⟨⟨h1, h2⟩, h3⟩ := h
    have hq := hK.eq k k' w
    by_cases q : k' = k
    · subst q
      refine .inr ⟨v', 0, e, by simp [alook], ?_, rfl, h1, h2⟩
      rw [← h1] at hq
      rw [← h2]
      simp [Instr.findAsking, hq, ← h1]
    · have hq2 : (Op.equal kt (eK k) e.key).run P w = .ok false w := by rw [h1, hq, decide_eq_false (fun z => q z.symm)]
      rcases ask_typed hK es r (i + 1) (by simpa [kv] using h3) with ⟨a, b, c⟩ | ⟨v, j, e', a, b, c, d, f⟩
      · refine .inl ⟨by simp [alook, q, a], by simp [Instr.findAsking, hq2, b], ?_⟩
        intro x hx
        rcases List.mem_cons.1 hx with rfl | hx
        · rw [h1]; exact fun z => q (hK.inj _ _ z)
        · exact c x hx
      · exact .inr ⟨v, j + 1, e', by simp [alook, q, a], by rw [show i + (j + 1) = i + 1 + j by omega]; simp [Instr.findAsking, hq2, b], by simpa using c, d, f⟩
theorem find_S (hK : KeyOk P kt eK) (es : Array MapEntry) (m : List (K × V)) (h : es.toList.map kv = m.map (fun p => (eK p.1, eV p.2))) :
    ((alook m k = none ∧ (Instr.findKey kt (eK k) es.toList).run P w = .ok none w ∧ ∀ x ∈ es.toList, x.key ≠ eK k) ∨ ∃ (v : V) (j : Nat) (e : MapEntry), alook m k = some v ∧ (Instr.findKey kt (eK k) es.toList).run P w = .ok (some (j, eV v)) w ∧ es.toList[j]? = some e ∧ e.key = eK k ∧ e.val = eV v) := by
  rw [hK.ask]
  rcases ask_typed (k := k) (w := w) hK es.toList m 0 h with q | ⟨v, j, e, a, b, c⟩
  · exact .inl q
  · rw [Nat.zero_add] at b; exact .inr ⟨v, j, e, a, b, c⟩
theorem MapS.nodup (hk : ∀ a b, eK a = eK b → a = b) (h : MapS w g eK eV m) : (m.map (·.1)).Nodup := by
  obtain ⟨es, c, _, ⟨_, _, hn⟩, hm⟩ := h
  have e : es.toList.map (·.key) = (m.map (·.1)).map eK := by
    have := congrArg (List.map Prod.fst) hm
    simpa [kv, Function.comp_def] using this
  rw [e] at hn
  rw [List.Nodup, List.pairwise_map] at hn
  exact hn.imp (fun h q => h (by rw [q]))
theorem modify_congr {es : Array MapEntry} {j : Nat} {f h : MapEntry → MapEntry} (hh : ∀ e, es.toList[j]? = some e → f e = h e) : es.modify j f = es.modify j h := by
  apply Array.ext'
  rw [Array.toList_modify, Array.toList_modify]
  apply List.ext_getElem?
  intro i
  rw [List.getElem?_modify, List.getElem?_modify]
  by_cases hi : j = i
  · subst hi
    cases hc : es.toList[j]? with
    | none => simp
    | some e => simp [hh e hc]
  · simp [hi]
theorem modify_id {es : Array MapEntry} {j : Nat} {f : MapEntry → MapEntry} (hh : ∀ e, es.toList[j]? = some e → f e = e) : es.modify j f = es := by
  apply Array.ext'
  rw [Array.toList_modify]
  apply List.ext_getElem?
  intro i
  rw [List.getElem?_modify]
  by_cases hi : j = i
  · subst hi
    cases hc : es.toList[j]? with
    | none => simp
    | some e => simp [hh e hc]
  · simp [hi]
theorem stays {hK : KeyOk P kt eK} {es : Array MapEntry} {j : Nat} {e : MapEntry} (hj : es.toList[j]? = some e) (he : e.key = eK k) : (Instr.keyThatStays (((es[j]?).map (·.key)).getD (eK k)) (eK k)).run P w = .ok (eK k) w := by
  have hek : ((es[j]?).map (·.key)).getD (eK k) = eK k := by rw [← Array.getElem?_toList, hj]; simp [he]
  rw [hek]
  simp [Instr.keyThatStays, hK.bits k]
end
section
variable {K V : Type} [DecidableEq K] {P : Program} {Q : Exit → Act → World → Prop} {w w' : World} {ops : Array Oper} {rest : List Oper} {g d r : Nat} {eK : K → Value} {eV : V → Value} {m left : List (K × V)} {k : K} {v z : V}
variable {n : Nat} {σ : Nat → Value} {ds : List Deferred} {l : Sl} {ty : TypeId} {pos : String} {af : Array Edge} {dst : Option Nat} {gd : Option (Nat × Bool)} {t kt et : TypeId} {x y u : Operand}
theorem R_lookS (hK : KeyOk P kt eK) (hx : ev n l x = some (.map (some g))) (hy : ev n l y = some (eK k)) (ht : P.underlying t = some (.map kt et)) (hz : ∀ w, (zeroValue et).run P w = .ok (eV z) w) (h : MapS w g eK eV m) :
    (execOp (Ac n σ ds l).eval ⟨dst, .lookup t x y false, ty, pos, af, gd⟩).run P w = .ok (.value (eV (lkS m k z))) w := by
  simp only [execOp, ev_eval hx, ev_eval hy]
  refine v_run ?_
  obtain ⟨es, c, hb, _, hm⟩ := h
  unfold Instr.lookup lkS
  rcases find_S (k := k) (w := w) hK es m hm with ⟨p, q, _⟩ | ⟨v, j, e, p, q, _⟩
  · simp only [Sem.run_bind, run_underlying ht, Result.andThen_ok, MapKept.run_getObj_map hb, Sem.run_pure, hK.chk, q, hz, p]; rfl
  · simp only [Sem.run_bind, run_underlying ht, Result.andThen_ok, MapKept.run_getObj_map hb, Sem.run_pure, hK.chk, q, p]; rfl
theorem R_lookE {b : Int} (hK : KeyOk P kt eK) (hx : ev n l x = some (.map (some g))) (hy : ev n l y = some (eK k)) (ht : P.underlying t = some (.map kt et)) (hz : ∀ w, (zeroValue et).run P w = .ok (eV z) w) (h : MapE w g eK eV (aput m k v) k b) :
    (execOp (Ac n σ ds l).eval ⟨dst, .lookup t x y false, ty, pos, af, gd⟩).run P w = .ok (.value (eV v)) w := by
  have := R_lookS (n := n) (σ := σ) (ds := ds) (l := l) (ty := ty) (pos := pos) (af := af) (dst := dst) (gd := gd) hK hx hy ht hz h.map
  rwa [lkS_aput] at this
theorem L_makeMapS (eK : K → Value) (eV : V → Value) (hn : Nat.blt d n = true)
    (J : ∀ g w', g = w.heap.size → MapS w' g eK eV [] → w.grownBy w' none → w'.heap.size = g + 1 → wpL P ops Q rest (Ac n σ ds ((d, .map (some g)) :: l)) w') :
    wpL P ops Q (⟨some d, .makeMap t none, ty, pos, af, none⟩ :: rest) (Ac n σ ds l) w := by
  refine L_run (w' := w.alloc (.map #[] 0)) ?_ hn (J w.heap.size _ rfl ⟨#[], 0, heap_alloc_new w _, stamped_empty 0, rfl⟩ (gb_alloc w _) (by simp))
  simp only [execOp]
  exact v_run (run_makeMap t w)
theorem run_entS (hK : KeyOk P kt eK) (ht : P.underlying t = some (.map kt et)) (hz : ∀ w, (zeroValue et).run P w = .ok (eV z) w) (h : MapS w g eK eV m) :
    ∃ w' b u, (Instr.mapEntry t (.map (some g)) (eK k)).run P w = .ok (.tuple #[u, .int .i64 b]) w' ∧ MapE w' g eK eV (aput m k (lkS m k z)) k b ∧ w.grownBy w' (some g) ∧ w'.heap.size = w.heap.size := by
  obtain ⟨es, c, hb, hst, hm⟩ := h
  rcases find_S (k := k) (w := w) hK es m hm with ⟨p, q, hne⟩ | ⟨v', j, e, p, q, hj, hje, _⟩
  · refine ⟨{ w with heap := w.heap.setIfInBounds g (.map (es.push { key := eK k, val := eV z, born := c }) (c + 1)) }, c, eV z, ?_, ?_, gb_setObj, by simp⟩
    · unfold Instr.mapEntry
      simp only [Sem.run_bind, run_underlying ht, Result.andThen_ok, MapKept.run_getObj_map hb, hK.chk, q, hz, run_setObj_map _ hb, Sem.run_pure]
      rfl
    · refine ⟨_, _, es.size, { key := eK k, val := eV z, born := c }, (heap_set hb).1, stamped_push hst hne, ?_, by simp, rfl, rfl⟩
      unfold lkS
      rw [p, aput_new p, Array.toList_push, List.map_append, List.map_append, hm]; rfl
  · have hid : es.modify j (fun e => { e with key := eK k }) = es := modify_id (fun e' he' => by
      rw [hj] at he'
      injection he' with he'
      subst he'
      rw [← hje])
    refine ⟨{ w with heap := w.heap.setIfInBounds g (.map (es.modify j fun e => { e with key := eK k }) c) }, e.born, eV v', ?_, ?_, gb_setObj, by simp⟩
    · unfold Instr.mapEntry
      have hbn : ((es[j]?).map (fun x => (x.born : Int))).getD 0 = (e.born : Int) := by rw [← Array.getElem?_toList, hj]; rfl
      simp only [Sem.run_bind, run_underlying ht, Result.andThen_ok, MapKept.run_getObj_map hb, hK.chk, q, stays (hK := hK) hj hje, run_setObj_map _ hb, Sem.run_pure, hbn]
      rfl
    · have e1 : aput m k (lkS m k z) = m := by unfold lkS; rw [p]; exact aput_same p
      rw [e1, hid]
      exact ⟨es, c, j, e, (heap_set hb).1, hst, hm, hj, hje, rfl⟩
theorem L_mapEntryS (hK : KeyOk P kt eK) (hx : ev n l x = some (.map (some g))) (hy : ev n l y = some (eK k)) (ht : P.underlying t = some (.map kt et)) (hz : ∀ w, (zeroValue et).run P w = .ok (eV z) w) (h : MapS w g eK eV m) (hn : Nat.blt d n = true)
    (J : ∀ b uv w', MapE w' g eK eV (aput m k (lkS m k z)) k b → w.grownBy w' (some g) → w'.heap.size = w.heap.size → wpL P ops Q rest (Ac n σ ds ((d, .tuple #[uv, .int .i64 b]) :: l)) w') :
    wpL P ops Q (⟨some d, .mapEntry t x y, ty, pos, af, none⟩ :: rest) (Ac n σ ds l) w := by
  obtain ⟨w', b, uv, hr, h1, h2, h3⟩ := run_entS (k := k) hK ht hz h
  refine L_run (w' := w') ?_ hn (J b uv w' h1 h2 h3)
  simp only [execOp, ev_eval hx, ev_eval hy]
  exact v_run hr
theorem find_born2 : ∀ (es : List MapEntry) (j : Nat) (e : MapEntry), (es.map (·.born)).Nodup → es[j]? = some e → es.findIdx? (fun x => (x.born : Int) == (e.born : Int)) = some j
  | [], j, e, _, h => by simp at h
  | a :: es, 0, e, hn, h => by
    simp only [List.getElem?_cons_zero, Option.some.injEq] at h
    subst h
    simp [List.findIdx?_cons]
  | a :: es, j + 1, e, hn, h => by
    rw [List.map_cons, List.nodup_cons] at hn
    have h' : es[j]? = some e := by simpa using h
    have hne : a.born ≠ e.born := fun q => hn.1 (List.mem_map.2 ⟨e, List.mem_of_getElem? h', q.symm⟩)
    rw [List.findIdx?_cons, find_born2 es j e hn.2 h']
    have hne2 : ¬ ((a.born : Int) = (e.born : Int)) := by omega
    simp [hne2]
theorem L_entryStoreS {b : Int} {u2 : V} (hK : KeyOk P kt eK) (hx : ev n l x = some (.map (some g))) (hy : ev n l y = some (.int .i64 b)) (hv : ev n l u = some (eV v)) (h : MapE w g eK eV (aput m k u2) k b)
    (J : ∀ w', MapS w' g eK eV (aput m k v) → w.grownBy w' (some g) → w'.heap.size = w.heap.size → wpL P ops Q rest (Ac n σ ds l) w') :
    wpL P ops Q (⟨none, .entryStore t x y u, ty, pos, af, none⟩ :: rest) (Ac n σ ds l) w := by
  obtain ⟨es, c, j, e, hb, hst, hm, hj, hje, rfl⟩ := h
  have hf : es.findIdx? (fun x => (x.born : Int) == (e.born : Int)) = some j := by
    have h1 := find_born2 es.toList j e hst.2.1 hj
    obtain ⟨ls⟩ := es
    simpa using h1
  have e1 : es.modify j (fun e => { e with val := eV v }) = es.modify j (fun e => { e with key := eK k, val := eV v }) := modify_congr (fun e' he' => by
    rw [hj] at he'
    injection he' with he'
    subst he'
    rw [← hje])
  have hke : ∀ e' ∈ es.toList, es[j]? = some e' → ({ e' with key := eK k, val := eV v } : MapEntry).key = e'.key := by
    intro e' _ he'
    rw [← Array.getElem?_toList, hj] at he'
    injection he' with he'
    subst he'
    exact hje.symm
  refine L_run0 (w' := { w with heap := w.heap.setIfInBounds g (.map (es.modify j fun e => { e with val := eV v }) c) }) ?_ (J _ ⟨_, _, (heap_set hb).1, ?_, ?_⟩ gb_setObj (by simp))
  · simp only [execOp, ev_eval hx, ev_eval hy, ev_eval hv]
    refine u_run ?_
    unfold Instr.entryStore
    simp only [Sem.run_bind, MapKept.run_getObj_map hb, Result.andThen_ok, asInt, asIntOf, Sem.run_pure, hf, run_setObj_map _ hb]
  · rw [e1]; exact stamped_modify hst j _ (fun _ _ => rfl) hke
  · rw [e1, Array.toList_modify]
    have h1 := modify_typed (v := v) hK.inj es.toList (aput m k u2) j e hm hst.2.2 hj hje
    rw [aput_aput] at h1
    exact h1
theorem left_del {es : Array MapEntry} {seen : Array Nat} {j : Nat} {e : MapEntry} (hn : (es.toList.map (·.born)).Nodup) (hj : es.toList[j]? = some e) (hs : e.born ∈ seen.toList) : leftOf (es.eraseIdxIfInBounds j) seen = leftOf es seen := by
  have hlt : j < es.size := by simpa using (List.getElem?_eq_some_iff.1 hj).1
  have e1 : (es.eraseIdxIfInBounds j).toList = es.toList.eraseIdx j := by simp [Array.eraseIdxIfInBounds, hlt]
  apply Array.ext'
  unfold leftOf
  rw [Array.toList_filter, Array.toList_filter, e1]
  have hsp : es.toList = es.toList.take j ++ e :: es.toList.drop (j + 1) := by
    have h1 := (List.getElem?_eq_some_iff.1 hj)
    obtain ⟨h2, h3⟩ := h1
    rw [← h3, List.getElem_cons_drop, List.take_append_drop]
  rw [List.eraseIdx_eq_take_drop_succ]
  conv => rhs; rw [hsp]
  rw [List.filter_append, List.filter_append, List.filter_cons_of_neg (by simp [Array.contains_iff_mem, Array.mem_toList_iff.1 hs])]
theorem L_runV0 {op : Op} {u' : Value} (hr : (execOp (Ac n σ ds l).eval ⟨none, op, ty, pos, af, none⟩).run P w = .ok (.value u') w')
    (J : wpL P ops Q rest (Ac n σ ds l) w') : wpL P ops Q (⟨none, op, ty, pos, af, none⟩ :: rest) (Ac n σ ds l) w := by
  unfold wpL
  rw [if_pos (by simp [Region.wanted])]
  left
  unfold Oper.wp
  rw [hr]
  simp only [Oper.upon]
  exact J
theorem L_deleteS {p : K × V} (hK : KeyOk P kt eK) (hx : ev n l x = some (.map (some g))) (hy : ev n l y = some (eK p.1)) (ht : P.underlying t = some (.map kt et)) (h : CurS w r g eK eV m left p)
    (J : ∀ w', IterS w' r g eK eV (adel m p.1) left → w.grownBy w' (some g) → w'.heap.size = w.heap.size → wpL P ops Q rest (Ac n σ ds l) w') :
    wpL P ops Q (⟨none, .call ⟨.builtin .delete, #[x, y], #[t, kt]⟩, ty, pos, af, none⟩ :: rest) (Ac n σ ds l) w := by
  obtain ⟨es, c, since, seen, e0, hb, hr, hst, hm, hold, hsc, hl, hmem, hkv⟩ := h
  simp only [kv, Prod.mk.injEq] at hkv
  have hgr : r ≠ g := by rintro rfl; rw [hb] at hr; cases hr
  rcases find_S (k := p.1) (w := w) hK es m hm with ⟨p', q, hne⟩ | ⟨v', j, e, p', q, hj, hje, _⟩
  · exact absurd hkv.1 (hne e0 hmem)
  have hee : e = e0 := by
    obtain ⟨j2, hj2⟩ := List.mem_iff_getElem?.1 hmem
    have h1 : (es.toList.map (·.key))[j]? = some (eK p.1) := by rw [List.getElem?_map, hj]; simp [hje]
    have h2 : (es.toList.map (·.key))[j2]? = some (eK p.1) := by rw [List.getElem?_map, hj2]; simp [hkv.1]
    have hjl : j < (es.toList.map (·.key)).length := (List.getElem?_eq_some_iff.1 h1).1
    have : j = j2 := (List.getElem?_inj hjl hst.2.2).1 (h1.trans h2.symm)
    subst this
    rw [hj] at hj2; exact Option.some.inj hj2
  subst hee
  have hlt : j < es.size := by simpa using (List.getElem?_eq_some_iff.1 hj).1
  have e1 : (es.eraseIdxIfInBounds j).toList = es.toList.eraseIdx j := by simp [Array.eraseIdxIfInBounds, hlt]
  refine L_runV0 (w' := { w with heap := w.heap.setIfInBounds g (.map (es.eraseIdxIfInBounds j) c) }) (u' := .tuple #[]) ?_ (J _ ⟨_, c, since, seen.push e.born, (heap_set hb).1, ((heap_set hb).2 r hgr).trans hr, stamped_erase hst j, ?_, ?_, hsc, ?_⟩ gb_setObj (by simp))
  · have hdel : (Builtin.delete_ #[t, kt] ty #[.map (some g), eK p.1]).run P w = .ok (.tuple #[]) { w with heap := w.heap.setIfInBounds g (.map (es.eraseIdxIfInBounds j) c) } := by
      unfold Builtin.delete_
      simp [Sem.run_bind, run_underlying ht, Result.andThen_ok, MapKept.run_getObj_map hb, hK.chk, q, run_setObj_map _ hb]
    simp [execOp, resolve, invoke, builtin, ev_eval hx, ev_eval hy, hdel]
  · rw [e1]; exact erase_typed hK.inj es.toList m j e hm hst.2.2 hj hje
  · intro x hx
    rw [e1] at hx
    exact hold x ((List.eraseIdx_sublist _ _).subset hx)
  · rw [left_del hst.2.1 hj (by simp)]; exact hl
theorem L_rangeS (hx : ev n l x = some (.map (some g))) (ht : P.underlying t = some (.map kt et)) (h : MapS w g eK eV m) (hn : Nat.blt d n = true)
    (J : ∀ r w', r = w.heap.size → IterS w' r g eK eV m m → w.grownBy w' none → w'.heap.size = r + 1 → wpL P ops Q rest (Ac n σ ds ((d, .pointer (some ⟨r, 0, none⟩)) :: l)) w') :
    wpL P ops Q (⟨some d, .range t x, ty, pos, af, none⟩ :: rest) (Ac n σ ds l) w := by
  obtain ⟨es, c, hb, hst, hm⟩ := h
  have hlt := (Array.getElem?_eq_some_iff.1 hb).1
  have hl0 : leftOf es #[] = es := by unfold leftOf; rw [Array.filter_eq_self]; simp
  refine L_run (w' := w.alloc (.mapIter (some g) c #[] c)) ?_ hn (J w.heap.size _ rfl ⟨es, c, c, #[], (heap_alloc_old w _ hlt).trans hb, heap_alloc_new w _, hst, hm, hst.1, Nat.le_refl _, by rw [hl0]; exact hm⟩ (gb_alloc w _) (by simp))
  simp only [execOp, ev_eval hx]
  exact v_run (run_range_map w t kt et g es c ht hb)
theorem L_nextS (hx : ev n l x = some (.pointer (some ⟨r, 0, none⟩))) (h : IterS w r g eK eV m left) (hn : Nat.blt d n = true)
    (K0 : left = [] → wpL P ops Q rest (Ac n σ ds ((d, .tuple #[.bool false]) :: l)) w)
    (K1 : ∀ m1 p m2 w', left = m1 ++ p :: m2 → CurS w' r g eK eV m (m1 ++ m2) p → w.grownBy w' (some r) → w'.heap.size = w.heap.size → wpL P ops Q rest (Ac n σ ds ((d, .tuple #[.bool true, eK p.1, eV p.2]) :: l)) w') :
    wpL P ops Q (⟨some d, .next x false, ty, pos, af, none⟩ :: rest) (Ac n σ ds l) w := by
  obtain ⟨es, c, since, seen, hb, hr, hst, hm, hold, hsc, hl⟩ := h
  rcases run_next_at (P := P) w ty r g since c seen es c hr hb hold hsc with ⟨h0, hrun⟩ | ⟨e, he, w1, hw1, hrun⟩
  · have : left = [] := by
      have := congrArg List.length hl
      simp at this
      exact List.eq_nil_of_length_eq_zero (by omega)
    refine L_run ?_ hn (K0 this)
    simp only [execOp, ev_eval hx]
    exact v_run hrun
  · obtain ⟨l1, l2, hsp⟩ := List.append_of_mem he
    rw [hsp] at hl
    obtain ⟨m1, p, m2, rfl, e1, e2, e3⟩ := split_typed l1 l2 e left hl
    have hsub : (leftOf es seen).toList.Sublist es.toList := by unfold leftOf; rw [Array.toList_filter]; exact List.filter_sublist
    have hnb : ((l1 ++ e :: l2).map (·.born)).Nodup := by
      rw [← hsp]
      exact (hsub.map _).nodup hst.2.1
    have hkey : e.key = eK p.1 ∧ e.val = eV p.2 := by simpa [kv] using e2
    have hrw : w1.heap = w.heap := by rcases hw1 with rfl | rfl <;> rfl
    have hgr : g ≠ r := by rintro rfl; rw [hb] at hr; cases hr
    have hlt : r < w.heap.size := (Array.getElem?_eq_some_iff.1 hr).1
    have hrun' : (execOp (Ac n σ ds l).eval ⟨some d, .next x false, ty, pos, af, none⟩).run P w = .ok (.value (.tuple #[.bool true, eK p.1, eV p.2])) (ChangeMaps.setBlock w1 r (.mapIter (some g) since (seen.push e.born) c)) := by
      simp only [execOp, ev_eval hx]
      rw [← hkey.1, ← hkey.2]
      exact v_run hrun
    refine L_run hrun' hn (K1 m1 p m2 _ rfl ⟨es, c, since, seen, e, ?_, ?_, hst, hm, hold, hsc, ?_, hsub.subset he, e2⟩ ?_ ?_)
    · simp only [ChangeMaps.setBlock, hrw]; rw [Array.getElem?_setIfInBounds_ne (fun q => hgr q.symm)]; exact hb
    · simp only [ChangeMaps.setBlock, hrw]; simp [hlt]
    · rw [leftOf_push, hsp, filter_one hnb, List.map_append, List.map_append, e1, e3]
    · have hg1 : w.grownBy w1 none := by rcases hw1 with rfl | rfl; exact World.grownBy.refl _ _; exact ⟨rfl, rfl, rfl, Nat.le_refl _, fun _ _ _ => rfl⟩
      exact ⟨hg1.os, hg1.tape, hg1.output, by simp [ChangeMaps.setBlock, hrw], fun i hi hne => by
        have : r ≠ i := fun q => hne (by rw [q])
        simp only [ChangeMaps.setBlock, hrw]
        rw [Array.getElem?_setIfInBounds_ne this]⟩
    · simp [ChangeMaps.setBlock, hrw]
theorem R_entryS {p : K × V} (hx : ev n l x = some (.pointer (some ⟨r, 0, none⟩))) (h : CurS w r g eK eV m left p) {dst : Option Nat} {gd : Option (Nat × Bool)} :
    (execOp (Ac n σ ds l).eval ⟨dst, .entry x, ty, pos, af, gd⟩).run P w = .ok (.value (.tuple #[eK p.1, eV p.2])) w := by
  obtain ⟨es, c, since, seen, e, hb, hr, hst, hm, hold, hsc, hl, he, hkv⟩ := h
  have hkey : e.key = eK p.1 ∧ e.val = eV p.2 := by simpa [kv] using hkv
  simp only [execOp, ev_eval hx]
  rw [← hkey.1, ← hkey.2]
  exact v_run (run_entry_at w r g since seen es c e hr hb he hst.2.1)
end
end Go.Proofs.Ytbmohojdlgedpaa.Gw
