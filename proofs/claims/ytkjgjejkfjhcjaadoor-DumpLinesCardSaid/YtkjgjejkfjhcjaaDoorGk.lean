/-
  Step lemmas, tenth part: maps: made, looked up, written, struck, counted, ranged over. They hold of every program.
-/
import Derived.Test.YtkjgjejkfjhcjaaDoorGt
import Derived.Maps.RangeRun
import Derived.MapKept
import Derived.Test.YtkjgjejkfjhcjaaDoorVk
namespace Go.Proofs.YtkjgjejkfjhcjaaDoor.Gw
open Go.RowKit Go.MapKept Pl
set_option linter.unusedSectionVars false
set_option linter.unusedVariables false
set_option linter.unusedSimpArgs false
section
variable {P : Program} {w : World} {n : Nat} {σ : Nat → Value} {ds : List Deferred} {l : Sl} {ty : TypeId} {pos : String} {af : Array Edge} {dst : Option Nat} {gd : Option (Nat × Bool)} {t t' : TypeId} {x y : Operand} {s r : ByteArray}
theorem less_slt (s r : ByteArray) : Op.bytesLess s.toList r.toList = decide (slt s r) := by
  rw [Go.Proofs.bytesLess_eq]; unfold slt; simp only [ByteArray.toList_eq]
theorem slt_or (s r : ByteArray) : (decide (slt s r) || decide (s = r)) = decide (¬ slt r s) := by
  by_cases h : slt s r
  · have := slt_asymm h; simp [h, this]
  · by_cases e : s = r
    · subst e; simp [slt_irrefl]
    · have : slt r s := Decidable.not_not.1 fun q => e (slt_tri h q)
      simp [h, e, this]
theorem R_lssS (hx : ev n l x = some (.string s)) (hy : ev n l y = some (.string r)) :
    (execOp (Ac n σ ds l).eval ⟨dst, .binOp .lss t x y t', ty, pos, af, gd⟩).run P w = .ok (.value (.bool (decide (slt s r)))) w := by simp [execOp, ev_eval hx, ev_eval hy, eqGuard, binOp, Op.stringOp, less_slt]
theorem R_geqS (hx : ev n l x = some (.string s)) (hy : ev n l y = some (.string r)) :
    (execOp (Ac n σ ds l).eval ⟨dst, .binOp .geq t x y t', ty, pos, af, gd⟩).run P w = .ok (.value (.bool (decide (¬ slt s r)))) w := by simp [execOp, ev_eval hx, ev_eval hy, eqGuard, binOp, Op.stringOp, less_slt]
theorem R_leqS (hx : ev n l x = some (.string s)) (hy : ev n l y = some (.string r)) :
    (execOp (Ac n σ ds l).eval ⟨dst, .binOp .leq t x y t', ty, pos, af, gd⟩).run P w = .ok (.value (.bool (decide (¬ slt r s)))) w := by
  have h := slt_or s r
  simp [execOp, ev_eval hx, ev_eval hy, eqGuard, binOp, Op.stringOp, less_slt, toList_eq]
  simpa using h
theorem R_gtrS (hx : ev n l x = some (.string s)) (hy : ev n l y = some (.string r)) :
    (execOp (Ac n σ ds l).eval ⟨dst, .binOp .gtr t x y t', ty, pos, af, gd⟩).run P w = .ok (.value (.bool (decide (slt r s)))) w := by
  have h := slt_or s r
  simp [execOp, ev_eval hx, ev_eval hy, eqGuard, binOp, Op.stringOp, less_slt, toList_eq]
  by_cases q : slt r s
  · have h1 := slt_asymm q
    have h2 : s ≠ r := by rintro rfl; exact slt_irrefl _ q
    simp [q, h1, h2]
  · by_cases e : slt s r
    · simp [q, e]
    · have := slt_tri e q; subst this; simp [slt_irrefl]
end
/-! ### maps as lists of pairs -/
section
variable {K V : Type} [DecidableEq K]
def alook (m : List (K × V)) (k : K) : Option V := match m with | [] => none | (k', v) :: r => if k' = k then some v else alook r k
def aput (m : List (K × V)) (k : K) (v : V) : List (K × V) := match m with | [] => [(k, v)] | (k', v') :: r => if k' = k then (k, v) :: r else (k', v') :: aput r k v
def adel (m : List (K × V)) (k : K) : List (K × V) := m.filter fun p => decide (p.1 ≠ k)
def akeys (m : List (K × V)) : List K := m.map (·.1)
theorem alook_none {m : List (K × V)} {k : K} : alook m k = none ↔ k ∉ akeys m := by
  induction m with
  | nil => simp [alook, akeys]
  | cons p r ih =>
    obtain ⟨k', v⟩ := p
    unfold alook
    by_cases h : k' = k
    · simp [h, akeys]
    · rw [if_neg h, ih]; simp only [akeys, List.map_cons, List.mem_cons, not_or]; exact ⟨fun q => ⟨fun e => h e.symm, q⟩, And.right⟩
theorem alook_mem {m : List (K × V)} {k : K} {v : V} (h : alook m k = some v) : (k, v) ∈ m := by
  induction m with
  | nil => simp [alook] at h
  | cons p r ih =>
    obtain ⟨k', v'⟩ := p
    unfold alook at h
    by_cases e : k' = k
    · rw [if_pos e] at h; injection h with h; subst e; subst h; exact List.mem_cons_self
    · rw [if_neg e] at h; exact List.mem_cons_of_mem _ (ih h)
theorem alook_of_mem {m : List (K × V)} {k : K} {v : V} (hn : (akeys m).Nodup) (h : (k, v) ∈ m) : alook m k = some v := by
  induction m with
  | nil => simp at h
  | cons p r ih =>
    obtain ⟨k', v'⟩ := p
    unfold akeys at hn ih
    rw [List.map_cons, List.nodup_cons] at hn
    unfold alook
    rcases List.mem_cons.1 h with e | hm
    · injection e with e1 e2; subst e1; subst e2; rw [if_pos rfl]
    · rw [if_neg, ih hn.2 hm]
      rintro rfl
      exact hn.1 (List.mem_map.2 ⟨_, hm, rfl⟩)
theorem aput_keys_mem {m : List (K × V)} {k : K} {v : V} (x : K) : x ∈ akeys (aput m k v) ↔ x = k ∨ x ∈ akeys m := by
  induction m with
  | nil => simp [aput, akeys]
  | cons p r ih =>
    obtain ⟨k', v'⟩ := p
    unfold aput
    unfold akeys at ih ⊢
    by_cases e : k' = k
    · subst e; simp
    · rw [if_neg e]; simp only [List.map_cons, List.mem_cons, ih]
      constructor
      · rintro (h | h | h) <;> simp [h]
      · rintro (h | h | h) <;> simp [h]
theorem aput_nodup {m : List (K × V)} {k : K} {v : V} (hn : (akeys m).Nodup) : (akeys (aput m k v)).Nodup := by
  induction m with
  | nil => simp [aput, akeys]
  | cons p r ih =>
    obtain ⟨k', v'⟩ := p
    have hn' := hn
    unfold akeys at hn
    rw [List.map_cons, List.nodup_cons] at hn
    unfold aput
    by_cases e : k' = k
    · subst e; rw [if_pos rfl]; exact hn'
    · rw [if_neg e]
      unfold akeys
      rw [List.map_cons, List.nodup_cons]
      refine ⟨fun h => ?_, ih hn.2⟩
      rcases (aput_keys_mem k').1 h with h | h
      · exact e h
      · exact hn.1 h
theorem alook_aput {m : List (K × V)} {k x : K} {v : V} : alook (aput m k v) x = if x = k then some v else alook m x := by
  induction m with
  | nil =>
    simp only [aput, alook]
    by_cases e : k = x
    · rw [if_pos e, if_pos e.symm]
    · rw [if_neg e, if_neg (fun q => e q.symm)]
  | cons p r ih =>
    obtain ⟨k', v'⟩ := p
    unfold aput
    by_cases e : k' = k
    · subst e
      rw [if_pos rfl]
      unfold alook
      by_cases q : k' = x
      · rw [if_pos q, if_pos q.symm]
      · rw [if_neg q, if_neg (fun z => q z.symm), if_neg q]
    · rw [if_neg e]
      unfold alook
      by_cases q : k' = x
      · subst q; rw [if_pos rfl, if_pos rfl, if_neg e]
      · rw [if_neg q, if_neg q, ih]
end
abbrev strK (s : ByteArray) : Value := .string s
theorem strK_inj (a b : ByteArray) (h : strK a = strK b) : a = b := by injection h
abbrev natV (i : Nat) : Value := .int .i64 (i : Int)
theorem aput_mem {K V : Type} [DecidableEq K] {m : List (K × V)} {k : K} {v : V} (hn : (m.map (·.1)).Nodup) (p : K × V) : p ∈ aput m k v ↔ p = (k, v) ∨ (p.1 ≠ k ∧ p ∈ m) := by
  induction m with
  | nil => simp [aput]
  | cons q r ih =>
    obtain ⟨k', v'⟩ := q
    rw [List.map_cons, List.nodup_cons] at hn
    unfold aput
    by_cases e : k' = k
    · subst e
      rw [if_pos rfl, List.mem_cons, List.mem_cons]
      constructor
      · rintro (h | h)
        · exact .inl h
        · exact .inr ⟨fun q => hn.1 (List.mem_map.2 ⟨p, h, q⟩), .inr h⟩
      · rintro (h | ⟨h1, h2 | h2⟩)
        · exact .inl h
        · exact absurd (by rw [h2]) h1
        · exact .inr h2
    · rw [if_neg e, List.mem_cons, List.mem_cons, ih hn.2]
      constructor
      · rintro (h | h | ⟨h1, h2⟩)
        · exact .inr ⟨by rw [h]; exact e, .inl h⟩
        · exact .inl h
        · exact .inr ⟨h1, .inr h2⟩
      · rintro (h | ⟨h1, h2 | h2⟩)
        · exact .inr (.inl h)
        · exact .inl h2
        · exact .inr (.inr ⟨h1, h2⟩)
theorem aput_len {K V : Type} [DecidableEq K] (m : List (K × V)) (k : K) (v : V) : (aput m k v).length ≤ m.length + 1 := by
  induction m with
  | nil => simp [aput]
  | cons q r ih => obtain ⟨k', v'⟩ := q; unfold aput; split <;> simp_all
theorem lmap_step {l : List Opd} {k : Nat} {m : List (ByteArray × Nat)} (h : LMap l k m) (hk : k < l.length) : LMap l (k + 1) (aput m l[k].key k) := by
  obtain ⟨h1, h2, h3⟩ := h
  refine ⟨aput_nodup h1, ?_, fun p => ?_⟩
  · have := aput_len m l[k].key k; omega
  rw [aput_mem h1, h3]
  constructor
  · rintro (rfl | ⟨h4, h5, h6, h7⟩)
    · exact ⟨Nat.lt_succ_self _, by rw [lg_get hk], fun j hj hj2 => by omega⟩
    · refine ⟨by omega, h6, fun j hj hj2 => ?_⟩
      rcases Nat.lt_or_ge j k with q | q
      · exact h7 j hj q
      · have : j = k := by omega
        subst this
        rw [lg_get hk]
        exact fun z => h4 z.symm
  · rintro ⟨h4, h5, h6⟩
    rcases Nat.lt_or_ge p.2 k with q | q
    · refine .inr ⟨fun z => h6 k q (Nat.lt_succ_self _) (by rw [lg_get hk, z]), q, h5, fun j hj hj2 => h6 j hj (by omega)⟩
    · have : p.2 = k := by omega
      refine .inl (Prod.ext ?_ this)
      rw [← h5, this, lg_get hk]
/-! ### maps in memory -/
/-- Block g is a map that holds just these entries, whatever their order. -/
def MapF {K V : Type} (w : World) (g : Nat) (kd : TypeDesc) (eK : K → Value) (eV : V → Value) (m : List (K × V)) : Prop :=
  ∃ es c, w.heap[g]? = some (.map es c) ∧ Stamped es c ∧ (∀ x ∈ es.toList, IsKey kd x.key) ∧ es.toList.map (fun e => (e.key, e.val)) = m.map (fun p => (eK p.1, eV p.2))
section
variable {K V : Type} {w w' : World} {g : Nat} {kd : TypeDesc} {eK : K → Value} {eV : V → Value} {m : List (K × V)}
theorem MapF.lt (h : MapF w g kd eK eV m) : g < w.heap.size := by obtain ⟨es, c, h1, _⟩ := h; exact (Array.getElem?_eq_some_iff.1 h1).1
theorem MapF.grown {row : Option Nat} (h : MapF w g kd eK eV m) (hg : w.grownBy w' row) (hr : some g ≠ row) : MapF w' g kd eK eV m := by
  have hl := h.lt
  obtain ⟨es, c, h1, h2⟩ := h
  exact ⟨es, c, (hg.block g hl hr).trans h1, h2⟩
theorem MapF.gb (h : MapF w g kd eK eV m) (hg : w.grownBy w' none) : MapF w' g kd eK eV m := h.grown hg (by simp)
theorem MapF.blk {g' t : Nat} {cs : List Value} (h : MapF w g kd eK eV m) (hb : Blk w g' t cs) (hg : w.grownBy w' (some g')) : MapF w' g kd eK eV m := by
  refine h.grown hg ?_
  rintro e
  injection e with e
  subst e
  obtain ⟨es, c, h1, _⟩ := h
  unfold Blk at hb
  rw [h1] at hb; cases hb
theorem MapF.own {lo t sz n : Nat} {v : Value} {vs : List Value} (h : MapF w g kd eK eV m) (ho : w.ownsRow lo t sz v n vs) (hg : w.grownBy w' v.ownBlock) : MapF w' g kd eK eV m := by
  refine h.grown hg ?_
  intro e
  obtain ⟨es, c, h1, _⟩ := h
  rcases ho with ⟨_, h2 | ⟨g', cap, cc, rfl, _, hh, _⟩⟩
  · rw [h2.1] at e; cases e
  · have : g = g' := by simpa [Value.ownBlock] using e
    subst this
    rw [h1] at hh; cases hh
theorem MapF.nodup (hk : ∀ a b, eK a = eK b → a = b) (h : MapF w g kd eK eV m) : (m.map (·.1)).Nodup := by
  obtain ⟨es, c, h1, ⟨_, _, hn⟩, _, h3⟩ := h
  have e : es.toList.map (·.key) = m.map (fun p => eK p.1) := by
    have := congrArg (List.map (·.1)) h3
    simpa [List.map_map, Function.comp_def] using this
  rw [e] at hn
  have e2 : m.map (fun p => eK p.1) = (m.map (·.1)).map eK := by simp [List.map_map, Function.comp_def]
  rw [e2] at hn
  rw [List.Nodup, List.pairwise_map] at hn
  exact hn.imp (fun h q => h (by rw [q]))
end
/-- Block g holds no cells. -/
def Other (w : World) (g : Nat) : Prop := ∀ c t fr, w.heap[g]? ≠ some (.cells c t fr)
theorem MapF.oth {K V : Type} {w : World} {g : Nat} {kd : TypeDesc} {eK : K → Value} {eV : V → Value} {m : List (K × V)} (h : MapF w g kd eK eV m) : Other w g := by
  obtain ⟨es, c, h1, _⟩ := h
  intro c' t fr q
  rw [h1] at q; cases q
section
variable {w w' : World} {g : Nat}
theorem Blk.oth {g' t : Nat} {cs : List Value} (h : Blk w g' t cs) (ho : Other w g) (hg : w.grownBy w' (some g)) : Blk w' g' t cs := h.grown hg (by
  intro e; injection e with e; subst e; exact ho _ _ _ h)
theorem Sli.oth {t lo hi : Nat} {A : Option Addr} {vs : List Value} (h : Sli t lo hi w A vs) (ho : Other w g) (hg : w.grownBy w' (some g)) : Sli t lo hi w' A vs := by
  rcases h with h | ⟨g', off, c, fr, hA, h1, h2, ⟨t', h3, ht⟩, h4⟩
  · exact .inl h
  · refine .inr ⟨g', off, c, fr, hA, h1, h2, ⟨t', (hg.block g' (Array.getElem?_eq_some_iff.1 h3).1 ?_).trans h3, ht⟩, h4⟩
    intro e; injection e with e; subst e; exact ho _ _ _ h3
theorem own_oth {lo t sz n : Nat} {v : Value} {vs : List Value} (h : w.ownsRow lo t sz v n vs) (ho : Other w g) (hg : w.grownBy w' (some g)) : w'.ownsRow lo t sz v n vs := by
  refine World.ownsRow.kept h hg ?_
  rcases h with ⟨hl, h2 | ⟨g', cap, cc, rfl, _, hh, _⟩⟩
  · exact .inl (by rw [h2.1]; rfl)
  · refine .inr ?_
    intro e
    have : g' = g := by simpa [Value.ownBlock] using e
    subst this
    exact ho _ _ _ hh
end
section
variable {K V : Type} [DecidableEq K] {P : Program} {w w' : World} {g : Nat} {kd : TypeDesc} {eK : K → Value} {eV : V → Value} {m : List (K × V)} {k : K}
theorem find_typed (hk : ∀ a b, eK a = eK b → a = b) : ∀ (es : List MapEntry) (m : List (K × V)), es.map (fun e => (e.key, e.val)) = m.map (fun p => (eK p.1, eV p.2)) →
    ((alook m k = none ∧ ∀ x ∈ es, x.key ≠ eK k) ∨ ∃ (v : V) (j : Nat) (e : MapEntry), alook m k = some v ∧ es[j]? = some e ∧ e.key = eK k ∧ e.val = eV v)
  | [], [], _ => .inl ⟨rfl, by simp⟩
  | [], _ :: _, h => by simp at h
  | _ :: _, [], h => by simp at h
  | e :: es, (k', v') :: r, h => by
    simp only [List.map_cons, List.cons.injEq, Prod.mk.injEq] at h
    obtain ⟨⟨h1, h2⟩, h3⟩ := h
    by_cases q : k' = k
    · subst q
      exact .inr ⟨v', 0, e, by simp [alook], rfl, h1, h2⟩
    · rcases find_typed hk es r h3 with ⟨a, b⟩ | ⟨v, j, e', a, b, c, d⟩
      · refine .inl ⟨by simp [alook, q, a], ?_⟩
        intro x hx
        rcases List.mem_cons.1 hx with rfl | hx
        · rw [h1]; exact fun z => q (hk _ _ z)
        · exact b x hx
      · exact .inr ⟨v, j + 1, e', by simp [alook, q, a], by simpa using b, c, d⟩
theorem findNow_typed (hk : ∀ a b, eK a = eK b → a = b) (hi : IsKey kd (eK k)) {es : Array MapEntry} (h : es.toList.map (fun e => (e.key, e.val)) = m.map (fun p => (eK p.1, eV p.2))) (hx : ∀ x ∈ es.toList, IsKey kd x.key) (hn : (es.toList.map (·.key)).Nodup) :
    (alook m k = none ∧ Instr.findNow kd (eK k) es.toList 0 = some none ∧ ∀ x ∈ es.toList, x.key ≠ eK k) ∨ ∃ (v : V) (j : Nat) (e : MapEntry), alook m k = some v ∧ Instr.findNow kd (eK k) es.toList 0 = some (some (j, eV v)) ∧ es.toList[j]? = some e ∧ e.key = eK k ∧ e.val = eV v := by
  rcases findNow_spec hi es.toList 0 hx with ⟨a, b⟩ | ⟨j, e, a, b, c⟩
  · rcases find_typed (k := k) hk es.toList m h with ⟨p, q⟩ | ⟨v, j, e, p, q, r, s⟩
    · exact .inl ⟨p, a, q⟩
    · exact absurd r (b e (List.mem_of_getElem? q))
  · rcases find_typed (k := k) hk es.toList m h with ⟨p, q⟩ | ⟨v, j', e', p, q, r, s⟩
    · exact absurd c (q e (List.mem_of_getElem? b))
    · have he : e = e' := by
        have h1 : (es.toList.map (·.key))[j]? = some (eK k) := by rw [List.getElem?_map, b]; simp [c]
        have h2 : (es.toList.map (·.key))[j']? = some (eK k) := by rw [List.getElem?_map, q]; simp [r]
        have hj : j < (es.toList.map (·.key)).length := (List.getElem?_eq_some_iff.1 h1).1
        have : j = j' := (List.getElem?_inj hj hn).1 (h1.trans h2.symm)
        subst this
        rw [b] at q; exact Option.some.inj q
      subst he
      exact .inr ⟨v, j, e, p, by rw [a, Nat.zero_add, s], b, c, s⟩
variable {n : Nat} {σ : Nat → Value} {ds : List Deferred} {l : Sl} {ty : TypeId} {pos : String} {af : Array Edge} {dst : Option Nat} {gd : Option (Nat × Bool)} {t kt et : TypeId} {x y : Operand} {z : Value}
/-- what a look-up hands back -/
def looked (ok : Bool) (eV : V → Value) (z : Value) (o : Option V) : Value := if ok then .tuple #[(o.map eV).getD z, .bool o.isSome] else (o.map eV).getD z
theorem R_lookup {ok : Bool} (hx : ev n l x = some (.map (some g))) (hy : ev n l y = some (eK k)) (ht : P.underlying t = some (.map kt et)) (hd : P.underlying kt = some kd) (hz : ∀ w, (zeroValue et).run P w = .ok z w)
    (hk : ∀ a b, eK a = eK b → a = b) (hi : IsKey kd (eK k)) (h : MapF w g kd eK eV m) :
    (execOp (Ac n σ ds l).eval ⟨dst, .lookup t x y ok, ty, pos, af, gd⟩).run P w = .ok (.value (looked ok eV z (alook m k))) w := by
  simp only [execOp, ev_eval hx, ev_eval hy]
  refine v_run ?_
  obtain ⟨es, c, hb, ⟨_, _, hn⟩, hx', hm⟩ := h
  unfold Instr.lookup looked
  rcases findNow_typed (k := k) hk hi hm hx' hn with ⟨p, q, _⟩ | ⟨v, j, e, p, q, _⟩
  · simp only [Sem.run_bind, run_underlying ht, Result.andThen_ok, MapKept.run_getObj_map hb, Sem.run_pure, run_checkKey hd hi, run_findKey hd q, hz, p]
    cases ok <;> rfl
  · simp only [Sem.run_bind, run_underlying ht, Result.andThen_ok, MapKept.run_getObj_map hb, Sem.run_pure, run_checkKey hd hi, run_findKey hd q, p]
    cases ok <;> rfl
end
section
variable {K V : Type} [DecidableEq K]
theorem aput_new {m : List (K × V)} {k : K} {v : V} (h : alook m k = none) : aput m k v = m ++ [(k, v)] := by
  induction m with
  | nil => rfl
  | cons p r ih =>
    obtain ⟨k', v'⟩ := p
    unfold alook at h
    by_cases e : k' = k
    · rw [if_pos e] at h; cases h
    · rw [if_neg e] at h; unfold aput; rw [if_neg e, ih h]; rfl
theorem adel_new {m : List (K × V)} {k : K} (h : alook m k = none) : adel m k = m := by
  unfold adel
  rw [List.filter_eq_self]
  intro p hp
  have : k ∉ akeys m := alook_none.1 h
  simp only [decide_eq_true_eq]
  rintro rfl
  exact this (List.mem_map.2 ⟨p, hp, rfl⟩)
variable {kd : TypeDesc} {eK : K → Value} {eV : V → Value}
abbrev kv (e : MapEntry) : Value × Value := (e.key, e.val)
theorem modify_typed (hk : ∀ a b, eK a = eK b → a = b) {k : K} {v : V} : ∀ (es : List MapEntry) (m : List (K × V)) (j : Nat) (e : MapEntry), es.map kv = m.map (fun p => (eK p.1, eV p.2)) → (es.map (·.key)).Nodup → es[j]? = some e → e.key = eK k →
    (es.modify j (fun e => { e with key := eK k, val := eV v })).map kv = (aput m k v).map (fun p => (eK p.1, eV p.2))
  | [], _, _, _, _, _, h, _ => by simp at h
  | _ :: _, [], _, _, h, _, _, _ => by simp at h
  | e0 :: es, (k', v') :: r, 0, e, h, hn, hj, he => by
    simp only [List.getElem?_cons_zero, Option.some.injEq] at hj
    subst hj
    simp only [List.map_cons, List.cons.injEq, kv, Prod.mk.injEq] at h
    have : k' = k := hk _ _ (h.1.1.symm.trans he)
    subst this
    unfold aput
    rw [if_pos rfl]
    simp [kv, h.2]
  | e0 :: es, (k', v') :: r, j + 1, e, h, hn, hj, he => by
    simp only [List.getElem?_cons_succ] at hj
    simp only [List.map_cons, List.cons.injEq, kv, Prod.mk.injEq] at h
    rw [List.map_cons, List.nodup_cons] at hn
    have : k' ≠ k := by
      rintro rfl
      exact hn.1 (List.mem_map.2 ⟨e, List.mem_of_getElem? hj, by rw [he, h.1.1]⟩)
    unfold aput
    rw [if_neg this]
    have := modify_typed hk (k := k) (v := v) es r j e h.2 hn.2 hj he
    simp only [List.modify_succ_cons, List.map_cons, kv, h.1.1, h.1.2]
    rw [← this]
theorem erase_typed (hk : ∀ a b, eK a = eK b → a = b) {k : K} : ∀ (es : List MapEntry) (m : List (K × V)) (j : Nat) (e : MapEntry), es.map kv = m.map (fun p => (eK p.1, eV p.2)) → (es.map (·.key)).Nodup → es[j]? = some e → e.key = eK k →
    (es.eraseIdx j).map kv = (adel m k).map (fun p => (eK p.1, eV p.2))
  | [], _, _, _, _, _, h, _ => by simp at h
  | _ :: _, [], _, _, h, _, _, _ => by simp at h
  | e0 :: es, (k', v') :: r, 0, e, h, hn, hj, he => by
    simp only [List.getElem?_cons_zero, Option.some.injEq] at hj
    subst hj
    simp only [List.map_cons, List.cons.injEq, kv, Prod.mk.injEq] at h
    have hkk : k' = k := hk _ _ (h.1.1.symm.trans he)
    subst hkk
    rw [List.map_cons, List.nodup_cons] at hn
    have hf : adel ((k', v') :: r) k' = r := by
      unfold adel
      rw [List.filter_cons_of_neg (by simp), List.filter_eq_self]
      intro p hp
      simp only [decide_eq_true_eq]
      intro q
      have h1 : (eK p.1, eV p.2) ∈ es.map kv := by rw [h.2]; exact List.mem_map.2 ⟨p, hp, rfl⟩
      obtain ⟨x, hx, hxe⟩ := List.mem_map.1 h1
      refine hn.1 (List.mem_map.2 ⟨x, hx, ?_⟩)
      have := congrArg Prod.fst hxe
      simp only [kv] at this
      rw [this, q, he]
    rw [hf]
    simpa [kv] using h.2
  | e0 :: es, (k', v') :: r, j + 1, e, h, hn, hj, he => by
    simp only [List.getElem?_cons_succ] at hj
    simp only [List.map_cons, List.cons.injEq, kv, Prod.mk.injEq] at h
    rw [List.map_cons, List.nodup_cons] at hn
    have hne : k' ≠ k := by
      rintro rfl
      exact hn.1 (List.mem_map.2 ⟨e, List.mem_of_getElem? hj, by rw [he, h.1.1]⟩)
    have := erase_typed hk (k := k) es r j e h.2 hn.2 hj he
    unfold adel at this ⊢
    rw [List.filter_cons_of_pos (by simp [hne])]
    simp only [List.eraseIdx_cons_succ, List.map_cons, kv, h.1.1, h.1.2]
    rw [← this]
theorem sameBits_self {v : Value} {n : Nat} (h : IsKey kd v) : Instr.sameBits n v v = true := by
  cases kd <;> cases v <;> simp_all [IsKey, Instr.sameBits]
  exact (bytes_beq _ _).2 rfl
end
section
variable {K V : Type} [DecidableEq K] {P : Program} {Q : Exit → Act → World → Prop} {w w' : World} {ops : Array Oper} {rest : List Oper} {g d : Nat} {kd : TypeDesc} {eK : K → Value} {eV : V → Value} {m : List (K × V)} {k : K} {v : V}
variable {n : Nat} {σ : Nat → Value} {ds : List Deferred} {l : Sl} {ty : TypeId} {pos : String} {af : Array Edge} {dst : Option Nat} {gd : Option (Nat × Bool)} {t kt et : TypeId} {x y z : Operand}
theorem gb_setObj {o : Obj} : w.grownBy { w with heap := w.heap.setIfInBounds g o } (some g) :=
  ⟨rfl, rfl, rfl, by simp, fun i hi hne => by
    have : g ≠ i := fun e => hne (by rw [e])
    simp [this]⟩
theorem L_makeMap (kd : TypeDesc) (eK : K → Value) (eV : V → Value) (hn : Nat.blt d n = true)
    (J : ∀ g w', g = w.heap.size → MapF w' g kd eK eV [] → w.grownBy w' none → w'.heap.size = g + 1 → wpL P ops Q rest (Ac n σ ds ((d, .map (some g)) :: l)) w') :
    wpL P ops Q (⟨some d, .makeMap t none, ty, pos, af, none⟩ :: rest) (Ac n σ ds l) w := by
  refine L_run (w' := w.alloc (.map #[] 0)) ?_ hn (J w.heap.size _ rfl ⟨#[], 0, heap_alloc_new w _, stamped_empty 0, by simp, rfl⟩ (gb_alloc w _) (by simp))
  simp only [execOp]
  exact v_run (run_makeMap t w)
theorem run_put (ht : P.underlying t = some (.map kt et)) (hd : P.underlying kt = some kd) (hk : ∀ a b, eK a = eK b → a = b) (hi : IsKey kd (eK k)) (h : MapF w g kd eK eV m) :
    ∃ w', (Instr.mapUpdate t (.map (some g)) (eK k) (eV v)).run P w = .ok () w' ∧ MapF w' g kd eK eV (aput m k v) ∧ w.grownBy w' (some g) ∧ w'.heap.size = w.heap.size := by
  obtain ⟨es, c, hb, hst, hx', hm⟩ := h
  have hn := hst.2.2
  rcases findNow_typed (k := k) hk hi hm hx' hn with ⟨p, q, hne⟩ | ⟨v', j, e, p, q, hj, hje, _⟩
  · refine ⟨{ w with heap := w.heap.setIfInBounds g (.map (es.push { key := eK k, val := eV v, born := c }) (c + 1)) }, ?_, ?_, gb_setObj, by simp⟩
    · unfold Instr.mapUpdate
      simp only [Sem.run_bind, run_underlying ht, Result.andThen_ok, MapKept.run_getObj_map hb, run_checkKey hd hi, run_findKey hd q, run_setObj_map _ hb]
    · refine ⟨_, _, (heap_set hb).1, stamped_push hst hne, ?_, ?_⟩
      · intro x hx
        simp only [Array.toList_push, List.mem_append, List.mem_singleton] at hx
        rcases hx with hx | rfl
        · exact hx' x hx
        · exact hi
      · rw [aput_new p, Array.toList_push, List.map_append, List.map_append, hm]; rfl
  · have hek : ((es[j]?).map (·.key)).getD (eK k) = eK k := by
      rw [← Array.getElem?_toList, hj]; simp [hje]
    have hstay : (Instr.keyThatStays (((es[j]?).map (·.key)).getD (eK k)) (eK k)).run P w = .ok (eK k) w := by
      rw [hek]; simp [Instr.keyThatStays, sameBits_self hi]
    refine ⟨{ w with heap := w.heap.setIfInBounds g (.map (es.modify j fun e => { e with key := eK k, val := eV v }) c) }, ?_, ?_, gb_setObj, by simp⟩
    · unfold Instr.mapUpdate
      simp only [Sem.run_bind, run_underlying ht, Result.andThen_ok, MapKept.run_getObj_map hb, run_checkKey hd hi, run_findKey hd q, hstay, run_setObj_map _ hb]
    · have hke : ∀ e', es[j]? = some e' → ({ e' with key := eK k, val := eV v } : MapEntry).key = e'.key := by
        intro e' he'
        rw [← Array.getElem?_toList, hj] at he'
        injection he' with he'
        subst he'
        exact hje.symm
      refine ⟨_, _, (heap_set hb).1, stamped_modify hst j _ (fun _ _ => rfl) (fun e' _ he' => hke e' he'), isKey_modify hx' j _ hke, ?_⟩
      rw [Array.toList_modify]
      exact modify_typed hk es.toList m j e hm hn hj hje
theorem L_mapUpdate (hx : ev n l x = some (.map (some g))) (hy : ev n l y = some (eK k)) (hz : ev n l z = some (eV v)) (ht : P.underlying t = some (.map kt et)) (hd : P.underlying kt = some kd) (hk : ∀ a b, eK a = eK b → a = b) (hi : IsKey kd (eK k)) (h : MapF w g kd eK eV m)
    (J : ∀ w', MapF w' g kd eK eV (aput m k v) → w.grownBy w' (some g) → w'.heap.size = w.heap.size → wpL P ops Q rest (Ac n σ ds l) w') :
    wpL P ops Q (⟨none, .mapUpdate t x y z, ty, pos, af, none⟩ :: rest) (Ac n σ ds l) w := by
  obtain ⟨w', hr, h1, h2, h3⟩ := run_put (v := v) ht hd hk hi h
  refine L_run0 (w' := w') ?_ (J w' h1 h2 h3)
  simp only [execOp, ev_eval hx, ev_eval hy, ev_eval hz]
  exact u_run hr
theorem run_del (ht : P.underlying t = some (.map kt et)) (hd : P.underlying kt = some kd) (hk : ∀ a b, eK a = eK b → a = b) (hi : IsKey kd (eK k)) (h : MapF w g kd eK eV m) :
    ∃ w', (Builtin.delete_ #[t, kt] ty #[.map (some g), eK k]).run P w = .ok (.tuple #[]) w' ∧ MapF w' g kd eK eV (adel m k) ∧ w.grownBy w' (some g) ∧ w'.heap.size = w.heap.size := by
  obtain ⟨es, c, hb, hst, hx', hm⟩ := h
  have hn := hst.2.2
  rcases findNow_typed (k := k) hk hi hm hx' hn with ⟨p, q, hne⟩ | ⟨v', j, e, p, q, hj, hje, _⟩
  · refine ⟨{ w with heap := w.heap.setIfInBounds g (.map es c) }, ?_, ?_, gb_setObj, by simp⟩
    · unfold Builtin.delete_
      simp [Sem.run_bind, run_underlying ht, Result.andThen_ok, MapKept.run_getObj_map hb, run_checkKey hd hi, run_findKey hd q, run_setObj_map _ hb]
    · refine ⟨_, _, (heap_set hb).1, hst, hx', ?_⟩
      rw [adel_new p]; exact hm
  · refine ⟨{ w with heap := w.heap.setIfInBounds g (.map (es.eraseIdxIfInBounds j) c) }, ?_, ?_, gb_setObj, by simp⟩
    · unfold Builtin.delete_
      simp [Sem.run_bind, run_underlying ht, Result.andThen_ok, MapKept.run_getObj_map hb, run_checkKey hd hi, run_findKey hd q, run_setObj_map _ hb]
    · have hlt : j < es.size := by simpa using (List.getElem?_eq_some_iff.1 hj).1
      have e1 : (es.eraseIdxIfInBounds j).toList = es.toList.eraseIdx j := by simp [Array.eraseIdxIfInBounds, hlt]
      refine ⟨_, _, (heap_set hb).1, stamped_erase hst j, ?_, ?_⟩
      · intro x hx
        rw [e1] at hx
        exact hx' x ((List.eraseIdx_sublist _ _).subset hx)
      · rw [e1]; exact erase_typed hk es.toList m j e hm hn hj hje
theorem L_delete (hx : ev n l x = some (.map (some g))) (hy : ev n l y = some (eK k)) (ht : P.underlying t = some (.map kt et)) (hd : P.underlying kt = some kd) (hk : ∀ a b, eK a = eK b → a = b) (hi : IsKey kd (eK k)) (h : MapF w g kd eK eV m) (hn : Nat.blt d n = true)
    (J : ∀ w', MapF w' g kd eK eV (adel m k) → w.grownBy w' (some g) → w'.heap.size = w.heap.size → wpL P ops Q rest (Ac n σ ds ((d, .tuple #[]) :: l)) w') :
    wpL P ops Q (⟨some d, .call ⟨.builtin .delete, #[x, y], #[t, kt]⟩, ty, pos, af, none⟩ :: rest) (Ac n σ ds l) w := by
  obtain ⟨w', hr, h1, h2, h3⟩ := run_del (ty := ty) ht hd hk hi h
  refine L_run (w' := w') ?_ hn (J w' h1 h2 h3)
  simp [execOp, resolve, invoke, builtin, ev_eval hx, ev_eval hy, hr]
theorem R_lenMap (hx : ev n l x = some (.map (some g))) (ht : P.underlying t = some (.map kt et)) (h : MapF w g kd eK eV m) :
    (execOp (Ac n σ ds l).eval ⟨dst, .call ⟨.builtin .len, #[x], #[t]⟩, ty, pos, af, gd⟩).run P w = .ok (.value (.int .i64 (m.length : Int))) w := by
  obtain ⟨es, c, hb, _, _, hm⟩ := h
  have e : es.size = m.length := by have := congrArg List.length hm; simpa using this
  simp [execOp, resolve, invoke, builtin, ev_eval hx, Builtin.len_, run_underlying ht, MapKept.run_getObj_map hb, goInt, e]
/-! ### ranging over a map -/
/-- Block r goes over the map in block g; so far it has handed out these entries. -/
def IterF {K V : Type} (w : World) (r g : Nat) (kd : TypeDesc) (eK : K → Value) (eV : V → Value) (m dn : List (K × V)) : Prop :=
  ∃ es c since seen left, w.heap[g]? = some (.map es c) ∧ w.heap[r]? = some (.mapIter (some g) since seen c) ∧ Stamped es c ∧ (∀ x ∈ es.toList, IsKey kd x.key) ∧ es.toList.map kv = m.map (fun p => (eK p.1, eV p.2)) ∧
    (∀ x ∈ es.toList, x.born < since) ∧ since ≤ c ∧ (leftOf es seen).toList.map kv = left.map (fun p => (eK p.1, eV p.2)) ∧ (dn ++ left).Perm m ∧
    ∀ p, dn.getLast? = some p → ∃ e ∈ es.toList, ∃ s' : Array Nat, seen = s'.push e.born ∧ kv e = (eK p.1, eV p.2)
end
section
variable {K V : Type} {w w' : World} {r g : Nat} {kd : TypeDesc} {eK : K → Value} {eV : V → Value} {m dn : List (K × V)}
theorem IterF.map (h : IterF w r g kd eK eV m dn) : MapF w g kd eK eV m := by
  obtain ⟨es, c, since, seen, left, h1, h2, h3, h4, h5, _⟩ := h
  exact ⟨es, c, h1, h3, h4, h5⟩
theorem IterF.oth (h : IterF w r g kd eK eV m dn) : Other w r := by
  obtain ⟨es, c, since, seen, left, h1, h2, _⟩ := h
  intro c' t fr q
  rw [h2] at q; cases q
theorem IterF.grown {row : Option Nat} (h : IterF w r g kd eK eV m dn) (hg : w.grownBy w' row) (h1 : some g ≠ row) (h2 : some r ≠ row) : IterF w' r g kd eK eV m dn := by
  obtain ⟨es, c, since, seen, left, a, b, rest⟩ := h
  exact ⟨es, c, since, seen, left, (hg.block g (Array.getElem?_eq_some_iff.1 a).1 h1).trans a, (hg.block r (Array.getElem?_eq_some_iff.1 b).1 h2).trans b, rest⟩
theorem IterF.gb (h : IterF w r g kd eK eV m dn) (hg : w.grownBy w' none) : IterF w' r g kd eK eV m dn := h.grown hg (by simp) (by simp)
theorem IterF.blk {g' t : Nat} {cs : List Value} (h : IterF w r g kd eK eV m dn) (hb : Blk w g' t cs) (hg : w.grownBy w' (some g')) : IterF w' r g kd eK eV m dn := by
  have h' := h
  obtain ⟨es, c, since, seen, left, a, b, _⟩ := h'
  unfold Blk at hb
  refine h.grown hg ?_ ?_
  · rintro e; injection e with e; subst e; rw [a] at hb; cases hb
  · rintro e; injection e with e; subst e; rw [b] at hb; cases hb
theorem IterF.own {lo t sz n : Nat} {v : Value} {vs : List Value} (h : IterF w r g kd eK eV m dn) (ho : w.ownsRow lo t sz v n vs) (hg : w.grownBy w' v.ownBlock) : IterF w' r g kd eK eV m dn := by
  have h' := h
  obtain ⟨es, c, since, seen, left, a, b, _⟩ := h'
  rcases ho with ⟨_, h2 | ⟨g', cap, cc, rfl, _, hh, _⟩⟩
  · refine h.grown hg ?_ ?_ <;> (intro e; rw [h2.1] at e; cases e)
  · refine h.grown hg ?_ ?_
    · intro e
      have : g = g' := by simpa [Value.ownBlock] using e
      subst this; rw [a] at hh; cases hh
    · intro e
      have : r = g' := by simpa [Value.ownBlock] using e
      subst this; rw [b] at hh; cases hh
end
theorem leftOf_push (es : Array MapEntry) (seen : Array Nat) (b : Nat) : (leftOf es (seen.push b)).toList = (leftOf es seen).toList.filter (fun e => decide (e.born ≠ b)) := by
  unfold leftOf
  simp only [Array.toList_filter, List.filter_filter]
  apply List.filter_congr
  intro e _
  by_cases h : e.born = b <;> simp [h, Array.contains_push]
theorem filter_one {l1 l2 : List MapEntry} {e : MapEntry} (hn : ((l1 ++ e :: l2).map (·.born)).Nodup) : (l1 ++ e :: l2).filter (fun x => decide (x.born ≠ e.born)) = l1 ++ l2 := by
  rw [List.map_append, List.map_cons, List.nodup_append] at hn
  obtain ⟨h1, h2, h3⟩ := hn
  rw [List.nodup_cons] at h2
  rw [List.filter_append, List.filter_cons_of_neg (by simp)]
  congr 1
  · rw [List.filter_eq_self]
    intro x hx
    simp only [decide_eq_true_eq]
    exact h3 _ (List.mem_map.2 ⟨x, hx, rfl⟩) _ (by simp)
  · rw [List.filter_eq_self]
    intro x hx
    simp only [decide_eq_true_eq]
    intro q
    exact h2.1 (List.mem_map.2 ⟨x, hx, q⟩)
theorem split_typed {K V : Type} {eK : K → Value} {eV : V → Value} : ∀ (l1 l2 : List MapEntry) (e : MapEntry) (m : List (K × V)), (l1 ++ e :: l2).map kv = m.map (fun p => (eK p.1, eV p.2)) →
    ∃ m1 p m2, m = m1 ++ p :: m2 ∧ l1.map kv = m1.map (fun p => (eK p.1, eV p.2)) ∧ kv e = (eK p.1, eV p.2) ∧ l2.map kv = m2.map (fun p => (eK p.1, eV p.2))
  | [], l2, e, [], h => by simp at h
  | [], l2, e, p :: r, h => by
    simp only [List.nil_append, List.map_cons, List.cons.injEq] at h
    exact ⟨[], p, r, rfl, rfl, h.1, h.2⟩
  | a :: l1, l2, e, [], h => by simp at h
  | a :: l1, l2, e, p :: r, h => by
    simp only [List.cons_append, List.map_cons, List.cons.injEq] at h
    obtain ⟨m1, q, m2, rfl, h1, h2, h3⟩ := split_typed l1 l2 e r h.2
    exact ⟨p :: m1, q, m2, rfl, by simp [h1, h.1], h2, h3⟩
section
variable {K V : Type} {P : Program} {Q : Exit → Act → World → Prop} {w w' : World} {ops : Array Oper} {rest : List Oper} {g d r : Nat} {kd : TypeDesc} {eK : K → Value} {eV : V → Value} {m dn : List (K × V)}
variable {n : Nat} {σ : Nat → Value} {ds : List Deferred} {l : Sl} {ty : TypeId} {pos : String} {af : Array Edge} {t kt et : TypeId} {x : Operand}
theorem L_range (hx : ev n l x = some (.map (some g))) (ht : P.underlying t = some (.map kt et)) (h : MapF w g kd eK eV m) (hn : Nat.blt d n = true)
    (J : ∀ r w', r = w.heap.size → IterF w' r g kd eK eV m [] → w.grownBy w' none → w'.heap.size = r + 1 → wpL P ops Q rest (Ac n σ ds ((d, .pointer (some ⟨r, 0, none⟩)) :: l)) w') :
    wpL P ops Q (⟨some d, .range t x, ty, pos, af, none⟩ :: rest) (Ac n σ ds l) w := by
  have hlt := h.lt
  obtain ⟨es, c, hb, hst, hx', hm⟩ := h
  have hl0 : leftOf es #[] = es := by unfold leftOf; rw [Array.filter_eq_self]; simp
  refine L_run (w' := w.alloc (.mapIter (some g) c #[] c)) ?_ hn (J w.heap.size _ rfl ⟨es, c, c, #[], m, (heap_alloc_old w _ hlt).trans hb, heap_alloc_new w _, hst, hx', hm, hst.1, Nat.le_refl _, by rw [hl0]; exact hm, by simp, by simp⟩ (gb_alloc w _) (by simp))
  simp only [execOp, ev_eval hx]
  exact v_run (run_range_map w t kt et g es c ht hb)
theorem L_next (hx : ev n l x = some (.pointer (some ⟨r, 0, none⟩))) (h : IterF w r g kd eK eV m dn) (hn : Nat.blt d n = true)
    (K0 : dn.Perm m → wpL P ops Q rest (Ac n σ ds ((d, .tuple #[.bool false]) :: l)) w)
    (K1 : ∀ p w', p ∈ m → dn.length < m.length → IterF w' r g kd eK eV m (dn ++ [p]) → w.grownBy w' (some r) → w'.heap.size = w.heap.size → wpL P ops Q rest (Ac n σ ds ((d, .tuple #[.bool true, eK p.1, eV p.2]) :: l)) w') :
    wpL P ops Q (⟨some d, .next x false, ty, pos, af, none⟩ :: rest) (Ac n σ ds l) w := by
  obtain ⟨es, c, since, seen, left, hb, hr, hst, hx', hm, hold, hsc, hl, hp, _⟩ := h
  rcases run_next_at (P := P) w ty r g since c seen es c hr hb hold hsc with ⟨h0, hrun⟩ | ⟨e, he, w1, hw1, hrun⟩
  · have : left = [] := by
      have := congrArg List.length hl
      simp at this
      exact List.eq_nil_of_length_eq_zero (by omega)
    subst this
    refine L_run ?_ hn (K0 (by simpa using hp))
    simp only [execOp, ev_eval hx]
    exact v_run hrun
  · obtain ⟨l1, l2, hsp⟩ := List.append_of_mem he
    rw [hsp] at hl
    obtain ⟨m1, p, m2, rfl, e1, e2, e3⟩ := split_typed l1 l2 e left hl
    have hnb : ((l1 ++ e :: l2).map (·.born)).Nodup := by
      rw [← hsp]
      have hsub : (leftOf es seen).toList.Sublist es.toList := by unfold leftOf; rw [Array.toList_filter]; exact List.filter_sublist
      exact (hsub.map _).nodup hst.2.1
    have hkey : e.key = eK p.1 ∧ e.val = eV p.2 := by simpa [kv] using e2
    have hrw : w1.heap = w.heap := by rcases hw1 with rfl | rfl <;> rfl
    have hgr : g ≠ r := by rintro rfl; rw [hb] at hr; cases hr
    have hlt : r < w.heap.size := (Array.getElem?_eq_some_iff.1 hr).1
    have hrun' : (execOp (Ac n σ ds l).eval ⟨some d, .next x false, ty, pos, af, none⟩).run P w = .ok (.value (.tuple #[.bool true, eK p.1, eV p.2])) (ChangeMaps.setBlock w1 r (.mapIter (some g) since (seen.push e.born) c)) := by
      simp only [execOp, ev_eval hx]
      rw [← hkey.1, ← hkey.2]
      exact v_run hrun
    have hmem : p ∈ m := hp.mem_iff.1 (by simp)
    have hlen := hp.length_eq
    simp only [List.length_append, List.length_cons] at hlen
    refine L_run hrun' hn (K1 p _ hmem (by omega) ⟨es, c, since, seen.push e.born, m1 ++ m2, ?_, ?_, hst, hx', hm, hold, hsc, ?_, ?_, ?_⟩ ?_ ?_)
    · simp only [ChangeMaps.setBlock, hrw]; rw [Array.getElem?_setIfInBounds_ne (fun q => hgr q.symm)]; exact hb
    · simp only [ChangeMaps.setBlock, hrw]; simp [hlt]
    · rw [leftOf_push, hsp, filter_one hnb, List.map_append, List.map_append, e1, e3]
    · refine List.Perm.trans ?_ hp
      rw [List.append_assoc]
      exact List.Perm.append_left dn (by simpa using (List.perm_middle (l₁ := m1) (a := p) (l₂ := m2)).symm)
    · intro q hq
      rw [List.getLast?_concat] at hq
      injection hq with hq
      subst hq
      have hes : e ∈ es.toList := by
        have hsub : (leftOf es seen).toList.Sublist es.toList := by unfold leftOf; rw [Array.toList_filter]; exact List.filter_sublist
        exact hsub.subset he
      exact ⟨e, hes, seen, rfl, e2⟩
    · have hg1 : w.grownBy w1 none := by rcases hw1 with rfl | rfl; exact World.grownBy.refl _ _; exact ⟨rfl, rfl, rfl, Nat.le_refl _, fun _ _ _ => rfl⟩
      exact ⟨hg1.os, hg1.tape, hg1.output, by simp [ChangeMaps.setBlock, hrw], fun i hi hne => by
        have : r ≠ i := fun q => hne (by rw [q])
        simp only [ChangeMaps.setBlock, hrw]
        rw [Array.getElem?_setIfInBounds_ne this]⟩
    · simp [ChangeMaps.setBlock, hrw]
theorem R_entry {p : K × V} (hx : ev n l x = some (.pointer (some ⟨r, 0, none⟩))) (h : IterF w r g kd eK eV m (dn ++ [p])) {dst : Option Nat} {gd : Option (Nat × Bool)} :
    (execOp (Ac n σ ds l).eval ⟨dst, .entry x, ty, pos, af, gd⟩).run P w = .ok (.value (.tuple #[eK p.1, eV p.2])) w := by
  obtain ⟨es, c, since, seen, left, hb, hr, hst, hx', hm, hold, hsc, hl, hp, hlast⟩ := h
  obtain ⟨e, he, s', rfl, hkv⟩ := hlast p (by rw [List.getLast?_concat])
  have hkey : e.key = eK p.1 ∧ e.val = eV p.2 := by simpa [kv] using hkv
  simp only [execOp, ev_eval hx]
  rw [← hkey.1, ← hkey.2]
  exact v_run (run_entry_at w r g since s' es c e hr hb he hst.2.1)
end
end Go.Proofs.YtkjgjejkfjhcjaaDoor.Gw
