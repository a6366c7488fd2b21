/-
  An evaluator for closed calls, sixth part: the operations that make or turn memory. It holds of every program.
-/
import Derived.Test.YtbmohojdlgedpaaEe
namespace Go.Proofs.Ytbmohojdlgedpaa.Ev
open Go.RowKit Gw
set_option linter.unusedVariables false
set_option linter.unusedSimpArgs false

/-! ### rows of the same -/
def rep {α : Type} (z : List α) : Nat → List α
  | 0 => []
  | k + 1 => z ++ rep z k
theorem rep_map {α β : Type} (f : α → β) (z : List α) : ∀ k, (rep z k).map f = rep (z.map f) k
  | 0 => rfl
  | k + 1 => by simp [rep, rep_map f z k]
theorem rep_snoc {α : Type} (z : List α) : ∀ k, rep z (k + 1) = rep z k ++ z
  | 0 => by simp [rep]
  | k + 1 => by
    show z ++ rep z (k + 1) = (z ++ rep z k) ++ z
    rw [rep_snoc z k]; simp
theorem made_rep (z : Array Value) (k : Nat) (hz : 0 < z.size) : ((Array.range (k * z.size)).map (z[· % z.size]!)).toList = rep z.toList k := by
  induction k with
  | zero => simp [rep]
  | succ k ih =>
    rw [rep_snoc, ← ih]
    apply List.ext_getElem
    · simp [Nat.add_mul]
    · intro i h1 h2
      simp only [Array.toList_map, Array.toList_range, List.getElem_map, List.getElem_range]
      by_cases hi : i < k * z.size
      · rw [List.getElem_append_left (by simpa using hi)]
        simp
      · rw [List.getElem_append_right (by simpa using hi)]
        have hlt : i < k * z.size + z.size := by simpa [Nat.add_mul] using h1
        have e : i % z.size = i - k * z.size := by
          conv => lhs; rw [show i = (i - k * z.size) + z.size * k by rw [Nat.mul_comm z.size k]; omega]
          rw [Nat.add_mul_mod_self_left, Nat.mod_eq_of_lt (by omega)]
        rw [e]
        simp only [List.length_map, List.length_range, Array.getElem_toList]
        exact getElem!_pos z _ (by omega)
def slcZ (P : Program) (e : TypeId) : Option Value := zcells P e
def zrow (P : Program) (e k : Nat) : Option (List C) := match zcells P e with | some z => some (rep (kcells z) k) | none => none
def ubytes (s : ByteArray) : List C := s.data.toList.map fun b => .b (.k (.int .u8 (b.toNat : Int)))
/-- The elements that are appended, copied. -/
def news (st : St) (sz : Nat) (u8 : Bool) : V2 → Option (Nat × List C)
  | vS b o m _ => match st.mem.get b with
    | some (.cells _ cs _) => match sub cs o (m * sz) with | some r => some (m, r) | none => none
    | _ => none
  | vK (.slice none 0 0) => some (0, [])
  | _ => none
/-- The row is the slice's own, from its beginning. -/
def capOk (md n sz k : Nat) : Cap → Bool
  | .k C => Nat.beq md 0 && Nat.beq n (C * sz) && Nat.ble k C && Nat.ble C 1000000
  | .u d => Nat.beq d 0 && Nat.beq md (3 + sz)
def ev2 (P : Program) (gl : Gl) (n : Nat) (fr : Fr) (st : St) : Op → Option (V2 × St)
  | .box e x => match evO gl n fr x with
    | some (.v y) => match newB st (.cells e (cel y) 0) with | some st' => some (vP st.next 0, st') | none => none
    | _ => none
  | .alloc e => match zcells P e with
    | some z => match newB st (.cells e (kcells z) 0) with | some st' => some (vP st.next 0, st') | none => none
    | none => none
  | .buildSlice t m ps => match evPs gl n fr ps.toList, slcI P t with
    | some a, some (e, sz, _) => match zrow P e m with
      | some zs => match fillA (fun i => some (i * sz, sz)) zs a with
        | some cs => bif Nat.ble (m * sz) 16777216 then (match newB st (.cells e cs 0) with | some st' => some (vS st.next 0 m (.k m), st') | none => none) else none
        | none => none
      | none => none
    | _, _ => none
  | .makeSlice t x y => match evO gl n fr x, evO gl n fr y, slcI P t with
    | some (vK (.int _ (.ofNat a))), some (vK (.int _ (.ofNat c))), some (e, sz, by_) => match zrow P e c with
      | some zs => bif Nat.ble a c && Nat.ble (c * sz) 16777216 && Nat.ble (by_ * c) 281474976710656 && Nat.ble c 1000000 then (match newB st (.cells e zs 0) with | some st' => some (vS st.next 0 a (.k c), st') | none => none) else none
      | none => none
    | _, _, _ => none
  | .call ⟨.builtin .append, xs, ts⟩ => match xs.toList, ts.toList with
    | [s, x], [t, t'] => match evO gl n fr s, evO gl n fr x, slcI P t with
      | some a, some b, some (e, sz, by_) => bif Nat.beq t t' then
          match news st sz false b with
          | some (0, _) => (match a with
            | vS b o m c => some (vS b o m c, st)
            | vK (.slice none 0 0) => some (vK (.slice none 0 0), st)
            | _ => none)
          | some (m, us) => bif us.all oneC then (match a with
            | vK (.slice none 0 0) => bif Nat.ble (m * by_) 140737488355328 && Nat.ble m 1000000 then (match newB st (.cells e us (3 + sz)) with | some st' => some (vS st.next 0 m (.u 0), st') | none => none) else none
            | vS b o k c => match st.mem.get b with
              | some (.cells T cs md) => bif Nat.beq o 0 && Nat.beq T e && Nat.ble ((k + m) * by_) 140737488355328 && Nat.ble (k + m) 1000000 && capOk md cs.length sz k c then
                  match sub cs 0 (k * sz), delB st b with
                  | some pre, some st1 => match newB st1 (.cells e (pre ++ us) (3 + sz)) with
                    | some st' => some (vS st.next 0 (k + m) (.u 0), st')
                    | none => none
                  | _, _ => none
                else none
              | _ => none
            | _ => none) else none
          | none => none
        else none
      | _, _, _ => none
    | _, _ => none
  | .call ⟨.builtin .copy, xs, ts⟩ => match xs.toList, ts.toList with
    | [x, y], [t, t'] => match evO gl n fr x, evO gl n fr y, slcI P t with
      | some (vS b o m _), some (vS b2 o2 m2 _), some (_, sz, _) => match st.mem.get b, st.mem.get b2 with
        | some (.cells T cs md), some (.cells _ cs2 _) => match sub cs2 o2 (Nat.min m2 m * sz) with
          | some us => bif us.all oneC && !(Nat.beq md 2) && Nat.ble (o + us.length) cs.length then (match putB st b (.cells T (splice cs o us) md) with | some st' => some (vK (.int .i64 (.ofNat (Nat.min m2 m))), st') | none => none) else none
          | none => none
        | _, _ => none
      | some (vS b o m _), some (vK (.slice none 0 0)), some _ => some (vK (.int .i64 (.ofNat 0)), st)
      | some (vS b o m _), some (vK (.string s)), some (_, 1, _) => match st.mem.get b with
        | some (.cells T cs md) => bif Nat.ble s.size m && !(Nat.beq md 2) && Nat.ble (o + s.size) cs.length then (match putB st b (.cells T (splice cs o (ubytes s)) md) with | some st' => some (vK (.int .i64 (.ofNat s.size)), st') | none => none) else none
        | _ => none
      | _, _, _ => none
    | _, _ => none
  | _ => none
def ev3 (P : Program) (gl : Gl) (n : Nat) (fr : Fr) (st : St) : Op → Option St
  | .store t x y => match evO gl n fr x, evO gl n fr y with
    | some (vP b o), some (.v v) => match st.mem.get b with
      | some (.cells T cs md) => bif szB P t (cel v).length && (cel v).all oneC && !(Nat.beq md 2) && Nat.ble (o + (cel v).length) cs.length then putB st b (.cells T (splice cs o (cel v)) md) else none
      | _ => none
    | _, _ => none
  | _ => none
section
variable {P : Program} {ρ : Rho} {gl : Gl} {n : Nat} {fr : Fr} {l : Sl} {w0 : Wd} {w : World} {st st' : St}
variable {σ : Nat → Value} {ds : List Deferred} {ty : TypeId} {pos : String} {af : Array Edge} {dst : Option Nat} {gd : Option (Nat × Bool)}
/-- Cells written into a row that is known there. -/
theorem write_ok {b g c o md : Nat} {T : TypeId} {cs us : List C} {vs : List Value} (hM : MR w0 ρ st w) (hm : st.mem.get b = some (.cells T cs md)) (hb : ρ b = some (g, c)) (hu : A2 (RC ρ) us vs) (h1 : us.all oneC = true) (hmd : md ≠ 2) (hle : o + us.length ≤ cs.length)
    (hp : putB st b (.cells T (splice cs o us) md) = some st') : ∃ w', (storeCells ⟨g, o, none⟩ vs).run P w = .ok () w' ∧ MR w0 ρ st' w' := by
  obtain ⟨g', c2, q1, q2, xs, xs', fz, q3, q4, q5, q6, q7⟩ := hM.at_ b _ hm
  obtain ⟨rfl, rfl⟩ := Prod.mk.inj (Option.some.inj (q1.symm.trans hb))
  obtain rfl := q7 hmd
  have e1 : cs.length = xs.length := q4.len
  have e2 : us.length = vs.length := hu.len
  have hst := run_storeCells_at P g' o T vs 0 (xs ++ xs').toArray w q3 (by simp; omega) (oneC_all h1 hu)
  refine ⟨_, hst, putB_ok hM hp hm (by simp [MB.ro, beq_no hmd]) hb ⟨rfl, rfl, rfl, by simp, fun k _ hk => setRow_other w g' k _ (fun e => hk (by simp [e]))⟩ ⟨xs.take o ++ vs ++ xs.drop (o + vs.length), xs', ((0, 0), T), ?_, a2_splice q4 hu, q5, fun h => ?_, fun _ => rfl⟩⟩
  · rw [setRow_heap w g' _ _ T (0, 0) q3]
    congr 2
    simp only [Nat.add_zero, List.toList_toArray]
    rw [List.take_append_of_le_length (by omega), List.drop_append_of_le_length (by omega)]
    simp
  · have := q6 h
    simp at this ⊢
    omega
theorem row_new {e : TypeId} {cs : List C} {vs : List Value} (hM : MR w0 ρ st w) (h : newB st (.cells e cs 0) = some st') (r : A2 (RC ρ) cs vs) {s : Sem Next} {x : V2} {v : Value}
    (hr : s.run P w = .ok (.value v) (w.alloc (.cells vs.toArray e))) (hx : R2 (ext ρ st.next (w.heap.size, 0)) x v) : Ok2 P w0 ρ w s x st' := by
  obtain ⟨h1, h2⟩ := row_ok hM h r
  exact ⟨v, _, _, hr, h1, h2, hx⟩
theorem zrow_ok {e k : Nat} {zs : List C} {sz : Nat} {t by_ : Nat} (h : zrow P e k = some zs) (hs : slcB P t e sz by_ = true) : ∃ i z, P.info? e = some i ∧ i.zero = some z ∧ i.size = sz ∧ i.bytes = by_ ∧ z.cells.size = sz ∧ 0 < sz ∧ 0 < by_ ∧ A2 (RC ρ) zs ((Array.range (k * sz)).map (z.cells[· % z.cells.size]!)).toList := by
  obtain ⟨hu, i, z, hi, hz, e1, e2, e3, e4, e5⟩ := slcB_u hs
  refine ⟨i, z, hi, hz, e1, e2, e3, e4, e5, ?_⟩
  unfold zrow zcells at h
  simp only [hi, Option.bind_some, hz] at h
  obtain rfl := Option.some.inj h
  rw [← e3, made_rep z.cells k (by omega)]
  have : rep (kcells z) k = (rep z.cells.toList k).map fun v => .b (.k v) := by rw [rep_map]; rfl
  rw [this]
  exact A2_k _
theorem news_ok {sz : Nat} {u8 : Bool} {x : V2} {v : Value} {m : Nat} {us : List C} (hM : MR w0 ρ st w) (h : news st sz u8 x = some (m, us)) (r : R2 ρ x v) :
    ∃ A c vs, v = .slice A m c ∧ A2 (RC ρ) us vs ∧ vs.length = m * sz ∧ ((A = none ∧ m = 0) ∨ ∃ g o, A = some ⟨g, o, none⟩ ∧ ∀ (j : Nat) (u : Value), vs[j]? = some u → w.cell? ((⟨g, o, none⟩ : Addr).add j) = some u) := by
  unfold news at h
  split at h
  · rename_i b o m' c
    split at h
    · rename_i T cs md hm
      split at h
      · rename_i r' hr'
        obtain ⟨rfl, rfl⟩ := Prod.mk.inj (Option.some.inj h)
        obtain ⟨g, cc, C, q1, q2, rfl⟩ := RB.sl r
        obtain ⟨vs, T', cc', fz, p1, p2, p3, p4⟩ := holds_sub hM hm q1 hr'
        exact ⟨_, _, vs, rfl, p2, p3, .inr ⟨g, o, rfl, fun j u hj => by rw [Addr.add_lit, cell_of_row w g _ _ T' fz p1]; exact p4 j u hj⟩⟩
      · cases h
    · cases h
  · obtain ⟨rfl, rfl⟩ := Prod.mk.inj (Option.some.inj h)
    obtain rfl : v = _ := r
    exact ⟨none, 0, [], rfl, trivial, by simp, .inl ⟨rfl, rfl⟩⟩
  · cases h
/-- What an append makes of a row of one's own. -/
theorem append_own {e sz by_ k m c0 : Nat} {v : Value} {A : Option Addr} {xs vs : List Value} {pre us : List C} {t : TypeId} {st1 : St} (hM : MR w0 ρ st w) (hM1 : MR w0 ρ st1 w) (hs : slcB P t e sz by_ = true)
    (ho : w.ownsRow 0 e sz v k xs) (hok : ∀ q, v.ownBlock = some q → w0.ok q) (hp : A2 (RC ρ) pre xs) (hu : A2 (RC ρ) us vs) (hl : vs.length = m * sz) (h1 : us.all oneC = true) (hA : ∃ g o, A = some ⟨g, o, none⟩ ∧ ∀ (j : Nat) (u : Value), vs[j]? = some u → w.cell? ((⟨g, o, none⟩ : Addr).add j) = some u)
    (hb : (k + m) * by_ ≤ 140737488355328) (hk : k + m ≤ 1000000) (hm0 : 0 < m) (hfar : ∀ b mb' g' c', st1.mem.get b = some mb' → ρ b = some (g', c') → some g' ≠ v.ownBlock) (hn : newB st1 (.cells e (pre ++ us) (3 + sz)) = some st') :
    ∃ v' w' ρ', (Builtin.append_ #[t, t] ty #[v, .slice A m c0]).run P w = .ok v' w' ∧ Le ρ ρ' ∧ MR w0 ρ' st' w' ∧ R2 ρ' (vS st1.next 0 (k + m) (.u 0)) v' := by
  obtain ⟨hu', i, z, hi, hz, e1, e2, e3, e4, e5⟩ := slcB_u hs
  obtain ⟨g, o, rfl, hat⟩ := hA
  obtain ⟨v', w', a1, a2, a3, a4, a5⟩ := run_append_own_at (P := P) w 0 t ty e i z sz by_ hu' hi hz e1 e2 e3 e4 v k xs ho ⟨g, o, none⟩ m c0 vs hl hat (oneC_all h1 hu) (by simp only [maxLen]; omega) hb (Nat.zero_le _)
  rcases a2.2 with ⟨_, h0⟩ | ⟨g', cap, cur, rfl, hbase, hrow, hcap, hcm, hsz, htk⟩
  · omega
  have hle := hM1.ext_le (g', cap)
  refine ⟨_, w', ext ρ st1.next (g', cap), a1, hle, ?_, ⟨g', cap, ext_at _ _ _, by omega, rfl⟩⟩
  have hA2 : A2 (RC (ext ρ st1.next (g', cap))) (pre ++ us) (xs ++ vs) := (hp.app hu).mono fun _ _ => RC.mono hle
  have hlen : (xs ++ vs).length = (k + m) * sz := a2.1
  have hcur : cur = ((xs ++ vs) ++ cur.toList.drop ((k + m) * sz)).toArray := by
    rw [← htk, List.take_append_drop]
  rw [newB_def] at hn
  split at hn
  · rename_i tr htr
    obtain rfl := Option.some.inj hn
    have hokg : w0.ok g' := by
      rcases a5 with a5 | a5
      · exact hok g' (by simpa [Value.ownBlock] using a5.symm)
      · have : g' = w.heap.size := by simpa [Value.ownBlock] using a5
        exact Wd.ok_of (by rw [this]; exact hM.gb.size)
    refine hM1.new' (mb := .cells e (pre ++ us) (3 + sz)) (row := v.ownBlock) a3 hok hokg (fun b mb' g2 c2 h2 h3 => ?_) ⟨xs ++ vs, cur.toList.drop ((k + m) * sz), ((0, 0), e), by rw [← hcur]; exact hrow, hA2, fun h => by omega, fun _ => ⟨?_, hcm⟩, fun _ => rfl⟩ htr
    · have hlt : g2 < w.heap.size := by
        obtain ⟨g3, c3, x1, x2, x3⟩ := hM1.at_ b mb' h2
        obtain ⟨rfl, rfl⟩ := Prod.mk.inj (Option.some.inj (x1.symm.trans h3))
        exact x3.lt
      refine ⟨fun e => ?_, hfar b mb' g2 c2 h2 h3⟩
      subst e
      rcases a5 with a5 | a5
      · exact hfar b mb' g2 c2 h2 h3 (by simpa [Value.ownBlock] using a5)
      · have : g2 = w.heap.size := by simpa [Value.ownBlock] using a5
        omega
    · rw [hlen, List.length_drop, Array.length_toList, hsz]
      have : (k + m) * sz ≤ cap * sz := Nat.mul_le_mul_right _ hcap
      rw [show 3 + sz - 3 = sz by omega]
      omega
  · cases hn
end
end Go.Proofs.Ytbmohojdlgedpaa.Ev
