/-
  An evaluator for closed calls: maps, iterators over them, rows of a text's bytes. It holds of every program.
-/
import Derived.Test.YtbmohojdlgedpaaEg
import Derived.Lib.ConvBytes
namespace Go.Proofs.Ytbmohojdlgedpaa.Ev
open Go.RowKit Gw
set_option linter.unusedVariables false
set_option linter.unusedSimpArgs false
def ev4 (P : Program) (gl : Gl) (n : Nat) (fr : Fr) (st : St) : Op → Option V2
  | .call ⟨.builtin .len, xs, ts⟩ => match xs.toList, ts.toList with
    | [x], [t] => match evO gl n fr x, P.underlying t with
      | some (vM b), some (.map _ _) => match st.mem.get b with
        | some (.map es _ _) => some (vK (.int .i64 (.ofNat es.length)))
        | _ => none
      | _, _ => none
    | _, _ => none
  | .sliceToArrayPointer t x => match evO gl n fr x, P.underlying t with
    | some (vS b o m _), some (.array k _) => bif Nat.ble k m then some (vP b o) else none
    | _, _ => none
  | .entry x => match evO gl n fr x with
    | some (vP b 0) => match st.mem.get b with
      | some (.iter mb _ seen last) => match st.mem.get mb, seen.getLast? with
        | some (.map es clock _), some s => bif Nat.beq clock last then
            match es.find? (fun e => Nat.beq e.2.2 s) with | some e => some (.t [.c (.b (.k e.1)), .c e.2.1]) | none => none
          else none
        | _, _ => none
      | _ => none
    | _ => none
  | _ => none
/-- Cells of a row, each as the type's zero value. -/
def zrowc (P : Program) (e k : Nat) : Option (List C) := zrow P e k
def ev5 (P : Program) (gl : Gl) (n : Nat) (fr : Fr) (st : St) : Op → Option (V2 × St)
  | .makeMap _ none => match newB st (.map [] 0 false) with | some st' => some (vM st.next, st') | none => none
  | .range t x => match evO gl n fr x, P.underlying t with
    | some (vM b), some (.map _ _) => match st.mem.get b with
      | some (.map _ clock _) => match newB st (.iter b clock [] clock) with | some st' => some (vP st.next 0, st') | none => none
      | _ => none
    | _, _ => none
  | .call ⟨.builtin .append, xs, ts⟩ => match xs.toList, ts.toList with
    | [s, x], [t, t'] => match evO gl n fr s, evO gl n fr x, slcI P t with
      | some (vS b o k (.k C)), some y, some (e, sz, by_) => bif Nat.beq t t' then
          match st.mem.get b, news st sz false y with
          | some (.cells _ cs _), some (m, us) => match sub cs o (k * sz) with
            | some pre => bif Nat.blt C (k + m) && Nat.ble (k + m) 1000000 && Nat.ble (Builtin.nextslicecap (k + m) C * by_) 281474976710656 && !(Nat.beq m 0) then
                match newB st (.cells e (pre ++ us) (3 + sz)) with | some st' => some (vS st.next 0 (k + m) (.u 0), st') | none => none
              else none
            | none => none
          | _, _ => none
        else none
      | _, _, _ => none
    | _, _ => none
  | .call ⟨.builtin .delete, xs, ts⟩ => match xs.toList, ts.toList with
    | [x, y], [t, _] => match evO gl n fr x, evO gl n fr y, P.underlying t with
      | some (vM b), some a, some (.map kt _) => match kOf a, st.mem.get b with
        | some k, some (.map es clock false) => match pureOf P (Instr.checkKey es.isEmpty 10000 kt k) with
          | some () => match ixA P kt k es with
            | some none => match putB st b (.map es clock false) with | some st' => some (vK (.tuple #[]), st') | none => none
            | some (some (i, _)) => match putB st b (.map (es.eraseIdx i) clock false) with | some st' => some (vK (.tuple #[]), st') | none => none
            | none => none
          | none => none
        | _, _ => none
      | _, _, _ => none
    | _, _ => none
  | .call ⟨.builtin .clear, xs, ts⟩ => match xs.toList, ts.toList with
    | [x], [t] => match evO gl n fr x, slcI P t with
      | some (vS b o m _), some (e, sz, _) => match st.mem.get b, zrow P e m with
        | some (.cells T cs md), some zs => bif zs.all oneC && !(Nat.beq md 2) && Nat.ble (o + zs.length) cs.length && !(Nat.beq m 0) then
            match putB st b (.cells T (splice cs o zs) md) with | some st' => some (vK (.tuple #[]), st') | none => none
          else none
        | _, _ => none
      | _, _ => none
    | _, _ => none
  | .convert s t x => match evO gl n fr x, P.underlying s, slcI P t with
    | some (vK (.string r)), some _, some (e, 1, 1) => bif intB P e .u8 then
        match newB st (.cells e (ubytes r) 2) with | some st' => some (vS st.next 0 r.size (.u 0), st') | none => none
      else none
    | some (vS b 0 m c), some _, some (e, 1, 1) => bif intB P e .u8 && Nat.beq s t then
        match st.mem.get b with
        | some (.cells T cs 0) => match putB st b (.cells T cs 2) with | some st' => some (vS b 0 m c, st') | none => none
        | _ => none
      else none
    | _, _, _ => none
  | _ => none
def ixB (b : Nat) : List (Value × C × Nat) → Option Nat
  | [] => none
  | e :: r => bif Nat.beq e.2.2 b then some 0 else (match ixB b r with | some i => some (i + 1) | none => none)
def ev7 (P : Program) (gl : Gl) (n : Nat) (fr : Fr) (st : St) : Op → Option (V2 × St)
  | .mapEntry t x y => match evO gl n fr x, evO gl n fr y, P.underlying t with
    | some (vM b), some a, some (.map kt et) => match kOf a, st.mem.get b, zcells P et with
      | some k, some (.map es clock false), some z => match pureOf P (Instr.checkKey false 10000 kt k) with
        | some () => match ixA P kt k es with
          | some none => match putB st b (.map (es ++ [(k, .b (.k z), clock)]) (clock + 1) false) with | some st' => some (.t [.c (.b (.k z)), .c (.b (.k (.int .i64 (.ofNat clock))))], st') | none => none
          | some (some (i, c)) => match es[i]? with
            | some e => bif Instr.sameBits 10000 e.1 k then (match putB st b (.map (es.set i (k, e.2.1, e.2.2)) clock false) with | some st' => some (.t [.c c, .c (.b (.k (.int .i64 (.ofNat e.2.2))))], st') | none => none) else none
            | none => none
          | none => none
        | none => none
      | _, _, _ => none
    | _, _, _ => none
  | _ => none
def updA (P : Program) (gl : Gl) (n : Nat) (fr : Fr) (st : St) (t : TypeId) (x y z : Operand) : Option St :=
  match evO gl n fr x, evO gl n fr y, evO gl n fr z, P.underlying t with
  | some (vM b), some a, some (.v (.c c)), some (.map kt _) => match kOf a, st.mem.get b with
    | some k, some (.map es clock false) => match pureOf P (Instr.checkKey false 10000 kt k) with
      | some () => match ixA P kt k es with
        | some none => putB st b (.map (es ++ [(k, c, clock)]) (clock + 1) false)
        | some (some (i, _)) => match es[i]? with
          | some e => bif Instr.sameBits 10000 e.1 k then putB st b (.map (es.set i (k, c, e.2.2)) clock false) else none
          | none => none
        | none => none
      | none => none
    | _, _ => none
  | _, _, _, _ => none
def ev6 (P : Program) (gl : Gl) (n : Nat) (fr : Fr) (st : St) : Op → Option St
  | .entryStore _ x y z => match evO gl n fr x, evO gl n fr y, evO gl n fr z with
    | some (vM b), some (vK (.int _ (.ofNat s))), some (.v (.c c)) => match st.mem.get b with
      | some (.map es clock false) => match ixB s es with
        | some i => match es[i]? with
          | some e => putB st b (.map (es.set i (e.1, c, e.2.2)) clock false)
          | none => none
        | none => none
      | _ => none
    | _, _, _ => none
  | .mapUpdate t x y z => updA P gl n fr st t x y z
  | .insert t x y z => updA P gl n fr st t x y z
  | _ => none
section
variable {P : Program} {ρ : Rho} {gl : Gl} {n : Nat} {fr : Fr} {l : Sl} {w0 : Wd} {w : World} {st st' : St}
variable {σ : Nat → Value} {ds : List Deferred} {ty : TypeId} {pos : String} {af : Array Edge} {dst : Option Nat} {gd : Option (Nat × Bool)}
theorem A2.erase {α β : Type} {R : α → β → Prop} : ∀ {xs : List α} {ys : List β} (k : Nat), A2 R xs ys → A2 R (xs.eraseIdx k) (ys.eraseIdx k)
  | [], [], _, _ => by simp [A2]
  | _ :: _, _ :: _, 0, h => h.2
  | _ :: _, _ :: _, k + 1, h => ⟨h.1, A2.erase k h.2⟩
  | [], _ :: _, _, h => h.elim
  | _ :: _, [], _, h => h.elim
theorem A2.modify {α β : Type} {R : α → β → Prop} {e' : α} {f : β → β} : ∀ {xs : List α} {ys : List β} (k : Nat) {e : α}, xs[k]? = some e → (∀ m, R e m → R e' (f m)) → A2 R xs ys → A2 R (xs.set k e') (ys.modify k f)
  | [], [], _, _, h, _, _ => by simp at h
  | x :: _, y :: _, 0, e, h, hf, hr => by
    obtain rfl : x = e := by simpa using h
    exact ⟨hf _ hr.1, hr.2⟩
  | _ :: xs, _ :: ys, k + 1, e, h, hf, hr => ⟨hr.1, A2.modify k (by simpa using h) hf hr.2⟩
  | [], _ :: _, _, _, _, _, h => h.elim
  | _ :: _, [], _, _, _, _, h => h.elim
theorem find_EN {s : Nat} : ∀ {es : List (Value × C × Nat)} {ms : List MapEntry} {e : Value × C × Nat}, A2 (EN ρ) es ms → es.find? (fun e => Nat.beq e.2.2 s) = some e → ∃ m, ms.find? (fun m => m.born == s) = some m ∧ EN ρ e m
  | [], _, _, _, h => by simp at h
  | x :: es, [], _, hr, _ => hr.elim
  | x :: es, m :: ms, e, hr, h => by
    have hb : (m.born == s) = Nat.beq x.2.2 s := by
      rw [hr.1.2.2]
      by_cases h : x.2.2 = s
      · rw [h]; simp
      · rw [beq_no h]; simpa using h
    simp only [List.find?_cons, hb] at h ⊢
    cases hq : Nat.beq x.2.2 s with
    | true => rw [hq] at h; obtain rfl := Option.some.inj h; exact ⟨m, rfl, hr.1⟩
    | false => rw [hq] at h; exact find_EN hr.2 h
theorem ev4_ok (hG : GL ρ gl) (hF : FR ρ n fr l) (hM : MR w0 ρ st w) {op : Op} {x : V2} (h : ev4 P gl n fr st op = some x) : Ok1 P ρ n σ ds l w dst op ty pos af gd x := by
  unfold Ok1
  unfold ev4 at h
  split at h
  · rename_i xs ts
    split at h
    · rename_i x t hxs hts
      obtain rfl : xs = #[x] := by cases xs; simp_all
      obtain rfl : ts = #[t] := by cases ts; simp_all
      split at h
      · rename_i b kt et hx hu
        split at h
        · rename_i es clock ro hm
          obtain rfl := Option.some.inj h
          obtain ⟨u, e1, g, c, q1, rfl⟩ := evO_ev hG hF hx
          obtain ⟨g', c2, q2, _, ms, q3, q4⟩ := hM.at_ b _ hm
          obtain ⟨rfl, rfl⟩ := Prod.mk.inj (Option.some.inj (q2.symm.trans q1))
          refine ⟨.int .i64 (ms.length : Int), ?_, by rw [q4.len]; rfl⟩
          simp [execOp, resolve, invoke, builtin, ev_eval e1, Builtin.len_, run_underlying hu, MapKept.run_getObj_map q3, goInt]
        · cases h
      · cases h
    · cases h
  · split at h
    · rename_i t x b o m c k e hx hu
      cases hb : Nat.ble k m with
      | false => rw [hb] at h; cases h
      | true =>
        rw [hb] at h
        obtain rfl := Option.some.inj h
        obtain ⟨u, e1, r1⟩ := evO_ev hG hF hx
        obtain ⟨g, c1, c2, q1, q2, rfl⟩ := RB.sl r1
        have hk := Nat.le_of_ble_eq_true hb
        refine ⟨.pointer (some ⟨g, o, none⟩), ?_, g, c1, q1, rfl⟩
        simp only [execOp, ev_eval e1]
        refine v_run ?_
        simp [Instr.arrayAt, run_underlying hu, Nat.not_lt.2 hk]
    · cases h
  · split at h
    · rename_i x b hx
      split at h
      · rename_i mb since seen last hi
        split at h
        · rename_i es clock ro s hm hl
          cases hc : Nat.beq clock last with
          | false => rw [hc] at h; cases h
          | true =>
            rw [hc] at h
            simp only [cond_true] at h
            obtain rfl := Nat.eq_of_beq_eq_true hc
            split at h
            · rename_i e he
              obtain rfl := Option.some.inj h
              obtain ⟨u, e1, g, c, q1, rfl⟩ := evO_ev hG hF hx
              obtain ⟨g', c', q2, q3, gm, cm, q4, q5⟩ := hM.at_ b _ hi
              obtain ⟨rfl, rfl⟩ := Prod.mk.inj (Option.some.inj (q2.symm.trans q1))
              obtain ⟨gm', cm', p1, p2, ms, p3, p4⟩ := hM.at_ mb _ hm
              obtain ⟨rfl, rfl⟩ := Prod.mk.inj (Option.some.inj (p1.symm.trans q4))
              obtain ⟨m, m1, m2⟩ := find_EN p4 he
              refine ⟨.tuple #[m.key, m.val], ?_, [m.key, m.val], ⟨m2.1, m2.2.1, trivial⟩, rfl⟩
              simp only [execOp, ev_eval e1]
              refine v_run ?_
              have hb : seen.toArray.back? = some s := by simpa using hl
              simp only [Instr.entry, getObj, Sem.run_bind, Sem.run, q5, Result.andThen, hb, p3, bne_self_eq_false, Bool.false_eq_true, if_false]
              rw [List.find?_toArray, m1]
              rfl
            · cases h
        · cases h
      · cases h
    · cases h
  · cases h
theorem map_at {b g c : Nat} {es : List (Value × C × Nat)} {clock : Nat} {ro : Bool} (hM : MR w0 ρ st w) (hm : st.mem.get b = some (.map es clock ro)) (q1 : ρ b = some (g, c)) :
    ∃ ms : List MapEntry, w.heap[g]? = some (.map ms.toArray clock) ∧ A2 (EN ρ) es ms := by
  obtain ⟨g', c2, q2, _, ms, q3, q4⟩ := hM.at_ b _ hm
  obtain ⟨rfl, rfl⟩ := Prod.mk.inj (Option.some.inj (q2.symm.trans q1))
  exact ⟨ms, q3, q4⟩
/-- A map turned. -/
theorem setmap_ok {b g c : Nat} {es es' : List (Value × C × Nat)} {ms ms' : List MapEntry} {clock clock' : Nat} (hM : MR w0 ρ st w) (hm : st.mem.get b = some (.map es clock false)) (q1 : ρ b = some (g, c)) (q3 : w.heap[g]? = some (.map ms.toArray clock)) (hA : A2 (EN ρ) es' ms')
    (hp : putB st b (.map es' clock' false) = some st') : MR w0 ρ st' { w with heap := w.heap.setIfInBounds g (.map ms'.toArray clock') } :=
  putB_ok hM hp hm rfl q1 gb_setObj ⟨ms', (MapKept.heap_set q3).1, hA⟩
theorem ixB_ok {s : Nat} : ∀ {es : List (Value × C × Nat)} {ms : List MapEntry} {i : Nat}, A2 (EN ρ) es ms → ixB s es = some i → (ms.toArray.findIdx? fun e => (e.born : Int) == Int.ofNat s) = some i
  | [], _, _, _, h => by cases h
  | x :: es, [], _, hr, _ => hr.elim
  | x :: es, m :: ms, i, hr, h => by
    rw [List.findIdx?_toArray, List.findIdx?_cons]
    simp only [ixB] at h
    have hb : ((m.born : Int) == Int.ofNat s) = Nat.beq x.2.2 s := by
      rw [hr.1.2.2]
      by_cases h : x.2.2 = s
      · rw [h]; simp
      · rw [beq_no h]
        simp only [beq_eq_false_iff_ne, ne_eq, Int.ofNat_eq_natCast]
        omega
    rw [hb]
    cases hq : Nat.beq x.2.2 s with
    | true =>
      rw [hq] at h
      obtain rfl := Option.some.inj h
      rfl
    | false =>
      rw [hq] at h
      simp only [cond_false] at h
      split at h
      · rename_i j hj
        obtain rfl := Option.some.inj h
        have := ixB_ok hr.2 hj
        rw [List.findIdx?_toArray] at this
        rw [this]; rfl
      · cases h
theorem ev7_ok (hG : GL ρ gl) (hF : FR ρ n fr l) (hM : MR w0 ρ st w) {op : Op} {x : V2} (h : ev7 P gl n fr st op = some (x, st')) : Ok2 P w0 ρ w (execOp (Ac n σ ds l).eval ⟨dst, op, ty, pos, af, gd⟩) x st' := by
  unfold ev7 at h
  split at h
  · rename_i t x y
    split at h
    · rename_i b a kt et hx hy hu
      split at h
      · rename_i k es clock z hk hm hz
        split at h
        · rename_i hck
          obtain ⟨u, e1, g, cc, q1, rfl⟩ := evO_ev hG hF hx
          obtain ⟨k', e2, r2⟩ := evO_ev hG hF hy
          obtain rfl := kOf_eq hk r2
          obtain ⟨ms, q3, q4⟩ := map_at hM hm q1
          have hzz : ∀ w, (zeroValue et).run P w = .ok z w := fun w => by
            obtain ⟨i, hi, hz'⟩ := Option.bind_eq_some_iff.1 hz
            simp [zeroValue, typeInfo, hi, hz']
          have hex : ∀ r w', (Instr.mapEntry t (.map (some g)) k').run P w = .ok r w' → (execOp (Ac n σ ds l).eval ⟨dst, .mapEntry t x y, ty, pos, af, gd⟩).run P w = .ok (.value r) w' := fun r w' hr => by
            simp only [execOp, ev_eval e1, ev_eval e2]
            exact v_run hr
          split at h
          · rename_i hf
            obtain ⟨q, f1, f2⟩ := ixA_ok (w := w) q4 hf
            simp only at f2
            subst f2
            split at h
            · rename_i st1 hp
              obtain ⟨rfl, rfl⟩ := Prod.mk.inj (Option.some.inj h)
              have hA : A2 (EN ρ) (es ++ [(k', .b (.k z), clock)]) (ms ++ [⟨k', z, clock⟩]) := q4.app ⟨⟨rfl, rfl, rfl⟩, trivial⟩
              refine ⟨.tuple #[z, .int .i64 (clock : Int)], _, ρ, hex _ _ ?_, Le.refl ρ, setmap_ok hM hm q1 q3 hA hp, [z, .int .i64 (clock : Int)], ⟨rfl, rfl, trivial⟩, rfl⟩
              unfold Instr.mapEntry
              simp only [Sem.run_bind, run_underlying hu, Result.andThen_ok, MapKept.run_getObj_map q3, pureOf_run hck, List.toList_toArray, f1, hzz, MapKept.run_setObj_map _ q3]
              simp [goInt]
            · cases h
          · rename_i i ci hf
            obtain ⟨q, f1, vi, rfl, f2⟩ := ixA_ok (w := w) q4 hf
            split at h
            · rename_i e he
              cases hsb : Instr.sameBits 10000 e.1 k' with
              | false => rw [hsb] at h; cases h
              | true =>
                rw [hsb] at h
                simp only [cond_true] at h
                split at h
                · rename_i st1 hp
                  obtain ⟨rfl, rfl⟩ := Prod.mk.inj (Option.some.inj h)
                  obtain ⟨m, hm1, hm2⟩ := q4.get i e he
                  have hA : A2 (EN ρ) (es.set i (k', e.2.1, e.2.2)) (ms.modify i fun m => { m with key := k' }) := q4.modify i he (fun m hm => ⟨rfl, hm.2.1, hm.2.2⟩)
                  refine ⟨.tuple #[vi, .int .i64 (e.2.2 : Int)], _, ρ, hex _ _ ?_, Le.refl ρ, setmap_ok hM hm q1 q3 hA hp, [vi, .int .i64 (e.2.2 : Int)], ⟨f2, rfl, trivial⟩, rfl⟩
                  have hek : ((ms.toArray[i]?).map (·.key)).getD k' = e.1 := by
                    simp only [List.getElem?_toArray, hm1, Option.map_some, Option.getD_some]
                    exact hm2.1
                  have heb : ((ms.toArray[i]?).map (·.born)).getD 0 = e.2.2 := by
                    simp only [List.getElem?_toArray, hm1, Option.map_some, Option.getD_some]
                    exact hm2.2.2
                  have hstay : (Instr.keyThatStays e.1 k').run P w = .ok k' w := by simp [Instr.keyThatStays, hsb]
                  unfold Instr.mapEntry
                  simp only [Sem.run_bind, run_underlying hu, Result.andThen_ok, MapKept.run_getObj_map q3, pureOf_run hck, List.toList_toArray, f1, hek, heb, hstay, MapKept.run_setObj_map _ q3]
                  simp [goInt, hm1, hm2.2.2]
                · cases h
            · cases h
          · cases h
        · cases h
      · cases h
    · cases h
  · cases h
theorem updA_ok {t : TypeId} {x y z : Operand} (hG : GL ρ gl) (hF : FR ρ n fr l) (hM : MR w0 ρ st w) {op : Op} (hop : op = .mapUpdate t x y z ∨ op = .insert t x y z) (h : updA P gl n fr st t x y z = some st') : Ok3 P w0 ρ w (execOp (Ac n σ ds l).eval ⟨dst, op, ty, pos, af, gd⟩) st' := by
  unfold updA at h
  split at h
  · rename_i b a c kt et hx hy hz hu
    split at h
    · rename_i k es clock hk hm
      split at h
      · rename_i hck
        obtain ⟨u, e1, g, cc, q1, rfl⟩ := evO_ev hG hF hx
        obtain ⟨k', e2, r2⟩ := evO_ev hG hF hy
        obtain rfl := kOf_eq hk r2
        obtain ⟨v, e3, r3⟩ := evO_ev hG hF hz
        obtain ⟨ms, q3, q4⟩ := map_at hM hm q1
        have hex : ∀ w', (Instr.mapUpdate t (.map (some g)) k' v).run P w = .ok () w' → (execOp (Ac n σ ds l).eval ⟨dst, op, ty, pos, af, gd⟩).run P w = .ok .skip w' := fun w' hr => by
          rcases hop with rfl | rfl
          · simp only [execOp, ev_eval e1, ev_eval e2, ev_eval e3]
            exact u_run hr
          · simp only [execOp, ev_eval e1, ev_eval e2, ev_eval e3]
            exact u_run hr
        split at h
        · rename_i hf
          obtain ⟨q, f1, f2⟩ := ixA_ok (w := w) q4 hf
          simp only at f2
          subst f2
          have hA : A2 (EN ρ) (es ++ [(k', c, clock)]) (ms ++ [⟨k', v, clock⟩]) := q4.app ⟨⟨rfl, r3, rfl⟩, trivial⟩
          refine ⟨_, hex _ ?_, setmap_ok hM hm q1 q3 hA h⟩
          unfold Instr.mapUpdate
          simp only [Sem.run_bind, run_underlying hu, Result.andThen_ok, MapKept.run_getObj_map q3, pureOf_run hck, List.toList_toArray, f1, MapKept.run_setObj_map _ q3]
          simp
        · rename_i i ci hf
          obtain ⟨q, f1, vi, rfl, f2⟩ := ixA_ok (w := w) q4 hf
          split at h
          · rename_i e he
            cases hsb : Instr.sameBits 10000 e.1 k' with
            | false => rw [hsb] at h; cases h
            | true =>
              rw [hsb] at h
              simp only [cond_true] at h
              obtain ⟨m, hm1, hm2⟩ := q4.get i e he
              have hA : A2 (EN ρ) (es.set i (k', c, e.2.2)) (ms.modify i fun m => { m with key := k', val := v }) := q4.modify i he (fun m hm => ⟨rfl, r3, hm.2.2⟩)
              refine ⟨_, hex _ ?_, setmap_ok hM hm q1 q3 hA h⟩
              have hek : ((ms.toArray[i]?).map (·.key)).getD k' = e.1 := by
                simp only [List.getElem?_toArray, hm1, Option.map_some, Option.getD_some]
                exact hm2.1
              have hstay : (Instr.keyThatStays e.1 k').run P w = .ok k' w := by simp [Instr.keyThatStays, hsb]
              unfold Instr.mapUpdate
              simp only [Sem.run_bind, run_underlying hu, Result.andThen_ok, MapKept.run_getObj_map q3, pureOf_run hck, List.toList_toArray, f1, hek, hstay, MapKept.run_setObj_map _ q3]
              simp
          · cases h
        · cases h
      · cases h
    · cases h
  · cases h
theorem ev6_ok (hG : GL ρ gl) (hF : FR ρ n fr l) (hM : MR w0 ρ st w) {op : Op} (h : ev6 P gl n fr st op = some st') : Ok3 P w0 ρ w (execOp (Ac n σ ds l).eval ⟨dst, op, ty, pos, af, gd⟩) st' := by
  unfold ev6 at h
  split at h
  · rename_i t x y z
    split at h
    · rename_i b kd s c hx hy hz
      split at h
      · rename_i es clock hm
        split at h
        · rename_i i hi
          split at h
          · rename_i e he
            obtain ⟨u, e1, g, cc, q1, rfl⟩ := evO_ev hG hF hx
            obtain ⟨k', e2, r2⟩ := evO_ev hG hF hy
            obtain rfl : k' = _ := r2
            obtain ⟨v, e3, r3⟩ := evO_ev hG hF hz
            obtain ⟨ms, q3, q4⟩ := map_at hM hm q1
            have hA : A2 (EN ρ) (es.set i (e.1, c, e.2.2)) (ms.modify i fun m => { m with val := v }) := q4.modify i he (fun m hm => ⟨hm.1, r3, hm.2.2⟩)
            refine ⟨_, ?_, setmap_ok hM hm q1 q3 hA h⟩
            have hfi := ixB_ok q4 hi
            simp only [execOp, ev_eval e1, ev_eval e2, ev_eval e3]
            refine u_run ?_
            unfold Instr.entryStore
            simp only [Sem.run_bind, Result.andThen_ok, MapKept.run_getObj_map q3, asInt, asIntOf, Sem.run_pure]
            rw [show (ms.toArray.findIdx? fun e => (e.born : Int) == Int.ofNat s) = some i from hfi]
            simp only [MapKept.run_setObj_map _ q3]
            simp
          · cases h
        · cases h
      · cases h
    · cases h
  · exact updA_ok hG hF hM (.inl rfl) h
  · exact updA_ok hG hF hM (.inr rfl) h
  · cases h
theorem ubytes_ok (s : ByteArray) : A2 (RC ρ) (ubytes s) (s.data.map fun b => Value.int .u8 (b.toNat : Int)).toList := by
  have h := A2_k (ρ := ρ) (s.data.map fun b => Value.int .u8 (b.toNat : Int)).toList
  simpa [ubytes, List.map_map, Function.comp_def] using h
theorem ev5_ok (hG : GL ρ gl) (hF : FR ρ n fr l) (hM : MR w0 ρ st w) {op : Op} {x : V2} (h : ev5 P gl n fr st op = some (x, st')) : Ok2 P w0 ρ w (execOp (Ac n σ ds l).eval ⟨dst, op, ty, pos, af, gd⟩) x st' := by
  unfold ev5 at h
  split at h
  -- makeMap
  · rename_i t
    split at h
    · rename_i st1 hn
      obtain ⟨rfl, rfl⟩ := Prod.mk.inj (Option.some.inj h)
      refine ⟨.map (some w.heap.size), w.alloc (.map #[] 0), ext ρ st.next (w.heap.size, 0), ?_, hM.ext_le _, newB_ok hM hn (gb_alloc w _) (Nat.le_refl _) ⟨[], heap_alloc_new w _, trivial⟩, _, _, ext_at _ _ _, rfl⟩
      simp only [execOp]
      exact v_run (run_makeMap t w)
    · cases h
  -- range
  · rename_i t x
    split at h
    · rename_i b kt et hx hu
      split at h
      · rename_i es clock ro hm
        split at h
        · rename_i st1 hn
          obtain ⟨rfl, rfl⟩ := Prod.mk.inj (Option.some.inj h)
          obtain ⟨u, e1, g, cc, q1, rfl⟩ := evO_ev hG hF hx
          obtain ⟨ms, q3, q4⟩ := map_at hM hm q1
          have hle := hM.ext_le (w.heap.size, 0)
          refine ⟨.pointer (some ⟨w.heap.size, 0, none⟩), w.alloc (.mapIter (some g) clock #[] clock), ext ρ st.next (w.heap.size, 0), ?_, hle, newB_ok hM hn (gb_alloc w _) (Nat.le_refl _) ⟨g, cc, hle _ _ q1, heap_alloc_new w _⟩, _, _, ext_at _ _ _, rfl⟩
          simp only [execOp, ev_eval e1]
          exact v_run (run_range_map w t kt et g ms.toArray clock hu q3)
        · cases h
      · cases h
    · cases h
  -- append, where there is no room
  · rename_i xs ts
    split at h
    · rename_i s y t t' hxs hts
      obtain rfl : xs = #[s, y] := by cases xs; simp_all
      obtain rfl : ts = #[t, t'] := by cases ts; simp_all
      split at h
      · rename_i b o k C y' e sz by_ ha hb hs
        cases htt : Nat.beq t t' with
        | false => rw [htt] at h; cases h
        | true =>
          rw [htt] at h
          obtain rfl := Nat.eq_of_beq_eq_true htt
          simp only [cond_true] at h
          split at h
          · rename_i T cs md m us hm hnw
            split at h
            · rename_i pre hpre
              cases hb2 : (Nat.blt C (k + m) && Nat.ble (k + m) 1000000 && Nat.ble (Builtin.nextslicecap (k + m) C * by_) 281474976710656 && !(Nat.beq m 0)) with
              | false => rw [hb2] at h; cases h
              | true =>
                rw [hb2] at h
                simp only [cond_true] at h
                simp only [Bool.and_eq_true, Bool.not_eq_true'] at hb2
                obtain ⟨⟨⟨c1, c2⟩, c3⟩, c4⟩ := hb2
                have c1 : C < k + m := by simpa [Nat.blt_eq] using c1
                have c2 := Nat.le_of_ble_eq_true c2
                have c3 := Nat.le_of_ble_eq_true c3
                have c4 := Nat.ne_of_beq_eq_false c4
                split at h
                · rename_i st1 hn
                  obtain ⟨rfl, rfl⟩ := Prod.mk.inj (Option.some.inj h)
                  obtain ⟨u, e1, r1⟩ := evO_ev hG hF ha
                  obtain ⟨v, e2, r2⟩ := evO_ev hG hF hb
                  obtain ⟨g, cc, q1, q2, rfl⟩ := r1
                  obtain ⟨A, c, vs, rfl, p1, p2, p3⟩ := news_ok hM hnw r2
                  obtain ⟨hu, inf, z, hinf, hz, g1, g2, g3, g4, g5⟩ := slcB_u (slcI_B hs)
                  obtain ⟨os, T', cr, fz, x1, x2, x3, x4⟩ := holds_sub hM hm q1 hpre
                  rcases p3 with ⟨_, h0⟩ | ⟨ga, oa, rfl, hat⟩
                  · exact absurd h0 c4
                  have hrun := run_append_grow (P := P) w t ty e inf z hu hinf hz ⟨g, o, none⟩ k C os (by rw [x3, g1]) (fun j v hj => by rw [Addr.add_lit, cell_of_row w g _ _ T' fz x1]; exact x4 j v hj) ⟨ga, oa, none⟩ m c vs (by rw [p2, g1]) hat c1 (by omega) (by rw [g2]; exact c3)
                  have hge := grownCap_ge w (k + m) C e
                  have hmx := grownCap_le_maxLen w (k + m) C e (by simp only [maxLen]; omega)
                  have hle := hM.ext_le (w.heap.size, grownCap w (k + m) C e)
                  have hgr : w.grownBy (w.drew.alloc (.cells (os.toArray ++ vs.toArray ++ Builtin.zeroCells z.cells (grownCap w (k + m) C e - (k + m))) e)) none := gb_trans (show w.grownBy w.drew none from ⟨rfl, rfl, rfl, Nat.le_refl _, fun _ _ _ => rfl⟩) (gb_alloc w.drew _)
                  refine ⟨_, _, ext ρ st.next (w.heap.size, grownCap w (k + m) C e), ?_, hle, newB_ok hM hn hgr (Nat.le_refl _) ⟨os ++ vs, (Builtin.zeroCells z.cells (grownCap w (k + m) C e - (k + m))).toList, ((0, 0), e), ?_, (x2.app p1).mono fun _ _ => RC.mono hle, fun h => by omega, fun _ => ⟨?_, hmx⟩, fun _ => rfl⟩, w.heap.size, _, ext_at _ _ _, by omega, rfl⟩
                  · simp only [Nat.sub_zero]
                    simp [execOp, resolve, invoke, builtin, ev_eval e1, ev_eval e2, hrun]
                  · have := heap_alloc_new w.drew (.cells (os.toArray ++ vs.toArray ++ Builtin.zeroCells z.cells (grownCap w (k + m) C e - (k + m))) e)
                    have e0 : w.drew.heap.size = w.heap.size := rfl
                    rw [e0] at this
                    rw [this]
                    congr 2
                    apply Array.ext'
                    simp
                  · rw [List.length_append, x3, p2, Array.length_toList, size_zeroCells, g3, show 3 + sz - 3 = sz by omega, ← Nat.add_mul, ← Nat.add_mul]
                    congr 1
                    omega
                · cases h
            · cases h
          · cases h
      · cases h
    · cases h
  -- delete
  · rename_i xs ts
    split at h
    · rename_i x y t t' hxs hts
      obtain rfl : xs = #[x, y] := by cases xs; simp_all
      obtain rfl : ts = #[t, t'] := by cases ts; simp_all
      split at h
      · rename_i b a kt et hx hy hu
        split at h
        · rename_i k es clock hk hm
          split at h
          · rename_i hck
            obtain ⟨u, e1, g, cc, q1, rfl⟩ := evO_ev hG hF hx
            obtain ⟨k', e2, r2⟩ := evO_ev hG hF hy
            obtain rfl := kOf_eq hk r2
            obtain ⟨ms, q3, q4⟩ := map_at hM hm q1
            have hck' : (Instr.checkKey ms.toArray.isEmpty 10000 kt k').run P w = .ok () w := by rw [isE_ok q4]; exact pureOf_run hck
            have hex : ∀ w', (Builtin.delete_ #[t, t'] ty #[.map (some g), k']).run P w = .ok (.tuple #[]) w' → (execOp (Ac n σ ds l).eval ⟨dst, .call ⟨.builtin .delete, #[x, y], #[t, t']⟩, ty, pos, af, gd⟩).run P w = .ok (.value (.tuple #[])) w' := fun w' hr => by
              simp [execOp, resolve, invoke, builtin, ev_eval e1, ev_eval e2, hr]
            split at h
            · rename_i hf
              obtain ⟨q, f1, f2⟩ := ixA_ok (w := w) q4 hf
              simp only at f2
              subst f2
              split at h
              · rename_i st1 hp
                obtain ⟨rfl, rfl⟩ := Prod.mk.inj (Option.some.inj h)
                refine ⟨.tuple #[], _, ρ, hex _ ?_, Le.refl ρ, setmap_ok hM hm q1 q3 q4 hp, rfl⟩
                unfold Builtin.delete_
                simp [Sem.run_bind, run_underlying hu, Result.andThen_ok, MapKept.run_getObj_map q3, -List.isEmpty_toArray, hck', f1, MapKept.run_setObj_map _ q3]
              · cases h
            · rename_i i ci hf
              obtain ⟨q, f1, vi, rfl, f2⟩ := ixA_ok (w := w) q4 hf
              split at h
              · rename_i st1 hp
                obtain ⟨rfl, rfl⟩ := Prod.mk.inj (Option.some.inj h)
                refine ⟨.tuple #[], _, ρ, hex _ ?_, Le.refl ρ, setmap_ok hM hm q1 q3 (q4.erase i) hp, rfl⟩
                have e3 : (ms.toArray.eraseIdxIfInBounds i) = (ms.eraseIdx i).toArray := by
                  rw [← Array.toList_inj]
                  by_cases hlt : i < ms.length
                  · simp [Array.eraseIdxIfInBounds, hlt]
                  · simp [Array.eraseIdxIfInBounds, hlt, List.eraseIdx_of_length_le (Nat.not_lt.1 hlt)]
                unfold Builtin.delete_
                simp [Sem.run_bind, run_underlying hu, Result.andThen_ok, MapKept.run_getObj_map q3, -List.isEmpty_toArray, hck', f1, MapKept.run_setObj_map _ q3, e3]
              · cases h
            · cases h
          · cases h
        · cases h
      · cases h
    · cases h
  -- clear
  · rename_i xs ts
    split at h
    · rename_i x t hxs hts
      obtain rfl : xs = #[x] := by cases xs; simp_all
      obtain rfl : ts = #[t] := by cases ts; simp_all
      split at h
      · rename_i b o m c e sz by_ hx hs
        split at h
        · rename_i T cs md zs hm hz
          cases hb : (zs.all oneC && !(Nat.beq md 2) && Nat.ble (o + zs.length) cs.length && !(Nat.beq m 0)) with
          | false => rw [hb] at h; cases h
          | true =>
            rw [hb] at h
            simp only [cond_true] at h
            simp only [Bool.and_eq_true, Bool.not_eq_true'] at hb
            obtain ⟨⟨⟨b1, b2⟩, b3⟩, b4⟩ := hb
            split at h
            · rename_i st1 hp
              obtain ⟨rfl, rfl⟩ := Prod.mk.inj (Option.some.inj h)
              obtain ⟨u, e1, r1⟩ := evO_ev hG hF hx
              obtain ⟨g, c1, c2, q1, q2, rfl⟩ := RB.sl r1
              obtain ⟨i, z, hi, hz', f1, f2, f3, f4, f5, hA⟩ := zrow_ok (ρ := ρ) hz (slcI_B hs)
              have hu := (slcB_u (slcI_B hs)).1
              obtain ⟨w', hst, hM'⟩ := write_ok (P := P) hM hm q1 hA b1 (Nat.ne_of_beq_eq_false b2) (Nat.le_of_ble_eq_true b3) hp
              refine ⟨.tuple #[], w', ρ, ?_, Le.refl ρ, hM', rfl⟩
              have hm0 : m ≠ 0 := Nat.ne_of_beq_eq_false b4
              rw [← f3] at hst
              have hzr : (zeroValue e).run P w = .ok z w := by simp [zeroValue, typeInfo, hi, hz']
              have hcl : (Builtin.clear_ #[t] ty #[.slice (some ⟨g, o, none⟩) m c2]).run P w = .ok (.tuple #[]) w' := by
                unfold Builtin.clear_
                simp only [List.getElem?_toArray, List.getElem?_cons_zero, Sem.run_bind, run_underlying hu, Result.andThen_ok, hzr, Builtin.zeroCells, hst]
                rfl
              simp [execOp, resolve, invoke, builtin, ev_eval e1, hcl]
            · cases h
        · cases h
      · cases h
    · cases h
  -- convert
  · rename_i s t x
    split at h
    · rename_i r u e hx hs ht
      cases hb : intB P e .u8 with
      | false => rw [hb] at h; cases h
      | true =>
        rw [hb] at h
        simp only [cond_true] at h
        split at h
        · rename_i st1 hn
          obtain ⟨rfl, rfl⟩ := Prod.mk.inj (Option.some.inj h)
          obtain ⟨v, e1, r1⟩ := evO_ev hG hF hx
          obtain rfl : v = _ := r1
          have hu := (slcB_u (slcI_B ht)).1
          have hge := grownCap_ge w r.size 0 e
          have hle := hM.ext_le (w.heap.size, grownCap w r.size 0 e)
          refine ⟨.slice (some ⟨w.heap.size, 0, none⟩) r.size (grownCap w r.size 0 e), Lib.bytesWorld w e r, ext ρ st.next (w.heap.size, grownCap w r.size 0 e), ?_, hle, newB_ok hM hn ⟨rfl, rfl, rfl, by rw [Lib.bytesWorld_size]; omega, fun i hi _ => Lib.bytesWorld_at_old w e r i hi⟩ (Nat.le_refl _) ⟨(r.data.map fun b => Value.int .u8 (b.toNat : Int)).toList, (Array.replicate (grownCap w r.size 0 e - r.size) (Value.int .u8 0)).toList, (((Lib.bytesCells w e r).size, (Lib.bytesCells w e r).size + 1), e), ?_, ubytes_ok r, fun h => absurd h (by decide), fun h => absurd h (by decide), fun h => absurd rfl h⟩, _, _, ext_at _ _ _, by omega, rfl⟩
          · simp only [execOp, ev_eval e1]
            exact v_run (Lib.run_convert_string_bytes w s t e r hs hu (intB_u hb))
          · rw [Lib.bytesWorld_at_new]
            congr 2
            rw [← Array.toList_inj]
            simp [Lib.bytesCells]
        · cases h
    · rename_i b m c u e hx hs ht
      cases hb : (intB P e .u8 && Nat.beq s t) with
      | false => rw [hb] at h; cases h
      | true =>
        rw [hb] at h
        simp only [cond_true] at h
        simp only [Bool.and_eq_true] at hb
        obtain rfl := Nat.eq_of_beq_eq_true hb.2
        split at h
        · rename_i T cs hm
          split at h
          · rename_i st1 hp
            obtain ⟨rfl, rfl⟩ := Prod.mk.inj (Option.some.inj h)
            obtain ⟨v, e1, r1⟩ := evO_ev hG hF hx
            obtain ⟨g, c1, c2, q1, q2, rfl⟩ := RB.sl r1
            obtain ⟨g', c3, p1, p2, vs, vs', fz, p3, p4, p5, p6, p7⟩ := hM.at_ b _ hm
            obtain ⟨rfl, rfl⟩ := Prod.mk.inj (Option.some.inj (p1.symm.trans q1))
            have hu := (slcB_u (slcI_B ht)).1
            obtain rfl := p7 (by decide)
            have hsh : w.shape? g' = some (T, (vs ++ vs').length) := by unfold World.shape?; rw [p3]; simp
            have hr : (convert s s (.slice (some ⟨g', 0, none⟩) m c2)).run P w = .ok (.slice (some ⟨g', 0, none⟩) m c2) (w.freeze ⟨g', (vs ++ vs').length, none⟩ 1) := by
              simp [convert, run_underlying hu, run_underlying (intB_u hb.1), markStringish, hsh]
            have hat : (w.freeze ⟨g', (vs ++ vs').length, none⟩ 1).heap[g']? = some (.cells (vs ++ vs').toArray T ((vs ++ vs').length, (vs ++ vs').length + 1)) := by
              unfold World.freeze
              rw [if_neg (by decide)]
              show (w.heap.modify g' _)[g']? = _
              rw [Array.getElem?_modify, if_pos rfl, p3]
              rfl
            refine ⟨.slice (some ⟨g', 0, none⟩) m c2, w.freeze ⟨g', (vs ++ vs').length, none⟩ 1, ρ, by simp only [execOp, ev_eval e1]; exact v_run hr, Le.refl ρ, putB_ok hM hp hm rfl q1 ⟨rfl, rfl, rfl, ?_, fun k _ hk => ?_⟩ ⟨vs, vs', (((vs ++ vs').length, (vs ++ vs').length + 1), T), hat, p4, fun h => absurd h (by decide), fun h => absurd h (by decide), fun h => absurd rfl h⟩, r1⟩
            · unfold World.freeze; rw [if_neg (by decide)]; simp
            · unfold World.freeze
              rw [if_neg (by decide)]
              show (w.heap.modify g' _)[k]? = _
              rw [Array.getElem?_modify, if_neg (fun e => hk (by rw [e]))]
          · cases h
        · cases h
    · cases h
  · cases h
end
end Go.Proofs.Ytbmohojdlgedpaa.Ev
