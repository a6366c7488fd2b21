/-
  An evaluator for closed calls, seventh part: the operations that make or turn memory do what is reckoned. It holds of every program.
-/
import Derived.Test.YtbmohojdlgedpaaEf
namespace Go.Proofs.Ytbmohojdlgedpaa.Ev
open Go.RowKit Gw
set_option linter.unusedVariables false
set_option linter.unusedSimpArgs false
section
variable {P : Program} {ρ : Rho} {gl : Gl} {n : Nat} {fr : Fr} {l : Sl} {w0 : Wd} {w : World} {st st' : St}
variable {σ : Nat → Value} {ds : List Deferred} {ty : TypeId} {pos : String} {af : Array Edge} {dst : Option Nat} {gd : Option (Nat × Bool)}
theorem ok2_same (hM : MR w0 ρ st w) {s : Sem Next} {x : V2} {v : Value} (hr : s.run P w = .ok (.value v) w) (hx : R2 ρ x v) : Ok2 P w0 ρ w s x st := ⟨v, w, ρ, hr, Le.refl ρ, hM, hx⟩
theorem MR.of_del {b b' : Nat} {mb' : MB} {st1 : St} (h : delB st b = some st1) (e : st1.mem.get b' = some mb') : b' ≠ b ∧ st.mem.get b' = some mb' := by
  unfold delB at h
  split at h
  · rename_i t ht
    obtain rfl := Option.some.inj h
    rw [Tr.get_set _ _ _ _ _ ht] at e
    by_cases hb : b' = b
    · rw [if_pos hb] at e; cases e
    · rw [if_neg hb] at e; exact ⟨hb, e⟩
  · cases h
theorem delB_next {b : Nat} {st1 : St} (h : delB st b = some st1) : st1.next = st.next := by
  unfold delB at h
  split at h
  · obtain rfl := Option.some.inj h; rfl
  · cases h
theorem ev2_ok (hG : GL ρ gl) (hF : FR ρ n fr l) (hM : MR w0 ρ st w) {op : Op} {x : V2} (h : ev2 P gl n fr st op = some (x, st')) : Ok2 P w0 ρ w (execOp (Ac n σ ds l).eval ⟨dst, op, ty, pos, af, gd⟩) x st' := by
  unfold ev2 at h
  split at h
  -- box
  · split at h
    · rename_i e _ y hy
      split at h
      · rename_i st1 hn
        obtain ⟨rfl, rfl⟩ := Prod.mk.inj (Option.some.inj h)
        obtain ⟨v, e1, r1⟩ := evO_ev hG hF hy
        refine row_new hM hn (cel_A2 r1) ?_ ⟨_, _, ext_at _ _ _, rfl⟩
        simp only [execOp, ev_eval e1]
        exact v_run (by simp [Instr.box, newVar, newRow])
      · cases h
    · cases h
  -- alloc
  · split at h
    · rename_i e z hz
      split at h
      · rename_i st1 hn
        obtain ⟨rfl, rfl⟩ := Prod.mk.inj (Option.some.inj h)
        refine row_new hM hn (kcells_ok z) ?_ ⟨_, _, ext_at _ _ _, rfl⟩
        obtain ⟨i, hi, hz'⟩ := Option.bind_eq_some_iff.1 hz
        simp only [execOp]
        exact v_run (by simp [Instr.alloc, zeroValue, typeInfo, hi, hz', newVar, newRow])
      · cases h
    · cases h
  -- buildSlice
  · rename_i t m ps
    split at h
    · rename_i a e sz by_ ha hs
      split at h
      · rename_i zs hz
        split at h
        · rename_i cs hcs
          cases hb : Nat.ble (m * sz) 16777216 with
          | false => rw [hb] at h; cases h
          | true =>
            rw [hb] at h
            simp only [cond_true] at h
            split at h
            · rename_i st1 hn
              obtain ⟨rfl, rfl⟩ := Prod.mk.inj (Option.some.inj h)
              obtain ⟨pv, e1, r1⟩ := evPs_ev hG hF ha
              obtain ⟨i, z, hi, hz', f1, f2, f3, f4, f5, hA⟩ := zrow_ok (ρ := ρ) hz (slcI_B hs)
              obtain ⟨vs, e2, r2⟩ := fillA_ok r1 hA hcs
              have hu := (slcB_u (slcI_B hs)).1
              refine row_new hM hn r2 ?_ ⟨_, _, ext_at _ _ _, Nat.le_refl _, rfl⟩
              have hble : ¬ (2 ^ 24 < m * sz) := by have := Nat.le_of_ble_eq_true hb; omega
              simp only [execOp]
              refine v_run ?_
              have hp' : (Array.map (fun (x : Nat × Operand) => match x with | (i, x) => (i, (Ac n σ ds l).eval x)) ps) = pv.toArray := by
                have := evP_map (σ := σ) (ds := ds) e1
                simpa using this
              rw [hp']
              simp only [Array.toArray_toList] at e2
              by_cases h0 : m * sz = 0
              · have hf : Instr.fill (fun i => some (i * sz, sz)) ((Array.range (m * sz)).map ((#[] : Array Value)[· % (#[] : Array Value).size]!)) pv = some vs.toArray := by
                  rw [h0] at e2 ⊢
                  have e0 : Array.range 0 = #[] := rfl
                  rw [e0] at e2 ⊢
                  simpa using e2
                simp [Instr.buildSlice, run_underlying hu, sizeOf, typeInfo, hi, f1, hble, h0, newRow]
                simp [h0] at hf
                simp [hf]
              · simp [Instr.buildSlice, run_underlying hu, sizeOf, typeInfo, hi, f1, hble, h0, newRow, zeroValue, hz', e2]
            · cases h
        · cases h
      · cases h
    · cases h
  -- makeSlice
  · rename_i t _ _
    split at h
    · rename_i k1 a k2 c e sz by_ hx hy hs
      split at h
      · rename_i zs hz
        cases hb : (Nat.ble a c && Nat.ble (c * sz) 16777216 && Nat.ble (by_ * c) 281474976710656 && Nat.ble c 1000000) with
        | false => rw [hb] at h; cases h
        | true =>
          rw [hb] at h
          simp only [cond_true] at h
          simp only [Bool.and_eq_true] at hb
          obtain ⟨⟨⟨b1, b2⟩, b3⟩, b4⟩ := hb
          have b1 := Nat.le_of_ble_eq_true b1
          have b3 := Nat.le_of_ble_eq_true b3
          have b4 := Nat.le_of_ble_eq_true b4
          split at h
          · rename_i st1 hn
            obtain ⟨rfl, rfl⟩ := Prod.mk.inj (Option.some.inj h)
            obtain ⟨u, e1, r1⟩ := evO_ev hG hF hx
            obtain ⟨v, e2, r2⟩ := evO_ev hG hF hy
            obtain rfl : u = _ := r1
            obtain rfl : v = _ := r2
            obtain ⟨i, z, hi, hz', f1, f2, f3, f4, f5, hA⟩ := zrow_ok (ρ := ρ) hz (slcI_B hs)
            have hu := (slcB_u (slcI_B hs)).1
            refine row_new hM hn hA ?_ ⟨_, _, ext_at _ _ _, b1, rfl⟩
            simp only [execOp, ev_eval e1, ev_eval e2]
            refine v_run ?_
            have hb' : (i.bytes : Int) * (c : Int) ≤ 281474976710656 := by
              have h' : ((i.bytes * c : Nat) : Int) ≤ 281474976710656 := by rw [f2]; omega
              rwa [Int.natCast_mul] at h'
            have := run_make (P := P) w t e i z hu hi hz' k1 k2 (a : Int) (c : Int) (by omega) (by omega) hb' (by omega)
            simp only [Int.toNat_natCast] at this
            rw [f1] at this
            rw [Array.toArray_toList]
            exact this
          · cases h
      · cases h
    · cases h
  -- append
  · rename_i xs ts
    split at h
    · rename_i s y t t' hxs hts
      obtain rfl : xs = #[s, y] := by cases xs; simp_all
      obtain rfl : ts = #[t, t'] := by cases ts; simp_all
      split at h
      · rename_i a b e sz by_ ha hb hs
        cases htt : Nat.beq t t' with
        | false => rw [htt] at h; cases h
        | true =>
          rw [htt] at h
          obtain rfl := Nat.eq_of_beq_eq_true htt
          simp only [cond_true] at h
          obtain ⟨u, e1, r1⟩ := evO_ev hG hF ha
          obtain ⟨v, e2, r2⟩ := evO_ev hG hF hb
          have hB := slcI_B hs
          obtain ⟨hu, inf, z, hinf, hz, g1, g2, g3, g4, g5⟩ := slcB_u hB
          have hexec : ∀ {v' w'}, (Builtin.append_ #[t, t] ty #[u, v]).run P w = .ok v' w' → (execOp (Ac n σ ds l).eval ⟨dst, .call ⟨.builtin .append, #[s, y], #[t, t]⟩, ty, pos, af, gd⟩).run P w = .ok (.value v') w' := by
            intro v' w' hr
            simp [execOp, resolve, invoke, builtin, ev_eval e1, ev_eval e2, hr]
          split at h
          · rename_i us hnw
            obtain ⟨A, c, vs, rfl, p1, p2, p3⟩ := news_ok hM hnw r2
            have hfc : ∀ W : World, (Builtin.firstCells sz 0 (.slice A 0 c)).run P W = .ok #[] W := by
              intro W; cases A <;> simp [Builtin.firstCells, loadCells, loadCellsFrom]
            split at h
            · rename_i b o m cc
              obtain ⟨rfl, rfl⟩ := Prod.mk.inj (Option.some.inj h)
              obtain ⟨g, c1, C, q1, q2, rfl⟩ := RB.sl r1
              refine ok2_same hM (hexec ?_) r1
              simp [Builtin.append_, run_underlying hu, sizeOf, typeInfo, hinf, g1, Builtin.lenOf, hfc, q2, storeCells]
            · obtain ⟨rfl, rfl⟩ := Prod.mk.inj (Option.some.inj h)
              obtain rfl : u = _ := r1
              refine ok2_same hM (hexec ?_) rfl
              simp [Builtin.append_, run_underlying hu, sizeOf, typeInfo, hinf, g1, Builtin.lenOf, hfc]
            · cases h
          · rename_i m us hm0 hnw
            cases h1 : us.all oneC with
            | false => rw [h1] at h; cases h
            | true =>
              rw [h1] at h
              simp only [cond_true] at h
              obtain ⟨A, c, vs, rfl, p1, p2, p3⟩ := news_ok hM hnw r2
              have hmpos : 0 < m := by
                rcases Nat.eq_zero_or_pos m with h' | h'
                · subst h'; first | exact (hm0 rfl).elim | exact (hm0 _ rfl).elim | exact (hm0 rfl rfl).elim
                · exact h'
              have hA : ∃ g o, A = some ⟨g, o, none⟩ ∧ ∀ (j : Nat) (u : Value), vs[j]? = some u → w.cell? ((⟨g, o, none⟩ : Addr).add j) = some u := by
                rcases p3 with ⟨_, h0⟩ | p3
                · omega
                · exact p3
              split at h
              · cases hb2 : (Nat.ble (m * by_) 140737488355328 && Nat.ble m 1000000) with
                | false => rw [hb2] at h; cases h
                | true =>
                  rw [hb2] at h
                  simp only [cond_true] at h
                  simp only [Bool.and_eq_true] at hb2
                  split at h
                  · rename_i st1 hn
                    obtain ⟨rfl, rfl⟩ := Prod.mk.inj (Option.some.inj h)
                    obtain rfl : u = _ := r1
                    have b1 := Nat.le_of_ble_eq_true hb2.1
                    have b2 := Nat.le_of_ble_eq_true hb2.2
                    obtain ⟨v', w', ρ', k1, k2, k3, k4⟩ := append_own (ty := ty) (c0 := c) (k := 0) (pre := []) (xs := []) hM hM hB (own_nil 0 e sz w) (fun q hq => by cases hq) trivial p1 p2 h1 hA (by simpa using b1) (by simpa using b2) hmpos (fun b mb' g' c' _ _ => by simp [Value.ownBlock]) (by simpa using hn)
                    exact ⟨v', w', ρ', hexec k1, k2, k3, by simpa using k4⟩
                  · cases h
              · rename_i b o k cc
                split at h
                · rename_i T cs md hmb
                  cases hb2 : (Nat.beq o 0 && Nat.beq T e && Nat.ble ((k + m) * by_) 140737488355328 && Nat.ble (k + m) 1000000 && capOk md cs.length sz k cc) with
                  | false => rw [hb2] at h; cases h
                  | true =>
                    rw [hb2] at h
                    simp only [cond_true] at h
                    simp only [Bool.and_eq_true] at hb2
                    obtain ⟨⟨⟨⟨c1, c2⟩, c3⟩, c4⟩, c5⟩ := hb2
                    obtain rfl := Nat.eq_of_beq_eq_true c1
                    obtain rfl := Nat.eq_of_beq_eq_true c2
                    have c3 := Nat.le_of_ble_eq_true c3
                    have c4 := Nat.le_of_ble_eq_true c4
                    split at h
                    · rename_i pre st1 hpre hdel
                      split at h
                      · rename_i st2 hn
                        obtain ⟨rfl, rfl⟩ := Prod.mk.inj (Option.some.inj h)
                        obtain ⟨g, c', q1, q2, xs, xs', fz, q3, q4, q5, q6, q7⟩ := hM.at_ b _ hmb
                        obtain ⟨s1, s2⟩ := sub_eq hpre
                        rw [List.drop_zero] at s1
                        have hpx : A2 (RC ρ) pre (xs.take (k * sz)) := by rw [s1]; exact q4.take _
                        have hxl : (xs.take (k * sz)).length = k * sz := by rw [← hpx.len]; exact s2
                        have hxlen : k * sz ≤ xs.length := by rw [List.length_take] at hxl; omega
                        have hcl : cs.length = xs.length := q4.len
                        obtain ⟨C, hC, hu', hfz⟩ : ∃ C, (xs ++ xs').toArray.size = C * sz ∧ (u = .slice (some ⟨g, 0, none⟩) k C ∧ k ≤ C ∧ C ≤ maxLen) ∧ md ≠ 2 := by
                          cases cc with
                          | k C =>
                            simp only [capOk, Bool.and_eq_true] at c5
                            obtain ⟨⟨⟨d1, d2⟩, d3⟩, d4⟩ := c5
                            have d1 := Nat.eq_of_beq_eq_true d1
                            have d2 := Nat.eq_of_beq_eq_true d2
                            have d3 := Nat.le_of_ble_eq_true d3
                            have d4 := Nat.le_of_ble_eq_true d4
                            obtain ⟨g2, c2', z1, z2, z3⟩ := r1
                            obtain ⟨rfl, rfl⟩ := Prod.mk.inj (Option.some.inj (z1.symm.trans q1))
                            have := q5 d1
                            subst this
                            exact ⟨C, by simp; omega, ⟨z3, d3, by simp only [maxLen]; omega⟩, by omega⟩
                          | u d =>
                            simp only [capOk, Bool.and_eq_true] at c5
                            obtain ⟨d1, d2⟩ := c5
                            obtain rfl := Nat.eq_of_beq_eq_true d1
                            have d2 := Nat.eq_of_beq_eq_true d2
                            obtain ⟨g2, c2', z1, z2, z3⟩ := r1
                            obtain ⟨rfl, rfl⟩ := Prod.mk.inj (Option.some.inj (z1.symm.trans q1))
                            obtain ⟨y1, y2⟩ := q6 (by omega)
                            refine ⟨c2', by simp; rw [y1, d2]; congr 1; omega, ⟨by simpa using z3, by omega, y2⟩, by omega⟩
                        obtain ⟨rfl, hkC, hCm⟩ := hu'
                        obtain rfl := q7 hfz
                        have hbase : w0.ok g := ⟨q2.1 (by simp [MB.ro, beq_no hfz]), q2.2⟩
                        have hown : w.ownsRow 0 T sz (.slice (some ⟨g, 0, none⟩) k C) k (xs.take (k * sz)) :=
                          ⟨hxl, .inr ⟨g, C, _, rfl, Nat.zero_le _, q3, hkC, hCm, hC, by simp [List.take_append_of_le_length hxlen]⟩⟩
                        obtain ⟨v', w', ρ', k1, k2, k3, k4⟩ := append_own (ty := ty) (c0 := c) hM (delB_ok hM hdel) hB hown (fun q hq => (Option.some.inj (show some g = some q by simpa [Value.ownBlock] using hq)) ▸ hbase) hpx p1 p2 h1 hA c3 c4 hmpos (fun b' mb' g' c'' f1 f2 => by
                          obtain ⟨n1, n2⟩ := MR.of_del hdel f1
                          intro hh
                          have : g' = g := by simpa [Value.ownBlock] using hh
                          subst this
                          exact n1 (hM.inj b' b mb' _ g' c'' c' n2 hmb f2 q1)) hn
                        rw [delB_next hdel] at k4
                        exact ⟨v', w', ρ', hexec k1, k2, k3, k4⟩
                      · cases h
                    · cases h
                · cases h
              · cases h
          · cases h
      · cases h
    · cases h
  -- copy
  · rename_i xs ts
    split at h
    · rename_i x y t t' hxs hts
      obtain rfl : xs = #[x, y] := by cases xs; simp_all
      obtain rfl : ts = #[t, t'] := by cases ts; simp_all
      split at h
      · rename_i b o m c b2 o2 m2 c2 e sz by_ ha hb hs
        obtain ⟨u, e1, r1⟩ := evO_ev hG hF ha
        obtain ⟨v, e2, r2⟩ := evO_ev hG hF hb
        obtain ⟨hu, inf, z, hinf, hz, g1, g2, g3, g4, g5⟩ := slcB_u (slcI_B hs)
        obtain ⟨ga, ca, Ca, a1, a2, rfl⟩ := RB.sl r1
        obtain ⟨gb, cb, Cb, b1, b2', rfl⟩ := RB.sl r2
        split at h
        · rename_i T cs md T2 cs2 md2 hm1 hm2
          split at h
          · rename_i us hsub
            cases hb2 : (us.all oneC && !(Nat.beq md 2) && Nat.ble (o + us.length) cs.length) with
            | false => rw [hb2] at h; cases h
            | true =>
              rw [hb2] at h
              simp only [cond_true] at h
              simp only [Bool.and_eq_true, Bool.not_eq_true'] at hb2
              obtain ⟨⟨d1, d2⟩, d3⟩ := hb2
              have d2 := Nat.ne_of_beq_eq_false d2
              have d3 := Nat.le_of_ble_eq_true d3
              split at h
              · rename_i st1 hp
                obtain ⟨rfl, rfl⟩ := Prod.mk.inj (Option.some.inj h)
                obtain ⟨vs, T', cc', fz, p1, p2, p3, p4⟩ := holds_sub hM hm2 b1 hsub
                obtain ⟨w', hst, hM'⟩ := write_ok (P := P) hM hm1 a1 p2 d1 d2 d3 hp
                refine ⟨.int .i64 (.ofNat (Nat.min m2 m)), w', ρ, ?_, Le.refl ρ, hM', rfl⟩
                have hl := run_loadCells_list (P := P) (w := w) ⟨gb, o2, none⟩ vs (fun j v hj => by rw [Addr.add_lit, cell_of_row w gb _ _ T' fz p1]; exact p4 j v hj)
                rw [p3] at hl
                simp [execOp, resolve, invoke, builtin, ev_eval e1, ev_eval e2, Builtin.copy_, run_underlying hu, Builtin.lenOf, Builtin.firstCells, sizeOf, typeInfo, hinf, g1, hl, hst, goInt]
              · cases h
          · cases h
        · cases h
      · rename_i b o m c q ha hb hs
        obtain ⟨rfl, rfl⟩ := Prod.mk.inj (Option.some.inj h)
        obtain ⟨u, e1, r1⟩ := evO_ev hG hF ha
        obtain ⟨v, e2, r2⟩ := evO_ev hG hF hb
        obtain ⟨e', sz, by_⟩ := q
        obtain ⟨hu, inf, z, hinf, hz, g1, g2, g3, g4, g5⟩ := slcB_u (slcI_B hs)
        obtain ⟨ga, ca, Ca, a1, a2, rfl⟩ := RB.sl r1
        obtain rfl : v = _ := r2
        refine ok2_same hM ?_ rfl
        simp [execOp, resolve, invoke, builtin, ev_eval e1, ev_eval e2, Builtin.copy_, run_underlying hu, Builtin.lenOf, Builtin.firstCells, sizeOf, typeInfo, hinf, g1, storeCells, goInt]
      · rename_i b o m c s e by_ ha hb hs
        obtain ⟨u, e1, r1⟩ := evO_ev hG hF ha
        obtain ⟨v, e2, r2⟩ := evO_ev hG hF hb
        obtain ⟨hu, inf, z, hinf, hz, g1, g2, g3, g4, g5⟩ := slcB_u (slcI_B hs)
        obtain ⟨ga, ca, Ca, a1, a2, rfl⟩ := RB.sl r1
        obtain rfl : v = _ := r2
        split at h
        · rename_i T cs md hm1
          cases hb2 : (Nat.ble s.size m && !(Nat.beq md 2) && Nat.ble (o + s.size) cs.length) with
          | false => rw [hb2] at h; cases h
          | true =>
            rw [hb2] at h
            simp only [cond_true] at h
            simp only [Bool.and_eq_true, Bool.not_eq_true'] at hb2
            obtain ⟨⟨d1, d2⟩, d3⟩ := hb2
            have d1 := Nat.le_of_ble_eq_true d1
            have d2 := Nat.ne_of_beq_eq_false d2
            have d3 := Nat.le_of_ble_eq_true d3
            split at h
            · rename_i st1 hp
              obtain ⟨rfl, rfl⟩ := Prod.mk.inj (Option.some.inj h)
              have hub : A2 (RC ρ) (ubytes s) (s.data.toList.map fun b => Value.int .u8 (b.toNat : Int)) := by
                have e9 : ubytes s = (s.data.toList.map fun b => Value.int .u8 (b.toNat : Int)).map fun v => C.b (.k v) := by simp [ubytes, Function.comp_def]
                rw [e9]; exact A2_k _
              have hall : (ubytes s).all oneC = true := by
                unfold ubytes; rw [List.all_eq_true]; intro x hx; obtain ⟨b, _, rfl⟩ := List.mem_map.1 hx; rfl
              have hlen : (ubytes s).length = s.size := by simp [ubytes]
              obtain ⟨w', hst, hM'⟩ := write_ok (P := P) hM hm1 a1 hub hall d2 (by rw [hlen]; exact d3) hp
              refine ⟨.int .i64 (.ofNat s.size), w', ρ, ?_, Le.refl ρ, hM', rfl⟩
              have hmin : Nat.min s.size m = s.size := Nat.min_eq_left d1
              simp [execOp, resolve, invoke, builtin, ev_eval e1, ev_eval e2, Builtin.copy_, run_underlying hu, Builtin.lenOf, Builtin.firstCells, sizeOf, typeInfo, hinf, g1, hmin, goInt]
              first
                | (rw [hst]; rfl)
                | (have e3 : List.take s.size (List.map (fun b : UInt8 => Value.int IntKind.u8 (b.toNat : Int)) s.data.toList) = List.map (fun b : UInt8 => Value.int IntKind.u8 (b.toNat : Int)) s.data.toList := List.take_of_length_le (by rw [List.length_map]; exact Nat.le_refl _)
                   rw [e3, hst]; rfl)
            · cases h
        · cases h
      · cases h
    · cases h
  · cases h
theorem ev3_ok (hG : GL ρ gl) (hF : FR ρ n fr l) (hM : MR w0 ρ st w) {op : Op} (h : ev3 P gl n fr st op = some st') : Ok3 P w0 ρ w (execOp (Ac n σ ds l).eval ⟨dst, op, ty, pos, af, gd⟩) st' := by
  unfold ev3 at h
  split at h
  · rename_i t _ _
    split at h
    · rename_i b o v hx hy
      split at h
      · rename_i T cs md hm
        cases hb2 : (szB P t (cel v).length && (cel v).all oneC && !(Nat.beq md 2) && Nat.ble (o + (cel v).length) cs.length) with
        | false => rw [hb2] at h; cases h
        | true =>
          rw [hb2] at h
          simp only [cond_true] at h
          simp only [Bool.and_eq_true, Bool.not_eq_true'] at hb2
          obtain ⟨⟨⟨d0, d1⟩, d2⟩, d3⟩ := hb2
          have d2 := Nat.ne_of_beq_eq_false d2
          have d3 := Nat.le_of_ble_eq_true d3
          obtain ⟨u, e1, r1⟩ := evO_ev hG hF hx
          obtain ⟨u2, e2, r2⟩ := evO_ev hG hF hy
          obtain ⟨g, c, q1, rfl⟩ := r1
          obtain ⟨w', hst, hM'⟩ := write_ok (P := P) hM hm q1 (cel_A2 r2) d1 d2 d3 h
          refine ⟨w', ?_, hM'⟩
          simp only [execOp, ev_eval e1, ev_eval e2]
          refine u_run ?_
          have hlen : (cel v).length = u2.cells.size := by rw [(cel_A2 (ρ := ρ) r2).len]; simp
          rw [hlen] at d0
          simp [Instr.storeAt, Instr.sureAddr, storeVar, Gw.run_sizeOf d0, hst]
      · cases h
    · cases h
  · cases h
end
end Go.Proofs.Ytbmohojdlgedpaa.Ev
