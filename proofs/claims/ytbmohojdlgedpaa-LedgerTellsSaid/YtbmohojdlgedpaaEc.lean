/-
  An evaluator for closed calls, third part: the operations that leave the memory as it is do what is reckoned. It holds of every program.
-/
import Derived.Test.YtbmohojdlgedpaaEb
namespace Go.Proofs.Ytbmohojdlgedpaa.Ev
open Go.RowKit Gw
set_option linter.unusedVariables false
set_option linter.unusedSimpArgs false
section
variable {P : Program} {ρ : Rho} {gl : Gl} {n : Nat} {fr : Fr} {l : Sl} {w0 : Wd} {w : World} {st : St}
variable {σ : Nat → Value} {ds : List Deferred} {ty : TypeId} {pos : String} {af : Array Edge} {dst : Option Nat} {gd : Option (Nat × Bool)}
/-- What the evaluator says of a quiet operation is so. -/
def Ok1 (P : Program) (ρ : Rho) (n : Nat) (σ : Nat → Value) (ds : List Deferred) (l : Sl) (w : World) (dst : Option Nat) (op : Op) (ty : TypeId) (pos : String) (af : Array Edge) (gd : Option (Nat × Bool)) (x : V2) : Prop :=
  ∃ v, (execOp (Ac n σ ds l).eval ⟨dst, op, ty, pos, af, gd⟩).run P w = .ok (.value v) w ∧ R2 ρ x v
theorem a2_bls : ∀ {xs : List V2} {bs : List B} {vs : List Value}, bls xs = some bs → A2 (R2 ρ) xs vs → A2 (RB ρ) bs vs
  | [], bs, vs, h, r => by
    obtain rfl := Option.some.inj h
    cases vs with
    | nil => trivial
    | cons _ _ => exact r.elim
  | a :: xs, bs, vs, h, r => by
    cases vs with
    | nil => exact r.elim
    | cons v vs =>
      simp only [bls] at h
      split at h
      · rename_i b bs' h1 h2
        obtain rfl := Option.some.inj h
        refine ⟨?_, a2_bls h2 r.2⟩
        unfold bl at h1
        split at h1
        · obtain rfl := Option.some.inj h1; exact r.1
        · cases h1
      · cases h
theorem run_equalK {t : TypeId} {x y : V2} {u v : Value} {r : Bool} (h : eqA P t x y = some r) (hx : R2 ρ x u) (hy : R2 ρ y v) : (Op.equal t u v).run P w = .ok r w := by
  have key : ∀ d, (Op.equalIn (d + 1) t u v).run P w = .ok r w := by
    intro d
    unfold eqA at h
    split at h <;> cases h
    all_goals rename_i hu
    · obtain ⟨g, _, _, rfl⟩ := hx; obtain rfl : v = _ := hy
      simp [Op.equalIn, run_underlying hu]
    · obtain ⟨g, _, _, rfl⟩ := hy; obtain rfl : u = _ := hx
      simp [Op.equalIn, run_underlying hu]
    · obtain ⟨g, _, c, _, _, rfl⟩ := RB.sl hx; obtain rfl : v = _ := hy
      simp [Op.equalIn, run_underlying hu]
    · obtain ⟨g, _, c, _, _, rfl⟩ := RB.sl hy; obtain rfl : u = _ := hx
      simp [Op.equalIn, run_underlying hu]
    · obtain ⟨g, _, _, rfl⟩ := hx; obtain rfl : v = _ := hy
      simp [Op.equalIn, run_underlying hu]
    · obtain ⟨g, _, _, rfl⟩ := hy; obtain rfl : u = _ := hx
      simp [Op.equalIn, run_underlying hu]
    · obtain ⟨_, _, _, _, rfl⟩ := hx; obtain rfl : v = _ := hy
      simp [Op.equalIn, run_underlying hu]
    · obtain ⟨_, _, _, _, rfl⟩ := hy; obtain rfl : u = _ := hx
      simp [Op.equalIn, run_underlying hu]
  exact key 9999
theorem ev1_ok (hG : GL ρ gl) (hF : FR ρ n fr l) (hM : MR w0 ρ st w) {op : Op} {x : V2} (h : ev1 P gl n fr st op = some x) : Ok1 P ρ n σ ds l w dst op ty pos af gd x := by
  unfold Ok1
  unfold ev1 at h
  split at h
  -- move, assign
  · obtain ⟨v, e, r⟩ := evO_ev hG hF h; exact ⟨v, R_move e, r⟩
  · obtain ⟨v, e, r⟩ := evO_ev hG hF h; exact ⟨v, R_assign e, r⟩
  -- pick
  · split at h
    · rename_i hc
      obtain ⟨c, e, r⟩ := evO_ev hG hF hc
      obtain rfl : c = _ := r
      obtain ⟨v, e', r'⟩ := evO_ev hG hF h
      exact ⟨v, R_pickT e rfl e', r'⟩
    · rename_i hc
      obtain ⟨c, e, r⟩ := evO_ev hG hF hc
      obtain rfl : c = _ := r
      obtain ⟨v, e', r'⟩ := evO_ev hG hF h
      exact ⟨v, R_pickF e rfl e', r'⟩
    · cases h
  -- nilCheck
  · split at h
    · rename_i hc
      obtain rfl := Option.some.inj h
      obtain ⟨c, e, r⟩ := evO_ev hG hF hc
      obtain ⟨g, c, r1, rfl⟩ := r
      exact ⟨_, R_nilck e, g, c, r1, rfl⟩
    · cases h
  -- binOp
  · split at h
    · rename_i a b ha hb
      obtain ⟨u, e1, r1⟩ := evO_ev hG hF ha
      obtain ⟨v, e2, r2⟩ := evO_ev hG hF hb
      split at h
      · rename_i u' v' k1 k2
        split at h
        · rename_i r hr
          obtain rfl := Option.some.inj h
          obtain rfl := kOf_eq k1 r1
          obtain rfl := kOf_eq k2 r2
          refine ⟨r, ?_, rfl⟩
          simp only [execOp, ev_eval e1, ev_eval e2]
          exact v_run (pureOf_run hr)
        · cases h
      · split at h
        · split at h
          · rename_i r hr
            obtain rfl := Option.some.inj h
            refine ⟨.bool r, ?_, rfl⟩
            simp only [execOp, ev_eval e1, ev_eval e2]
            refine v_run ?_
            have he := run_equalK (w := w) hr r1 r2
            unfold eqA at hr
            split at hr <;> cases hr
            all_goals first
              | (obtain ⟨g, _, _, rfl⟩ := r1; obtain rfl : v = _ := r2; simp [eqGuard, binOp, he])
              | (obtain ⟨g, _, _, rfl⟩ := r2; obtain rfl : u = _ := r1; simp [eqGuard, binOp, he])
              | (obtain ⟨g, _, c, _, _, rfl⟩ := RB.sl r1; obtain rfl : v = _ := r2; simp [eqGuard, binOp, he])
              | (obtain ⟨g, _, c, _, _, rfl⟩ := RB.sl r2; obtain rfl : u = _ := r1; simp [eqGuard, binOp, he])
              | (obtain ⟨_, _, _, _, rfl⟩ := r1; obtain rfl : v = _ := r2; simp [eqGuard, binOp, he])
              | (obtain ⟨_, _, _, _, rfl⟩ := r2; obtain rfl : u = _ := r1; simp [eqGuard, binOp, he])
          · cases h
        · split at h
          · rename_i r hr
            obtain rfl := Option.some.inj h
            refine ⟨.bool (!r), ?_, rfl⟩
            simp only [execOp, ev_eval e1, ev_eval e2]
            refine v_run ?_
            have he := run_equalK (w := w) hr r1 r2
            unfold eqA at hr
            split at hr <;> cases hr
            all_goals first
              | (obtain ⟨g, _, _, rfl⟩ := r1; obtain rfl : v = _ := r2; simp [eqGuard, binOp, he])
              | (obtain ⟨g, _, _, rfl⟩ := r2; obtain rfl : u = _ := r1; simp [eqGuard, binOp, he])
              | (obtain ⟨g, _, c, _, _, rfl⟩ := RB.sl r1; obtain rfl : v = _ := r2; simp [eqGuard, binOp, he])
              | (obtain ⟨g, _, c, _, _, rfl⟩ := RB.sl r2; obtain rfl : u = _ := r1; simp [eqGuard, binOp, he])
              | (obtain ⟨_, _, _, _, rfl⟩ := r1; obtain rfl : v = _ := r2; simp [eqGuard, binOp, he])
              | (obtain ⟨_, _, _, _, rfl⟩ := r2; obtain rfl : u = _ := r1; simp [eqGuard, binOp, he])
          · cases h
        · cases h
    · cases h
  -- unOp
  · split at h
    · rename_i v hv
      split at h
      · rename_i r hr
        obtain rfl := Option.some.inj h
        obtain ⟨u, e, r1⟩ := evO_ev hG hF hv
        obtain rfl : u = v := r1
        refine ⟨r, ?_, rfl⟩
        simp only [execOp, ev_eval e]
        exact v_run (pureOf_run hr)
      · cases h
    · cases h
  -- convert
  · split at h
    · rename_i v hv
      split at h
      · rename_i r hr
        obtain rfl := Option.some.inj h
        obtain ⟨u, e, r1⟩ := evO_ev hG hF hv
        obtain rfl : u = v := r1
        refine ⟨r, ?_, rfl⟩
        simp only [execOp, ev_eval e]
        exact v_run (pureOf_run hr)
      · cases h
    · cases h
  -- fieldAddr
  · split at h
    · rename_i b o off hx hf
      obtain rfl := Option.some.inj h
      obtain ⟨u, e, r⟩ := evO_ev hG hF hx
      obtain ⟨g, c, r1, rfl⟩ := r
      exact ⟨_, R_field e (fldI_B hf) rfl, g, c, r1, rfl⟩
    · cases h
  -- indexAddr
  · split at h
    · rename_i b o m c k i hx hy
      split at h
      · rename_i e sz by_ hs
        cases hlt : Nat.blt i m with
        | false => rw [hlt] at h; cases h
        | true =>
          rw [hlt] at h
          obtain rfl := Option.some.inj h
          obtain ⟨u, e1, r⟩ := evO_ev hG hF hx
          obtain ⟨v, e2, r'⟩ := evO_ev hG hF hy
          obtain ⟨g, c1, c', r1, _, rfl⟩ := RB.sl r
          obtain rfl : v = _ := r'
          obtain ⟨hu, inf, z, hinf, hz, f1, f2, f3, f4, f5⟩ := slcB_u (slcI_B hs)
          have hi : i < m := by simpa [Nat.blt_eq] using hlt
          refine ⟨.pointer (some ⟨g, o + i * sz, none⟩), ?_, g, c1, r1, rfl⟩
          simp only [execOp, ev_eval e1, ev_eval e2]
          refine v_run ?_
          simp [Instr.indexAt, asIntOf, run_underlying hu, hi, sizeOf, typeInfo, hinf, f1, Addr.add_lit]
      · cases h
    · rename_i b o k i hx hy
      split at h
      · rename_i e m sz hs
        cases hlt : Nat.blt i m with
        | false => rw [hlt] at h; cases h
        | true =>
          rw [hlt] at h
          obtain rfl := Option.some.inj h
          obtain ⟨u, e1, r⟩ := evO_ev hG hF hx
          obtain ⟨v, e2, r'⟩ := evO_ev hG hF hy
          obtain ⟨g, c1, r1, rfl⟩ := r
          obtain rfl : v = _ := r'
          have hi : i < m := by simpa [Nat.blt_eq] using hlt
          exact ⟨_, R_indexArr e1 e2 rfl (arrI_B hs) hi rfl, g, c1, r1, rfl⟩
      · cases h
    · cases h
  -- load
  · split at h
    · rename_i b o hx
      obtain ⟨u, e, r⟩ := evO_ev hG hF hx
      obtain ⟨g, c1, r1, rfl⟩ := r
      split at h
      · rename_i T cs md hm
        obtain ⟨g', c2, q1, q2, vs, vs', fz, q3, q4, q5⟩ := hM.at_ b _ hm
        obtain ⟨rfl, rfl⟩ := Prod.mk.inj (Option.some.inj (q1.symm.trans r1))
        split at h
        · rename_i hs
          split at h
          · rename_i c hc
            obtain rfl := Option.some.inj h
            obtain ⟨v, hv, hr⟩ := q4.get o c hc
            refine ⟨v, R_load1 e hs ?_, hr⟩
            rw [cell_of_row w g' _ _ _ _ q3]
            have hlt : o < vs.length := (List.getElem?_eq_some_iff.1 hv).1
            simp only [List.getElem?_toArray]
            rw [List.getElem?_append_left hlt]; exact hv
          · cases h
        · split at h
          · rename_i sz ha
            split at h
            · rename_i rr hsub
              obtain rfl := Option.some.inj h
              obtain ⟨e1, e2⟩ := sub_eq hsub
              have hA : A2 (RC ρ) rr ((vs.drop o).take sz) := by rw [e1]; exact (q4.drop o).take sz
              refine ⟨_, R_loadA (vs := (vs.drop o).take sz) e (aggI_B ha) ?_ (by rw [← hA.len]; exact e2), _, hA, rfl⟩
              intro j v hj
              rw [cell_of_row w g' _ _ _ _ q3]
              rw [List.getElem?_take] at hj
              split at hj
              · rw [List.getElem?_drop] at hj
                have hlt : o + j < vs.length := (List.getElem?_eq_some_iff.1 hj).1
                simp only [List.getElem?_toArray]
                rw [List.getElem?_append_left hlt]; exact hj
              · cases hj
            · cases h
          · cases h
      · cases h
    · cases h
  -- extract
  · split at h
    · rename_i l' hx
      split at h
      · rename_i y hy
        obtain rfl := Option.some.inj h
        obtain ⟨u, e, r⟩ := evO_ev hG hF hx
        obtain ⟨us, r1, rfl⟩ := r
        obtain ⟨v, hv, hr⟩ := r1.get _ _ hy
        exact ⟨v, R_extract e (by simpa using hv), hr⟩
      · cases h
    · cases h
  -- makeFunc
  · split at h
    · rename_i a b ha hb
      split at h
      · rename_i a' b' ha' hb'
        obtain rfl := Option.some.inj h
        obtain ⟨us, e1, r1⟩ := evOs_ev hG hF ha
        obtain ⟨vs, e2, r2⟩ := evOs_ev hG hF hb
        refine ⟨.func (.func _) us.toArray vs.toArray, ?_, us, vs, a2_bls ha' r1, a2_bls hb' r2, rfl⟩
        have h3 := fun f => R_makeFunc (P := P) (w := w) (σ := σ) (ds := ds) (dst := dst) (ty := ty) (pos := pos) (af := af) (gd := gd) (fn := .func f) e1 e2
        simpa using h3 _
      · cases h
    · cases h
  -- index
  · split at h
    · rename_i a i ha hi
      split at h
      · rename_i u hk
        split at h
        · rename_i r hr
          obtain rfl := Option.some.inj h
          obtain ⟨u', e1, r1⟩ := evO_ev hG hF ha
          obtain ⟨v', e2, r2⟩ := evO_ev hG hF hi
          obtain rfl := kOf_eq hk r1
          obtain rfl : v' = i := r2
          refine ⟨r, ?_, rfl⟩
          simp only [execOp, ev_eval e1, ev_eval e2]
          exact v_run (pureOf_run hr)
        · cases h
      · cases h
    · cases h
  -- len
  · rename_i xs ts
    split at h
    · rename_i x t hxs hts
      obtain rfl : xs = #[x] := by cases xs; simp_all
      obtain rfl : ts = #[t] := by cases ts; simp_all
      split at h
      · rename_i b o m c hx
        split at h
        · rename_i q hs
          obtain rfl := Option.some.inj h
          obtain ⟨e', sz, by_⟩ := q
          obtain ⟨u, e, r⟩ := evO_ev hG hF hx
          obtain ⟨g, c1, c', r1, _, rfl⟩ := RB.sl r
          exact ⟨_, R_lenSl e (slcI_B hs), rfl⟩
        · cases h
      · rename_i b o o' e0 hx
        split at h
        · rename_i q hs
          obtain rfl := Option.some.inj h
          obtain ⟨e', sz, by_⟩ := q
          obtain ⟨u, e, g, c1, r1, _, rfl⟩ := evO_ev hG hF hx
          exact ⟨_, R_lenSl e (slcI_B hs), rfl⟩
        · cases h
      · rename_i v hx
        split at h
        · rename_i r hr
          obtain rfl := Option.some.inj h
          obtain ⟨u, e, r1⟩ := evO_ev hG hF hx
          obtain rfl : u = v := r1
          refine ⟨r, ?_, rfl⟩
          have this : (Builtin.len_ #[t] ty #[u]).run P w = .ok r w := pureOf_run hr
          simp [execOp, resolve, invoke, builtin, ev_eval e, this]
        · cases h
      · cases h
    · cases h
  · cases h
end
end Go.Proofs.Ytbmohojdlgedpaa.Ev
