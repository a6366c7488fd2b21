/-
  Segments that were loaded, as plain data: their headers, their records; arrays of four numbers as functions.
-/
import Derived.Test.YtkjgjejkfjhcjaaDoorGs
import Derived.Test.YtkjgjejkfjhcjaaDoorVq
namespace Go.Proofs.YtkjgjejkfjhcjaaDoor.Gw
open Go.RowKit
set_option linter.unusedVariables false
set_option linter.unusedSimpArgs false
/-- A record: its data is known by its length alone. -/
structure RecD where
  kind : Int
  chain : Int
  lsn : Int
  prev : Int
  da : Option Addr
  dn : Nat
  dc : Nat
def encR (r : RecD) : List Value := [.int .i64 r.kind, .int .i64 r.chain, .int .i64 r.lsn, .int .i64 r.prev, .slice r.da r.dn r.dc]
theorem EncR : Enc encR 5 := ⟨fun _ => rfl, fun _ => rfl⟩
structure SegD where
  ep : Int
  seq : Int
  first : Int
  hs : Nat → Int
  ra : Option Addr
  rc : Nat
  recs : List RecD
  pa : Option Addr
  pn : Nat
  pc : Nat
  en : Int
  kind : Int
def encG (g : SegD) : List Value := [.int .u64 g.ep, .int .i64 g.seq, .int .i64 g.first, .int .i64 (g.hs 0), .int .i64 (g.hs 1), .int .i64 (g.hs 2), .int .i64 (g.hs 3), .slice g.ra g.recs.length g.rc, .slice g.pa g.pn g.pc, .int .i64 g.en, .int .i64 g.kind]
theorem EncG : Enc encG 11 := ⟨fun _ => rfl, fun _ => rfl⟩
/-- The records' rows of segments, all of them older than the bound. -/
def DeepG (hi : Nat) (w : World) (ls : List SegD) : Prop := ∀ y ∈ ls, Sli 0 0 hi w y.ra (fl encR y.recs)
section
variable {hi : Nat} {w w' : World} {ls : List SegD}
theorem DeepG.gb (h : DeepG hi w ls) (hg : w.grownBy w' none) : DeepG hi w' ls := fun y hy => (h y hy).gb hg
theorem DeepG.old {g : Nat} (h : DeepG hi w ls) (hg : w.grownBy w' (some g)) (hr : hi ≤ g) : DeepG hi w' ls := fun y hy => (h y hy).old hg hr
theorem DeepG.own {base t sz m : Nat} {v : Value} {us : List Value} (h : DeepG hi w ls) (ho : w.ownsRow base t sz v m us) (hb : hi ≤ base) (hg : w.grownBy w' v.ownBlock) : DeepG hi w' ls :=
  fun y hy => (h y hy).grown hg (fun k hk => .inr (Nat.le_trans hb (World.ownsRow.lt ho k hk).1))
theorem DeepG.get (h : DeepG hi w ls) {i : Nat} (hi' : i < ls.length) : Sli 0 0 hi w ls[i].ra (fl encR ls[i].recs) := h _ (List.getElem_mem _)
end
/-- An array of four, one cell turned. -/
def upd (f : Nat → Int) (i : Nat) (x : Int) : Nat → Int := fun q => if q = i then x else f q
theorem four {i : Nat} (h : i < 4) : i = 0 ∨ i = 1 ∨ i = 2 ∨ i = 3 := by omega
theorem four_get {i : Nat} {f : Nat → Int} {k : IntKind} (h : i < 4) : ([.int k (f 0), .int k (f 1), .int k (f 2), .int k (f 3)] : List Value)[i]? = some (.int k (f i)) := by
  rcases four h with rfl | rfl | rfl | rfl <;> rfl
theorem four_at {i : Nat} {f : Nat → Int} {k : IntKind} {pre post : List Value} (h : i < 4) : (pre ++ ([.int k (f 0), .int k (f 1), .int k (f 2), .int k (f 3)] ++ post))[pre.length + i]? = some (.int k (f i)) := by
  rw [List.getElem?_append_right (by omega), Nat.add_sub_cancel_left, List.getElem?_append_left (by simpa using h), four_get h]
theorem four_set {i : Nat} {f : Nat → Int} {k : IntKind} {x : Int} {pre post : List Value} (h : i < 4) : (pre ++ (([.int k (f 0), .int k (f 1), .int k (f 2), .int k (f 3)] : List Value) ++ post)).set (pre.length + i) (.int k x) =
    pre ++ (([.int k (upd f i x 0), .int k (upd f i x 1), .int k (upd f i x 2), .int k (upd f i x 3)] : List Value) ++ post) := by
  rw [List.set_append_right _ _ (by omega), Nat.add_sub_cancel_left]
  rcases four h with rfl | rfl | rfl | rfl <;> rfl
section
variable {P : Program} {w : World} {n : Nat} {σ : Nat → Value} {ds : List Deferred} {l : Sl} {ty : TypeId} {pos : String} {af : Array Edge} {dst : Option Nat} {gd : Option (Nat × Bool)}
variable {t e : TypeId} {x y : Operand} {k kk : IntKind} {a : Int} {i : Nat} {f : Nat → Int}
theorem R_indexA4 (hx : ev n l x = some (.agg #[.int k (f 0), .int k (f 1), .int k (f 2), .int k (f 3)])) (hy : ev n l y = some (.int kk a)) (ha : a = (i : Int)) (hs : arrB P t e 4 1 = true) (hc : sclB P e = true) (hi : i < 4) :
    (execOp (Ac n σ ds l).eval ⟨dst, .index t x y, ty, pos, af, gd⟩).run P w = .ok (.value (.int k (f i))) w := by
  obtain ⟨hu, hz⟩ := arrB_u hs
  subst ha
  simp only [execOp, ev_eval hx, ev_eval hy]
  refine v_run ?_
  have hp : (part e #[.int k (f 0), .int k (f 1), .int k (f 2), .int k (f 3)] i).run P w = .ok (.int k (f i)) w := run_part1 hc (by
    rcases four hi with rfl | rfl | rfl | rfl <;> rfl)
  simp [Instr.index, asIntOf, run_underlying hu, hi, run_sizeOf hz, hp]
end
def arr4 (a b c d : Int) : Nat → Int := fun q => match q with | 0 => a | 1 => b | 2 => c | _ => d
theorem Blk.cast {w : World} {g : Nat} {t : TypeId} {cs cs' : List Value} (e : cs = cs') (h : Blk w g t cs) : Blk w g t cs' := e ▸ h
section
variable {P : Program} {w : World} {t e : TypeId}
theorem eqi_nil {d c : Nat} {xs ys : Array Value} : (Op.eqItems d e c xs ys []).run P w = .ok (decide True) w := by simp [Op.eqItems]
theorem eqi_cons {d : Nat} {xs ys : Array Value} {i : Nat} {is : List Nat} {v u : Value} {p q : Prop} [Decidable p] [Decidable q] (ht : sclB P e = true) (hx : xs[i]? = some v) (hy : ys[i]? = some u)
    (he : (Op.equalIn d e v u).run P w = .ok (decide p) w) (hr : (Op.eqItems d e 1 xs ys is).run P w = .ok (decide q) w) : (Op.eqItems d e 1 xs ys (i :: is)).run P w = .ok (decide (p ∧ q)) w := by
  have h1 : (part e xs i).run P w = .ok v w := run_part1 ht hx
  have h2 : (part e ys i).run P w = .ok u w := run_part1 ht hy
  by_cases hp : p <;> simp [Op.eqItems, Nat.mul_one, h1, h2, he, hp, hr]
theorem eqs_arr4 {d : Nat} {k : IntKind} {a0 a1 a2 a3 b0 b1 b2 b3 : Int} (ha : arrB P t e 4 1 = true) (hi : intB P e k = true) (hc : sclB P e = true) :
    (Op.equalIn (d + 1 + 1) t (.agg #[.int k a0, .int k a1, .int k a2, .int k a3]) (.agg #[.int k b0, .int k b1, .int k b2, .int k b3])).run P w = .ok (decide (a0 = b0 ∧ a1 = b1 ∧ a2 = b2 ∧ a3 = b3 ∧ True)) w := by
  obtain ⟨hu, hz⟩ := arrB_u ha
  have hc1 : P.cellsOf e = 1 := by
    unfold szB at hz
    split at hz
    · rename_i i hi'
      simp [Program.cellsOf, hi'] 
      simpa using hz
    · cases hz
  obtain ⟨inf, hinf⟩ : ∃ inf, P.info? e = some inf := by
    unfold szB at hz
    split at hz
    · exact ⟨_, by assumption⟩
    · cases hz
  rw [run_equalIn_array w (d + 1) _ _ hu hinf, hc1]
  show (Op.eqItems (d + 1) e 1 _ _ [0, 1, 2, 3]).run P w = _
  exact eqi_cons hc rfl rfl (eqs_int hi) (eqi_cons hc rfl rfl (eqs_int hi) (eqi_cons hc rfl rfl (eqs_int hi) (eqi_cons hc rfl rfl (eqs_int hi) eqi_nil)))
end
section leave
variable {P : Program} {fn : Func} {R : Value → World → Prop} {w : World} {n : Nat} {σ : Nat → Value} {l : Sl}
theorem retTCT {a t sz g u s : Nat} {vs : List Value} {v v' : Value} (hr : fn.results = #[.tmp u, .cell a t, .tmp s]) (ha : ev n l (.tmp a) = some (.pointer (some ⟨g, 0, none⟩))) (ht : aggB P t sz = true) (hc : At w g 0 vs) (hs : vs.length = sz)
    (hv : ev n l (.tmp u) = some v) (hv' : ev n l (.tmp s) = some v') (hR : R (.tuple #[v, .agg vs.toArray, v']) w) : bodyPost P fn (RetOf R) .ret (Ac n σ [] l) w := by
  refine bodyPost_ret (v := .tuple #[v, .agg vs.toArray, v']) ?_ rfl hR
  have h1 := get_tmp (σ := σ) ha
  have h2 := get_tmp (σ := σ) hv
  have h3 := get_tmp (σ := σ) hv'
  simp [results, hr, Ac, h1, h2, h3, asAddr, run_cell ht hc hs]
end leave
section
variable {H : Type} {enc : TypeId × Value → H} {P : Program} {W : World}
theorem Rdr.arrf {t e : TypeId} {k : IntKind} (ht : P.underlying t = some (.array 4 e)) (he : P.underlying e = some (.int k)) (hc : P.cellsOf e = 1) (hc4 : P.cellsOf t = 4) :
    Rdr enc P W t (fun f : Nat → Int => [.int k (f 0), .int k (f 1), .int k (f 2), .int k (f 3)]) (fun f => ∀ i, i < 4 → (Lit.int k (f i)).wf = true) := by
  intro fuel cs x h hw
  cases fuel with
  | zero => simp [DataW.trod] at h
  | succ fuel =>
    unfold DataW.trod at h
    rw [ht] at h
    simp only [hc4] at h
    split at h
    · rename_i hl
      match cs, hl with
      | [c0, c1, c2, c3], _ =>
        obtain ⟨xs, hx, rfl⟩ := Option.map_eq_some_iff.1 h
        have key : ∀ i, i < 4 → ∃ y, DataW.trod enc P W 0 (fun _ => true) true fuel e ((([c0, c1, c2, c3] : List Value).drop (i * P.cellsOf e)).take (P.cellsOf e)) = some y := by
          intro i hi
          have := mapM_some_get hx i i (by simp [hi])
          have hlx := mapM_some_length hx
          rw [List.length_range] at hlx
          rw [this]
          exact ⟨xs[i], by rw [List.getElem?_eq_getElem]⟩
        rw [hc] at key
        obtain ⟨y0, h0⟩ := key 0 (by omega)
        obtain ⟨y1, h1⟩ := key 1 (by omega)
        obtain ⟨y2, h2⟩ := key 2 (by omega)
        obtain ⟨y3, h3⟩ := key 3 (by omega)
        obtain ⟨n0, e0, _, w0⟩ := DataW.trod_int he h0
        obtain ⟨n1, e1, _, w1⟩ := DataW.trod_int he h1
        obtain ⟨n2, e2, _, w2⟩ := DataW.trod_int he h2
        obtain ⟨n3, e3, _, w3⟩ := DataW.trod_int he h3
        simp at e0 e1 e2 e3
        subst e0; subst e1; subst e2; subst e3
        refine ⟨arr4 n0 n1 n2 n3, rfl, fun i hi => ?_⟩
        rcases four hi with rfl | rfl | rfl | rfl <;> assumption
    · cases h
end
/-- what is right of a header, its heads aside -/
def OkB (ep seq first : Int) : Prop := ep ≠ 0 ∧ 1 ≤ seq ∧ seq ≤ 2147483647 ∧ 1 ≤ first ∧ first ≤ 2147483647
instance (ep seq first : Int) : Decidable (OkB ep seq first) := by unfold OkB; infer_instance
/-- the first k heads are right -/
def OkK (k : Nat) (first : Int) (hs : Nat → Int) : Prop := ∀ i, i < k → 0 ≤ hs i ∧ hs i < first
instance (k : Nat) (first : Int) (hs : Nat → Int) : Decidable (OkK k first hs) := by unfold OkK; infer_instance
def OkH (ep seq first : Int) (hs : Nat → Int) : Prop := OkB ep seq first ∧ OkK 4 first hs
instance (ep seq first : Int) (hs : Nat → Int) : Decidable (OkH ep seq first hs) := by unfold OkH; infer_instance
theorem OkK_0 {first : Int} {hs : Nat → Int} : OkK 0 first hs := fun i h => absurd h (Nat.not_lt_zero i)
theorem OkK_succ {k : Nat} {first : Int} {hs : Nat → Int} : OkK (k + 1) first hs ↔ OkK k first hs ∧ 0 ≤ hs k ∧ hs k < first := by
  constructor
  · intro h; exact ⟨fun i hi => h i (by omega), h k (by omega)⟩
  · rintro ⟨h1, h2⟩ i hi
    rcases Nat.lt_succ_iff_lt_or_eq.1 hi with h | rfl
    · exact h1 i h
    · exact h2
/-- the number behind the last record -/
def nextOf (l : List SegD) : Int := match l.getLast? with | none => 1 | some g => match g.recs.getLast? with | none => g.first | some r => IntKind.i64.wrap (r.lsn + 1)
theorem nextOf_nil {l : List SegD} (h : l.length = 0) : nextOf l = 1 := by rw [List.eq_nil_of_length_eq_zero h]; rfl
theorem getLast?_of {α : Type} {l : List α} (h : l.length - 1 < l.length) : l.getLast? = some l[l.length - 1] := by
  rw [List.getLast?_eq_getElem?, List.getElem?_eq_getElem h]
theorem nextOf_0 {l : List SegD} (h : l.length - 1 < l.length) (h0 : l[l.length - 1].recs.length = 0) : nextOf l = l[l.length - 1].first := by
  unfold nextOf
  rw [getLast?_of h]
  simp only []
  rw [List.eq_nil_of_length_eq_zero h0]
  rfl
theorem nextOf_1 {l : List SegD} (h : l.length - 1 < l.length) (h0 : l[l.length - 1].recs.length - 1 < l[l.length - 1].recs.length) : nextOf l = IntKind.i64.wrap (l[l.length - 1].recs[l[l.length - 1].recs.length - 1].lsn + 1) := by
  unfold nextOf
  rw [getLast?_of h]
  simp only []
  rw [getLast?_of h0]
/-- the heads behind one record more -/
def hstep (h : Nat → Int) (r : RecD) : Nat → Int := if 0 ≤ r.chain ∧ r.chain < 4 then upd h r.chain.toNat r.lsn else h
def hfold (h : Nat → Int) (rs : List RecD) : Nat → Int := rs.foldl hstep h
theorem hfold_succ {h : Nat → Int} {rs : List RecD} {k : Nat} (hk : k < rs.length) : hfold h (rs.take (k + 1)) = hstep (hfold h (rs.take k)) rs[k] := by
  unfold hfold; rw [List.take_succ_eq_append_getElem hk, List.foldl_append]; rfl
theorem hfold_y {h : Nat → Int} {rs : List RecD} {k : Nat} (hk : k < rs.length) (h1 : 0 ≤ rs[k].chain ∧ rs[k].chain < 4) : upd (hfold h (rs.take k)) rs[k].chain.toNat rs[k].lsn = hfold h (rs.take (k + 1)) := by
  rw [hfold_succ hk, hstep, if_pos h1]
theorem hfold_n {h : Nat → Int} {rs : List RecD} {k : Nat} (hk : k < rs.length) (h1 : ¬ (0 ≤ rs[k].chain ∧ rs[k].chain < 4)) : hfold h (rs.take k) = hfold h (rs.take (k + 1)) := by
  rw [hfold_succ hk, hstep, if_neg h1]
theorem hfold_all {h : Nat → Int} {rs : List RecD} {k : Nat} (hk : rs.length ≤ k) : hfold h (rs.take k) = hfold h rs := by rw [List.take_of_length_le hk]
def headsOf (l : List SegD) : Nat → Int := match l.getLast? with | none => fun _ => 0 | some g => hfold g.hs g.recs
theorem headsOf_nil {l : List SegD} (h : l.length = 0) : headsOf l = fun _ => 0 := by rw [List.eq_nil_of_length_eq_zero h]; rfl
theorem headsOf_1 {l : List SegD} (h : l.length - 1 < l.length) : headsOf l = hfold l[l.length - 1].hs l[l.length - 1].recs := by unfold headsOf; rw [getLast?_of h]
/-- the heads of the first c chains brought up to date -/
def gmix (h : Nat → Int) (rs : List RecD) (c : Nat) : Nat → Int := fun q => if q < c then hfold h rs q else h q
theorem gmix_0 {h : Nat → Int} {rs : List RecD} : h = gmix h rs 0 := by funext q; simp [gmix]
theorem gmix_in {h : Nat → Int} {rs : List RecD} {c : Nat} : gmix h rs c = upd (gmix h rs c) c (hfold h (rs.take 0) c) := by
  funext q
  unfold upd
  split
  · rename_i e; subst e; simp [gmix, hfold]
  · rfl
theorem gmix_out {h : Nat → Int} {rs : List RecD} {c k : Nat} (hk : rs.length ≤ k) : upd (gmix h rs c) c (hfold h (rs.take k) c) = gmix h rs (c + 1) := by
  rw [hfold_all hk]
  funext q
  unfold upd gmix
  by_cases h1 : q = c
  · subst h1; simp
  · rw [if_neg h1]
    by_cases h2 : q < c
    · rw [if_pos h2, if_pos (by omega)]
    · rw [if_neg h2, if_neg (by omega)]
theorem gmix_y {h : Nat → Int} {rs : List RecD} {c k : Nat} {x : Int} (hk : k < rs.length) (hc : c < 4) (he : rs[k].chain = (c : Int)) : upd (upd (gmix h rs c) c x) c rs[k].lsn = upd (gmix h rs c) c (hfold h (rs.take (k + 1)) c) := by
  rw [hfold_succ hk, hstep, if_pos (by omega), show rs[k].chain.toNat = c by omega]
  funext q
  unfold upd
  split <;> simp_all
theorem gmix_n {h : Nat → Int} {rs : List RecD} {c k : Nat} (hk : k < rs.length) (hc : c < 4) (he : ¬ rs[k].chain = (c : Int)) : upd (gmix h rs c) c (hfold h (rs.take k) c) = upd (gmix h rs c) c (hfold h (rs.take (k + 1)) c) := by
  rw [hfold_succ hk, hstep]
  split
  · rw [show upd (hfold h (rs.take k)) rs[k].chain.toNat rs[k].lsn c = hfold h (rs.take k) c by unfold upd; rw [if_neg (by omega)]]
  · rfl
theorem gmix_4 {h : Nat → Int} {rs : List RecD} {q : Nat} (hq : q < 4) : gmix h rs 4 q = hfold h rs q := by unfold gmix; rw [if_pos hq]
theorem okB0 {ep seq first : Int} {hs : Nat → Int} : (OkB ep seq first ∧ OkK 0 first hs) ↔ OkB ep seq first := ⟨And.left, fun h => ⟨h, OkK_0⟩⟩
theorem okS {ep seq first : Int} {hs : Nat → Int} {k : Nat} : (OkB ep seq first ∧ OkK (k + 1) first hs) ↔ ((OkB ep seq first ∧ OkK k first hs) ∧ 0 ≤ hs k ∧ hs k < first) := by rw [OkK_succ, and_assoc]
/-- the number and the heads behind records; whether they follow one another -/
def RecOk (n : Int) (h : Nat → Int) (r : RecD) : Prop := r.lsn = n ∧ 0 ≤ r.chain ∧ r.chain < 4 ∧ r.prev = h r.chain.toNat
instance (n : Int) (h : Nat → Int) (r : RecD) : Decidable (RecOk n h r) := by unfold RecOk; infer_instance
def bh : Int → (Nat → Int) → List RecD → Int × (Nat → Int) × Bool
  | n, h, [] => (n, h, true)
  | n, h, r :: rs => if RecOk n h r then bh (IntKind.i64.wrap (n + 1)) (upd h r.chain.toNat r.lsn) rs else (0, h, false)
theorem bh_step {n : Int} {h : Nat → Int} {rs : List RecD} {k : Nat} (hk : k < rs.length) (hr : RecOk n h rs[k]) : bh n h (rs.drop k) = bh (IntKind.i64.wrap (n + 1)) (upd h rs[k].chain.toNat rs[k].lsn) (rs.drop (k + 1)) := by
  rw [List.drop_eq_getElem_cons hk, bh, if_pos hr]
theorem bh_bad {n : Int} {h : Nat → Int} {rs : List RecD} {k : Nat} (hk : k < rs.length) (hr : ¬ RecOk n h rs[k]) : bh n h (rs.drop k) = (0, h, false) := by
  rw [List.drop_eq_getElem_cons hk, bh, if_neg hr]
theorem bh_end {n : Int} {h : Nat → Int} {rs : List RecD} {k : Nat} (hk : rs.length ≤ k) : bh n h (rs.drop k) = (n, h, true) := by
  rw [List.drop_of_length_le hk]; rfl
/-- how many records segments have, all told, before the first k -/
def cnt (l : List SegD) : Nat := (l.map fun g => g.recs.length).sum
theorem cnt_succ {l : List SegD} {k : Nat} (hk : k < l.length) : cnt (l.take (k + 1)) = cnt (l.take k) + l[k].recs.length := by
  unfold cnt; rw [List.take_succ_eq_append_getElem hk, List.map_append, List.sum_append]; simp only [List.map_cons, List.map_nil, List.sum_cons, List.sum_nil, Nat.add_zero]
theorem cnt_le {l : List SegD} {k : Nat} : cnt (l.take k) ≤ cnt l := by
  have : cnt l = cnt (l.take k) + cnt (l.drop k) := by unfold cnt; rw [← List.sum_append, ← List.map_append, List.take_append_drop]
  omega
def FewG (g : SegD) : Prop := g.recs.length ≤ 60 ∧ ∀ r ∈ g.recs, r.dn ≤ 600
instance (g : SegD) : Decidable (FewG g) := by unfold FewG; infer_instance
def FewL (l : List SegD) : Prop := (∀ g ∈ l, FewG g) ∧ l.length ≤ 10 ∧ cnt l ≤ 100
instance (l : List SegD) : Decidable (FewL l) := by unfold FewL; infer_instance
theorem fewr_succ {rs : List RecD} {k : Nat} (h : ∀ r ∈ rs.take k, r.dn ≤ 600) (hk : k < rs.length) (h1 : rs[k].dn ≤ 600) : ∀ r ∈ rs.take (k + 1), r.dn ≤ 600 := by
  intro r hm
  rw [List.take_succ_eq_append_getElem hk] at hm
  rcases List.mem_append.1 hm with hm | hm
  · exact h r hm
  · rw [List.mem_singleton.1 hm]; exact h1
theorem fewg_succ {l : List SegD} {k : Nat} (h : ∀ g ∈ l.take k, FewG g) (hk : k < l.length) (h1 : FewG l[k]) : ∀ g ∈ l.take (k + 1), FewG g := by
  intro g hm
  rw [List.take_succ_eq_append_getElem hk] at hm
  rcases List.mem_append.1 hm with hm | hm
  · exact h g hm
  · rw [List.mem_singleton.1 hm]; exact h1
theorem three_if {p q r : Prop} [Decidable p] [Decidable q] [Decidable r] : (0 : Int) ≤ (if p then 0 else if q then 1 else if r then 2 else -1) ↔ p ∨ q ∨ r := by
  by_cases hp : p <;> by_cases hq : q <;> by_cases hr : r <;> simp [hp, hq, hr]
/-- what live.Check asks of each segment -/
def HdrOk (g : SegD) : Prop := OkH g.ep g.seq g.first g.hs ∧ g.pn = g.recs.length
instance (g : SegD) : Decidable (HdrOk g) := by unfold HdrOk; infer_instance
def Breaks (g t : SegD) (n : Int) (h : Nat → Int) : Prop :=
  (g.kind ≠ 1) ∨ (t.seq ≠ IntKind.i64.wrap (g.seq + 1) ∨ t.ep ≤ g.ep) ∨ (t.first ≠ n ∨ ¬ (t.hs 0 = h 0 ∧ t.hs 1 = h 1 ∧ t.hs 2 = h 2 ∧ t.hs 3 = h 3 ∧ True))
instance (g t : SegD) (n : Int) (h : Nat → Int) : Decidable (Breaks g t n h) := by unfold Breaks; infer_instance
/-- what live.Check says of the segments one behind the other -/
def cres : List SegD → Int
  | [] => 0
  | [g] => if (bh g.first g.hs g.recs).2.2 = false then 12 else 0
  | g :: t :: rest => if (bh g.first g.hs g.recs).2.2 = false then 12 else if Breaks g t (bh g.first g.hs g.recs).1 (bh g.first g.hs g.recs).2.1 then 12 else cres (t :: rest)
def chk (l : List SegD) : Int := if ∀ g ∈ l, HdrOk g then cres l else 13
theorem hdr_succ {l : List SegD} {k : Nat} (h : ∀ g ∈ l.take k, HdrOk g) (hk : k < l.length) (h1 : HdrOk l[k]) : ∀ g ∈ l.take (k + 1), HdrOk g := by
  intro g hm
  rw [List.take_succ_eq_append_getElem hk] at hm
  rcases List.mem_append.1 hm with hm | hm
  · exact h g hm
  · rw [List.mem_singleton.1 hm]; exact h1
theorem chk_13 {l : List SegD} {k : Nat} (hk : k < l.length) (h : ¬ HdrOk l[k]) : chk l = 13 := by
  unfold chk; rw [if_neg (fun hh => h (hh _ (List.getElem_mem hk)))]
theorem chk_go {l : List SegD} (h : ∀ g ∈ l, HdrOk g) : chk l = cres l := by unfold chk; rw [if_pos h]
theorem cres_no {l : List SegD} {k : Nat} (hk : k < l.length) (h : (!(bh l[k].first l[k].hs l[k].recs).2.2) = true) : cres (l.drop k) = 12 := by
  replace h : (bh l[k].first l[k].hs l[k].recs).2.2 = false := by simpa using h
  rw [List.drop_eq_getElem_cons hk]
  cases hd : l.drop (k + 1) with
  | nil => rw [cres, if_pos h]
  | cons t r => rw [cres, if_pos h]
theorem cres_last {l : List SegD} {k : Nat} (hk : k < l.length) (hl : l.length ≤ k + 1) (h : (!(bh l[k].first l[k].hs l[k].recs).2.2) = false) : cres (l.drop k) = 0 := by
  replace h : ¬ (bh l[k].first l[k].hs l[k].recs).2.2 = false := by simpa using h
  rw [List.drop_eq_getElem_cons hk, List.drop_of_length_le hl, cres, if_neg h]
theorem cres_break {l : List SegD} {k : Nat} (hk : k < l.length) (hl : k + 1 < l.length) (h : (!(bh l[k].first l[k].hs l[k].recs).2.2) = false) (hb : Breaks l[k] l[k + 1] (bh l[k].first l[k].hs l[k].recs).1 (bh l[k].first l[k].hs l[k].recs).2.1) : cres (l.drop k) = 12 := by
  replace h : ¬ (bh l[k].first l[k].hs l[k].recs).2.2 = false := by simpa using h
  rw [List.drop_eq_getElem_cons hk, List.drop_eq_getElem_cons hl, cres, if_neg h, if_pos hb]
theorem cres_step {l : List SegD} {k : Nat} (hk : k < l.length) (hl : k + 1 < l.length) (h : (!(bh l[k].first l[k].hs l[k].recs).2.2) = false) (hb : ¬ Breaks l[k] l[k + 1] (bh l[k].first l[k].hs l[k].recs).1 (bh l[k].first l[k].hs l[k].recs).2.1) : cres (l.drop k) = cres (l.drop (k + 1)) := by
  replace h : ¬ (bh l[k].first l[k].hs l[k].recs).2.2 = false := by simpa using h
  rw [List.drop_eq_getElem_cons hk, List.drop_eq_getElem_cons hl, cres, if_neg h, if_neg hb]
/-- how a segment goes on behind one -/
def Joins (p : Option SegD) (g : SegD) : Prop := match p with | none => True | some q => g.seq - 1 = q.seq ∧ q.ep < g.ep ∧ q.kind = 1
instance (p : Option SegD) (g : SegD) : Decidable (Joins p g) := by unfold Joins; split <;> infer_instance
def Meets (g : SegD) (n : Int) (h : Nat → Int) : Prop := g.first = n ∧ (g.hs 0 = h 0 ∧ g.hs 1 = h 1 ∧ g.hs 2 = h 2 ∧ g.hs 3 = h 3 ∧ True)
instance (g : SegD) (n : Int) (h : Nat → Int) : Decidable (Meets g n h) := by unfold Meets; infer_instance
/-- all the records of all segments gone through as one list -/
def tgo : Option SegD → Int → (Nat → Int) → List SegD → Bool
  | _, _, _, [] => true
  | p, n, h, g :: rest => if Meets g n h ∧ Joins p g then (bh n h g.recs).2.2 && tgo (some g) (bh n h g.recs).1 (bh n h g.recs).2.1 rest else false
def tog : List SegD → Bool
  | [] => true
  | g :: rest => tgo none g.first g.hs (g :: rest)
def pv (l : List SegD) (i : Nat) : Option SegD := if i = 0 then none else l[i - 1]?
theorem pv_0 {l : List SegD} : pv l 0 = none := rfl
theorem pv_s {l : List SegD} {i : Nat} (hi : i < l.length) : pv l (i + 1) = some l[i] := by
  unfold pv; rw [if_neg (by omega), Nat.add_sub_cancel, List.getElem?_eq_getElem hi]
theorem joins_0 {l : List SegD} {i : Nat} {g : SegD} (hi : i = 0) : Joins (pv l i) g := by subst hi; rw [pv_0]; trivial
theorem joins_p {l : List SegD} {i : Nat} {g : SegD} (h0 : 0 < i) (hi : i - 1 < l.length) : Joins (pv l i) g ↔ (g.seq - 1 = l[i - 1].seq ∧ l[i - 1].ep < g.ep ∧ l[i - 1].kind = 1) := by
  obtain ⟨j, rfl⟩ : ∃ j, i = j + 1 := ⟨i - 1, by omega⟩
  rw [pv_s (by omega)]; exact Iff.rfl
theorem tog_0 {l : List SegD} (h : l.length = 0) : tog l = true := by rw [List.eq_nil_of_length_eq_zero h]; rfl
theorem tog_1 {l : List SegD} (h : 0 < l.length) : tog l = tgo (pv l 0) l[0].first l[0].hs (l.drop 0) := by
  cases l with
  | nil => exact absurd h (Nat.lt_irrefl 0)
  | cons g r => rfl
theorem tgo_bad {l : List SegD} {i : Nat} {n : Int} {h : Nat → Int} {p : Option SegD} (hi : i < l.length) (hb : ¬ (Meets l[i] n h ∧ Joins p l[i])) : tgo p n h (l.drop i) = false := by
  rw [List.drop_eq_getElem_cons hi, tgo, if_neg hb]
theorem tgo_rec {l : List SegD} {i k : Nat} {n n' : Int} {h h' : Nat → Int} {p : Option SegD} (hi : i < l.length) (hv : bh n' h' (l[i].recs.drop k) = bh n h l[i].recs) (hk : k < l[i].recs.length)
    (hr : ¬ RecOk n' h' l[i].recs[k]) : tgo p n h (l.drop i) = false := by
  rw [List.drop_eq_getElem_cons hi, tgo]
  split
  · rw [← hv, bh_bad hk hr]; rfl
  · rfl
theorem tgo_step {l : List SegD} {i k : Nat} {n n' : Int} {h h' : Nat → Int} (hi : i < l.length) (hm : Meets l[i] n h) (hj : Joins (pv l i) l[i]) (hv : bh n' h' (l[i].recs.drop k) = bh n h l[i].recs) (hk : l[i].recs.length ≤ k) :
    tgo (pv l i) n h (l.drop i) = tgo (pv l (i + 1)) n' h' (l.drop (i + 1)) := by
  rw [List.drop_eq_getElem_cons hi, tgo, if_pos ⟨hm, hj⟩, ← hv, bh_end hk, pv_s hi]; rfl
theorem tgo_end {l : List SegD} {i : Nat} {n : Int} {h : Nat → Int} {p : Option SegD} (hi : l.length ≤ i) : tgo p n h (l.drop i) = true := by
  rw [List.drop_of_length_le hi, tgo]
theorem bh_congr : ∀ (rs : List RecD) (n : Int) (h h' : Nat → Int), (∀ i, i < 4 → h i = h' i) →
    (bh n h rs).1 = (bh n h' rs).1 ∧ (bh n h rs).2.2 = (bh n h' rs).2.2 ∧ ∀ i, i < 4 → (bh n h rs).2.1 i = (bh n h' rs).2.1 i
  | [], n, h, h', e => ⟨rfl, rfl, e⟩
  | r :: rs, n, h, h', e => by
    have hr : RecOk n h r ↔ RecOk n h' r := by
      unfold RecOk
      constructor <;> rintro ⟨a, b, c, d⟩ <;> refine ⟨a, b, c, ?_⟩ <;> have := e r.chain.toNat (by omega) <;> omega
    by_cases hp : RecOk n h r
    · rw [bh, bh, if_pos hp, if_pos (hr.1 hp)]
      refine bh_congr rs _ _ _ fun i hi => ?_
      unfold upd; split
      · rfl
      · exact e i hi
    · rw [bh, bh, if_neg hp, if_neg (fun q => hp (hr.2 q))]
      exact ⟨rfl, rfl, e⟩
theorem tgo_ok {g : SegD} {rest : List SegD} {n : Int} {h : Nat → Int} {p : Option SegD} (hm : Meets g n h) (hj : Joins p g) : tgo p n h (g :: rest) = ((bh n h g.recs).2.2 && tgo (some g) (bh n h g.recs).1 (bh n h g.recs).2.1 rest) := by
  rw [tgo]; exact if_pos ⟨hm, hj⟩
theorem tgo_no {g : SegD} {rest : List SegD} {n : Int} {h : Nat → Int} {p : Option SegD} (hb : ¬ (Meets g n h ∧ Joins p g)) : tgo p n h (g :: rest) = false := by
  rw [tgo]; exact if_neg hb
theorem cres_tgo : ∀ (rest : List SegD) (g : SegD) (p : Option SegD) (n : Int) (h : Nat → Int), (∀ x ∈ g :: rest, HdrOk x) → Meets g n h → Joins p g → cres (g :: rest) = if tgo p n h (g :: rest) = true then 0 else 12
  | rest, g, p, n, h, hall, hm, hj => by
    have e4 : ∀ i, i < 4 → g.hs i = h i := by intro i hi; obtain ⟨_, a, b, c, d, _⟩ := hm; rcases four hi with rfl | rfl | rfl | rfl <;> assumption
    obtain ⟨b1, b2, b3⟩ := bh_congr g.recs n g.hs h e4
    rw [tgo_ok hm hj]
    have hf : g.first = n := hm.1
    cases rest with
    | nil =>
      rw [cres, hf, b2, tgo]
      cases (bh n h g.recs).2.2 <;> simp
    | cons t rest =>
      rw [cres, hf, b2]
      cases hb : (bh n h g.recs).2.2
      · simp
      · simp only [Bool.true_and, Bool.true_eq_false, if_false]
        have hg := (hall g (List.mem_cons_self ..)).1.1
        have ht := (hall t (List.mem_cons_of_mem _ (List.mem_cons_self ..))).1.1
        unfold OkB at hg ht
        have hw : IntKind.i64.wrap (g.seq + 1) = g.seq + 1 := by rw [IntKind.wrap_i64]; omega
        by_cases hB : Breaks g t (bh n g.hs g.recs).1 (bh n g.hs g.recs).2.1
        · rw [if_pos hB, tgo_no]
          · rfl
          · rintro ⟨⟨m1, m2, m3, m4, m5, _⟩, j1, j2, j3⟩
            rw [← b3 0 (by omega)] at m2; rw [← b3 1 (by omega)] at m3; rw [← b3 2 (by omega)] at m4; rw [← b3 3 (by omega)] at m5; rw [← b1] at m1
            unfold Breaks at hB; rw [hw] at hB
            rcases hB with q | (q | q) | (q | q)
            · exact q j3
            · omega
            · omega
            · exact q m1
            · exact q ⟨m2, m3, m4, m5, trivial⟩
        · rw [if_neg hB]
          unfold Breaks at hB; rw [hw] at hB
          refine cres_tgo rest t (some g) _ _ (fun x hx => hall x (List.mem_cons_of_mem _ hx)) ?_ ?_
          · unfold Meets
            rw [← b3 0 (by omega), ← b3 1 (by omega), ← b3 2 (by omega), ← b3 3 (by omega), ← b1]
            refine ⟨?_, ?_⟩
            · exact Decidable.not_not.1 fun q => hB (.inr (.inr (.inl q)))
            · exact Decidable.not_not.1 fun q => hB (.inr (.inr (.inr q)))
          · refine ⟨?_, ?_, ?_⟩
            · have : t.seq = g.seq + 1 := Decidable.not_not.1 fun q => hB (.inr (.inl (.inl q)))
              omega
            · exact Int.not_le.1 fun q => hB (.inr (.inl (.inr q)))
            · exact Decidable.not_not.1 fun q => hB (.inl q)
theorem cres_tog {l : List SegD} (hall : ∀ x ∈ l, HdrOk x) : cres l = if tog l = true then 0 else 12 := by
  cases l with
  | nil => rfl
  | cons g rest => exact cres_tgo rest g none g.first g.hs hall ⟨rfl, rfl, rfl, rfl, rfl, trivial⟩ trivial
/-- the one segment that awake builds -/
def awseg (ra pa da : Option Addr) (dn dc : Nat) : SegD := ⟨1, 1, 5, arr4 0 0 0 0, ra, 1, [⟨1, 2, 5, 0, da, dn, dc⟩], pa, 1, 1, 0, 1⟩
section
variable {ra pa da : Option Addr} {dn dc : Nat}
theorem awseg_chk : chk [awseg ra pa da dn dc] = 0 := by
  rw [chk_go]
  · rfl
  · intro g hg
    rw [List.mem_singleton.1 hg]
    refine ⟨⟨by unfold OkB awseg; simp, fun i hi => ?_⟩, rfl⟩
    rcases four hi with rfl | rfl | rfl | rfl <;> simp [awseg, arr4]
theorem awseg_next : nextOf [awseg ra pa da dn dc] = 6 := rfl
theorem awseg_heads : headsOf [awseg ra pa da dn dc] 0 = 0 ∧ headsOf [awseg ra pa da dn dc] 1 = 0 ∧ headsOf [awseg ra pa da dn dc] 2 = 5 ∧ headsOf [awseg ra pa da dn dc] 3 = 0 ∧ True := ⟨rfl, rfl, rfl, rfl, trivial⟩
end
def encI (n : Int) : List Value := [.int .i64 n]
theorem EncI : Enc encI 1 := ⟨fun _ => rfl, fun _ => rfl⟩
/-- What is told of a segment that came in. -/
def GoodG (W : World) (g : SegD) : Prop := 0 ≤ g.ep ∧ Sli 0 0 W.heap.size W g.ra (fl encR g.recs)
theorem wfu64 {n : Int} (h : (Lit.int .u64 n).wf = true) : 0 ≤ n := by
  simp [Lit.wf] at h
  have e1 : IntKind.u64.min = 0 := rfl
  omega
end Go.Proofs.YtkjgjejkfjhcjaaDoor.Gw
