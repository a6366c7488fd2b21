/-
  Contracts of the package ledger: any record that counts.
-/
import Derived.Test.YtbmohojdlgedpaaKe
import Derived.Test.YtbmohojdlgedpaaGl
namespace Go.Proofs.Ytbmohojdlgedpaa
open Go.RowKit Gw Pl
set_option linter.unusedVariables false
set_option linter.unusedSimpArgs false

structure PgC where
  o : Bool
  A : Option Addr
  n : Nat
  c : Nat
  xs : List Chg
def Tri (base : Nat) (w : World) (p q r : PgC) (E : List Ent) : Prop :=
  (RowO base w p.o p.A p.n p.c p.xs ∧ RowO base w q.o q.A q.n q.c q.xs ∧ RowO base w r.o r.A r.n r.c r.xs) ∧ (ApR p.o q.o p.A q.A ∧ ApR p.o r.o p.A r.A ∧ ApR q.o r.o q.A r.A) ∧ FrzE w E ∧ (ApE p.o p.A E ∧ ApE q.o q.A E ∧ ApE r.o r.A E)
def JT (base : Nat) (q r : PgC) (E : List Ent) (w : World) : Prop := RowO base w q.o q.A q.n q.c q.xs ∧ RowO base w r.o r.A r.n r.c r.xs ∧ FrzE w E
theorem ApR.symm {o o2 : Bool} {A A2 : Option Addr} (h : ApR o o2 A A2) : ApR o2 o A2 A := fun q q2 k hk hk2 => h q2 q k hk2 hk
theorem ApR.ne {o o2 : Bool} {A A2 : Option Addr} {m c : Nat} (h : ApR o o2 A A2) (ho : o = true) (ho2 : o2 = true) : (Value.slice A2 0 0).ownBlock = none ∨ (Value.slice A2 0 0).ownBlock ≠ (Value.slice A m c).ownBlock := by
  rw [ob_n (n := m) (c := c)]
  cases hk : (Value.slice A2 0 0).ownBlock with
  | none => exact .inl rfl
  | some k => exact .inr (fun e => h ho ho2 k e.symm hk)
section
variable {base gp : Nat} {w w' wa : World} {p q r : PgC} {E : List Ent} {cs : List Value}
theorem Tri.s12 (h : Tri base w p q r E) : Tri base w q p r E := ⟨⟨h.1.2.1, h.1.1, h.1.2.2⟩, ⟨h.2.1.1.symm, h.2.1.2.2, h.2.1.2.1⟩, h.2.2.1, ⟨h.2.2.2.2.1, h.2.2.2.1, h.2.2.2.2.2⟩⟩
theorem Tri.s23 (h : Tri base w p q r E) : Tri base w p r q E := ⟨⟨h.1.1, h.1.2.2, h.1.2.1⟩, ⟨h.2.1.2.1, h.2.1.1, h.2.1.2.2.symm⟩, h.2.2.1, ⟨h.2.2.2.1, h.2.2.2.2.2, h.2.2.2.2.1⟩⟩
theorem Tri.gb (h : Tri base w p q r E) (hg : w.grownBy w' none) : Tri base w' p q r E := ⟨⟨h.1.1.gb hg, h.1.2.1.gb hg, h.1.2.2.gb hg⟩, h.2.1, h.2.2.1.gb hg, h.2.2.2⟩
theorem Tri.other {g T : Nat} (h : Tri base w p q r E) (hb : Blk w g T cs) (hT : Nat.beq 34 T = false) (hg : w.grownBy w' (some g)) : Tri base w' p q r E := ⟨⟨h.1.1.other hb hT hg, h.1.2.1.other hb hT hg, h.1.2.2.other hb hT hg⟩, h.2.1, h.2.2.1.other hb hT hg, h.2.2.2⟩
theorem JT.of (T : Tri base w p q r E) : JT base q r E w := ⟨T.1.2.1, T.1.2.2, T.2.2.1⟩
theorem JT.gb (h : JT base q r E w) (hg : w.grownBy w' none) : JT base q r E w' := ⟨h.1.gb hg, h.2.1.gb hg, h.2.2.gb hg⟩
theorem JT.blk (h : JT base q r E w) (hb : Blk w gp 104 cs) (hg : w.grownBy w' (some gp)) : JT base q r E w' := ⟨h.1.other hb rfl hg, h.2.1.other hb rfl hg, h.2.2.other hb rfl hg⟩
theorem JT.fresh {g T : Nat} (t : Tri base wa p q r E) (h : JT base q r E w) (hb : Blk w g T cs) (hg0 : wa.heap.size ≤ g) (hg : w.grownBy w' (some g)) : JT base q r E w' := ⟨t.1.2.1.fresh h.1 hg0 hg, t.1.2.2.fresh h.2.1 hg0 hg, t.2.2.1.fresh h.2.2 hg0 hg⟩
theorem JT.own {v : Value} {n : Nat} {vs : List Value} (h : JT base q r E w) (ho : w.ownsRow base 28 3 v n vs) (hg : w.grownBy w' v.ownBlock) : JT base q r E w' := ⟨h.1.own ho rfl hg, h.2.1.own ho rfl hg, h.2.2.own ho rfl hg⟩
theorem JT.row {m c : Nat} (t : Tri base wa p q r E) (hp : p.o = true) (h : JT base q r E w) (hg : w.grownBy w' (Value.slice p.A m c).ownBlock) : JT base q r E w' :=
  ⟨h.1.ne hg (fun hq => t.2.1.1.ne hp hq), h.2.1.ne hg (fun hr => t.2.1.2.1.ne hp hr), h.2.2.row (fun k hk y hy => t.2.2.2.1 hp k (by rw [← hk]; exact ob_n.symm) y hy) hg⟩
theorem tri_begin (t : Tri base wa p q r E) (h : JT base q r E w) : Tri base w ⟨true, none, 0, 0, []⟩ q r E :=
  ⟨⟨fun _ => ⟨rfl, own_nil _ _ _ _⟩, h.1, h.2.1⟩, ⟨fun _ _ k hk => (by cases hk), fun _ _ k hk => (by cases hk), t.2.1.2.2⟩, h.2.2, ⟨fun _ k hk => (by cases hk), t.2.2.2.2⟩⟩
theorem tri_upd {A' : Option Addr} {c' : Nat} {x : Chg} (t : Tri base wa p q r E) (hp : p.o = true) (h : JT base q r E w) (hK : w.ownsRow base 34 6 (.slice A' (p.xs ++ [x]).length c') (p.xs ++ [x]).length (fl encC (p.xs ++ [x])))
    (hs : (Value.slice A' 0 0).ownBlock = (Value.slice p.A 0 0).ownBlock ∨ ∀ k, (Value.slice A' 0 0).ownBlock = some k → wa.heap.size ≤ k) : Tri base w ⟨true, A', (p.xs ++ [x]).length, c', p.xs ++ [x]⟩ q r E :=
  have ap : ∀ {s : PgC}, RowO base wa s.o s.A s.n s.c s.xs → ApR p.o s.o p.A s.A → ApR true s.o A' s.A := fun hl ha _ hq k hk => hs.elim (fun e => ha hp hq k (e ▸ hk)) (fun e hk2 => by have h1 := hl.lt hq k hk2; have h2 := e k hk; omega)
  ⟨⟨fun _ => ⟨rfl, hK⟩, h.1, h.2.1⟩, ⟨ap t.1.2.1 t.2.1.1, ap t.1.2.2 t.2.1.2.1, t.2.1.2.2⟩, h.2.2,
    ⟨fun _ k hk y hy => hs.elim (fun e => t.2.2.2.1 hp k (e ▸ hk) y hy) (fun e => (t.2.2.1.lt y hy).imp id (fun h2 hk2 => by have h3 := h2 k hk2; have h4 := e k hk; omega)), t.2.2.2.2⟩⟩
theorem tri_com {lsn ch : Int} {n : Nat} {ys : List Chg} (t : Tri base wa p q r E) (hp : p.o = true) (h : JT base q r E w) (hK : w.ownsRow base 34 6 (.slice p.A p.xs.length p.c) p.xs.length (fl encC p.xs)) : Tri base w ⟨false, p.A, n, p.c, ys⟩ q r (E ++ [⟨lsn, ch, p.A, p.c, p.xs⟩]) :=
  have ap : ∀ {s : PgC}, ApE s.o s.A E → ApR p.o s.o p.A s.A → ApE s.o s.A (E ++ [⟨lsn, ch, p.A, p.c, p.xs⟩]) := fun he ha hq k hk y hy => (List.mem_append.1 hy).elim (fun hy => he hq k hk y hy) (fun hy => by rw [List.mem_singleton.1 hy]; exact .inr (fun hk2 => ha hp hq k hk2 hk))
  ⟨⟨fun q => (by cases q), h.1, h.2.1⟩, ⟨fun q => (by cases q), fun q => (by cases q), t.2.1.2.2⟩,
    fun y hy => (List.mem_append.1 hy).elim (fun hy => h.2.2 y hy) (fun hy => by rw [List.mem_singleton.1 hy]; exact (own_of hK).2.2.zero), ⟨fun q => (by cases q), ap t.2.2.2.2.1 t.2.1.1, ap t.2.2.2.2.2 t.2.1.2.1⟩⟩
theorem tri_end {A' : Option Addr} {n c : Nat} {ys : List Chg} (t : Tri base wa p q r E) (h : JT base q r E w) : Tri base w ⟨false, A', n, c, ys⟩ q r E :=
  ⟨⟨fun q => (by cases q), h.1, h.2.1⟩, ⟨fun q => (by cases q), fun q => (by cases q), t.2.1.2.2⟩, h.2.2, ⟨fun q => (by cases q), t.2.2.2.2⟩⟩
end
def okY (r : RecC) (o : Bool) : Prop := 1 ≤ r.chain ∧ r.chain ≤ 3 ∧ 1 ≤ r.lsn ∧ 5 ≤ r.kind ∧ r.kind ≤ 9 ∧ (o = true ↔ r.kind ≠ 5) ∧ ((r.kind = 6 ∨ r.kind = 7) → (dec r.data).2 = 0)
instance {r : RecC} {o : Bool} : Decidable (okY r o) := by unfold okY; infer_instance
def bookR (l : List RecC) : Nat → List (Int × Int × List Chg)
  | 0 => []
  | i + 1 => match l[i]? with
    | some r => if r.chain ≠ 0 ∧ r.kind = 8 then bookR l i ++ [(r.lsn, r.chain, chgR l r.chain i)] else bookR l i
    | none => bookR l i
def okB (l : List RecC) : Nat → Bool
  | 0 => true
  | i + 1 => match l[i]? with
    | some r => okB l i && decide (r.chain ≠ 0 ∧ r.kind ≠ 1 → okY r (openR l r.chain i))
    | none => okB l i
def keyE (y : Ent) : Int × Int × List Chg := (y.lsn, y.chain, y.ch)
section
variable {l : List RecC} {c : Int} {i : Nat}
theorem bookR_s (h : i < l.length) : bookR l (i + 1) = if (l[i]).chain ≠ 0 ∧ (l[i]).kind = 8 then bookR l i ++ [((l[i]).lsn, (l[i]).chain, chgR l (l[i]).chain i)] else bookR l i := by
  show (match l[i]? with | some r => _ | none => _) = _
  rw [List.getElem?_eq_getElem h]
theorem okB_s (h : i < l.length) : okB l (i + 1) = (okB l i && decide ((l[i]).chain ≠ 0 ∧ (l[i]).kind ≠ 1 → okY (l[i]) (openR l (l[i]).chain i))) := by
  show (match l[i]? with | some r => _ | none => _) = _
  rw [List.getElem?_eq_getElem h]
theorem okB_no : ∀ {n : Nat}, i ≤ n → okB l i = false → okB l n = false
  | 0, hi, h => by rw [show (0 : Nat) = i by omega]; exact h
  | n + 1, hi, h => by
    rcases Nat.lt_or_ge i (n + 1) with q | q
    · have ih := okB_no (n := n) (by omega) h
      unfold okB
      split
      · rw [ih]; rfl
      · exact ih
    · rw [show n + 1 = i by omega]; exact h
theorem bookR_len : ∀ {i : Nat}, (bookR l i).length ≤ i
  | 0 => Nat.le_refl _
  | i + 1 => by
    have := bookR_len (i := i)
    unfold bookR
    split
    · split
      · rw [List.length_append, List.length_cons, List.length_nil]; omega
      · omega
    · omega
theorem openR_ne (h : i < l.length) (hc : (l[i]).chain ≠ c) : openR l c (i + 1) = openR l c i := by rw [openR_s h, if_neg (fun q => hc q.1)]
theorem chgR_ne (h : i < l.length) (hc : (l[i]).chain ≠ c) : chgR l c (i + 1) = chgR l c i := by rw [chgR_s h, if_neg (fun q => hc q.1), if_neg (fun q => hc q.1)]
theorem openR_no (h : i < l.length) (hc : (l[i]).kind = 1) : openR l c (i + 1) = openR l c i := by rw [openR_s h, if_neg (fun q => by have := q.2; unfold endsK at this; omega)]
theorem chgR_no (h : i < l.length) (hc : (l[i]).kind = 1) : chgR l c (i + 1) = chgR l c i := by rw [chgR_s h, if_neg (fun q => by have := q.2; unfold endsK at this; omega), if_neg (fun q => by have := q.2; omega)]
end
def PgI (base : Nat) (w : World) (gp : Nat) (l : List RecC) (i : Nat) : Prop :=
  ∃ (b0 : Bool) (A0 : Option Addr) (n0 c0 : Nat) (A1 : Option Addr) (n1 c1 : Nat) (A2 : Option Addr) (n2 c2 : Nat) (A3 : Option Addr) (n3 c3 : Nat) (Ao : Option Addr) (co : Nat) (E : List Ent),
    Blk w gp 104 [.bool b0, .bool (openR l 1 i), .bool (openR l 2 i), .bool (openR l 3 i), .slice A0 n0 c0, .slice A1 n1 c1, .slice A2 n2 c2, .slice A3 n3 c3, .slice Ao E.length co] ∧ w.ownsRow base 28 3 (.slice Ao E.length co) E.length (fl encEn E) ∧
    Tri base w ⟨openR l 1 i, A1, n1, c1, chgR l 1 i⟩ ⟨openR l 2 i, A2, n2, c2, chgR l 2 i⟩ ⟨openR l 3 i, A3, n3, c3, chgR l 3 i⟩ E ∧ E.map keyE = bookR l i
section
variable {base gp i g T : Nat} {w w' : World} {l : List RecC} {cs : List Value}
theorem PgI.gb (h : PgI base w gp l i) (hg : w.grownBy w' none) : PgI base w' gp l i := by
  obtain ⟨b0, A0, n0, c0, A1, n1, c1, A2, n2, c2, A3, n3, c3, Ao, co, E, h1, h2, h3, h4⟩ := h
  exact ⟨b0, A0, n0, c0, A1, n1, c1, A2, n2, c2, A3, n3, c3, Ao, co, E, h1.gb hg, own_gb h2 hg, h3.gb hg, h4⟩
theorem PgI.other (h : PgI base w gp l i) (hb : Blk w g T cs) (hC : Nat.beq 34 T = false) (hE : Nat.beq 28 T = false) (hG : Nat.beq 104 T = false) (hg : w.grownBy w' (some g)) : PgI base w' gp l i := by
  obtain ⟨b0, A0, n0, c0, A1, n1, c1, A2, n2, c2, A3, n3, c3, Ao, co, E, h1, h2, h3, h4⟩ := h
  exact ⟨b0, A0, n0, c0, A1, n1, c1, A2, n2, c2, A3, n3, c3, Ao, co, E, h1.grown hg (ne_ty h1 hb hG), own_other h2 hb hE hg, h3.other hb hC hg, h4⟩
theorem PgI.nil (h : Blk w gp 104 [.bool false, .bool false, .bool false, .bool false, .slice none 0 0, .slice none 0 0, .slice none 0 0, .slice none 0 0, .slice none 0 0]) : PgI base w gp l 0 :=
  have v : ∀ {A : Option Addr} {n c : Nat} {xs : List Chg}, RowO base w (openR l 1 0) A n c xs := fun q => (by cases q)
  ⟨false, none, 0, 0, none, 0, 0, none, 0, 0, none, 0, 0, none, 0, [], h, own_nil _ _ _ _, ⟨⟨v, v, v⟩, ⟨fun q => (by cases q), fun q => (by cases q), fun q => (by cases q)⟩, fun y hy => (by cases hy), ⟨fun q => (by cases q), fun q => (by cases q), fun q => (by cases q)⟩⟩, rfl⟩
theorem PgI.skip (h : PgI base w gp l i) (hi : i < l.length) (hc : ¬ ((l[i]).chain ≠ 0 ∧ (l[i]).kind ≠ 1)) : PgI base w gp l (i + 1) := by
  have e : ∀ c : Int, c ≠ 0 → openR l c (i + 1) = openR l c i ∧ chgR l c (i + 1) = chgR l c i := fun c h0 => by
    by_cases h1 : (l[i]).kind = 1
    · exact ⟨openR_no hi h1, chgR_no hi h1⟩
    · exact ⟨openR_ne hi (by omega), chgR_ne hi (by omega)⟩
  have eb : bookR l (i + 1) = bookR l i := by rw [bookR_s hi, if_neg (by omega)]
  unfold PgI at h ⊢
  rw [(e 1 (by decide)).1, (e 2 (by decide)).1, (e 3 (by decide)).1, (e 1 (by decide)).2, (e 2 (by decide)).2, (e 3 (by decide)).2, eb]
  exact h
theorem okB_skip (hi : i < l.length) (hc : ¬ ((l[i]).chain ≠ 0 ∧ (l[i]).kind ≠ 1)) (h : okB l i = true) : okB l (i + 1) = true := by rw [okB_s hi, h, decide_eq_true (fun q => absurd q hc)]; rfl
theorem okB_go (hi : i < l.length) (h : okB l i = true) (ho : okY (l[i]) (openR l (l[i]).chain i)) : okB l (i + 1) = true := by rw [okB_s hi, h, decide_eq_true (fun _ => ho)]; rfl
theorem okB_stop (hi : i < l.length) (hc : (l[i]).chain ≠ 0 ∧ (l[i]).kind ≠ 1) (ho : ¬ okY (l[i]) (openR l (l[i]).chain i)) : okB l l.length = false := okB_no (i := i + 1) hi (by rw [okB_s hi, decide_eq_false (fun q => ho (q hc)), Bool.and_false])
end
theorem one_x {w wa : World} {gp : Nat} {b0 b1 b2 b3 : Bool} {A0 A1 A2 A3 Ao : Option Addr} {n0 n1 n2 n3 no c0 c1 c2 c3 co : Nat} {r : RecC} (hB : w.grownBy wa none) (gp0 : w.heap.size ≤ gp) (hbk : Blk wa gp 104 [.bool b0, .bool b1, .bool b2, .bool b3, .slice A0 n0 c0, .slice A1 n1 c1, .slice A2 n2 c2, .slice A3 n3 c3, .slice Ao no co]) (hx : r.chain < 1 ∨ 3 < r.chain) :
    Runs Try.prog 40 #[.pointer (some ⟨gp, 0, none⟩), .agg #[.int .i64 r.kind, .int .i64 r.chain, .int .i64 r.lsn, .int .i64 r.prev, .slice r.da r.data.length r.dc]] wa (fun v_ w' => w.grownBy w' none ∧ v_ = .bool false) := by
 refine enter Try.func40 Try.ntmps40 rfl rfl ?_
 refine C_seq (C_reg rfl ?_)
 refine L_box (cs := [.int .i64 r.kind, .int .i64 r.chain, .int .i64 r.lsn, .int .i64 r.prev, .slice r.da r.data.length r.dc]) rfl rfl rfl ?_
 intro g1 w1 eg1 hb1 hs1 hz1
 have ge1 : w.heap.size ≤ g1 := eg_ge hB eg1
 have lt1 : gp < g1 := lt_of_eg hbk.lt eg1
 replace hB := gb_tr hB hs1
 replace hbk := hbk.gb hs1
 refine L_run (R_assign rfl) rfl ?_
 refine L_nil (N_then (C_seq (C_seq ?_)))
 refine C_draw2 rfl mix ?_
 intro w2 hs2 hz2
 replace hB := gb_tr hB hs2
 replace hbk := hbk.gb hs2
 replace hb1 := hb1.gb hs2
 refine ⟨fun W_ => Blk W_ g1 65 [.int .i64 r.kind, .int .i64 r.chain, .int .i64 r.lsn, .int .i64 r.prev, .slice r.da r.data.length r.dc] ∧ True, [0, 1, 2, 3, 4, 5, 6, 7, 8, 9, 10, 11, 12, 13, 14, 15, 16, 17, 18, 19, 20, 21, 22, 23, 24, 25], ?_⟩
 refine T_tk (i := 0) rfl (Y_of (fun _ _ => R_field (r := 1) rfl fld65_1 rfl)) ⟨hb1, trivial⟩ rfl ?_
 refine T_tk (i := 1) rfl (Y_of (fun _ ⟨hb1, _⟩ => R_load1 rfl scl3 (hb1.cell (i := 1) rfl))) ⟨hb1, trivial⟩ rfl ?_
 refine T_tk (i := 2) rfl (Y_of (fun _ _ => R_lss rfl rfl)) ⟨hb1, trivial⟩ rfl ?_
 refine T_tk (i := 3) rfl (Y_of (fun _ _ => R_move rfl)) ⟨hb1, trivial⟩ rfl ?_
 by_cases h1 : r.chain < 1
 ·refine T_tk (i := 4) rfl (Y_no rfl rfl rfl (decide_eq_true h1)) ⟨hb1, trivial⟩ rfl ?_
  refine T_tk (i := 5) rfl (Y_no rfl rfl rfl (decide_eq_true h1)) ⟨hb1, trivial⟩ rfl ?_
  refine T_tk (i := 6) rfl (Y_no rfl rfl rfl (decide_eq_true h1)) ⟨hb1, trivial⟩ rfl ?_
  refine T_tk (i := 7) rfl (Y_of (fun _ _ => R_pickT rfl (decide_eq_true h1) rfl)) ⟨hb1, trivial⟩ rfl ?_
  refine T_tk (i := 8) rfl (Y_of (fun _ _ => R_move rfl)) ⟨hb1, trivial⟩ rfl ?_
  refine T_tk (i := 9) rfl (Y_no rfl rfl rfl rfl) ⟨hb1, trivial⟩ rfl ?_
  refine T_tk (i := 10) rfl (Y_no rfl rfl rfl rfl) ⟨hb1, trivial⟩ rfl ?_
  refine T_tk (i := 11) rfl (Y_no rfl rfl rfl rfl) ⟨hb1, trivial⟩ rfl ?_
  refine T_tk (i := 12) rfl (Y_of (fun _ _ => R_pickT rfl rfl rfl)) ⟨hb1, trivial⟩ rfl ?_
  refine T_tk (i := 13) rfl (Y_of (fun _ _ => R_move rfl)) ⟨hb1, trivial⟩ rfl ?_
  refine T_tk (i := 14) rfl (Y_no rfl rfl rfl rfl) ⟨hb1, trivial⟩ rfl ?_
  refine T_tk (i := 15) rfl (Y_no rfl rfl rfl rfl) ⟨hb1, trivial⟩ rfl ?_
  refine T_tk (i := 16) rfl (Y_no rfl rfl rfl rfl) ⟨hb1, trivial⟩ rfl ?_
  refine T_tk (i := 17) rfl (Y_no rfl rfl rfl rfl) ⟨hb1, trivial⟩ rfl ?_
  refine T_tk (i := 18) rfl (Y_no rfl rfl rfl rfl) ⟨hb1, trivial⟩ rfl ?_
  refine T_tk (i := 19) rfl (Y_no rfl rfl rfl rfl) ⟨hb1, trivial⟩ rfl ?_
  refine T_tk (i := 20) rfl (Y_no rfl rfl rfl rfl) ⟨hb1, trivial⟩ rfl ?_
  refine T_tk (i := 21) rfl (Y_no rfl rfl rfl rfl) ⟨hb1, trivial⟩ rfl ?_
  refine T_tk (i := 22) rfl (Y_no rfl rfl rfl rfl) ⟨hb1, trivial⟩ rfl ?_
  refine T_tk (i := 23) rfl (Y_no rfl rfl rfl rfl) ⟨hb1, trivial⟩ rfl ?_
  refine T_tk (i := 24) rfl (Y_no rfl rfl rfl rfl) ⟨hb1, trivial⟩ rfl ?_
  refine T_tk (i := 25) rfl (Y_of (fun _ _ => R_pickT rfl rfl rfl)) ⟨hb1, trivial⟩ rfl ?_
  refine T_done (by kernel_rfl) (CalmE.normal ?_)
  refine N_then (C_condT rfl rfl (C_seq (C_reg rfl ?_)))
  refine L_run (R_assign rfl) rfl ?_
  refine L_nil (N_then (C_ret (R_then ?_)))
  refine ret1 Try.results40 rfl ?_
  exact ⟨hB, rfl⟩
 ·refine T_tk (i := 4) rfl (Y_yes rfl rfl rfl (decide_eq_false h1) (fun _ _ => R_field (r := 1) rfl fld65_1 rfl)) ⟨hb1, trivial⟩ rfl ?_
  refine T_tk (i := 5) rfl (Y_yes rfl rfl rfl (decide_eq_false h1) (fun _ ⟨hb1, _⟩ => R_load1 rfl scl3 (hb1.cell (i := 1) rfl))) ⟨hb1, trivial⟩ rfl ?_
  refine T_tk (i := 6) rfl (Y_yes rfl rfl rfl (decide_eq_false h1) (fun _ _ => R_gtr rfl rfl)) ⟨hb1, trivial⟩ rfl ?_
  refine T_tk (i := 7) rfl (Y_of (fun _ _ => R_pickF rfl (decide_eq_false h1) rfl)) ⟨hb1, trivial⟩ rfl ?_
  refine T_tk (i := 8) rfl (Y_of (fun _ _ => R_move rfl)) ⟨hb1, trivial⟩ rfl ?_
  by_cases h2 : 3 < r.chain
  ·refine T_tk (i := 9) rfl (Y_no rfl rfl rfl (decide_eq_true h2)) ⟨hb1, trivial⟩ rfl ?_
   refine T_tk (i := 10) rfl (Y_no rfl rfl rfl (decide_eq_true h2)) ⟨hb1, trivial⟩ rfl ?_
   refine T_tk (i := 11) rfl (Y_no rfl rfl rfl (decide_eq_true h2)) ⟨hb1, trivial⟩ rfl ?_
   refine T_tk (i := 12) rfl (Y_of (fun _ _ => R_pickT rfl (decide_eq_true h2) rfl)) ⟨hb1, trivial⟩ rfl ?_
   refine T_tk (i := 13) rfl (Y_of (fun _ _ => R_move rfl)) ⟨hb1, trivial⟩ rfl ?_
   refine T_tk (i := 14) rfl (Y_no rfl rfl rfl rfl) ⟨hb1, trivial⟩ rfl ?_
   refine T_tk (i := 15) rfl (Y_no rfl rfl rfl rfl) ⟨hb1, trivial⟩ rfl ?_
   refine T_tk (i := 16) rfl (Y_no rfl rfl rfl rfl) ⟨hb1, trivial⟩ rfl ?_
   refine T_tk (i := 17) rfl (Y_no rfl rfl rfl rfl) ⟨hb1, trivial⟩ rfl ?_
   refine T_tk (i := 18) rfl (Y_no rfl rfl rfl rfl) ⟨hb1, trivial⟩ rfl ?_
   refine T_tk (i := 19) rfl (Y_no rfl rfl rfl rfl) ⟨hb1, trivial⟩ rfl ?_
   refine T_tk (i := 20) rfl (Y_no rfl rfl rfl rfl) ⟨hb1, trivial⟩ rfl ?_
   refine T_tk (i := 21) rfl (Y_no rfl rfl rfl rfl) ⟨hb1, trivial⟩ rfl ?_
   refine T_tk (i := 22) rfl (Y_no rfl rfl rfl rfl) ⟨hb1, trivial⟩ rfl ?_
   refine T_tk (i := 23) rfl (Y_no rfl rfl rfl rfl) ⟨hb1, trivial⟩ rfl ?_
   refine T_tk (i := 24) rfl (Y_no rfl rfl rfl rfl) ⟨hb1, trivial⟩ rfl ?_
   refine T_tk (i := 25) rfl (Y_of (fun _ _ => R_pickT rfl rfl rfl)) ⟨hb1, trivial⟩ rfl ?_
   refine T_done (by kernel_rfl) (CalmE.normal ?_)
   refine N_then (C_condT rfl rfl (C_seq (C_reg rfl ?_)))
   refine L_run (R_assign rfl) rfl ?_
   refine L_nil (N_then (C_ret (R_then ?_)))
   refine ret1 Try.results40 rfl ?_
   exact ⟨hB, rfl⟩
  ·exfalso; omega

theorem one_step {w wa : World} {gp i : Nat} {l : List RecC} (hM : PgI w.heap.size wa gp l i) (hB : w.grownBy wa none) (gp0 : w.heap.size ≤ gp) (hi : i < l.length) (hF : FewR l) (hD0 : DeepRC w.heap.size w l) :
    Runs Try.prog 40 #[.pointer (some ⟨gp, 0, none⟩), .agg (encRC (l[i])).toArray] wa (fun v_ w' => w.grownBy w' none ∧ v_ = .bool (decide (okY (l[i]) (openR l (l[i]).chain i))) ∧ (okY (l[i]) (openR l (l[i]).chain i) → PgI w.heap.size w' gp l (i + 1))) := by
  obtain ⟨b0, A0, n0, c0, A1, n1, c1, A2, n2, c2, A3, n3, c3, Ao, co, E, hbk, hE, hT, hk⟩ := hM
  have hS := hD0.getD hi
  have hd6 : (l[i]).data.length ≤ 600 := hF.1 _ (List.getElem_mem hi)
  have hdc := hD0.cap hi
  have hl := hF.2
  have hE1 : E.length ≤ 1000 := by have h1 := congrArg List.length hk; rw [List.length_map] at h1; have h2 := bookR_len (l := l) (i := i); omega
  by_cases hx : (l[i]).chain < 1 ∨ 3 < (l[i]).chain
  · refine (one_x (w := w) hB gp0 hbk hx).mono fun v_ w' h => ⟨h.1, h.2.trans (bF (fun q => ?_)), fun q => ?_⟩ <;> (have h1 := q.1; have h2 := q.2.1; omega)
  rcases (by omega : (l[i]).chain = 1 ∨ (l[i]).chain = 2 ∨ (l[i]).chain = 3) with hc1 | hc1 | hc1
  · have hch : (l[i]).chain = 1 := by omega
    have he : Value.agg (encRC (l[i])).toArray = .agg #[.int .i64 (l[i]).kind, .int .i64 1, .int .i64 (l[i]).lsn, .int .i64 (l[i]).prev, .slice (l[i]).da (l[i]).data.length (l[i]).dc] := by unfold encRC; rw [hch]
    have hx1 : (chgR l 1 i).length ≤ 1000 := by have h2 := chgR_len (l := l) (c := 1) (i := i); omega
    have hP : openR l 2 (i + 1) = openR l 2 i ∧ chgR l 2 (i + 1) = chgR l 2 i := ⟨openR_ne hi (by omega), chgR_ne hi (by omega)⟩
    have hQ : openR l 3 (i + 1) = openR l 3 i ∧ chgR l 3 (i + 1) = chgR l 3 i := ⟨openR_ne hi (by omega), chgR_ne hi (by omega)⟩
    have hT' := hT
    rw [he, hch]
    cases ho : openR l 1 i with
    | false =>
      rw [ho] at hbk hT'
      refine (one_1c (J := JT w.heap.size ⟨openR l 2 i, A2, n2, c2, chgR l 2 i⟩ ⟨openR l 3 i, A3, n3, c3, chgR l 3 i⟩ E) (xs := []) (b1 := true) hB gp0 hbk hE hS hd6 hdc hE1 (by decide) (JT.of hT') (fun _ _ => JT.gb) (fun _ _ _ => JT.blk) (fun _ _ _ _ _ => JT.fresh hT') (fun _ _ => JT.gb) (fun _ _ _ _ _ => JT.own)).mono fun v_ w' h => ?_
      obtain ⟨h1, rfl, h2⟩ := h
      have hd : okY (l[i]) false ↔ (1 ≤ (l[i]).lsn ∧ (l[i]).kind = 5) := by unfold okY; constructor <;> (intro q; simp at q ⊢; omega)
      refine ⟨h1, congrArg _ (decide_eq_decide.2 hd.symm), fun q => ?_⟩
      obtain ⟨hJ, hb', hE'⟩ := h2 (hd.1 q)
      have hk5 := (hd.1 q).2
      have eo : openR l 1 (i + 1) = true := by rw [openR_s hi, if_pos ⟨hch, .inl hk5⟩]; exact decide_eq_true hk5
      have ec : chgR l 1 (i + 1) = [] := by rw [chgR_s hi, if_pos ⟨hch, .inl hk5⟩]
      have eb : bookR l (i + 1) = bookR l i := by rw [bookR_s hi, if_neg (by omega)]
      refine ⟨b0, A0, n0, c0, none, 0, 0, A2, n2, c2, A3, n3, c3, Ao, co, E, ?_, hE', ?_, ?_⟩
      · rw [eo, hP.1, hQ.1]; exact hb'
      · rw [eo, hP.1, hP.2, hQ.1, hQ.2, ec]; exact tri_begin hT' hJ
      · rw [eb]; exact hk
    | true =>
      rw [ho] at hbk hT'
      obtain ⟨hn, hoK⟩ := hT'.1.1 rfl
      simp only [] at hn hoK
      subst hn
      refine (one_1o (J := JT w.heap.size ⟨openR l 2 i, A2, n2, c2, chgR l 2 i⟩ ⟨openR l 3 i, A3, n3, c3, chgR l 3 i⟩ E) (b1 := true) (n1 := 0) hB gp0 hbk hE hS hd6 hdc hE1 hx1 hoK (JT.of hT') (fun _ _ => JT.gb) (fun _ _ _ => JT.blk) (fun _ _ _ _ _ => JT.fresh hT') (fun _ _ => JT.row hT' rfl) (fun _ _ _ _ _ => JT.own)).mono fun v_ w' h => ?_
      have hd : okY (l[i]) true ↔ (1 ≤ (l[i]).lsn ∧ 6 ≤ (l[i]).kind ∧ (l[i]).kind ≤ 9 ∧ (((l[i]).kind = 6 ∨ (l[i]).kind = 7) → (dec (l[i]).data).2 = 0)) := by unfold okY; constructor <;> (intro q; simp at q ⊢; omega)
      obtain ⟨h1, ⟨rfl, h2⟩ | ⟨rfl, hl1, hJ, h2⟩⟩ := h
      · exact ⟨h1, bF (fun q => h2 (hd.1 q)), fun q => absurd (hd.1 q) h2⟩
      have eo : endsK (l[i]).kind → openR l 1 (i + 1) = decide ((l[i]).kind = 5) := fun q => by rw [openR_s hi, if_pos ⟨hch, q⟩]
      rcases h2 with ⟨hk67, hdd, A', c', hb', hE', hK', hsame⟩ | ⟨hk8, A', c', hb', hE', hK'⟩ | ⟨hk9, hb', hE', hK'⟩
      · refine ⟨h1, bT (hd.2 ⟨hl1, by omega, by omega, fun _ => hdd⟩), fun _ => ?_⟩
        have ne : ¬ ((l[i]).chain = 1 ∧ endsK (l[i]).kind) := fun q => by have h3 := q.2; unfold endsK at h3; omega
        have eo2 : openR l 1 (i + 1) = true := by rw [openR_s hi, if_neg ne]; exact ho
        have ec : chgR l 1 (i + 1) = chgR l 1 i ++ [(dec (l[i]).data).1] := by rw [chgR_s hi, if_neg ne, if_pos ⟨hch, hk67⟩]
        have eb : bookR l (i + 1) = bookR l i := by rw [bookR_s hi, if_neg (by omega)]
        refine ⟨b0, A0, n0, c0, A', (chgR l 1 i ++ [(dec (l[i]).data).1]).length, c', A2, n2, c2, A3, n3, c3, Ao, co, E, ?_, hE', ?_, ?_⟩
        · rw [eo2, hP.1, hQ.1]; exact hb'
        · rw [eo2, hP.1, hP.2, hQ.1, hQ.2, ec]; exact tri_upd hT' rfl hJ hK' hsame
        · rw [eb]; exact hk
      · refine ⟨h1, bT (hd.2 ⟨hl1, by omega, by omega, fun q => by omega⟩), fun _ => ?_⟩
        have eo2 : openR l 1 (i + 1) = false := by rw [eo (.inr (by omega))]; exact decide_eq_false (by omega)
        have eb : bookR l (i + 1) = bookR l i ++ [((l[i]).lsn, 1, chgR l 1 i)] := by rw [bookR_s hi, if_pos ⟨by omega, hk8⟩, hch]
        refine ⟨b0, A0, n0, c0, A1, (chgR l 1 i).length, c1, A2, n2, c2, A3, n3, c3, A', c', (E ++ [⟨(l[i]).lsn, 1, A1, c1, chgR l 1 i⟩]), ?_, hE', ?_, ?_⟩
        · rw [eo2, hP.1, hQ.1]; exact hb'
        · rw [eo2, hP.1, hP.2, hQ.1, hQ.2]; exact tri_com hT' rfl hJ hK'
        · rw [eb, List.map_append, hk]; rfl
      · refine ⟨h1, bT (hd.2 ⟨hl1, by omega, by omega, fun q => by omega⟩), fun _ => ?_⟩
        have eo2 : openR l 1 (i + 1) = false := by rw [eo (.inr (by omega))]; exact decide_eq_false (by omega)
        have eb : bookR l (i + 1) = bookR l i := by rw [bookR_s hi, if_neg (by omega)]
        refine ⟨b0, A0, n0, c0, A1, (chgR l 1 i).length, c1, A2, n2, c2, A3, n3, c3, Ao, co, E, ?_, hE', ?_, ?_⟩
        · rw [eo2, hP.1, hQ.1]; exact hb'
        · rw [eo2, hP.1, hP.2, hQ.1, hQ.2]; exact tri_end hT' hJ
        · rw [eb]; exact hk
  · have hch : (l[i]).chain = 2 := by omega
    have he : Value.agg (encRC (l[i])).toArray = .agg #[.int .i64 (l[i]).kind, .int .i64 2, .int .i64 (l[i]).lsn, .int .i64 (l[i]).prev, .slice (l[i]).da (l[i]).data.length (l[i]).dc] := by unfold encRC; rw [hch]
    have hx1 : (chgR l 2 i).length ≤ 1000 := by have h2 := chgR_len (l := l) (c := 2) (i := i); omega
    have hP : openR l 1 (i + 1) = openR l 1 i ∧ chgR l 1 (i + 1) = chgR l 1 i := ⟨openR_ne hi (by omega), chgR_ne hi (by omega)⟩
    have hQ : openR l 3 (i + 1) = openR l 3 i ∧ chgR l 3 (i + 1) = chgR l 3 i := ⟨openR_ne hi (by omega), chgR_ne hi (by omega)⟩
    have hT' := (hT).s12
    rw [he, hch]
    cases ho : openR l 2 i with
    | false =>
      rw [ho] at hbk hT'
      refine (one_2c (J := JT w.heap.size ⟨openR l 1 i, A1, n1, c1, chgR l 1 i⟩ ⟨openR l 3 i, A3, n3, c3, chgR l 3 i⟩ E) (xs := []) (b2 := true) hB gp0 hbk hE hS hd6 hdc hE1 (by decide) (JT.of hT') (fun _ _ => JT.gb) (fun _ _ _ => JT.blk) (fun _ _ _ _ _ => JT.fresh hT') (fun _ _ => JT.gb) (fun _ _ _ _ _ => JT.own)).mono fun v_ w' h => ?_
      obtain ⟨h1, rfl, h2⟩ := h
      have hd : okY (l[i]) false ↔ (1 ≤ (l[i]).lsn ∧ (l[i]).kind = 5) := by unfold okY; constructor <;> (intro q; simp at q ⊢; omega)
      refine ⟨h1, congrArg _ (decide_eq_decide.2 hd.symm), fun q => ?_⟩
      obtain ⟨hJ, hb', hE'⟩ := h2 (hd.1 q)
      have hk5 := (hd.1 q).2
      have eo : openR l 2 (i + 1) = true := by rw [openR_s hi, if_pos ⟨hch, .inl hk5⟩]; exact decide_eq_true hk5
      have ec : chgR l 2 (i + 1) = [] := by rw [chgR_s hi, if_pos ⟨hch, .inl hk5⟩]
      have eb : bookR l (i + 1) = bookR l i := by rw [bookR_s hi, if_neg (by omega)]
      refine ⟨b0, A0, n0, c0, A1, n1, c1, none, 0, 0, A3, n3, c3, Ao, co, E, ?_, hE', ?_, ?_⟩
      · rw [eo, hP.1, hQ.1]; exact hb'
      · rw [eo, hP.1, hP.2, hQ.1, hQ.2, ec]; exact (tri_begin hT' hJ).s12
      · rw [eb]; exact hk
    | true =>
      rw [ho] at hbk hT'
      obtain ⟨hn, hoK⟩ := hT'.1.1 rfl
      simp only [] at hn hoK
      subst hn
      refine (one_2o (J := JT w.heap.size ⟨openR l 1 i, A1, n1, c1, chgR l 1 i⟩ ⟨openR l 3 i, A3, n3, c3, chgR l 3 i⟩ E) (b2 := true) (n2 := 0) hB gp0 hbk hE hS hd6 hdc hE1 hx1 hoK (JT.of hT') (fun _ _ => JT.gb) (fun _ _ _ => JT.blk) (fun _ _ _ _ _ => JT.fresh hT') (fun _ _ => JT.row hT' rfl) (fun _ _ _ _ _ => JT.own)).mono fun v_ w' h => ?_
      have hd : okY (l[i]) true ↔ (1 ≤ (l[i]).lsn ∧ 6 ≤ (l[i]).kind ∧ (l[i]).kind ≤ 9 ∧ (((l[i]).kind = 6 ∨ (l[i]).kind = 7) → (dec (l[i]).data).2 = 0)) := by unfold okY; constructor <;> (intro q; simp at q ⊢; omega)
      obtain ⟨h1, ⟨rfl, h2⟩ | ⟨rfl, hl1, hJ, h2⟩⟩ := h
      · exact ⟨h1, bF (fun q => h2 (hd.1 q)), fun q => absurd (hd.1 q) h2⟩
      have eo : endsK (l[i]).kind → openR l 2 (i + 1) = decide ((l[i]).kind = 5) := fun q => by rw [openR_s hi, if_pos ⟨hch, q⟩]
      rcases h2 with ⟨hk67, hdd, A', c', hb', hE', hK', hsame⟩ | ⟨hk8, A', c', hb', hE', hK'⟩ | ⟨hk9, hb', hE', hK'⟩
      · refine ⟨h1, bT (hd.2 ⟨hl1, by omega, by omega, fun _ => hdd⟩), fun _ => ?_⟩
        have ne : ¬ ((l[i]).chain = 2 ∧ endsK (l[i]).kind) := fun q => by have h3 := q.2; unfold endsK at h3; omega
        have eo2 : openR l 2 (i + 1) = true := by rw [openR_s hi, if_neg ne]; exact ho
        have ec : chgR l 2 (i + 1) = chgR l 2 i ++ [(dec (l[i]).data).1] := by rw [chgR_s hi, if_neg ne, if_pos ⟨hch, hk67⟩]
        have eb : bookR l (i + 1) = bookR l i := by rw [bookR_s hi, if_neg (by omega)]
        refine ⟨b0, A0, n0, c0, A1, n1, c1, A', (chgR l 2 i ++ [(dec (l[i]).data).1]).length, c', A3, n3, c3, Ao, co, E, ?_, hE', ?_, ?_⟩
        · rw [eo2, hP.1, hQ.1]; exact hb'
        · rw [eo2, hP.1, hP.2, hQ.1, hQ.2, ec]; exact (tri_upd hT' rfl hJ hK' hsame).s12
        · rw [eb]; exact hk
      · refine ⟨h1, bT (hd.2 ⟨hl1, by omega, by omega, fun q => by omega⟩), fun _ => ?_⟩
        have eo2 : openR l 2 (i + 1) = false := by rw [eo (.inr (by omega))]; exact decide_eq_false (by omega)
        have eb : bookR l (i + 1) = bookR l i ++ [((l[i]).lsn, 2, chgR l 2 i)] := by rw [bookR_s hi, if_pos ⟨by omega, hk8⟩, hch]
        refine ⟨b0, A0, n0, c0, A1, n1, c1, A2, (chgR l 2 i).length, c2, A3, n3, c3, A', c', (E ++ [⟨(l[i]).lsn, 2, A2, c2, chgR l 2 i⟩]), ?_, hE', ?_, ?_⟩
        · rw [eo2, hP.1, hQ.1]; exact hb'
        · rw [eo2, hP.1, hP.2, hQ.1, hQ.2]; exact (tri_com hT' rfl hJ hK').s12
        · rw [eb, List.map_append, hk]; rfl
      · refine ⟨h1, bT (hd.2 ⟨hl1, by omega, by omega, fun q => by omega⟩), fun _ => ?_⟩
        have eo2 : openR l 2 (i + 1) = false := by rw [eo (.inr (by omega))]; exact decide_eq_false (by omega)
        have eb : bookR l (i + 1) = bookR l i := by rw [bookR_s hi, if_neg (by omega)]
        refine ⟨b0, A0, n0, c0, A1, n1, c1, A2, (chgR l 2 i).length, c2, A3, n3, c3, Ao, co, E, ?_, hE', ?_, ?_⟩
        · rw [eo2, hP.1, hQ.1]; exact hb'
        · rw [eo2, hP.1, hP.2, hQ.1, hQ.2]; exact (tri_end hT' hJ).s12
        · rw [eb]; exact hk
  · have hch : (l[i]).chain = 3 := by omega
    have he : Value.agg (encRC (l[i])).toArray = .agg #[.int .i64 (l[i]).kind, .int .i64 3, .int .i64 (l[i]).lsn, .int .i64 (l[i]).prev, .slice (l[i]).da (l[i]).data.length (l[i]).dc] := by unfold encRC; rw [hch]
    have hx1 : (chgR l 3 i).length ≤ 1000 := by have h2 := chgR_len (l := l) (c := 3) (i := i); omega
    have hP : openR l 1 (i + 1) = openR l 1 i ∧ chgR l 1 (i + 1) = chgR l 1 i := ⟨openR_ne hi (by omega), chgR_ne hi (by omega)⟩
    have hQ : openR l 2 (i + 1) = openR l 2 i ∧ chgR l 2 (i + 1) = chgR l 2 i := ⟨openR_ne hi (by omega), chgR_ne hi (by omega)⟩
    have hT' := ((hT).s23).s12
    rw [he, hch]
    cases ho : openR l 3 i with
    | false =>
      rw [ho] at hbk hT'
      refine (one_3c (J := JT w.heap.size ⟨openR l 1 i, A1, n1, c1, chgR l 1 i⟩ ⟨openR l 2 i, A2, n2, c2, chgR l 2 i⟩ E) (xs := []) (b3 := true) hB gp0 hbk hE hS hd6 hdc hE1 (by decide) (JT.of hT') (fun _ _ => JT.gb) (fun _ _ _ => JT.blk) (fun _ _ _ _ _ => JT.fresh hT') (fun _ _ => JT.gb) (fun _ _ _ _ _ => JT.own)).mono fun v_ w' h => ?_
      obtain ⟨h1, rfl, h2⟩ := h
      have hd : okY (l[i]) false ↔ (1 ≤ (l[i]).lsn ∧ (l[i]).kind = 5) := by unfold okY; constructor <;> (intro q; simp at q ⊢; omega)
      refine ⟨h1, congrArg _ (decide_eq_decide.2 hd.symm), fun q => ?_⟩
      obtain ⟨hJ, hb', hE'⟩ := h2 (hd.1 q)
      have hk5 := (hd.1 q).2
      have eo : openR l 3 (i + 1) = true := by rw [openR_s hi, if_pos ⟨hch, .inl hk5⟩]; exact decide_eq_true hk5
      have ec : chgR l 3 (i + 1) = [] := by rw [chgR_s hi, if_pos ⟨hch, .inl hk5⟩]
      have eb : bookR l (i + 1) = bookR l i := by rw [bookR_s hi, if_neg (by omega)]
      refine ⟨b0, A0, n0, c0, A1, n1, c1, A2, n2, c2, none, 0, 0, Ao, co, E, ?_, hE', ?_, ?_⟩
      · rw [eo, hP.1, hQ.1]; exact hb'
      · rw [eo, hP.1, hP.2, hQ.1, hQ.2, ec]; exact ((tri_begin hT' hJ).s12).s23
      · rw [eb]; exact hk
    | true =>
      rw [ho] at hbk hT'
      obtain ⟨hn, hoK⟩ := hT'.1.1 rfl
      simp only [] at hn hoK
      subst hn
      refine (one_3o (J := JT w.heap.size ⟨openR l 1 i, A1, n1, c1, chgR l 1 i⟩ ⟨openR l 2 i, A2, n2, c2, chgR l 2 i⟩ E) (b3 := true) (n3 := 0) hB gp0 hbk hE hS hd6 hdc hE1 hx1 hoK (JT.of hT') (fun _ _ => JT.gb) (fun _ _ _ => JT.blk) (fun _ _ _ _ _ => JT.fresh hT') (fun _ _ => JT.row hT' rfl) (fun _ _ _ _ _ => JT.own)).mono fun v_ w' h => ?_
      have hd : okY (l[i]) true ↔ (1 ≤ (l[i]).lsn ∧ 6 ≤ (l[i]).kind ∧ (l[i]).kind ≤ 9 ∧ (((l[i]).kind = 6 ∨ (l[i]).kind = 7) → (dec (l[i]).data).2 = 0)) := by unfold okY; constructor <;> (intro q; simp at q ⊢; omega)
      obtain ⟨h1, ⟨rfl, h2⟩ | ⟨rfl, hl1, hJ, h2⟩⟩ := h
      · exact ⟨h1, bF (fun q => h2 (hd.1 q)), fun q => absurd (hd.1 q) h2⟩
      have eo : endsK (l[i]).kind → openR l 3 (i + 1) = decide ((l[i]).kind = 5) := fun q => by rw [openR_s hi, if_pos ⟨hch, q⟩]
      rcases h2 with ⟨hk67, hdd, A', c', hb', hE', hK', hsame⟩ | ⟨hk8, A', c', hb', hE', hK'⟩ | ⟨hk9, hb', hE', hK'⟩
      · refine ⟨h1, bT (hd.2 ⟨hl1, by omega, by omega, fun _ => hdd⟩), fun _ => ?_⟩
        have ne : ¬ ((l[i]).chain = 3 ∧ endsK (l[i]).kind) := fun q => by have h3 := q.2; unfold endsK at h3; omega
        have eo2 : openR l 3 (i + 1) = true := by rw [openR_s hi, if_neg ne]; exact ho
        have ec : chgR l 3 (i + 1) = chgR l 3 i ++ [(dec (l[i]).data).1] := by rw [chgR_s hi, if_neg ne, if_pos ⟨hch, hk67⟩]
        have eb : bookR l (i + 1) = bookR l i := by rw [bookR_s hi, if_neg (by omega)]
        refine ⟨b0, A0, n0, c0, A1, n1, c1, A2, n2, c2, A', (chgR l 3 i ++ [(dec (l[i]).data).1]).length, c', Ao, co, E, ?_, hE', ?_, ?_⟩
        · rw [eo2, hP.1, hQ.1]; exact hb'
        · rw [eo2, hP.1, hP.2, hQ.1, hQ.2, ec]; exact ((tri_upd hT' rfl hJ hK' hsame).s12).s23
        · rw [eb]; exact hk
      · refine ⟨h1, bT (hd.2 ⟨hl1, by omega, by omega, fun q => by omega⟩), fun _ => ?_⟩
        have eo2 : openR l 3 (i + 1) = false := by rw [eo (.inr (by omega))]; exact decide_eq_false (by omega)
        have eb : bookR l (i + 1) = bookR l i ++ [((l[i]).lsn, 3, chgR l 3 i)] := by rw [bookR_s hi, if_pos ⟨by omega, hk8⟩, hch]
        refine ⟨b0, A0, n0, c0, A1, n1, c1, A2, n2, c2, A3, (chgR l 3 i).length, c3, A', c', (E ++ [⟨(l[i]).lsn, 3, A3, c3, chgR l 3 i⟩]), ?_, hE', ?_, ?_⟩
        · rw [eo2, hP.1, hQ.1]; exact hb'
        · rw [eo2, hP.1, hP.2, hQ.1, hQ.2]; exact ((tri_com hT' rfl hJ hK').s12).s23
        · rw [eb, List.map_append, hk]; rfl
      · refine ⟨h1, bT (hd.2 ⟨hl1, by omega, by omega, fun q => by omega⟩), fun _ => ?_⟩
        have eo2 : openR l 3 (i + 1) = false := by rw [eo (.inr (by omega))]; exact decide_eq_false (by omega)
        have eb : bookR l (i + 1) = bookR l i := by rw [bookR_s hi, if_neg (by omega)]
        refine ⟨b0, A0, n0, c0, A1, n1, c1, A2, n2, c2, A3, (chgR l 3 i).length, c3, Ao, co, E, ?_, hE', ?_, ?_⟩
        · rw [eo2, hP.1, hQ.1]; exact hb'
        · rw [eo2, hP.1, hP.2, hQ.1, hQ.2]; exact ((tri_end hT' hJ).s12).s23
        · rw [eb]; exact hk
end Go.Proofs.Ytbmohojdlgedpaa
