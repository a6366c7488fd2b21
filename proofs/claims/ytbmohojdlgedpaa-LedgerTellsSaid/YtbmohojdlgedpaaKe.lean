/-
  Contracts of the package ledger: one record.
-/
import Derived.Test.YtbmohojdlgedpaaKd
namespace Go.Proofs.Ytbmohojdlgedpaa
open Go.RowKit Gw Pl
set_option linter.unusedVariables false
set_option linter.unusedSimpArgs false
theorem arr101 : arrB Try.prog 101 4 4 1 = true := by kernel_rfl
theorem arr102 : arrB Try.prog 102 25 4 1 = true := by kernel_rfl
theorem boo4 : Try.prog.underlying 4 = some .bool := by kernel_rfl
theorem cb44 : callB Try.prog 44 = true := by kernel_rfl
theorem fld104_0 : fldB Try.prog 104 0 0 = true := by kernel_rfl
theorem fld104_1 : fldB Try.prog 104 1 4 = true := by kernel_rfl
theorem fld104_2 : fldB Try.prog 104 2 8 = true := by kernel_rfl
theorem fld65_2 : fldB Try.prog 65 2 2 = true := by kernel_rfl
theorem scl24 : sclB Try.prog 24 = true := by kernel_rfl
theorem scl25 : sclB Try.prog 25 = true := by kernel_rfl
theorem slc24 : slcB Try.prog 24 28 3 40 = true := by kernel_rfl
theorem slc25 : slcB Try.prog 25 34 6 64 = true := by kernel_rfl
theorem sz24 : szB Try.prog 24 1 = true := by kernel_rfl
theorem sz25 : szB Try.prog 25 1 = true := by kernel_rfl
theorem sz4 : szB Try.prog 4 1 = true := by kernel_rfl
theorem zer28 : (Try.prog.info? 28).bind (·.zero) = some (.agg #[.int .i64 0, .int .i64 0, .slice none 0 0]) := by kernel_rfl
theorem Gw.Sli.zero {t lo hi : Nat} {w : World} {A : Option Addr} {vs : List Value} (h : Sli t lo hi w A vs) : Sli t 0 w.heap.size w A vs := by
  rcases h with h | ⟨g, off, c, fr, hA, h1, h2, ⟨t', h3, ht⟩, h4⟩
  · exact .inl h
  · exact .inr ⟨g, off, c, fr, hA, Nat.zero_le _, (Array.getElem?_eq_some_iff.1 h3).1, ⟨t', h3, ht⟩, h4⟩
theorem sli_ne {t lo hi : Nat} {w w' : World} {A : Option Addr} {n c : Nat} {vs : List Value} {row : Option Nat} (h : Sli t lo hi w A vs) (hg : w.grownBy w' row) (hne : vs = [] ∨ (Value.slice A n c).ownBlock ≠ row) : Sli t 0 w'.heap.size w' A vs := by
  rcases h with h | ⟨g, off, cc, fr, hA, h1, h2, ⟨t', h3, ht⟩, h4⟩
  · exact .inl h
  · rcases hne with hne | hne
    · exact .inl hne
    · refine .inr ⟨g, off, cc, fr, hA, Nat.zero_le _, ?_, ⟨t', ?_, ht⟩, h4⟩
      · have := (Array.getElem?_eq_some_iff.1 h3).1
        have := hg.size
        omega
      · exact (hg.block g (Array.getElem?_eq_some_iff.1 h3).1 (fun e => hne (by rw [hA, ← e]; rfl))).trans h3
theorem sli_lt {t lo hi : Nat} {w : World} {A : Option Addr} {n c : Nat} {vs : List Value} (h : Sli t lo hi w A vs) (h0 : vs ≠ []) : ∀ k, (Value.slice A n c).ownBlock = some k → k < w.heap.size := by
  rcases h with h | ⟨g, off, cc, fr, hA, h1, h2, ⟨t', h3, ht⟩, h4⟩
  · exact absurd h h0
  · intro k hk
    subst hA
    have : g = k := by injection hk
    subst this
    exact (Array.getElem?_eq_some_iff.1 h3).1
/-- Rows of changes that stand in the book. -/
def FrzE (w : World) (E : List Ent) : Prop := ∀ y ∈ E, Sli 34 0 w.heap.size w y.la (fl encC y.ch)
/-- A row of one's own, while its chain is open. -/
def RowO (lo : Nat) (w : World) (o : Bool) (A : Option Addr) (n c : Nat) (xs : List Chg) : Prop := o = true → n = xs.length ∧ w.ownsRow lo 34 6 (.slice A xs.length c) xs.length (fl encC xs)
/-- Two rows lie apart. -/
def ApR (o o2 : Bool) (A A2 : Option Addr) : Prop := o = true → o2 = true → ∀ k, (Value.slice A 0 0).ownBlock = some k → (Value.slice A2 0 0).ownBlock ≠ some k
def ApE (o : Bool) (A : Option Addr) (E : List Ent) : Prop := o = true → ∀ k, (Value.slice A 0 0).ownBlock = some k → ∀ y ∈ E, y.ch = [] ∨ (Value.slice y.la 0 0).ownBlock ≠ some k
theorem ob_n {A : Option Addr} {n c : Nat} : (Value.slice A n c).ownBlock = (Value.slice A 0 0).ownBlock := by cases A <;> rfl
section
variable {lo g : Nat} {w w' : World} {o o2 : Bool} {A A2 : Option Addr} {n c n2 c2 : Nat} {xs : List Chg} {E : List Ent}
theorem RowO.gb (h : RowO lo w o A n c xs) (hg : w.grownBy w' none) : RowO lo w' o A n c xs := fun q => ⟨(h q).1, own_gb (h q).2 hg⟩
theorem RowO.other {T : Nat} {cs : List Value} (h : RowO lo w o A n c xs) (hb : Blk w g T cs) (hT : Nat.beq 34 T = false) (hg : w.grownBy w' (some g)) : RowO lo w' o A n c xs := fun q => ⟨(h q).1, own_other (h q).2 hb hT hg⟩
theorem RowO.ne {row : Option Nat} (h : RowO lo w o A n c xs) (hg : w.grownBy w' row) (hne : o = true → (Value.slice A 0 0).ownBlock = none ∨ (Value.slice A 0 0).ownBlock ≠ row) : RowO lo w' o A n c xs := fun q => ⟨(h q).1, (h q).2.kept hg (by rw [ob_n]; exact hne q)⟩
theorem RowO.own {base T sz m : Nat} {v : Value} {us : List Value} (h : RowO lo w o A n c xs) (ho : w.ownsRow base T sz v m us) (hT : Nat.beq 34 T = false) (hg : w.grownBy w' v.ownBlock) : RowO lo w' o A n c xs := fun q => ⟨(h q).1, (h q).2.kept hg (own_type_ne' (h q).2 ho hT)⟩
theorem RowO.lt (h : RowO lo w o A n c xs) (q : o = true) : ∀ k, (Value.slice A 0 0).ownBlock = some k → k < w.heap.size := fun k hk => (World.ownsRow.lt (h q).2 k (by rw [ob_n]; exact hk)).2
theorem FrzE.gb (h : FrzE w E) (hg : w.grownBy w' none) : FrzE w' E := fun y hy => ((h y hy).gb hg).zero
theorem FrzE.other {T : Nat} {cs : List Value} (h : FrzE w E) (hb : Blk w g T cs) (hT : Nat.beq 34 T = false) (hg : w.grownBy w' (some g)) : FrzE w' E := fun y hy => ((h y hy).other hb rfl hT hg).zero
theorem FrzE.own {base T sz m : Nat} {v : Value} {us : List Value} (h : FrzE w E) (ho : w.ownsRow base T sz v m us) (hT : Nat.beq 34 T = false) (hg : w.grownBy w' v.ownBlock) : FrzE w' E := fun y hy => ((h y hy).otherO ho rfl hT hg).zero
theorem FrzE.far (h : FrzE w E) (h0 : ∀ y ∈ E, y.ch = [] ∨ (Value.slice y.la 0 0).ownBlock ≠ some g) (hg : w.grownBy w' (some g)) : FrzE w' E := fun y hy => sli_ne (n := 0) (c := 0) (h y hy) hg ((h0 y hy).imp (fun q => by rw [q]; rfl) id)
theorem FrzE.row {row : Option Nat} (h : FrzE w E) (h0 : ∀ k, row = some k → ∀ y ∈ E, y.ch = [] ∨ (Value.slice y.la 0 0).ownBlock ≠ some k) (hg : w.grownBy w' row) : FrzE w' E := by
  cases row with
  | none => exact h.gb hg
  | some k => exact h.far (h0 k rfl) hg
theorem FrzE.lt (h : FrzE w E) : ∀ y ∈ E, y.ch = [] ∨ ∀ k, (Value.slice y.la 0 0).ownBlock = some k → k < w.heap.size := by
  intro y hy
  cases hc : y.ch with
  | nil => exact .inl rfl
  | cons a b => exact .inr (sli_lt (h y hy) (by rw [hc]; unfold fl; simp [encC]))
theorem FrzE.fresh (h : FrzE w E) {w2 : World} (h2 : FrzE w2 E) (hg0 : w.heap.size ≤ g) (hg : w2.grownBy w' (some g)) : FrzE w' E :=
  h2.far (fun y hy => (h.lt y hy).imp id (fun q e => by have := q g e; omega)) hg
theorem RowO.fresh (h : RowO lo w o A n c xs) {w2 : World} (h2 : RowO lo w2 o A n c xs) (hg0 : w.heap.size ≤ g) (hg : w2.grownBy w' (some g)) : RowO lo w' o A n c xs :=
  h2.ne hg (fun q => .inr (fun e => by have := h.lt q g e; omega))
end
theorem one_1o {w wa : World} {gp : Nat} {b0 b1 b2 b3 : Bool} {A0 A1 A2 A3 Ao da : Option Addr} {n0 n1 n2 n3 c0 c1 c2 c3 co dc : Nat} {xs : List Chg} {E : List Ent} {kd lsn pv : Int} {data : List UInt8} (hB : w.grownBy wa none) (gp0 : w.heap.size ≤ gp) (hbk : Blk wa gp 104 [.bool b0, .bool true, .bool b2, .bool b3, .slice A0 n0 c0, .slice A1 xs.length c1, .slice A2 n2 c2, .slice A3 n3 c3, .slice Ao E.length co]) (hE : wa.ownsRow w.heap.size 28 3 (.slice Ao E.length co) E.length (fl encEn E)) (hD0 : Sli 0 0 w.heap.size w da (fl encB data)) (hd6 : data.length ≤ 600) (hdc : data.length ≤ dc) (hE1 : E.length ≤ 1000) (hx1 : xs.length ≤ 1000) (hoK : wa.ownsRow w.heap.size 34 6 (.slice A1 xs.length c1) xs.length (fl encC xs)) {J : World → Prop} (hJ : J wa) (hJn : ∀ w w', J w → w.grownBy w' none → J w') (hJb : ∀ w w' cs, J w → Blk w gp 104 cs → w.grownBy w' (some gp) → J w') (hJf : ∀ w w' g T cs, J w → Blk w g T cs → wa.heap.size ≤ g → w.grownBy w' (some g) → J w') (hJk : ∀ w w', J w → w.grownBy w' (Value.slice A1 xs.length c1).ownBlock → J w') (hJe : ∀ w1 w2 v n vs, J w1 → w1.ownsRow w.heap.size 28 3 v n vs → w1.grownBy w2 v.ownBlock → J w2) :
    Runs Try.prog 40 #[.pointer (some ⟨gp, 0, none⟩), .agg #[.int .i64 kd, .int .i64 1, .int .i64 lsn, .int .i64 pv, .slice da data.length dc]] wa (fun v_ w' => w.grownBy w' none ∧ ((v_ = .bool false ∧ ¬ (1 ≤ lsn ∧ 6 ≤ kd ∧ kd ≤ 9 ∧ ((kd = 6 ∨ kd = 7) → (dec data).2 = 0))) ∨ (v_ = .bool true ∧ 1 ≤ lsn ∧ J w' ∧ (((kd = 6 ∨ kd = 7) ∧ (dec data).2 = 0 ∧ ∃ A' c', Blk w' gp 104 [.bool b0, .bool true, .bool b2, .bool b3, .slice A0 n0 c0, .slice A' ((xs ++ [(dec data).1]).length) c', .slice A2 n2 c2, .slice A3 n3 c3, .slice Ao E.length co] ∧ w'.ownsRow w.heap.size 28 3 (.slice Ao E.length co) E.length (fl encEn E) ∧ w'.ownsRow w.heap.size 34 6 (.slice A' (xs ++ [(dec data).1]).length c') (xs ++ [(dec data).1]).length (fl encC (xs ++ [(dec data).1])) ∧ ((Value.slice A' 0 0).ownBlock = (Value.slice A1 0 0).ownBlock ∨ ∀ k, (Value.slice A' 0 0).ownBlock = some k → wa.heap.size ≤ k)) ∨ (kd = 8 ∧ ∃ A' c', Blk w' gp 104 [.bool b0, .bool false, .bool b2, .bool b3, .slice A0 n0 c0, .slice A1 xs.length c1, .slice A2 n2 c2, .slice A3 n3 c3, .slice A' ((E ++ [(⟨lsn, 1, A1, c1, xs⟩ : Ent)]).length) c'] ∧ w'.ownsRow w.heap.size 28 3 (.slice A' (E ++ [(⟨lsn, 1, A1, c1, xs⟩ : Ent)]).length c') (E ++ [(⟨lsn, 1, A1, c1, xs⟩ : Ent)]).length (fl encEn (E ++ [(⟨lsn, 1, A1, c1, xs⟩ : Ent)])) ∧ w'.ownsRow w.heap.size 34 6 (.slice A1 xs.length c1) xs.length (fl encC xs)) ∨ (kd = 9 ∧ Blk w' gp 104 [.bool b0, .bool false, .bool b2, .bool b3, .slice A0 n0 c0, .slice A1 xs.length c1, .slice A2 n2 c2, .slice A3 n3 c3, .slice Ao E.length co] ∧ w'.ownsRow w.heap.size 28 3 (.slice Ao E.length co) E.length (fl encEn E) ∧ w'.ownsRow w.heap.size 34 6 (.slice A1 xs.length c1) xs.length (fl encC xs)))))) := by
 have hD := hD0.gb hB
 have hlt_ : wa.heap.size ≤ wa.heap.size := Nat.le_refl _
 refine enter Try.func40 Try.ntmps40 rfl rfl ?_
 refine C_seq (C_reg rfl ?_)
 refine L_box (cs := [.int .i64 kd, .int .i64 1, .int .i64 lsn, .int .i64 pv, .slice da data.length dc]) rfl rfl rfl ?_
 intro g1 w1 eg1 hb1 hs1 hz1
 have ge1 : w.heap.size ≤ g1 := eg_ge hB eg1
 have lw1 : wa.heap.size ≤ g1 := (Eq.symm eg1) ▸ hlt_
 have lt1 : gp < g1 := lt_of_eg hbk.lt eg1
 replace hB := gb_tr hB hs1
 replace hbk := hbk.gb hs1
 replace hE := own_gb hE hs1
 replace hD := hD.gb hs1
 replace hJ := hJn _ _ hJ hs1
 replace hlt_ := Nat.le_trans hlt_ hs1.size
 replace hoK := own_gb hoK hs1
 refine L_run (R_assign rfl) rfl ?_
 refine L_nil (N_then (C_seq (C_seq ?_)))
 refine C_draw2 rfl mix ?_
 intro w2 hs2 hz2
 replace hB := gb_tr hB hs2
 replace hbk := hbk.gb hs2
 replace hE := own_gb hE hs2
 replace hD := hD.gb hs2
 replace hJ := hJn _ _ hJ hs2
 replace hlt_ := Nat.le_trans hlt_ hs2.size
 replace hoK := own_gb hoK hs2
 replace hb1 := hb1.gb hs2
 refine ⟨fun W_ => Blk W_ gp 104 [.bool b0, .bool true, .bool b2, .bool b3, .slice A0 n0 c0, .slice A1 xs.length c1, .slice A2 n2 c2, .slice A3 n3 c3, .slice Ao E.length co] ∧ Blk W_ g1 65 [.int .i64 kd, .int .i64 1, .int .i64 lsn, .int .i64 pv, .slice da data.length dc] ∧ True, [0, 1, 2, 3, 4, 5, 6, 7, 8, 9, 10, 11, 12, 13, 14, 15, 16, 17, 18, 19, 20, 21, 22, 23, 24, 25], ?_⟩
 refine T_tk (i := 0) rfl (Y_of (fun _ _ => R_field (r := 1) rfl fld65_1 rfl)) ⟨hbk, hb1, trivial⟩ rfl ?_
 refine T_tk (i := 1) rfl (Y_of (fun _ ⟨hbk, hb1, _⟩ => R_load1 rfl scl3 (hb1.cell (i := 1) rfl))) ⟨hbk, hb1, trivial⟩ rfl ?_
 refine T_tk (i := 2) rfl (Y_of (fun _ _ => R_eqv (R_lss rfl rfl) (v' := .bool false) rfl)) ⟨hbk, hb1, trivial⟩ rfl ?_
 refine T_tk (i := 3) rfl (Y_of (fun _ _ => R_move rfl)) ⟨hbk, hb1, trivial⟩ rfl ?_
 refine T_tk (i := 4) rfl (Y_yes rfl rfl rfl rfl (fun _ _ => R_field (r := 1) rfl fld65_1 rfl)) ⟨hbk, hb1, trivial⟩ rfl ?_
 refine T_tk (i := 5) rfl (Y_yes rfl rfl rfl rfl (fun _ ⟨hbk, hb1, _⟩ => R_load1 rfl scl3 (hb1.cell (i := 1) rfl))) ⟨hbk, hb1, trivial⟩ rfl ?_
 refine T_tk (i := 6) rfl (Y_yes rfl rfl rfl rfl (fun _ _ => R_eqv (R_gtr rfl rfl) (v' := .bool false) rfl)) ⟨hbk, hb1, trivial⟩ rfl ?_
 refine T_tk (i := 7) rfl (Y_of (fun _ _ => R_pickF rfl rfl rfl)) ⟨hbk, hb1, trivial⟩ rfl ?_
 refine T_tk (i := 8) rfl (Y_of (fun _ _ => R_move rfl)) ⟨hbk, hb1, trivial⟩ rfl ?_
 refine T_tk (i := 9) rfl (Y_yes rfl rfl rfl rfl (fun _ _ => R_field (r := 2) rfl fld65_2 rfl)) ⟨hbk, hb1, trivial⟩ rfl ?_
 refine T_tk (i := 10) rfl (Y_yes rfl rfl rfl rfl (fun _ ⟨hbk, hb1, _⟩ => R_load1 rfl scl3 (hb1.cell (i := 2) rfl))) ⟨hbk, hb1, trivial⟩ rfl ?_
 refine T_tk (i := 11) rfl (Y_yes rfl rfl rfl rfl (fun _ _ => R_lss rfl rfl)) ⟨hbk, hb1, trivial⟩ rfl ?_
 refine T_tk (i := 12) rfl (Y_of (fun _ _ => R_pickF rfl rfl rfl)) ⟨hbk, hb1, trivial⟩ rfl ?_
 refine T_tk (i := 13) rfl (Y_of (fun _ _ => R_move rfl)) ⟨hbk, hb1, trivial⟩ rfl ?_
 by_cases h1 : lsn < 1
 ·refine T_tk (i := 14) rfl (Y_no rfl rfl rfl (decide_eq_true h1)) ⟨hbk, hb1, trivial⟩ rfl ?_
  refine T_tk (i := 15) rfl (Y_no rfl rfl rfl (decide_eq_true h1)) ⟨hbk, hb1, trivial⟩ rfl ?_
  refine T_tk (i := 16) rfl (Y_no rfl rfl rfl (decide_eq_true h1)) ⟨hbk, hb1, trivial⟩ rfl ?_
  refine T_tk (i := 17) rfl (Y_no rfl rfl rfl (decide_eq_true h1)) ⟨hbk, hb1, trivial⟩ rfl ?_
  refine T_tk (i := 18) rfl (Y_no rfl rfl rfl (decide_eq_true h1)) ⟨hbk, hb1, trivial⟩ rfl ?_
  refine T_tk (i := 19) rfl (Y_no rfl rfl rfl (decide_eq_true h1)) ⟨hbk, hb1, trivial⟩ rfl ?_
  refine T_tk (i := 20) rfl (Y_no rfl rfl rfl (decide_eq_true h1)) ⟨hbk, hb1, trivial⟩ rfl ?_
  refine T_tk (i := 21) rfl (Y_no rfl rfl rfl (decide_eq_true h1)) ⟨hbk, hb1, trivial⟩ rfl ?_
  refine T_tk (i := 22) rfl (Y_no rfl rfl rfl (decide_eq_true h1)) ⟨hbk, hb1, trivial⟩ rfl ?_
  refine T_tk (i := 23) rfl (Y_no rfl rfl rfl (decide_eq_true h1)) ⟨hbk, hb1, trivial⟩ rfl ?_
  refine T_tk (i := 24) rfl (Y_no rfl rfl rfl (decide_eq_true h1)) ⟨hbk, hb1, trivial⟩ rfl ?_
  refine T_tk (i := 25) rfl (Y_of (fun _ _ => R_pickT rfl (decide_eq_true h1) rfl)) ⟨hbk, hb1, trivial⟩ rfl ?_
  refine T_done (by kernel_rfl) (CalmE.normal ?_)
  refine N_then (C_condT rfl rfl (C_seq (C_reg rfl ?_)))
  refine L_run (R_assign rfl) rfl ?_
  refine L_nil (N_then (C_ret (R_then ?_)))
  refine ret1 Try.results40 rfl ?_
  exact ⟨hB, .inl ⟨rfl, fun q_ => by have h_ := q_.2.2.2; omega⟩⟩
 ·refine T_tk (i := 14) rfl (Y_yes rfl rfl rfl (decide_eq_false h1) (fun _ _ => R_move rfl)) ⟨hbk, hb1, trivial⟩ rfl ?_
  refine T_tk (i := 15) rfl (Y_yes rfl rfl rfl (decide_eq_false h1) (fun _ _ => R_field (r := 1) rfl fld65_1 rfl)) ⟨hbk, hb1, trivial⟩ rfl ?_
  refine T_tk (i := 16) rfl (Y_yes rfl rfl rfl (decide_eq_false h1) (fun _ ⟨hbk, hb1, _⟩ => R_load1 rfl scl3 (hb1.cell (i := 1) rfl))) ⟨hbk, hb1, trivial⟩ rfl ?_
  refine T_tk (i := 17) rfl (Y_yes rfl rfl rfl (decide_eq_false h1) (fun _ _ => R_nilck rfl)) ⟨hbk, hb1, trivial⟩ rfl ?_
  refine T_tk (i := 18) rfl (Y_yes rfl rfl rfl (decide_eq_false h1) (fun _ _ => R_field (r := 0) rfl fld104_0 rfl)) ⟨hbk, hb1, trivial⟩ rfl ?_
  refine T_tk (i := 19) rfl (Y_yes rfl rfl rfl (decide_eq_false h1) (fun _ _ => R_indexArr (sz := 1) (i := 1) (r := 1) rfl rfl (by first | rfl | omega) arr101 (by omega) (by omega))) ⟨hbk, hb1, trivial⟩ rfl ?_
  refine T_tk (i := 20) rfl (Y_yes rfl rfl rfl (decide_eq_false h1) (fun _ ⟨hbk, hb1, _⟩ => R_load1 rfl scl4 (hbk.cell (i := 1) rfl))) ⟨hbk, hb1, trivial⟩ rfl ?_
  refine T_tk (i := 21) rfl (Y_yes rfl rfl rfl (decide_eq_false h1) (fun _ _ => R_field (r := 0) rfl fld65_0 rfl)) ⟨hbk, hb1, trivial⟩ rfl ?_
  refine T_tk (i := 22) rfl (Y_yes rfl rfl rfl (decide_eq_false h1) (fun _ ⟨hbk, hb1, _⟩ => R_load1 rfl scl3 (hb1.cell (i := 0) rfl))) ⟨hbk, hb1, trivial⟩ rfl ?_
  refine T_tk (i := 23) rfl (Y_yes rfl rfl rfl (decide_eq_false h1) (fun _ _ => R_eql rfl rfl)) ⟨hbk, hb1, trivial⟩ rfl ?_
  refine T_tk (i := 24) rfl (Y_yes rfl rfl rfl (decide_eq_false h1) (fun _ _ => R_eqv (R_eqlB rfl rfl boo4) (v' := .bool (decide (kd = 5))) (congrArg _ (by simp)))) ⟨hbk, hb1, trivial⟩ rfl ?_
  refine T_tk (i := 25) rfl (Y_of (fun _ _ => R_pickF rfl (decide_eq_false h1) rfl)) ⟨hbk, hb1, trivial⟩ rfl ?_
  refine T_done (by kernel_rfl) (CalmE.normal ?_)
  refine N_then ?_
  refine C_if rfl (fun h2 => ?_) (fun h2 => ?_)
  ·refine C_seq (C_reg rfl ?_)
   refine L_run (R_assign rfl) rfl ?_
   refine L_nil (N_then (C_ret (R_then ?_)))
   refine ret1 Try.results40 rfl ?_
   exact ⟨hB, .inl ⟨rfl, fun q_ => by have h_ := q_.2.2.2; omega⟩⟩
  ·refine C_skip (N_then (C_seq (C_seq (C_reg rfl ?_))))
   refine L_run (R_field (r := 0) rfl fld65_0 rfl) rfl ?_
   refine L_run (R_load1 rfl scl3 (hb1.cell (i := 0) rfl)) rfl ?_
   refine L_nil (N_then (C_block (C_seq (C_reg rfl ?_))))
   refine L_run (R_eql rfl rfl) rfl ?_
   refine L_run (R_assign rfl) rfl ?_
   refine L_nil (N_then (C_condF rfl (decide_eq_false h2) (C_seq (C_seq (C_reg rfl ?_)))))
   refine L_run (R_eql rfl rfl) rfl ?_
   refine L_run (R_assign rfl) rfl ?_
   refine L_nil (N_then ?_)
   refine C_if rfl (fun h3 => ?_) (fun h3 => ?_)
   ·refine C_skip (N_then (C_condT rfl (decide_eq_true h3) (C_seq (C_reg rfl ?_))))
    refine L_run (R_field (r := 4) rfl fld65_4 rfl) rfl ?_
    refine L_run (R_load1 rfl scl63 (hb1.cell (i := 4) rfl)) rfl ?_
    refine L_call rfl cb44 (txdec_ok (bs := data) hD (by omega) hdc) rfl ?_
    rintro _ w3 ⟨hs3, rfl⟩
    replace hB := gb_tr hB hs3
    replace hbk := hbk.gb hs3
    replace hE := own_gb hE hs3
    replace hD := hD.gb hs3
    replace hJ := hJn _ _ hJ hs3
    replace hlt_ := Nat.le_trans hlt_ hs3.size
    replace hoK := own_gb hoK hs3
    replace hb1 := hb1.gb hs3
    refine L_run (R_move rfl) rfl ?_
    refine L_run (R_extract rfl rfl) rfl ?_
    refine L_run (R_extract rfl rfl) rfl ?_
    refine L_alloc (cs := [.string (⟨#[]⟩), .bool false, .bool false, .string (⟨#[]⟩), .string (⟨#[]⟩), .int .i64 0]) zer34 rfl rfl ?_
    intro g2 w4 eg2 hb2 hs4 hz3
    have ge2 : w.heap.size ≤ g2 := eg_ge hB eg2
    have lw2 : wa.heap.size ≤ g2 := (Eq.symm eg2) ▸ hlt_
    have lt2 : gp < g2 := lt_of_eg hbk.lt eg2
    have lt3 : g1 < g2 := lt_of_eg hb1.lt eg2
    have hap1 : ∀ k_, (Value.slice A1 xs.length c1).ownBlock = some k_ → k_ ≠ g2 := fun k_ hk => by have h_ := (World.ownsRow.lt hoK k_ hk).2; omega
    replace hB := gb_tr hB hs4
    replace hbk := hbk.gb hs4
    replace hE := own_gb hE hs4
    replace hD := hD.gb hs4
    replace hJ := hJn _ _ hJ hs4
    replace hlt_ := Nat.le_trans hlt_ hs4.size
    replace hoK := own_gb hoK hs4
    replace hb1 := hb1.gb hs4
    refine L_stA (vs := [.string (((dec data).1).key), .bool (((dec data).1).was), .bool (((dec data).1).is), .string (((dec data).1).old), .string (((dec data).1).new), .int .i64 (((dec data).1).next)]) rfl rfl rfl sz34 rfl hb2 rfl ?_
    intro w5 hb3 hs5 hz4
    replace hB := gb_trg hB hs5 ge2
    replace hbk := hbk.grown hs5 (ne_lt lt2)
    replace hE := own_other hE hb2 rfl hs5
    replace hD := hD.old hs5 ge2
    replace hJ := hJf _ _ _ _ _ hJ hb2 (by omega) hs5
    replace hlt_ := Nat.le_trans hlt_ hs5.size
    replace hoK := hoK.kept hs5 (.inr (fun e_ => hap1 _ e_ rfl))
    replace hb1 := hb1.grown hs5 (ne_lt lt3)
    refine L_run (R_assign rfl) rfl ?_
    refine L_nil (N_then (C_seq (C_seq (C_reg rfl ?_))))
    refine L_run (R_move rfl) rfl ?_
    refine L_run (R_neq rfl rfl) rfl ?_
    refine L_nil (N_then ?_)
    refine C_if rfl (fun h4 => ?_) (fun h4 => ?_)
    ·refine C_seq (C_reg rfl ?_)
     refine L_run (R_assign rfl) rfl ?_
     refine L_nil (N_then (C_ret (R_then (R_in (R_then ?_)))))
     refine ret1 Try.results40 rfl ?_
     exact ⟨hB, .inl ⟨rfl, fun q_ => by have h_ := q_.2.2.2; omega⟩⟩
    ·refine C_skip (N_then ?_)
     refine C_draw2 rfl mix ?_
     intro w6 hs6 hz5
     replace hB := gb_tr hB hs6
     replace hbk := hbk.gb hs6
     replace hE := own_gb hE hs6
     replace hD := hD.gb hs6
     replace hJ := hJn _ _ hJ hs6
     replace hlt_ := Nat.le_trans hlt_ hs6.size
     replace hoK := own_gb hoK hs6
     replace hb1 := hb1.gb hs6
     replace hb3 := hb3.gb hs6
     refine ⟨fun W_ => Blk W_ gp 104 [.bool b0, .bool true, .bool b2, .bool b3, .slice A0 n0 c0, .slice A1 xs.length c1, .slice A2 n2 c2, .slice A3 n3 c3, .slice Ao E.length co] ∧ Blk W_ g1 65 [.int .i64 kd, .int .i64 1, .int .i64 lsn, .int .i64 pv, .slice da data.length dc] ∧ Blk W_ g2 34 [.string (((dec data).1).key), .bool (((dec data).1).was), .bool (((dec data).1).is), .string (((dec data).1).old), .string (((dec data).1).new), .int .i64 (((dec data).1).next)] ∧ True, [0, 1, 2, 3, 4, 5, 6, 7, 8, 9, 10, 13, 14, 15], ?_⟩
     refine T_tk (i := 0) rfl (Y_of (fun _ _ => R_move rfl)) ⟨hbk, hb1, hb3, trivial⟩ rfl ?_
     refine T_tk (i := 1) rfl (Y_of (fun _ _ => R_field (r := 1) rfl fld65_1 rfl)) ⟨hbk, hb1, hb3, trivial⟩ rfl ?_
     refine T_tk (i := 2) rfl (Y_of (fun _ ⟨hbk, hb1, hb3, _⟩ => R_load1 rfl scl3 (hb1.cell (i := 1) rfl))) ⟨hbk, hb1, hb3, trivial⟩ rfl ?_
     refine T_tk (i := 3) rfl (Y_of (fun _ _ => R_move rfl)) ⟨hbk, hb1, hb3, trivial⟩ rfl ?_
     refine T_tk (i := 4) rfl (Y_of (fun _ _ => R_field (r := 1) rfl fld65_1 rfl)) ⟨hbk, hb1, hb3, trivial⟩ rfl ?_
     refine T_tk (i := 5) rfl (Y_of (fun _ ⟨hbk, hb1, hb3, _⟩ => R_load1 rfl scl3 (hb1.cell (i := 1) rfl))) ⟨hbk, hb1, hb3, trivial⟩ rfl ?_
     refine T_tk (i := 6) rfl (Y_of (fun _ _ => R_nilck rfl)) ⟨hbk, hb1, hb3, trivial⟩ rfl ?_
     refine T_tk (i := 7) rfl (Y_of (fun _ _ => R_field (r := 4) rfl fld104_1 rfl)) ⟨hbk, hb1, hb3, trivial⟩ rfl ?_
     refine T_tk (i := 8) rfl (Y_of (fun _ _ => R_indexArr (sz := 1) (i := 1) (r := 5) rfl rfl (by first | rfl | omega) arr102 (by omega) (by omega))) ⟨hbk, hb1, hb3, trivial⟩ rfl ?_
     refine T_tk (i := 9) rfl (Y_of (fun _ ⟨hbk, hb1, hb3, _⟩ => R_load1 rfl scl25 (hbk.cell (i := 5) rfl))) ⟨hbk, hb1, hb3, trivial⟩ rfl ?_
     refine T_tk (i := 10) rfl (Y_of (fun _ ⟨hbk, hb1, hb3, _⟩ => R_loadA (vs := [.string (((dec data).1).key), .bool (((dec data).1).was), .bool (((dec data).1).is), .string (((dec data).1).old), .string (((dec data).1).new), .int .i64 (((dec data).1).next)]) rfl agg34 (At.pre (hb3.at_ 0) rfl) rfl)) ⟨hbk, hb1, hb3, trivial⟩ rfl ?_
     refine T_tk (i := 13) rfl (Y_of (fun _ _ => R_nilck rfl)) ⟨hbk, hb1, hb3, trivial⟩ rfl ?_
     refine T_tk (i := 14) rfl (Y_of (fun _ _ => R_field (r := 4) rfl fld104_1 rfl)) ⟨hbk, hb1, hb3, trivial⟩ rfl ?_
     refine T_all (rs := [11]) (by kernel_rfl) rfl (all1 (O_one rfl ?_))
     refine L_buildSlice (pv := [(0, .agg #[.string (((dec data).1).key), .bool (((dec data).1).was), .bool (((dec data).1).is), .string (((dec data).1).old), .string (((dec data).1).new), .int .i64 (((dec data).1).next)])]) (cs := [.string (((dec data).1).key), .bool (((dec data).1).was), .bool (((dec data).1).is), .string (((dec data).1).old), .string (((dec data).1).new), .int .i64 (((dec data).1).next)]) slc25 zer34 rfl rfl (by kernel_rfl) rfl ?_
     intro g3 w7 eg3 hb4 hs7 hz6
     have ge3 : w.heap.size ≤ g3 := eg_ge hB eg3
     have lw3 : wa.heap.size ≤ g3 := (Eq.symm eg3) ▸ hlt_
     have lt4 : gp < g3 := lt_of_eg hbk.lt eg3
     have lt5 : g1 < g3 := lt_of_eg hb1.lt eg3
     have lt6 : g2 < g3 := lt_of_eg hb3.lt eg3
     have hap2 : ∀ k_, (Value.slice A1 xs.length c1).ownBlock = some k_ → k_ ≠ g3 := fun k_ hk => by have h_ := (World.ownsRow.lt hoK k_ hk).2; omega
     replace hB := gb_tr hB hs7
     replace hbk := hbk.gb hs7
     replace hE := own_gb hE hs7
     replace hD := hD.gb hs7
     replace hJ := hJn _ _ hJ hs7
     replace hlt_ := Nat.le_trans hlt_ hs7.size
     replace hoK := own_gb hoK hs7
     replace hb1 := hb1.gb hs7
     replace hb3 := hb3.gb hs7
     refine L_nil (N_then ⟨fun hN_ => ⟨hbk, hb1, hb3, trivial⟩, ?_⟩)
     refine T_all (rs := [12]) (by kernel_rfl) rfl (all1 (O_one rfl ?_))
     have hap0_ := hlt_
     refine T_append (xs := xs) (ys := [(⟨((dec data).1).key, ((dec data).1).was, ((dec data).1).is, ((dec data).1).old, ((dec data).1).new, ((dec data).1).next⟩ : Chg)]) EncC slc25 rfl rfl hoK (Blk.sli (m := 0) hb4) (by simp; omega) (by have := hB.size; omega) rfl ?_
     intro A_1 c_1 w8 ho1 hs8 hat1
     have lt7 := hb3.lt
     replace hB := gb_tro hB hoK hs8 (Nat.le_refl _)
     replace hbk := blk_own hbk hoK rfl hs8
     replace hE := hE.kept hs8 (own_type_ne' hE hoK rfl)
     replace hD := hD.grown hs8 (fun k hk => .inr (Nat.le_trans (Nat.le_refl _) (World.ownsRow.lt hoK k hk).1))
     replace hJ := hJk _ _ hJ hs8
     replace hlt_ := Nat.le_trans hlt_ hs8.size
     replace hb1 := blk_own hb1 hoK rfl hs8
     replace hb3 := hb3.grown hs8 (fun e_ => hap1 _ e_.symm rfl)
     have hap3 : ∀ k_, (Value.slice A_1 (xs ++ ([(⟨((dec data).1).key, ((dec data).1).was, ((dec data).1).is, ((dec data).1).old, ((dec data).1).new, ((dec data).1).next⟩ : Chg)])).length c_1).ownBlock = some k_ → k_ ≠ g2 := fun k_ hk => by rcases hat1 with h_ | h_ <;> rw [h_] at hk <;> first | exact hap1 k_ hk | (injection hk with hk; omega)
     refine L_nil (N_then ⟨fun hN_ => ⟨hbk, hb1, hb3, trivial⟩, ?_⟩)
     refine T_tk (i := 15) rfl (Y_of (fun _ _ => R_indexArr (sz := 1) (i := 1) (r := 5) rfl rfl (by first | rfl | omega) arr102 (by omega) (by omega))) ⟨hbk, hb1, hb3, trivial⟩ rfl ?_
     refine T_switch (S' := fun _ => True) (qs' := []) (by kernel_rfl) ?_
     refine T_all (rs := [16]) (by kernel_rfl) rfl (all1 (O_one rfl ?_))
     refine L_st1 rfl rfl rfl sz25 hbk rfl ?_
     intro w9 hb5 hs9 hz7
     replace hB := gb_trg hB hs9 gp0
     replace hE := own_other hE hbk rfl hs9
     replace hD := hD.old hs9 gp0
     replace hJ := hJb _ _ _ hJ hbk hs9
     replace hlt_ := Nat.le_trans hlt_ hs9.size
     replace hb1 := hb1.grown hs9 (ne_gt lt1)
     replace hb3 := hb3.grown hs9 (ne_gt lt2)
     replace ho1 := own_other ho1 hbk rfl hs9
     refine L_nil (N_then ⟨fun hN_ => trivial, ?_⟩)
     refine T_done (by kernel_rfl) (CalmE.normal ?_)
     refine N_in (N_then (C_seq (C_reg rfl ?_)))
     refine L_run (R_assign rfl) rfl ?_
     refine L_nil (N_then (C_ret ?_))
     refine ret1 Try.results40 rfl ?_
     have hsame_ := hat1.imp (fun h_ => (ob_n.symm.trans h_).trans ob_n) (fun h_ => (fun k_ hk_ => by have h2_ := (ob_n.symm.trans h_).symm.trans hk_; injection h2_; omega : ∀ k, (Value.slice A_1 0 0).ownBlock = some k → wa.heap.size ≤ k))
     exact ⟨hB, .inr ⟨rfl, by omega, hJ, .inl ⟨by omega, by omega, _, _, hb5, (own_lo hE (Nat.le_refl _)), (own_lo ho1 (Nat.le_refl _)), hsame_⟩⟩⟩
   ·refine C_reg rfl ?_
    refine L_run (R_eql rfl rfl) rfl ?_
    refine L_run (R_assign rfl) rfl ?_
    refine L_nil (N_then ?_)
    refine C_if rfl (fun h5 => ?_) (fun h5 => ?_)
    ·refine C_seq (C_reg rfl ?_)
     refine L_run (R_field (r := 4) rfl fld65_4 rfl) rfl ?_
     refine L_run (R_load1 rfl scl63 (hb1.cell (i := 4) rfl)) rfl ?_
     refine L_call rfl cb44 (txdec_ok (bs := data) hD (by omega) hdc) rfl ?_
     rintro _ w10 ⟨hs10, rfl⟩
     replace hB := gb_tr hB hs10
     replace hbk := hbk.gb hs10
     replace hE := own_gb hE hs10
     replace hD := hD.gb hs10
     replace hJ := hJn _ _ hJ hs10
     replace hlt_ := Nat.le_trans hlt_ hs10.size
     replace hoK := own_gb hoK hs10
     replace hb1 := hb1.gb hs10
     refine L_run (R_move rfl) rfl ?_
     refine L_run (R_extract rfl rfl) rfl ?_
     refine L_run (R_extract rfl rfl) rfl ?_
     refine L_alloc (cs := [.string (⟨#[]⟩), .bool false, .bool false, .string (⟨#[]⟩), .string (⟨#[]⟩), .int .i64 0]) zer34 rfl rfl ?_
     intro g4 w11 eg4 hb6 hs11 hz8
     have ge4 : w.heap.size ≤ g4 := eg_ge hB eg4
     have lw4 : wa.heap.size ≤ g4 := (Eq.symm eg4) ▸ hlt_
     have lt8 : gp < g4 := lt_of_eg hbk.lt eg4
     have lt9 : g1 < g4 := lt_of_eg hb1.lt eg4
     have hap4 : ∀ k_, (Value.slice A1 xs.length c1).ownBlock = some k_ → k_ ≠ g4 := fun k_ hk => by have h_ := (World.ownsRow.lt hoK k_ hk).2; omega
     replace hB := gb_tr hB hs11
     replace hbk := hbk.gb hs11
     replace hE := own_gb hE hs11
     replace hD := hD.gb hs11
     replace hJ := hJn _ _ hJ hs11
     replace hlt_ := Nat.le_trans hlt_ hs11.size
     replace hoK := own_gb hoK hs11
     replace hb1 := hb1.gb hs11
     refine L_stA (vs := [.string (((dec data).1).key), .bool (((dec data).1).was), .bool (((dec data).1).is), .string (((dec data).1).old), .string (((dec data).1).new), .int .i64 (((dec data).1).next)]) rfl rfl rfl sz34 rfl hb6 rfl ?_
     intro w12 hb7 hs12 hz9
     replace hB := gb_trg hB hs12 ge4
     replace hbk := hbk.grown hs12 (ne_lt lt8)
     replace hE := own_other hE hb6 rfl hs12
     replace hD := hD.old hs12 ge4
     replace hJ := hJf _ _ _ _ _ hJ hb6 (by omega) hs12
     replace hlt_ := Nat.le_trans hlt_ hs12.size
     replace hoK := hoK.kept hs12 (.inr (fun e_ => hap4 _ e_ rfl))
     replace hb1 := hb1.grown hs12 (ne_lt lt9)
     refine L_run (R_assign rfl) rfl ?_
     refine L_nil (N_then (C_seq (C_seq (C_reg rfl ?_))))
     refine L_run (R_move rfl) rfl ?_
     refine L_run (R_neq rfl rfl) rfl ?_
     refine L_nil (N_then ?_)
     refine C_if rfl (fun h6 => ?_) (fun h6 => ?_)
     ·refine C_seq (C_reg rfl ?_)
      refine L_run (R_assign rfl) rfl ?_
      refine L_nil (N_then (C_ret (R_then (R_in (R_then ?_)))))
      refine ret1 Try.results40 rfl ?_
      exact ⟨hB, .inl ⟨rfl, fun q_ => by have h_ := q_.2.2.2; omega⟩⟩
     ·refine C_skip (N_then ?_)
      refine C_draw2 rfl mix ?_
      intro w13 hs13 hz10
      replace hB := gb_tr hB hs13
      replace hbk := hbk.gb hs13
      replace hE := own_gb hE hs13
      replace hD := hD.gb hs13
      replace hJ := hJn _ _ hJ hs13
      replace hlt_ := Nat.le_trans hlt_ hs13.size
      replace hoK := own_gb hoK hs13
      replace hb1 := hb1.gb hs13
      replace hb7 := hb7.gb hs13
      refine ⟨fun W_ => Blk W_ gp 104 [.bool b0, .bool true, .bool b2, .bool b3, .slice A0 n0 c0, .slice A1 xs.length c1, .slice A2 n2 c2, .slice A3 n3 c3, .slice Ao E.length co] ∧ Blk W_ g1 65 [.int .i64 kd, .int .i64 1, .int .i64 lsn, .int .i64 pv, .slice da data.length dc] ∧ Blk W_ g4 34 [.string (((dec data).1).key), .bool (((dec data).1).was), .bool (((dec data).1).is), .string (((dec data).1).old), .string (((dec data).1).new), .int .i64 (((dec data).1).next)] ∧ True, [0, 1, 2, 3, 4, 5, 6, 7, 8, 9, 10, 13, 14, 15], ?_⟩
      refine T_tk (i := 0) rfl (Y_of (fun _ _ => R_move rfl)) ⟨hbk, hb1, hb7, trivial⟩ rfl ?_
      refine T_tk (i := 1) rfl (Y_of (fun _ _ => R_field (r := 1) rfl fld65_1 rfl)) ⟨hbk, hb1, hb7, trivial⟩ rfl ?_
      refine T_tk (i := 2) rfl (Y_of (fun _ ⟨hbk, hb1, hb7, _⟩ => R_load1 rfl scl3 (hb1.cell (i := 1) rfl))) ⟨hbk, hb1, hb7, trivial⟩ rfl ?_
      refine T_tk (i := 3) rfl (Y_of (fun _ _ => R_move rfl)) ⟨hbk, hb1, hb7, trivial⟩ rfl ?_
      refine T_tk (i := 4) rfl (Y_of (fun _ _ => R_field (r := 1) rfl fld65_1 rfl)) ⟨hbk, hb1, hb7, trivial⟩ rfl ?_
      refine T_tk (i := 5) rfl (Y_of (fun _ ⟨hbk, hb1, hb7, _⟩ => R_load1 rfl scl3 (hb1.cell (i := 1) rfl))) ⟨hbk, hb1, hb7, trivial⟩ rfl ?_
      refine T_tk (i := 6) rfl (Y_of (fun _ _ => R_nilck rfl)) ⟨hbk, hb1, hb7, trivial⟩ rfl ?_
      refine T_tk (i := 7) rfl (Y_of (fun _ _ => R_field (r := 4) rfl fld104_1 rfl)) ⟨hbk, hb1, hb7, trivial⟩ rfl ?_
      refine T_tk (i := 8) rfl (Y_of (fun _ _ => R_indexArr (sz := 1) (i := 1) (r := 5) rfl rfl (by first | rfl | omega) arr102 (by omega) (by omega))) ⟨hbk, hb1, hb7, trivial⟩ rfl ?_
      refine T_tk (i := 9) rfl (Y_of (fun _ ⟨hbk, hb1, hb7, _⟩ => R_load1 rfl scl25 (hbk.cell (i := 5) rfl))) ⟨hbk, hb1, hb7, trivial⟩ rfl ?_
      refine T_tk (i := 10) rfl (Y_of (fun _ ⟨hbk, hb1, hb7, _⟩ => R_loadA (vs := [.string (((dec data).1).key), .bool (((dec data).1).was), .bool (((dec data).1).is), .string (((dec data).1).old), .string (((dec data).1).new), .int .i64 (((dec data).1).next)]) rfl agg34 (At.pre (hb7.at_ 0) rfl) rfl)) ⟨hbk, hb1, hb7, trivial⟩ rfl ?_
      refine T_tk (i := 13) rfl (Y_of (fun _ _ => R_nilck rfl)) ⟨hbk, hb1, hb7, trivial⟩ rfl ?_
      refine T_tk (i := 14) rfl (Y_of (fun _ _ => R_field (r := 4) rfl fld104_1 rfl)) ⟨hbk, hb1, hb7, trivial⟩ rfl ?_
      refine T_all (rs := [11]) (by kernel_rfl) rfl (all1 (O_one rfl ?_))
      refine L_buildSlice (pv := [(0, .agg #[.string (((dec data).1).key), .bool (((dec data).1).was), .bool (((dec data).1).is), .string (((dec data).1).old), .string (((dec data).1).new), .int .i64 (((dec data).1).next)])]) (cs := [.string (((dec data).1).key), .bool (((dec data).1).was), .bool (((dec data).1).is), .string (((dec data).1).old), .string (((dec data).1).new), .int .i64 (((dec data).1).next)]) slc25 zer34 rfl rfl (by kernel_rfl) rfl ?_
      intro g5 w14 eg5 hb8 hs14 hz11
      have ge5 : w.heap.size ≤ g5 := eg_ge hB eg5
      have lw5 : wa.heap.size ≤ g5 := (Eq.symm eg5) ▸ hlt_
      have lt10 : gp < g5 := lt_of_eg hbk.lt eg5
      have lt11 : g1 < g5 := lt_of_eg hb1.lt eg5
      have lt12 : g4 < g5 := lt_of_eg hb7.lt eg5
      have hap5 : ∀ k_, (Value.slice A1 xs.length c1).ownBlock = some k_ → k_ ≠ g5 := fun k_ hk => by have h_ := (World.ownsRow.lt hoK k_ hk).2; omega
      replace hB := gb_tr hB hs14
      replace hbk := hbk.gb hs14
      replace hE := own_gb hE hs14
      replace hD := hD.gb hs14
      replace hJ := hJn _ _ hJ hs14
      replace hlt_ := Nat.le_trans hlt_ hs14.size
      replace hoK := own_gb hoK hs14
      replace hb1 := hb1.gb hs14
      replace hb7 := hb7.gb hs14
      refine L_nil (N_then ⟨fun hN_ => ⟨hbk, hb1, hb7, trivial⟩, ?_⟩)
      refine T_all (rs := [12]) (by kernel_rfl) rfl (all1 (O_one rfl ?_))
      have hap0_ := hlt_
      refine T_append (xs := xs) (ys := [(⟨((dec data).1).key, ((dec data).1).was, ((dec data).1).is, ((dec data).1).old, ((dec data).1).new, ((dec data).1).next⟩ : Chg)]) EncC slc25 rfl rfl hoK (Blk.sli (m := 0) hb8) (by simp; omega) (by have := hB.size; omega) rfl ?_
      intro A_2 c_2 w15 ho2 hs15 hat2
      have lt13 := hb7.lt
      replace hB := gb_tro hB hoK hs15 (Nat.le_refl _)
      replace hbk := blk_own hbk hoK rfl hs15
      replace hE := hE.kept hs15 (own_type_ne' hE hoK rfl)
      replace hD := hD.grown hs15 (fun k hk => .inr (Nat.le_trans (Nat.le_refl _) (World.ownsRow.lt hoK k hk).1))
      replace hJ := hJk _ _ hJ hs15
      replace hlt_ := Nat.le_trans hlt_ hs15.size
      replace hb1 := blk_own hb1 hoK rfl hs15
      replace hb7 := hb7.grown hs15 (fun e_ => hap4 _ e_.symm rfl)
      have hap6 : ∀ k_, (Value.slice A_2 (xs ++ ([(⟨((dec data).1).key, ((dec data).1).was, ((dec data).1).is, ((dec data).1).old, ((dec data).1).new, ((dec data).1).next⟩ : Chg)])).length c_2).ownBlock = some k_ → k_ ≠ g4 := fun k_ hk => by rcases hat2 with h_ | h_ <;> rw [h_] at hk <;> first | exact hap4 k_ hk | (injection hk with hk; omega)
      refine L_nil (N_then ⟨fun hN_ => ⟨hbk, hb1, hb7, trivial⟩, ?_⟩)
      refine T_tk (i := 15) rfl (Y_of (fun _ _ => R_indexArr (sz := 1) (i := 1) (r := 5) rfl rfl (by first | rfl | omega) arr102 (by omega) (by omega))) ⟨hbk, hb1, hb7, trivial⟩ rfl ?_
      refine T_switch (S' := fun _ => True) (qs' := []) (by kernel_rfl) ?_
      refine T_all (rs := [16]) (by kernel_rfl) rfl (all1 (O_one rfl ?_))
      refine L_st1 rfl rfl rfl sz25 hbk rfl ?_
      intro w16 hb9 hs16 hz12
      replace hB := gb_trg hB hs16 gp0
      replace hE := own_other hE hbk rfl hs16
      replace hD := hD.old hs16 gp0
      replace hJ := hJb _ _ _ hJ hbk hs16
      replace hlt_ := Nat.le_trans hlt_ hs16.size
      replace hb1 := hb1.grown hs16 (ne_gt lt1)
      replace hb7 := hb7.grown hs16 (ne_gt lt8)
      replace ho2 := own_other ho2 hbk rfl hs16
      refine L_nil (N_then ⟨fun hN_ => trivial, ?_⟩)
      refine T_done (by kernel_rfl) (CalmE.normal ?_)
      refine N_in (N_then (C_seq (C_reg rfl ?_)))
      refine L_run (R_assign rfl) rfl ?_
      refine L_nil (N_then (C_ret ?_))
      refine ret1 Try.results40 rfl ?_
      have hsame_ := hat2.imp (fun h_ => (ob_n.symm.trans h_).trans ob_n) (fun h_ => (fun k_ hk_ => by have h2_ := (ob_n.symm.trans h_).symm.trans hk_; injection h2_; omega : ∀ k, (Value.slice A_2 0 0).ownBlock = some k → wa.heap.size ≤ k))
      exact ⟨hB, .inr ⟨rfl, by omega, hJ, .inl ⟨by omega, by omega, _, _, hb9, (own_lo hE (Nat.le_refl _)), (own_lo ho2 (Nat.le_refl _)), hsame_⟩⟩⟩
    ·refine C_seq (C_reg rfl ?_)
     refine L_run (R_eql rfl rfl) rfl ?_
     refine L_run (R_assign rfl) rfl ?_
     refine L_nil (N_then ?_)
     refine C_if rfl (fun h7 => ?_) (fun h7 => ?_)
     ·refine C_seq ?_
      refine C_draw2 rfl mix ?_
      intro w17 hs17 hz13
      replace hB := gb_tr hB hs17
      replace hbk := hbk.gb hs17
      replace hE := own_gb hE hs17
      replace hD := hD.gb hs17
      replace hJ := hJn _ _ hJ hs17
      replace hlt_ := Nat.le_trans hlt_ hs17.size
      replace hoK := own_gb hoK hs17
      replace hb1 := hb1.gb hs17
      refine ⟨fun W_ => Blk W_ gp 104 [.bool b0, .bool true, .bool b2, .bool b3, .slice A0 n0 c0, .slice A1 xs.length c1, .slice A2 n2 c2, .slice A3 n3 c3, .slice Ao E.length co] ∧ Blk W_ g1 65 [.int .i64 kd, .int .i64 1, .int .i64 lsn, .int .i64 pv, .slice da data.length dc] ∧ True, [0, 1, 2, 3, 4, 5, 6, 7, 8, 9, 10, 11, 12, 13, 14, 15, 16, 19, 20], ?_⟩
      refine T_tk (i := 0) rfl (Y_of (fun _ _ => R_move rfl)) ⟨hbk, hb1, trivial⟩ rfl ?_
      refine T_tk (i := 1) rfl (Y_of (fun _ _ => R_move rfl)) ⟨hbk, hb1, trivial⟩ rfl ?_
      refine T_tk (i := 2) rfl (Y_of (fun _ _ => R_nilck rfl)) ⟨hbk, hb1, trivial⟩ rfl ?_
      refine T_tk (i := 3) rfl (Y_of (fun _ _ => R_field (r := 8) rfl fld104_2 rfl)) ⟨hbk, hb1, trivial⟩ rfl ?_
      refine T_tk (i := 4) rfl (Y_of (fun _ ⟨hbk, hb1, _⟩ => R_load1 rfl scl24 (hbk.cell (i := 8) rfl))) ⟨hbk, hb1, trivial⟩ rfl ?_
      refine T_tk (i := 5) rfl (Y_of (fun _ _ => R_field (r := 2) rfl fld65_2 rfl)) ⟨hbk, hb1, trivial⟩ rfl ?_
      refine T_tk (i := 6) rfl (Y_of (fun _ ⟨hbk, hb1, _⟩ => R_load1 rfl scl3 (hb1.cell (i := 2) rfl))) ⟨hbk, hb1, trivial⟩ rfl ?_
      refine T_tk (i := 7) rfl (Y_of (fun _ _ => R_field (r := 1) rfl fld65_1 rfl)) ⟨hbk, hb1, trivial⟩ rfl ?_
      refine T_tk (i := 8) rfl (Y_of (fun _ ⟨hbk, hb1, _⟩ => R_load1 rfl scl3 (hb1.cell (i := 1) rfl))) ⟨hbk, hb1, trivial⟩ rfl ?_
      refine T_tk (i := 9) rfl (Y_of (fun _ _ => R_move rfl)) ⟨hbk, hb1, trivial⟩ rfl ?_
      refine T_tk (i := 10) rfl (Y_of (fun _ _ => R_field (r := 1) rfl fld65_1 rfl)) ⟨hbk, hb1, trivial⟩ rfl ?_
      refine T_tk (i := 11) rfl (Y_of (fun _ ⟨hbk, hb1, _⟩ => R_load1 rfl scl3 (hb1.cell (i := 1) rfl))) ⟨hbk, hb1, trivial⟩ rfl ?_
      refine T_tk (i := 12) rfl (Y_of (fun _ _ => R_nilck rfl)) ⟨hbk, hb1, trivial⟩ rfl ?_
      refine T_tk (i := 13) rfl (Y_of (fun _ _ => R_field (r := 4) rfl fld104_1 rfl)) ⟨hbk, hb1, trivial⟩ rfl ?_
      refine T_tk (i := 14) rfl (Y_of (fun _ _ => R_indexArr (sz := 1) (i := 1) (r := 5) rfl rfl (by first | rfl | omega) arr102 (by omega) (by omega))) ⟨hbk, hb1, trivial⟩ rfl ?_
      refine T_tk (i := 15) rfl (Y_of (fun _ ⟨hbk, hb1, _⟩ => R_load1 rfl scl25 (hbk.cell (i := 5) rfl))) ⟨hbk, hb1, trivial⟩ rfl ?_
      refine T_tk (i := 16) rfl (Y_of (fun _ _ => R_build (pv := [(0, .int .i64 lsn), (1, .int .i64 1), (2, .slice A1 xs.length c1)]) (cs := [.int .i64 lsn, .int .i64 1, .slice A1 xs.length c1]) rfl (by kernel_rfl))) ⟨hbk, hb1, trivial⟩ rfl ?_
      refine T_all (rs := [17]) (by kernel_rfl) rfl (all1 (O_one rfl ?_))
      refine L_buildSlice (pv := [(0, .agg #[.int .i64 lsn, .int .i64 1, .slice A1 xs.length c1])]) (cs := [.int .i64 lsn, .int .i64 1, .slice A1 xs.length c1]) slc24 zer28 rfl rfl (by kernel_rfl) rfl ?_
      intro g6 w18 eg6 hb10 hs18 hz14
      have ge6 : w.heap.size ≤ g6 := eg_ge hB eg6
      have lw6 : wa.heap.size ≤ g6 := (Eq.symm eg6) ▸ hlt_
      have lt14 : gp < g6 := lt_of_eg hbk.lt eg6
      have lt15 : g1 < g6 := lt_of_eg hb1.lt eg6
      have hap7 : ∀ k_, (Value.slice Ao E.length co).ownBlock = some k_ → k_ ≠ g6 := fun k_ hk => by have h_ := (World.ownsRow.lt hE k_ hk).2; omega
      replace hB := gb_tr hB hs18
      replace hbk := hbk.gb hs18
      replace hE := own_gb hE hs18
      replace hD := hD.gb hs18
      replace hJ := hJn _ _ hJ hs18
      replace hlt_ := Nat.le_trans hlt_ hs18.size
      replace hoK := own_gb hoK hs18
      replace hb1 := hb1.gb hs18
      refine L_nil (N_then ⟨fun hN_ => ⟨hbk, hb1, trivial⟩, ?_⟩)
      refine T_all (rs := [18]) (by kernel_rfl) rfl (all1 (O_one rfl ?_))
      refine T_append (xs := E) (ys := [(⟨lsn, 1, A1, c1, xs⟩ : Ent)]) EncEn slc24 rfl rfl hE (Blk.sli (m := 0) hb10) (by simp; omega) (by have := hB.size; omega) rfl ?_
      intro A_3 c_3 w19 ho3 hs19 hat3
      replace hB := gb_tro hB hE hs19 (Nat.le_refl _)
      replace hbk := blk_own hbk hE rfl hs19
      replace hD := hD.grown hs19 (fun k hk => .inr (Nat.le_trans (Nat.le_refl _) (World.ownsRow.lt hE k hk).1))
      replace hJ := hJe _ _ _ _ _ hJ hE hs19
      replace hlt_ := Nat.le_trans hlt_ hs19.size
      replace hoK := hoK.kept hs19 (own_type_ne' hoK hE rfl)
      replace hb1 := blk_own hb1 hE rfl hs19
      refine L_nil (N_then ⟨fun hN_ => ⟨hbk, hb1, trivial⟩, ?_⟩)
      refine T_tk (i := 19) rfl (Y_of (fun _ _ => R_nilck rfl)) ⟨hbk, hb1, trivial⟩ rfl ?_
      refine T_tk (i := 20) rfl (Y_of (fun _ _ => R_field (r := 8) rfl fld104_2 rfl)) ⟨hbk, hb1, trivial⟩ rfl ?_
      refine T_switch (S' := fun _ => True) (qs' := []) (by kernel_rfl) ?_
      refine T_all (rs := [21]) (by kernel_rfl) rfl (all1 (O_one rfl ?_))
      refine L_st1 rfl rfl rfl sz24 hbk rfl ?_
      intro w20 hb11 hs20 hz15
      replace hB := gb_trg hB hs20 gp0
      replace hD := hD.old hs20 gp0
      replace hJ := hJb _ _ _ hJ hbk hs20
      replace hlt_ := Nat.le_trans hlt_ hs20.size
      replace hoK := own_other hoK hbk rfl hs20
      replace hb1 := hb1.grown hs20 (ne_gt lt1)
      replace ho3 := own_other ho3 hbk rfl hs20
      refine L_nil (N_then ⟨fun hN_ => trivial, ?_⟩)
      refine T_done (by kernel_rfl) (CalmE.normal ?_)
      refine N_then ?_
      refine C_draw2 rfl mix ?_
      intro w21 hs21 hz16
      replace hB := gb_tr hB hs21
      replace hb11 := hb11.gb hs21
      replace hD := hD.gb hs21
      replace hJ := hJn _ _ hJ hs21
      replace hlt_ := Nat.le_trans hlt_ hs21.size
      replace hoK := own_gb hoK hs21
      replace hb1 := hb1.gb hs21
      replace ho3 := own_gb ho3 hs21
      refine ⟨fun W_ => Blk W_ g1 65 [.int .i64 kd, .int .i64 1, .int .i64 lsn, .int .i64 pv, .slice da data.length dc] ∧ True, [0, 1, 2, 3, 4, 5], ?_⟩
      refine T_tk (i := 0) rfl (Y_of (fun _ _ => R_move rfl)) ⟨hb1, trivial⟩ rfl ?_
      refine T_tk (i := 1) rfl (Y_of (fun _ _ => R_field (r := 1) rfl fld65_1 rfl)) ⟨hb1, trivial⟩ rfl ?_
      refine T_tk (i := 2) rfl (Y_of (fun _ ⟨hb1, _⟩ => R_load1 rfl scl3 (hb1.cell (i := 1) rfl))) ⟨hb1, trivial⟩ rfl ?_
      refine T_tk (i := 3) rfl (Y_of (fun _ _ => R_nilck rfl)) ⟨hb1, trivial⟩ rfl ?_
      refine T_tk (i := 4) rfl (Y_of (fun _ _ => R_field (r := 0) rfl fld104_0 rfl)) ⟨hb1, trivial⟩ rfl ?_
      refine T_tk (i := 5) rfl (Y_of (fun _ _ => R_indexArr (sz := 1) (i := 1) (r := 1) rfl rfl (by first | rfl | omega) arr101 (by omega) (by omega))) ⟨hb1, trivial⟩ rfl ?_
      refine T_switch (S' := fun _ => True) (qs' := []) (by kernel_rfl) ?_
      refine T_all (rs := [6]) (by kernel_rfl) rfl (all1 (O_one rfl ?_))
      refine L_st1 rfl rfl rfl sz4 hb11 rfl ?_
      intro w22 hb12 hs22 hz17
      replace hB := gb_trg hB hs22 gp0
      replace hD := hD.old hs22 gp0
      replace hJ := hJb _ _ _ hJ hb11 hs22
      replace hlt_ := Nat.le_trans hlt_ hs22.size
      replace hoK := own_other hoK hb11 rfl hs22
      replace hb1 := hb1.grown hs22 (ne_gt lt1)
      replace ho3 := own_other ho3 hb11 rfl hs22
      refine L_nil (N_then ⟨fun hN_ => trivial, ?_⟩)
      refine T_done (by kernel_rfl) (CalmE.normal ?_)
      refine N_in (N_then (C_seq (C_reg rfl ?_)))
      refine L_run (R_assign rfl) rfl ?_
      refine L_nil (N_then (C_ret ?_))
      refine ret1 Try.results40 rfl ?_
      exact ⟨hB, .inr ⟨rfl, by omega, hJ, .inr (.inl ⟨by omega, _, _, hb12, (own_lo ho3 (Nat.le_refl _)), (own_lo hoK (Nat.le_refl _))⟩)⟩⟩
     ·refine C_seq (C_reg rfl ?_)
      refine L_run (R_eql rfl rfl) rfl ?_
      refine L_run (R_assign rfl) rfl ?_
      refine L_nil (N_then ?_)
      refine C_if rfl (fun h8 => ?_) (fun h8 => ?_)
      ·refine C_draw2 rfl mix ?_
       intro w23 hs23 hz18
       replace hB := gb_tr hB hs23
       replace hbk := hbk.gb hs23
       replace hE := own_gb hE hs23
       replace hD := hD.gb hs23
       replace hJ := hJn _ _ hJ hs23
       replace hlt_ := Nat.le_trans hlt_ hs23.size
       replace hoK := own_gb hoK hs23
       replace hb1 := hb1.gb hs23
       refine ⟨fun W_ => Blk W_ g1 65 [.int .i64 kd, .int .i64 1, .int .i64 lsn, .int .i64 pv, .slice da data.length dc] ∧ True, [0, 1, 2, 3, 4, 5], ?_⟩
       refine T_tk (i := 0) rfl (Y_of (fun _ _ => R_move rfl)) ⟨hb1, trivial⟩ rfl ?_
       refine T_tk (i := 1) rfl (Y_of (fun _ _ => R_field (r := 1) rfl fld65_1 rfl)) ⟨hb1, trivial⟩ rfl ?_
       refine T_tk (i := 2) rfl (Y_of (fun _ ⟨hb1, _⟩ => R_load1 rfl scl3 (hb1.cell (i := 1) rfl))) ⟨hb1, trivial⟩ rfl ?_
       refine T_tk (i := 3) rfl (Y_of (fun _ _ => R_nilck rfl)) ⟨hb1, trivial⟩ rfl ?_
       refine T_tk (i := 4) rfl (Y_of (fun _ _ => R_field (r := 0) rfl fld104_0 rfl)) ⟨hb1, trivial⟩ rfl ?_
       refine T_tk (i := 5) rfl (Y_of (fun _ _ => R_indexArr (sz := 1) (i := 1) (r := 1) rfl rfl (by first | rfl | omega) arr101 (by omega) (by omega))) ⟨hb1, trivial⟩ rfl ?_
       refine T_switch (S' := fun _ => True) (qs' := []) (by kernel_rfl) ?_
       refine T_all (rs := [6]) (by kernel_rfl) rfl (all1 (O_one rfl ?_))
       refine L_st1 rfl rfl rfl sz4 hbk rfl ?_
       intro w24 hb13 hs24 hz19
       replace hB := gb_trg hB hs24 gp0
       replace hE := own_other hE hbk rfl hs24
       replace hD := hD.old hs24 gp0
       replace hJ := hJb _ _ _ hJ hbk hs24
       replace hlt_ := Nat.le_trans hlt_ hs24.size
       replace hoK := own_other hoK hbk rfl hs24
       replace hb1 := hb1.grown hs24 (ne_gt lt1)
       refine L_nil (N_then ⟨fun hN_ => trivial, ?_⟩)
       refine T_done (by kernel_rfl) (CalmE.normal ?_)
       refine N_in (N_then (C_seq (C_reg rfl ?_)))
       refine L_run (R_assign rfl) rfl ?_
       refine L_nil (N_then (C_ret ?_))
       refine ret1 Try.results40 rfl ?_
       exact ⟨hB, .inr ⟨rfl, by omega, hJ, .inr (.inr ⟨by omega, hb13, (own_lo hE (Nat.le_refl _)), (own_lo hoK (Nat.le_refl _))⟩)⟩⟩
      ·refine C_seq (C_reg rfl ?_)
       refine L_run (R_assign rfl) rfl ?_
       refine L_nil (N_then (C_ret (R_in (R_then ?_))))
       refine ret1 Try.results40 rfl ?_
       exact ⟨hB, .inl ⟨rfl, fun q_ => by have h_ := q_.2.2.2; omega⟩⟩

theorem one_1c {w wa : World} {gp : Nat} {b0 b1 b2 b3 : Bool} {A0 A1 A2 A3 Ao da : Option Addr} {n0 n1 n2 n3 c0 c1 c2 c3 co dc : Nat} {xs : List Chg} {E : List Ent} {kd lsn pv : Int} {data : List UInt8} (hB : w.grownBy wa none) (gp0 : w.heap.size ≤ gp) (hbk : Blk wa gp 104 [.bool b0, .bool false, .bool b2, .bool b3, .slice A0 n0 c0, .slice A1 n1 c1, .slice A2 n2 c2, .slice A3 n3 c3, .slice Ao E.length co]) (hE : wa.ownsRow w.heap.size 28 3 (.slice Ao E.length co) E.length (fl encEn E)) (hD0 : Sli 0 0 w.heap.size w da (fl encB data)) (hd6 : data.length ≤ 600) (hdc : data.length ≤ dc) (hE1 : E.length ≤ 1000) (hx1 : xs.length ≤ 1000) {J : World → Prop} (hJ : J wa) (hJn : ∀ w w', J w → w.grownBy w' none → J w') (hJb : ∀ w w' cs, J w → Blk w gp 104 cs → w.grownBy w' (some gp) → J w') (hJf : ∀ w w' g T cs, J w → Blk w g T cs → wa.heap.size ≤ g → w.grownBy w' (some g) → J w') (hJk : ∀ w w', J w → w.grownBy w' (Value.slice none xs.length 0).ownBlock → J w') (hJe : ∀ w1 w2 v n vs, J w1 → w1.ownsRow w.heap.size 28 3 v n vs → w1.grownBy w2 v.ownBlock → J w2) :
    Runs Try.prog 40 #[.pointer (some ⟨gp, 0, none⟩), .agg #[.int .i64 kd, .int .i64 1, .int .i64 lsn, .int .i64 pv, .slice da data.length dc]] wa (fun v_ w' => w.grownBy w' none ∧ v_ = .bool (decide (1 ≤ lsn ∧ kd = 5)) ∧ (1 ≤ lsn ∧ kd = 5 → J w' ∧ Blk w' gp 104 [.bool b0, .bool true, .bool b2, .bool b3, .slice A0 n0 c0, .slice none 0 0, .slice A2 n2 c2, .slice A3 n3 c3, .slice Ao E.length co] ∧ w'.ownsRow w.heap.size 28 3 (.slice Ao E.length co) E.length (fl encEn E))) := by
 have hD := hD0.gb hB
 have hlt_ : wa.heap.size ≤ wa.heap.size := Nat.le_refl _
 refine enter Try.func40 Try.ntmps40 rfl rfl ?_
 refine C_seq (C_reg rfl ?_)
 refine L_box (cs := [.int .i64 kd, .int .i64 1, .int .i64 lsn, .int .i64 pv, .slice da data.length dc]) rfl rfl rfl ?_
 intro g1 w1 eg1 hb1 hs1 hz1
 have ge1 : w.heap.size ≤ g1 := eg_ge hB eg1
 have lw1 : wa.heap.size ≤ g1 := (Eq.symm eg1) ▸ hlt_
 have lt1 : gp < g1 := lt_of_eg hbk.lt eg1
 replace hB := gb_tr hB hs1
 replace hbk := hbk.gb hs1
 replace hE := own_gb hE hs1
 replace hD := hD.gb hs1
 replace hJ := hJn _ _ hJ hs1
 replace hlt_ := Nat.le_trans hlt_ hs1.size
 refine L_run (R_assign rfl) rfl ?_
 refine L_nil (N_then (C_seq (C_seq ?_)))
 refine C_draw2 rfl mix ?_
 intro w2 hs2 hz2
 replace hB := gb_tr hB hs2
 replace hbk := hbk.gb hs2
 replace hE := own_gb hE hs2
 replace hD := hD.gb hs2
 replace hJ := hJn _ _ hJ hs2
 replace hlt_ := Nat.le_trans hlt_ hs2.size
 replace hb1 := hb1.gb hs2
 refine ⟨fun W_ => Blk W_ gp 104 [.bool b0, .bool false, .bool b2, .bool b3, .slice A0 n0 c0, .slice A1 n1 c1, .slice A2 n2 c2, .slice A3 n3 c3, .slice Ao E.length co] ∧ Blk W_ g1 65 [.int .i64 kd, .int .i64 1, .int .i64 lsn, .int .i64 pv, .slice da data.length dc] ∧ True, [0, 1, 2, 3, 4, 5, 6, 7, 8, 9, 10, 11, 12, 13, 14, 15, 16, 17, 18, 19, 20, 21, 22, 23, 24, 25], ?_⟩
 refine T_tk (i := 0) rfl (Y_of (fun _ _ => R_field (r := 1) rfl fld65_1 rfl)) ⟨hbk, hb1, trivial⟩ rfl ?_
 refine T_tk (i := 1) rfl (Y_of (fun _ ⟨hbk, hb1, _⟩ => R_load1 rfl scl3 (hb1.cell (i := 1) rfl))) ⟨hbk, hb1, trivial⟩ rfl ?_
 refine T_tk (i := 2) rfl (Y_of (fun _ _ => R_eqv (R_lss rfl rfl) (v' := .bool false) rfl)) ⟨hbk, hb1, trivial⟩ rfl ?_
 refine T_tk (i := 3) rfl (Y_of (fun _ _ => R_move rfl)) ⟨hbk, hb1, trivial⟩ rfl ?_
 refine T_tk (i := 4) rfl (Y_yes rfl rfl rfl rfl (fun _ _ => R_field (r := 1) rfl fld65_1 rfl)) ⟨hbk, hb1, trivial⟩ rfl ?_
 refine T_tk (i := 5) rfl (Y_yes rfl rfl rfl rfl (fun _ ⟨hbk, hb1, _⟩ => R_load1 rfl scl3 (hb1.cell (i := 1) rfl))) ⟨hbk, hb1, trivial⟩ rfl ?_
 refine T_tk (i := 6) rfl (Y_yes rfl rfl rfl rfl (fun _ _ => R_eqv (R_gtr rfl rfl) (v' := .bool false) rfl)) ⟨hbk, hb1, trivial⟩ rfl ?_
 refine T_tk (i := 7) rfl (Y_of (fun _ _ => R_pickF rfl rfl rfl)) ⟨hbk, hb1, trivial⟩ rfl ?_
 refine T_tk (i := 8) rfl (Y_of (fun _ _ => R_move rfl)) ⟨hbk, hb1, trivial⟩ rfl ?_
 refine T_tk (i := 9) rfl (Y_yes rfl rfl rfl rfl (fun _ _ => R_field (r := 2) rfl fld65_2 rfl)) ⟨hbk, hb1, trivial⟩ rfl ?_
 refine T_tk (i := 10) rfl (Y_yes rfl rfl rfl rfl (fun _ ⟨hbk, hb1, _⟩ => R_load1 rfl scl3 (hb1.cell (i := 2) rfl))) ⟨hbk, hb1, trivial⟩ rfl ?_
 refine T_tk (i := 11) rfl (Y_yes rfl rfl rfl rfl (fun _ _ => R_lss rfl rfl)) ⟨hbk, hb1, trivial⟩ rfl ?_
 refine T_tk (i := 12) rfl (Y_of (fun _ _ => R_pickF rfl rfl rfl)) ⟨hbk, hb1, trivial⟩ rfl ?_
 refine T_tk (i := 13) rfl (Y_of (fun _ _ => R_move rfl)) ⟨hbk, hb1, trivial⟩ rfl ?_
 by_cases h1 : lsn < 1
 ·refine T_tk (i := 14) rfl (Y_no rfl rfl rfl (decide_eq_true h1)) ⟨hbk, hb1, trivial⟩ rfl ?_
  refine T_tk (i := 15) rfl (Y_no rfl rfl rfl (decide_eq_true h1)) ⟨hbk, hb1, trivial⟩ rfl ?_
  refine T_tk (i := 16) rfl (Y_no rfl rfl rfl (decide_eq_true h1)) ⟨hbk, hb1, trivial⟩ rfl ?_
  refine T_tk (i := 17) rfl (Y_no rfl rfl rfl (decide_eq_true h1)) ⟨hbk, hb1, trivial⟩ rfl ?_
  refine T_tk (i := 18) rfl (Y_no rfl rfl rfl (decide_eq_true h1)) ⟨hbk, hb1, trivial⟩ rfl ?_
  refine T_tk (i := 19) rfl (Y_no rfl rfl rfl (decide_eq_true h1)) ⟨hbk, hb1, trivial⟩ rfl ?_
  refine T_tk (i := 20) rfl (Y_no rfl rfl rfl (decide_eq_true h1)) ⟨hbk, hb1, trivial⟩ rfl ?_
  refine T_tk (i := 21) rfl (Y_no rfl rfl rfl (decide_eq_true h1)) ⟨hbk, hb1, trivial⟩ rfl ?_
  refine T_tk (i := 22) rfl (Y_no rfl rfl rfl (decide_eq_true h1)) ⟨hbk, hb1, trivial⟩ rfl ?_
  refine T_tk (i := 23) rfl (Y_no rfl rfl rfl (decide_eq_true h1)) ⟨hbk, hb1, trivial⟩ rfl ?_
  refine T_tk (i := 24) rfl (Y_no rfl rfl rfl (decide_eq_true h1)) ⟨hbk, hb1, trivial⟩ rfl ?_
  refine T_tk (i := 25) rfl (Y_of (fun _ _ => R_pickT rfl (decide_eq_true h1) rfl)) ⟨hbk, hb1, trivial⟩ rfl ?_
  refine T_done (by kernel_rfl) (CalmE.normal ?_)
  refine N_then (C_condT rfl rfl (C_seq (C_reg rfl ?_)))
  refine L_run (R_assign rfl) rfl ?_
  refine L_nil (N_then (C_ret (R_then ?_)))
  refine ret1 Try.results40 rfl ?_
  exact ⟨hB, bF (by omega), fun q_ => by omega⟩
 ·refine T_tk (i := 14) rfl (Y_yes rfl rfl rfl (decide_eq_false h1) (fun _ _ => R_move rfl)) ⟨hbk, hb1, trivial⟩ rfl ?_
  refine T_tk (i := 15) rfl (Y_yes rfl rfl rfl (decide_eq_false h1) (fun _ _ => R_field (r := 1) rfl fld65_1 rfl)) ⟨hbk, hb1, trivial⟩ rfl ?_
  refine T_tk (i := 16) rfl (Y_yes rfl rfl rfl (decide_eq_false h1) (fun _ ⟨hbk, hb1, _⟩ => R_load1 rfl scl3 (hb1.cell (i := 1) rfl))) ⟨hbk, hb1, trivial⟩ rfl ?_
  refine T_tk (i := 17) rfl (Y_yes rfl rfl rfl (decide_eq_false h1) (fun _ _ => R_nilck rfl)) ⟨hbk, hb1, trivial⟩ rfl ?_
  refine T_tk (i := 18) rfl (Y_yes rfl rfl rfl (decide_eq_false h1) (fun _ _ => R_field (r := 0) rfl fld104_0 rfl)) ⟨hbk, hb1, trivial⟩ rfl ?_
  refine T_tk (i := 19) rfl (Y_yes rfl rfl rfl (decide_eq_false h1) (fun _ _ => R_indexArr (sz := 1) (i := 1) (r := 1) rfl rfl (by first | rfl | omega) arr101 (by omega) (by omega))) ⟨hbk, hb1, trivial⟩ rfl ?_
  refine T_tk (i := 20) rfl (Y_yes rfl rfl rfl (decide_eq_false h1) (fun _ ⟨hbk, hb1, _⟩ => R_load1 rfl scl4 (hbk.cell (i := 1) rfl))) ⟨hbk, hb1, trivial⟩ rfl ?_
  refine T_tk (i := 21) rfl (Y_yes rfl rfl rfl (decide_eq_false h1) (fun _ _ => R_field (r := 0) rfl fld65_0 rfl)) ⟨hbk, hb1, trivial⟩ rfl ?_
  refine T_tk (i := 22) rfl (Y_yes rfl rfl rfl (decide_eq_false h1) (fun _ ⟨hbk, hb1, _⟩ => R_load1 rfl scl3 (hb1.cell (i := 0) rfl))) ⟨hbk, hb1, trivial⟩ rfl ?_
  refine T_tk (i := 23) rfl (Y_yes rfl rfl rfl (decide_eq_false h1) (fun _ _ => R_eql rfl rfl)) ⟨hbk, hb1, trivial⟩ rfl ?_
  refine T_tk (i := 24) rfl (Y_yes rfl rfl rfl (decide_eq_false h1) (fun _ _ => R_eqv (R_eqlB rfl rfl boo4) (v' := .bool (decide (¬ (kd = 5)))) (congrArg _ (by simp)))) ⟨hbk, hb1, trivial⟩ rfl ?_
  refine T_tk (i := 25) rfl (Y_of (fun _ _ => R_pickF rfl (decide_eq_false h1) rfl)) ⟨hbk, hb1, trivial⟩ rfl ?_
  refine T_done (by kernel_rfl) (CalmE.normal ?_)
  refine N_then ?_
  refine C_ifN rfl (fun h2 => ?_) (fun h2 => ?_)
  ·refine C_seq (C_reg rfl ?_)
   refine L_run (R_assign rfl) rfl ?_
   refine L_nil (N_then (C_ret (R_then ?_)))
   refine ret1 Try.results40 rfl ?_
   exact ⟨hB, bF (by omega), fun q_ => by omega⟩
  ·refine C_skip (N_then (C_seq (C_seq (C_reg rfl ?_))))
   refine L_run (R_field (r := 0) rfl fld65_0 rfl) rfl ?_
   refine L_run (R_load1 rfl scl3 (hb1.cell (i := 0) rfl)) rfl ?_
   refine L_nil (N_then (C_block (C_seq (C_reg rfl ?_))))
   refine L_run (R_eql rfl rfl) rfl ?_
   refine L_run (R_assign rfl) rfl ?_
   refine L_nil (N_then (C_condT rfl (decide_eq_true h2) ?_))
   refine C_draw2 rfl mix ?_
   intro w3 hs3 hz3
   replace hB := gb_tr hB hs3
   replace hbk := hbk.gb hs3
   replace hE := own_gb hE hs3
   replace hD := hD.gb hs3
   replace hJ := hJn _ _ hJ hs3
   replace hlt_ := Nat.le_trans hlt_ hs3.size
   replace hb1 := hb1.gb hs3
   refine ⟨fun W_ => Blk W_ g1 65 [.int .i64 kd, .int .i64 1, .int .i64 lsn, .int .i64 pv, .slice da data.length dc] ∧ True, [0, 1, 2, 3, 4, 5, 6, 7, 8, 10, 11, 12], ?_⟩
   refine T_tk (i := 0) rfl (Y_of (fun _ _ => R_move rfl)) ⟨hb1, trivial⟩ rfl ?_
   refine T_tk (i := 1) rfl (Y_of (fun _ _ => R_field (r := 1) rfl fld65_1 rfl)) ⟨hb1, trivial⟩ rfl ?_
   refine T_tk (i := 2) rfl (Y_of (fun _ ⟨hb1, _⟩ => R_load1 rfl scl3 (hb1.cell (i := 1) rfl))) ⟨hb1, trivial⟩ rfl ?_
   refine T_tk (i := 3) rfl (Y_of (fun _ _ => R_move rfl)) ⟨hb1, trivial⟩ rfl ?_
   refine T_tk (i := 4) rfl (Y_of (fun _ _ => R_field (r := 1) rfl fld65_1 rfl)) ⟨hb1, trivial⟩ rfl ?_
   refine T_tk (i := 5) rfl (Y_of (fun _ ⟨hb1, _⟩ => R_load1 rfl scl3 (hb1.cell (i := 1) rfl))) ⟨hb1, trivial⟩ rfl ?_
   refine T_tk (i := 6) rfl (Y_of (fun _ _ => R_nilck rfl)) ⟨hb1, trivial⟩ rfl ?_
   refine T_tk (i := 7) rfl (Y_of (fun _ _ => R_field (r := 0) rfl fld104_0 rfl)) ⟨hb1, trivial⟩ rfl ?_
   refine T_tk (i := 8) rfl (Y_of (fun _ _ => R_indexArr (sz := 1) (i := 1) (r := 1) rfl rfl (by first | rfl | omega) arr101 (by omega) (by omega))) ⟨hb1, trivial⟩ rfl ?_
   refine T_tk (i := 10) rfl (Y_of (fun _ _ => R_nilck rfl)) ⟨hb1, trivial⟩ rfl ?_
   refine T_tk (i := 11) rfl (Y_of (fun _ _ => R_field (r := 4) rfl fld104_1 rfl)) ⟨hb1, trivial⟩ rfl ?_
   refine T_all (rs := [9]) (by kernel_rfl) rfl (all1 (O_one rfl ?_))
   refine L_st1 rfl rfl rfl sz4 hbk rfl ?_
   intro w4 hb2 hs4 hz4
   replace hB := gb_trg hB hs4 gp0
   replace hE := own_other hE hbk rfl hs4
   replace hD := hD.old hs4 gp0
   replace hJ := hJb _ _ _ hJ hbk hs4
   replace hlt_ := Nat.le_trans hlt_ hs4.size
   replace hb1 := hb1.grown hs4 (ne_gt lt1)
   refine L_nil (N_then ⟨fun hN_ => ⟨hb1, trivial⟩, ?_⟩)
   refine T_tk (i := 12) rfl (Y_of (fun _ _ => R_indexArr (sz := 1) (i := 1) (r := 5) rfl rfl (by first | rfl | omega) arr102 (by omega) (by omega))) ⟨hb1, trivial⟩ rfl ?_
   refine T_switch (S' := fun _ => True) (qs' := []) (by kernel_rfl) ?_
   refine T_all (rs := [13]) (by kernel_rfl) rfl (all1 (O_one rfl ?_))
   refine L_st1 rfl rfl rfl sz25 hb2 rfl ?_
   intro w5 hb3 hs5 hz5
   replace hB := gb_trg hB hs5 gp0
   replace hE := own_other hE hb2 rfl hs5
   replace hD := hD.old hs5 gp0
   replace hJ := hJb _ _ _ hJ hb2 hs5
   replace hlt_ := Nat.le_trans hlt_ hs5.size
   replace hb1 := hb1.grown hs5 (ne_gt lt1)
   refine L_nil (N_then ⟨fun hN_ => trivial, ?_⟩)
   refine T_done (by kernel_rfl) (CalmE.normal ?_)
   refine N_in (N_then (C_seq (C_reg rfl ?_)))
   refine L_run (R_assign rfl) rfl ?_
   refine L_nil (N_then (C_ret ?_))
   refine ret1 Try.results40 rfl ?_
   exact ⟨hB, bT (by omega), fun _ => ⟨hJ, hb3, (own_lo hE (Nat.le_refl _))⟩⟩

theorem one_2o {w wa : World} {gp : Nat} {b0 b1 b2 b3 : Bool} {A0 A1 A2 A3 Ao da : Option Addr} {n0 n1 n2 n3 c0 c1 c2 c3 co dc : Nat} {xs : List Chg} {E : List Ent} {kd lsn pv : Int} {data : List UInt8} (hB : w.grownBy wa none) (gp0 : w.heap.size ≤ gp) (hbk : Blk wa gp 104 [.bool b0, .bool b1, .bool true, .bool b3, .slice A0 n0 c0, .slice A1 n1 c1, .slice A2 xs.length c2, .slice A3 n3 c3, .slice Ao E.length co]) (hE : wa.ownsRow w.heap.size 28 3 (.slice Ao E.length co) E.length (fl encEn E)) (hD0 : Sli 0 0 w.heap.size w da (fl encB data)) (hd6 : data.length ≤ 600) (hdc : data.length ≤ dc) (hE1 : E.length ≤ 1000) (hx1 : xs.length ≤ 1000) (hoK : wa.ownsRow w.heap.size 34 6 (.slice A2 xs.length c2) xs.length (fl encC xs)) {J : World → Prop} (hJ : J wa) (hJn : ∀ w w', J w → w.grownBy w' none → J w') (hJb : ∀ w w' cs, J w → Blk w gp 104 cs → w.grownBy w' (some gp) → J w') (hJf : ∀ w w' g T cs, J w → Blk w g T cs → wa.heap.size ≤ g → w.grownBy w' (some g) → J w') (hJk : ∀ w w', J w → w.grownBy w' (Value.slice A2 xs.length c2).ownBlock → J w') (hJe : ∀ w1 w2 v n vs, J w1 → w1.ownsRow w.heap.size 28 3 v n vs → w1.grownBy w2 v.ownBlock → J w2) :
    Runs Try.prog 40 #[.pointer (some ⟨gp, 0, none⟩), .agg #[.int .i64 kd, .int .i64 2, .int .i64 lsn, .int .i64 pv, .slice da data.length dc]] wa (fun v_ w' => w.grownBy w' none ∧ ((v_ = .bool false ∧ ¬ (1 ≤ lsn ∧ 6 ≤ kd ∧ kd ≤ 9 ∧ ((kd = 6 ∨ kd = 7) → (dec data).2 = 0))) ∨ (v_ = .bool true ∧ 1 ≤ lsn ∧ J w' ∧ (((kd = 6 ∨ kd = 7) ∧ (dec data).2 = 0 ∧ ∃ A' c', Blk w' gp 104 [.bool b0, .bool b1, .bool true, .bool b3, .slice A0 n0 c0, .slice A1 n1 c1, .slice A' ((xs ++ [(dec data).1]).length) c', .slice A3 n3 c3, .slice Ao E.length co] ∧ w'.ownsRow w.heap.size 28 3 (.slice Ao E.length co) E.length (fl encEn E) ∧ w'.ownsRow w.heap.size 34 6 (.slice A' (xs ++ [(dec data).1]).length c') (xs ++ [(dec data).1]).length (fl encC (xs ++ [(dec data).1])) ∧ ((Value.slice A' 0 0).ownBlock = (Value.slice A2 0 0).ownBlock ∨ ∀ k, (Value.slice A' 0 0).ownBlock = some k → wa.heap.size ≤ k)) ∨ (kd = 8 ∧ ∃ A' c', Blk w' gp 104 [.bool b0, .bool b1, .bool false, .bool b3, .slice A0 n0 c0, .slice A1 n1 c1, .slice A2 xs.length c2, .slice A3 n3 c3, .slice A' ((E ++ [(⟨lsn, 2, A2, c2, xs⟩ : Ent)]).length) c'] ∧ w'.ownsRow w.heap.size 28 3 (.slice A' (E ++ [(⟨lsn, 2, A2, c2, xs⟩ : Ent)]).length c') (E ++ [(⟨lsn, 2, A2, c2, xs⟩ : Ent)]).length (fl encEn (E ++ [(⟨lsn, 2, A2, c2, xs⟩ : Ent)])) ∧ w'.ownsRow w.heap.size 34 6 (.slice A2 xs.length c2) xs.length (fl encC xs)) ∨ (kd = 9 ∧ Blk w' gp 104 [.bool b0, .bool b1, .bool false, .bool b3, .slice A0 n0 c0, .slice A1 n1 c1, .slice A2 xs.length c2, .slice A3 n3 c3, .slice Ao E.length co] ∧ w'.ownsRow w.heap.size 28 3 (.slice Ao E.length co) E.length (fl encEn E) ∧ w'.ownsRow w.heap.size 34 6 (.slice A2 xs.length c2) xs.length (fl encC xs)))))) := by
 have hD := hD0.gb hB
 have hlt_ : wa.heap.size ≤ wa.heap.size := Nat.le_refl _
 refine enter Try.func40 Try.ntmps40 rfl rfl ?_
 refine C_seq (C_reg rfl ?_)
 refine L_box (cs := [.int .i64 kd, .int .i64 2, .int .i64 lsn, .int .i64 pv, .slice da data.length dc]) rfl rfl rfl ?_
 intro g1 w1 eg1 hb1 hs1 hz1
 have ge1 : w.heap.size ≤ g1 := eg_ge hB eg1
 have lw1 : wa.heap.size ≤ g1 := (Eq.symm eg1) ▸ hlt_
 have lt1 : gp < g1 := lt_of_eg hbk.lt eg1
 replace hB := gb_tr hB hs1
 replace hbk := hbk.gb hs1
 replace hE := own_gb hE hs1
 replace hD := hD.gb hs1
 replace hJ := hJn _ _ hJ hs1
 replace hlt_ := Nat.le_trans hlt_ hs1.size
 replace hoK := own_gb hoK hs1
 refine L_run (R_assign rfl) rfl ?_
 refine L_nil (N_then (C_seq (C_seq ?_)))
 refine C_draw2 rfl mix ?_
 intro w2 hs2 hz2
 replace hB := gb_tr hB hs2
 replace hbk := hbk.gb hs2
 replace hE := own_gb hE hs2
 replace hD := hD.gb hs2
 replace hJ := hJn _ _ hJ hs2
 replace hlt_ := Nat.le_trans hlt_ hs2.size
 replace hoK := own_gb hoK hs2
 replace hb1 := hb1.gb hs2
 refine ⟨fun W_ => Blk W_ gp 104 [.bool b0, .bool b1, .bool true, .bool b3, .slice A0 n0 c0, .slice A1 n1 c1, .slice A2 xs.length c2, .slice A3 n3 c3, .slice Ao E.length co] ∧ Blk W_ g1 65 [.int .i64 kd, .int .i64 2, .int .i64 lsn, .int .i64 pv, .slice da data.length dc] ∧ True, [0, 1, 2, 3, 4, 5, 6, 7, 8, 9, 10, 11, 12, 13, 14, 15, 16, 17, 18, 19, 20, 21, 22, 23, 24, 25], ?_⟩
 refine T_tk (i := 0) rfl (Y_of (fun _ _ => R_field (r := 1) rfl fld65_1 rfl)) ⟨hbk, hb1, trivial⟩ rfl ?_
 refine T_tk (i := 1) rfl (Y_of (fun _ ⟨hbk, hb1, _⟩ => R_load1 rfl scl3 (hb1.cell (i := 1) rfl))) ⟨hbk, hb1, trivial⟩ rfl ?_
 refine T_tk (i := 2) rfl (Y_of (fun _ _ => R_eqv (R_lss rfl rfl) (v' := .bool false) rfl)) ⟨hbk, hb1, trivial⟩ rfl ?_
 refine T_tk (i := 3) rfl (Y_of (fun _ _ => R_move rfl)) ⟨hbk, hb1, trivial⟩ rfl ?_
 refine T_tk (i := 4) rfl (Y_yes rfl rfl rfl rfl (fun _ _ => R_field (r := 1) rfl fld65_1 rfl)) ⟨hbk, hb1, trivial⟩ rfl ?_
 refine T_tk (i := 5) rfl (Y_yes rfl rfl rfl rfl (fun _ ⟨hbk, hb1, _⟩ => R_load1 rfl scl3 (hb1.cell (i := 1) rfl))) ⟨hbk, hb1, trivial⟩ rfl ?_
 refine T_tk (i := 6) rfl (Y_yes rfl rfl rfl rfl (fun _ _ => R_eqv (R_gtr rfl rfl) (v' := .bool false) rfl)) ⟨hbk, hb1, trivial⟩ rfl ?_
 refine T_tk (i := 7) rfl (Y_of (fun _ _ => R_pickF rfl rfl rfl)) ⟨hbk, hb1, trivial⟩ rfl ?_
 refine T_tk (i := 8) rfl (Y_of (fun _ _ => R_move rfl)) ⟨hbk, hb1, trivial⟩ rfl ?_
 refine T_tk (i := 9) rfl (Y_yes rfl rfl rfl rfl (fun _ _ => R_field (r := 2) rfl fld65_2 rfl)) ⟨hbk, hb1, trivial⟩ rfl ?_
 refine T_tk (i := 10) rfl (Y_yes rfl rfl rfl rfl (fun _ ⟨hbk, hb1, _⟩ => R_load1 rfl scl3 (hb1.cell (i := 2) rfl))) ⟨hbk, hb1, trivial⟩ rfl ?_
 refine T_tk (i := 11) rfl (Y_yes rfl rfl rfl rfl (fun _ _ => R_lss rfl rfl)) ⟨hbk, hb1, trivial⟩ rfl ?_
 refine T_tk (i := 12) rfl (Y_of (fun _ _ => R_pickF rfl rfl rfl)) ⟨hbk, hb1, trivial⟩ rfl ?_
 refine T_tk (i := 13) rfl (Y_of (fun _ _ => R_move rfl)) ⟨hbk, hb1, trivial⟩ rfl ?_
 by_cases h1 : lsn < 1
 ·refine T_tk (i := 14) rfl (Y_no rfl rfl rfl (decide_eq_true h1)) ⟨hbk, hb1, trivial⟩ rfl ?_
  refine T_tk (i := 15) rfl (Y_no rfl rfl rfl (decide_eq_true h1)) ⟨hbk, hb1, trivial⟩ rfl ?_
  refine T_tk (i := 16) rfl (Y_no rfl rfl rfl (decide_eq_true h1)) ⟨hbk, hb1, trivial⟩ rfl ?_
  refine T_tk (i := 17) rfl (Y_no rfl rfl rfl (decide_eq_true h1)) ⟨hbk, hb1, trivial⟩ rfl ?_
  refine T_tk (i := 18) rfl (Y_no rfl rfl rfl (decide_eq_true h1)) ⟨hbk, hb1, trivial⟩ rfl ?_
  refine T_tk (i := 19) rfl (Y_no rfl rfl rfl (decide_eq_true h1)) ⟨hbk, hb1, trivial⟩ rfl ?_
  refine T_tk (i := 20) rfl (Y_no rfl rfl rfl (decide_eq_true h1)) ⟨hbk, hb1, trivial⟩ rfl ?_
  refine T_tk (i := 21) rfl (Y_no rfl rfl rfl (decide_eq_true h1)) ⟨hbk, hb1, trivial⟩ rfl ?_
  refine T_tk (i := 22) rfl (Y_no rfl rfl rfl (decide_eq_true h1)) ⟨hbk, hb1, trivial⟩ rfl ?_
  refine T_tk (i := 23) rfl (Y_no rfl rfl rfl (decide_eq_true h1)) ⟨hbk, hb1, trivial⟩ rfl ?_
  refine T_tk (i := 24) rfl (Y_no rfl rfl rfl (decide_eq_true h1)) ⟨hbk, hb1, trivial⟩ rfl ?_
  refine T_tk (i := 25) rfl (Y_of (fun _ _ => R_pickT rfl (decide_eq_true h1) rfl)) ⟨hbk, hb1, trivial⟩ rfl ?_
  refine T_done (by kernel_rfl) (CalmE.normal ?_)
  refine N_then (C_condT rfl rfl (C_seq (C_reg rfl ?_)))
  refine L_run (R_assign rfl) rfl ?_
  refine L_nil (N_then (C_ret (R_then ?_)))
  refine ret1 Try.results40 rfl ?_
  exact ⟨hB, .inl ⟨rfl, fun q_ => by have h_ := q_.2.2.2; omega⟩⟩
 ·refine T_tk (i := 14) rfl (Y_yes rfl rfl rfl (decide_eq_false h1) (fun _ _ => R_move rfl)) ⟨hbk, hb1, trivial⟩ rfl ?_
  refine T_tk (i := 15) rfl (Y_yes rfl rfl rfl (decide_eq_false h1) (fun _ _ => R_field (r := 1) rfl fld65_1 rfl)) ⟨hbk, hb1, trivial⟩ rfl ?_
  refine T_tk (i := 16) rfl (Y_yes rfl rfl rfl (decide_eq_false h1) (fun _ ⟨hbk, hb1, _⟩ => R_load1 rfl scl3 (hb1.cell (i := 1) rfl))) ⟨hbk, hb1, trivial⟩ rfl ?_
  refine T_tk (i := 17) rfl (Y_yes rfl rfl rfl (decide_eq_false h1) (fun _ _ => R_nilck rfl)) ⟨hbk, hb1, trivial⟩ rfl ?_
  refine T_tk (i := 18) rfl (Y_yes rfl rfl rfl (decide_eq_false h1) (fun _ _ => R_field (r := 0) rfl fld104_0 rfl)) ⟨hbk, hb1, trivial⟩ rfl ?_
  refine T_tk (i := 19) rfl (Y_yes rfl rfl rfl (decide_eq_false h1) (fun _ _ => R_indexArr (sz := 1) (i := 2) (r := 2) rfl rfl (by first | rfl | omega) arr101 (by omega) (by omega))) ⟨hbk, hb1, trivial⟩ rfl ?_
  refine T_tk (i := 20) rfl (Y_yes rfl rfl rfl (decide_eq_false h1) (fun _ ⟨hbk, hb1, _⟩ => R_load1 rfl scl4 (hbk.cell (i := 2) rfl))) ⟨hbk, hb1, trivial⟩ rfl ?_
  refine T_tk (i := 21) rfl (Y_yes rfl rfl rfl (decide_eq_false h1) (fun _ _ => R_field (r := 0) rfl fld65_0 rfl)) ⟨hbk, hb1, trivial⟩ rfl ?_
  refine T_tk (i := 22) rfl (Y_yes rfl rfl rfl (decide_eq_false h1) (fun _ ⟨hbk, hb1, _⟩ => R_load1 rfl scl3 (hb1.cell (i := 0) rfl))) ⟨hbk, hb1, trivial⟩ rfl ?_
  refine T_tk (i := 23) rfl (Y_yes rfl rfl rfl (decide_eq_false h1) (fun _ _ => R_eql rfl rfl)) ⟨hbk, hb1, trivial⟩ rfl ?_
  refine T_tk (i := 24) rfl (Y_yes rfl rfl rfl (decide_eq_false h1) (fun _ _ => R_eqv (R_eqlB rfl rfl boo4) (v' := .bool (decide (kd = 5))) (congrArg _ (by simp)))) ⟨hbk, hb1, trivial⟩ rfl ?_
  refine T_tk (i := 25) rfl (Y_of (fun _ _ => R_pickF rfl (decide_eq_false h1) rfl)) ⟨hbk, hb1, trivial⟩ rfl ?_
  refine T_done (by kernel_rfl) (CalmE.normal ?_)
  refine N_then ?_
  refine C_if rfl (fun h2 => ?_) (fun h2 => ?_)
  ·refine C_seq (C_reg rfl ?_)
   refine L_run (R_assign rfl) rfl ?_
   refine L_nil (N_then (C_ret (R_then ?_)))
   refine ret1 Try.results40 rfl ?_
   exact ⟨hB, .inl ⟨rfl, fun q_ => by have h_ := q_.2.2.2; omega⟩⟩
  ·refine C_skip (N_then (C_seq (C_seq (C_reg rfl ?_))))
   refine L_run (R_field (r := 0) rfl fld65_0 rfl) rfl ?_
   refine L_run (R_load1 rfl scl3 (hb1.cell (i := 0) rfl)) rfl ?_
   refine L_nil (N_then (C_block (C_seq (C_reg rfl ?_))))
   refine L_run (R_eql rfl rfl) rfl ?_
   refine L_run (R_assign rfl) rfl ?_
   refine L_nil (N_then (C_condF rfl (decide_eq_false h2) (C_seq (C_seq (C_reg rfl ?_)))))
   refine L_run (R_eql rfl rfl) rfl ?_
   refine L_run (R_assign rfl) rfl ?_
   refine L_nil (N_then ?_)
   refine C_if rfl (fun h3 => ?_) (fun h3 => ?_)
   ·refine C_skip (N_then (C_condT rfl (decide_eq_true h3) (C_seq (C_reg rfl ?_))))
    refine L_run (R_field (r := 4) rfl fld65_4 rfl) rfl ?_
    refine L_run (R_load1 rfl scl63 (hb1.cell (i := 4) rfl)) rfl ?_
    refine L_call rfl cb44 (txdec_ok (bs := data) hD (by omega) hdc) rfl ?_
    rintro _ w3 ⟨hs3, rfl⟩
    replace hB := gb_tr hB hs3
    replace hbk := hbk.gb hs3
    replace hE := own_gb hE hs3
    replace hD := hD.gb hs3
    replace hJ := hJn _ _ hJ hs3
    replace hlt_ := Nat.le_trans hlt_ hs3.size
    replace hoK := own_gb hoK hs3
    replace hb1 := hb1.gb hs3
    refine L_run (R_move rfl) rfl ?_
    refine L_run (R_extract rfl rfl) rfl ?_
    refine L_run (R_extract rfl rfl) rfl ?_
    refine L_alloc (cs := [.string (⟨#[]⟩), .bool false, .bool false, .string (⟨#[]⟩), .string (⟨#[]⟩), .int .i64 0]) zer34 rfl rfl ?_
    intro g2 w4 eg2 hb2 hs4 hz3
    have ge2 : w.heap.size ≤ g2 := eg_ge hB eg2
    have lw2 : wa.heap.size ≤ g2 := (Eq.symm eg2) ▸ hlt_
    have lt2 : gp < g2 := lt_of_eg hbk.lt eg2
    have lt3 : g1 < g2 := lt_of_eg hb1.lt eg2
    have hap1 : ∀ k_, (Value.slice A2 xs.length c2).ownBlock = some k_ → k_ ≠ g2 := fun k_ hk => by have h_ := (World.ownsRow.lt hoK k_ hk).2; omega
    replace hB := gb_tr hB hs4
    replace hbk := hbk.gb hs4
    replace hE := own_gb hE hs4
    replace hD := hD.gb hs4
    replace hJ := hJn _ _ hJ hs4
    replace hlt_ := Nat.le_trans hlt_ hs4.size
    replace hoK := own_gb hoK hs4
    replace hb1 := hb1.gb hs4
    refine L_stA (vs := [.string (((dec data).1).key), .bool (((dec data).1).was), .bool (((dec data).1).is), .string (((dec data).1).old), .string (((dec data).1).new), .int .i64 (((dec data).1).next)]) rfl rfl rfl sz34 rfl hb2 rfl ?_
    intro w5 hb3 hs5 hz4
    replace hB := gb_trg hB hs5 ge2
    replace hbk := hbk.grown hs5 (ne_lt lt2)
    replace hE := own_other hE hb2 rfl hs5
    replace hD := hD.old hs5 ge2
    replace hJ := hJf _ _ _ _ _ hJ hb2 (by omega) hs5
    replace hlt_ := Nat.le_trans hlt_ hs5.size
    replace hoK := hoK.kept hs5 (.inr (fun e_ => hap1 _ e_ rfl))
    replace hb1 := hb1.grown hs5 (ne_lt lt3)
    refine L_run (R_assign rfl) rfl ?_
    refine L_nil (N_then (C_seq (C_seq (C_reg rfl ?_))))
    refine L_run (R_move rfl) rfl ?_
    refine L_run (R_neq rfl rfl) rfl ?_
    refine L_nil (N_then ?_)
    refine C_if rfl (fun h4 => ?_) (fun h4 => ?_)
    ·refine C_seq (C_reg rfl ?_)
     refine L_run (R_assign rfl) rfl ?_
     refine L_nil (N_then (C_ret (R_then (R_in (R_then ?_)))))
     refine ret1 Try.results40 rfl ?_
     exact ⟨hB, .inl ⟨rfl, fun q_ => by have h_ := q_.2.2.2; omega⟩⟩
    ·refine C_skip (N_then ?_)
     refine C_draw2 rfl mix ?_
     intro w6 hs6 hz5
     replace hB := gb_tr hB hs6
     replace hbk := hbk.gb hs6
     replace hE := own_gb hE hs6
     replace hD := hD.gb hs6
     replace hJ := hJn _ _ hJ hs6
     replace hlt_ := Nat.le_trans hlt_ hs6.size
     replace hoK := own_gb hoK hs6
     replace hb1 := hb1.gb hs6
     replace hb3 := hb3.gb hs6
     refine ⟨fun W_ => Blk W_ gp 104 [.bool b0, .bool b1, .bool true, .bool b3, .slice A0 n0 c0, .slice A1 n1 c1, .slice A2 xs.length c2, .slice A3 n3 c3, .slice Ao E.length co] ∧ Blk W_ g1 65 [.int .i64 kd, .int .i64 2, .int .i64 lsn, .int .i64 pv, .slice da data.length dc] ∧ Blk W_ g2 34 [.string (((dec data).1).key), .bool (((dec data).1).was), .bool (((dec data).1).is), .string (((dec data).1).old), .string (((dec data).1).new), .int .i64 (((dec data).1).next)] ∧ True, [0, 1, 2, 3, 4, 5, 6, 7, 8, 9, 10, 13, 14, 15], ?_⟩
     refine T_tk (i := 0) rfl (Y_of (fun _ _ => R_move rfl)) ⟨hbk, hb1, hb3, trivial⟩ rfl ?_
     refine T_tk (i := 1) rfl (Y_of (fun _ _ => R_field (r := 1) rfl fld65_1 rfl)) ⟨hbk, hb1, hb3, trivial⟩ rfl ?_
     refine T_tk (i := 2) rfl (Y_of (fun _ ⟨hbk, hb1, hb3, _⟩ => R_load1 rfl scl3 (hb1.cell (i := 1) rfl))) ⟨hbk, hb1, hb3, trivial⟩ rfl ?_
     refine T_tk (i := 3) rfl (Y_of (fun _ _ => R_move rfl)) ⟨hbk, hb1, hb3, trivial⟩ rfl ?_
     refine T_tk (i := 4) rfl (Y_of (fun _ _ => R_field (r := 1) rfl fld65_1 rfl)) ⟨hbk, hb1, hb3, trivial⟩ rfl ?_
     refine T_tk (i := 5) rfl (Y_of (fun _ ⟨hbk, hb1, hb3, _⟩ => R_load1 rfl scl3 (hb1.cell (i := 1) rfl))) ⟨hbk, hb1, hb3, trivial⟩ rfl ?_
     refine T_tk (i := 6) rfl (Y_of (fun _ _ => R_nilck rfl)) ⟨hbk, hb1, hb3, trivial⟩ rfl ?_
     refine T_tk (i := 7) rfl (Y_of (fun _ _ => R_field (r := 4) rfl fld104_1 rfl)) ⟨hbk, hb1, hb3, trivial⟩ rfl ?_
     refine T_tk (i := 8) rfl (Y_of (fun _ _ => R_indexArr (sz := 1) (i := 2) (r := 6) rfl rfl (by first | rfl | omega) arr102 (by omega) (by omega))) ⟨hbk, hb1, hb3, trivial⟩ rfl ?_
     refine T_tk (i := 9) rfl (Y_of (fun _ ⟨hbk, hb1, hb3, _⟩ => R_load1 rfl scl25 (hbk.cell (i := 6) rfl))) ⟨hbk, hb1, hb3, trivial⟩ rfl ?_
     refine T_tk (i := 10) rfl (Y_of (fun _ ⟨hbk, hb1, hb3, _⟩ => R_loadA (vs := [.string (((dec data).1).key), .bool (((dec data).1).was), .bool (((dec data).1).is), .string (((dec data).1).old), .string (((dec data).1).new), .int .i64 (((dec data).1).next)]) rfl agg34 (At.pre (hb3.at_ 0) rfl) rfl)) ⟨hbk, hb1, hb3, trivial⟩ rfl ?_
     refine T_tk (i := 13) rfl (Y_of (fun _ _ => R_nilck rfl)) ⟨hbk, hb1, hb3, trivial⟩ rfl ?_
     refine T_tk (i := 14) rfl (Y_of (fun _ _ => R_field (r := 4) rfl fld104_1 rfl)) ⟨hbk, hb1, hb3, trivial⟩ rfl ?_
     refine T_all (rs := [11]) (by kernel_rfl) rfl (all1 (O_one rfl ?_))
     refine L_buildSlice (pv := [(0, .agg #[.string (((dec data).1).key), .bool (((dec data).1).was), .bool (((dec data).1).is), .string (((dec data).1).old), .string (((dec data).1).new), .int .i64 (((dec data).1).next)])]) (cs := [.string (((dec data).1).key), .bool (((dec data).1).was), .bool (((dec data).1).is), .string (((dec data).1).old), .string (((dec data).1).new), .int .i64 (((dec data).1).next)]) slc25 zer34 rfl rfl (by kernel_rfl) rfl ?_
     intro g3 w7 eg3 hb4 hs7 hz6
     have ge3 : w.heap.size ≤ g3 := eg_ge hB eg3
     have lw3 : wa.heap.size ≤ g3 := (Eq.symm eg3) ▸ hlt_
     have lt4 : gp < g3 := lt_of_eg hbk.lt eg3
     have lt5 : g1 < g3 := lt_of_eg hb1.lt eg3
     have lt6 : g2 < g3 := lt_of_eg hb3.lt eg3
     have hap2 : ∀ k_, (Value.slice A2 xs.length c2).ownBlock = some k_ → k_ ≠ g3 := fun k_ hk => by have h_ := (World.ownsRow.lt hoK k_ hk).2; omega
     replace hB := gb_tr hB hs7
     replace hbk := hbk.gb hs7
     replace hE := own_gb hE hs7
     replace hD := hD.gb hs7
     replace hJ := hJn _ _ hJ hs7
     replace hlt_ := Nat.le_trans hlt_ hs7.size
     replace hoK := own_gb hoK hs7
     replace hb1 := hb1.gb hs7
     replace hb3 := hb3.gb hs7
     refine L_nil (N_then ⟨fun hN_ => ⟨hbk, hb1, hb3, trivial⟩, ?_⟩)
     refine T_all (rs := [12]) (by kernel_rfl) rfl (all1 (O_one rfl ?_))
     have hap0_ := hlt_
     refine T_append (xs := xs) (ys := [(⟨((dec data).1).key, ((dec data).1).was, ((dec data).1).is, ((dec data).1).old, ((dec data).1).new, ((dec data).1).next⟩ : Chg)]) EncC slc25 rfl rfl hoK (Blk.sli (m := 0) hb4) (by simp; omega) (by have := hB.size; omega) rfl ?_
     intro A_1 c_1 w8 ho1 hs8 hat1
     have lt7 := hb3.lt
     replace hB := gb_tro hB hoK hs8 (Nat.le_refl _)
     replace hbk := blk_own hbk hoK rfl hs8
     replace hE := hE.kept hs8 (own_type_ne' hE hoK rfl)
     replace hD := hD.grown hs8 (fun k hk => .inr (Nat.le_trans (Nat.le_refl _) (World.ownsRow.lt hoK k hk).1))
     replace hJ := hJk _ _ hJ hs8
     replace hlt_ := Nat.le_trans hlt_ hs8.size
     replace hb1 := blk_own hb1 hoK rfl hs8
     replace hb3 := hb3.grown hs8 (fun e_ => hap1 _ e_.symm rfl)
     have hap3 : ∀ k_, (Value.slice A_1 (xs ++ ([(⟨((dec data).1).key, ((dec data).1).was, ((dec data).1).is, ((dec data).1).old, ((dec data).1).new, ((dec data).1).next⟩ : Chg)])).length c_1).ownBlock = some k_ → k_ ≠ g2 := fun k_ hk => by rcases hat1 with h_ | h_ <;> rw [h_] at hk <;> first | exact hap1 k_ hk | (injection hk with hk; omega)
     refine L_nil (N_then ⟨fun hN_ => ⟨hbk, hb1, hb3, trivial⟩, ?_⟩)
     refine T_tk (i := 15) rfl (Y_of (fun _ _ => R_indexArr (sz := 1) (i := 2) (r := 6) rfl rfl (by first | rfl | omega) arr102 (by omega) (by omega))) ⟨hbk, hb1, hb3, trivial⟩ rfl ?_
     refine T_switch (S' := fun _ => True) (qs' := []) (by kernel_rfl) ?_
     refine T_all (rs := [16]) (by kernel_rfl) rfl (all1 (O_one rfl ?_))
     refine L_st1 rfl rfl rfl sz25 hbk rfl ?_
     intro w9 hb5 hs9 hz7
     replace hB := gb_trg hB hs9 gp0
     replace hE := own_other hE hbk rfl hs9
     replace hD := hD.old hs9 gp0
     replace hJ := hJb _ _ _ hJ hbk hs9
     replace hlt_ := Nat.le_trans hlt_ hs9.size
     replace hb1 := hb1.grown hs9 (ne_gt lt1)
     replace hb3 := hb3.grown hs9 (ne_gt lt2)
     replace ho1 := own_other ho1 hbk rfl hs9
     refine L_nil (N_then ⟨fun hN_ => trivial, ?_⟩)
     refine T_done (by kernel_rfl) (CalmE.normal ?_)
     refine N_in (N_then (C_seq (C_reg rfl ?_)))
     refine L_run (R_assign rfl) rfl ?_
     refine L_nil (N_then (C_ret ?_))
     refine ret1 Try.results40 rfl ?_
     have hsame_ := hat1.imp (fun h_ => (ob_n.symm.trans h_).trans ob_n) (fun h_ => (fun k_ hk_ => by have h2_ := (ob_n.symm.trans h_).symm.trans hk_; injection h2_; omega : ∀ k, (Value.slice A_1 0 0).ownBlock = some k → wa.heap.size ≤ k))
     exact ⟨hB, .inr ⟨rfl, by omega, hJ, .inl ⟨by omega, by omega, _, _, hb5, (own_lo hE (Nat.le_refl _)), (own_lo ho1 (Nat.le_refl _)), hsame_⟩⟩⟩
   ·refine C_reg rfl ?_
    refine L_run (R_eql rfl rfl) rfl ?_
    refine L_run (R_assign rfl) rfl ?_
    refine L_nil (N_then ?_)
    refine C_if rfl (fun h5 => ?_) (fun h5 => ?_)
    ·refine C_seq (C_reg rfl ?_)
     refine L_run (R_field (r := 4) rfl fld65_4 rfl) rfl ?_
     refine L_run (R_load1 rfl scl63 (hb1.cell (i := 4) rfl)) rfl ?_
     refine L_call rfl cb44 (txdec_ok (bs := data) hD (by omega) hdc) rfl ?_
     rintro _ w10 ⟨hs10, rfl⟩
     replace hB := gb_tr hB hs10
     replace hbk := hbk.gb hs10
     replace hE := own_gb hE hs10
     replace hD := hD.gb hs10
     replace hJ := hJn _ _ hJ hs10
     replace hlt_ := Nat.le_trans hlt_ hs10.size
     replace hoK := own_gb hoK hs10
     replace hb1 := hb1.gb hs10
     refine L_run (R_move rfl) rfl ?_
     refine L_run (R_extract rfl rfl) rfl ?_
     refine L_run (R_extract rfl rfl) rfl ?_
     refine L_alloc (cs := [.string (⟨#[]⟩), .bool false, .bool false, .string (⟨#[]⟩), .string (⟨#[]⟩), .int .i64 0]) zer34 rfl rfl ?_
     intro g4 w11 eg4 hb6 hs11 hz8
     have ge4 : w.heap.size ≤ g4 := eg_ge hB eg4
     have lw4 : wa.heap.size ≤ g4 := (Eq.symm eg4) ▸ hlt_
     have lt8 : gp < g4 := lt_of_eg hbk.lt eg4
     have lt9 : g1 < g4 := lt_of_eg hb1.lt eg4
     have hap4 : ∀ k_, (Value.slice A2 xs.length c2).ownBlock = some k_ → k_ ≠ g4 := fun k_ hk => by have h_ := (World.ownsRow.lt hoK k_ hk).2; omega
     replace hB := gb_tr hB hs11
     replace hbk := hbk.gb hs11
     replace hE := own_gb hE hs11
     replace hD := hD.gb hs11
     replace hJ := hJn _ _ hJ hs11
     replace hlt_ := Nat.le_trans hlt_ hs11.size
     replace hoK := own_gb hoK hs11
     replace hb1 := hb1.gb hs11
     refine L_stA (vs := [.string (((dec data).1).key), .bool (((dec data).1).was), .bool (((dec data).1).is), .string (((dec data).1).old), .string (((dec data).1).new), .int .i64 (((dec data).1).next)]) rfl rfl rfl sz34 rfl hb6 rfl ?_
     intro w12 hb7 hs12 hz9
     replace hB := gb_trg hB hs12 ge4
     replace hbk := hbk.grown hs12 (ne_lt lt8)
     replace hE := own_other hE hb6 rfl hs12
     replace hD := hD.old hs12 ge4
     replace hJ := hJf _ _ _ _ _ hJ hb6 (by omega) hs12
     replace hlt_ := Nat.le_trans hlt_ hs12.size
     replace hoK := hoK.kept hs12 (.inr (fun e_ => hap4 _ e_ rfl))
     replace hb1 := hb1.grown hs12 (ne_lt lt9)
     refine L_run (R_assign rfl) rfl ?_
     refine L_nil (N_then (C_seq (C_seq (C_reg rfl ?_))))
     refine L_run (R_move rfl) rfl ?_
     refine L_run (R_neq rfl rfl) rfl ?_
     refine L_nil (N_then ?_)
     refine C_if rfl (fun h6 => ?_) (fun h6 => ?_)
     ·refine C_seq (C_reg rfl ?_)
      refine L_run (R_assign rfl) rfl ?_
      refine L_nil (N_then (C_ret (R_then (R_in (R_then ?_)))))
      refine ret1 Try.results40 rfl ?_
      exact ⟨hB, .inl ⟨rfl, fun q_ => by have h_ := q_.2.2.2; omega⟩⟩
     ·refine C_skip (N_then ?_)
      refine C_draw2 rfl mix ?_
      intro w13 hs13 hz10
      replace hB := gb_tr hB hs13
      replace hbk := hbk.gb hs13
      replace hE := own_gb hE hs13
      replace hD := hD.gb hs13
      replace hJ := hJn _ _ hJ hs13
      replace hlt_ := Nat.le_trans hlt_ hs13.size
      replace hoK := own_gb hoK hs13
      replace hb1 := hb1.gb hs13
      replace hb7 := hb7.gb hs13
      refine ⟨fun W_ => Blk W_ gp 104 [.bool b0, .bool b1, .bool true, .bool b3, .slice A0 n0 c0, .slice A1 n1 c1, .slice A2 xs.length c2, .slice A3 n3 c3, .slice Ao E.length co] ∧ Blk W_ g1 65 [.int .i64 kd, .int .i64 2, .int .i64 lsn, .int .i64 pv, .slice da data.length dc] ∧ Blk W_ g4 34 [.string (((dec data).1).key), .bool (((dec data).1).was), .bool (((dec data).1).is), .string (((dec data).1).old), .string (((dec data).1).new), .int .i64 (((dec data).1).next)] ∧ True, [0, 1, 2, 3, 4, 5, 6, 7, 8, 9, 10, 13, 14, 15], ?_⟩
      refine T_tk (i := 0) rfl (Y_of (fun _ _ => R_move rfl)) ⟨hbk, hb1, hb7, trivial⟩ rfl ?_
      refine T_tk (i := 1) rfl (Y_of (fun _ _ => R_field (r := 1) rfl fld65_1 rfl)) ⟨hbk, hb1, hb7, trivial⟩ rfl ?_
      refine T_tk (i := 2) rfl (Y_of (fun _ ⟨hbk, hb1, hb7, _⟩ => R_load1 rfl scl3 (hb1.cell (i := 1) rfl))) ⟨hbk, hb1, hb7, trivial⟩ rfl ?_
      refine T_tk (i := 3) rfl (Y_of (fun _ _ => R_move rfl)) ⟨hbk, hb1, hb7, trivial⟩ rfl ?_
      refine T_tk (i := 4) rfl (Y_of (fun _ _ => R_field (r := 1) rfl fld65_1 rfl)) ⟨hbk, hb1, hb7, trivial⟩ rfl ?_
      refine T_tk (i := 5) rfl (Y_of (fun _ ⟨hbk, hb1, hb7, _⟩ => R_load1 rfl scl3 (hb1.cell (i := 1) rfl))) ⟨hbk, hb1, hb7, trivial⟩ rfl ?_
      refine T_tk (i := 6) rfl (Y_of (fun _ _ => R_nilck rfl)) ⟨hbk, hb1, hb7, trivial⟩ rfl ?_
      refine T_tk (i := 7) rfl (Y_of (fun _ _ => R_field (r := 4) rfl fld104_1 rfl)) ⟨hbk, hb1, hb7, trivial⟩ rfl ?_
      refine T_tk (i := 8) rfl (Y_of (fun _ _ => R_indexArr (sz := 1) (i := 2) (r := 6) rfl rfl (by first | rfl | omega) arr102 (by omega) (by omega))) ⟨hbk, hb1, hb7, trivial⟩ rfl ?_
      refine T_tk (i := 9) rfl (Y_of (fun _ ⟨hbk, hb1, hb7, _⟩ => R_load1 rfl scl25 (hbk.cell (i := 6) rfl))) ⟨hbk, hb1, hb7, trivial⟩ rfl ?_
      refine T_tk (i := 10) rfl (Y_of (fun _ ⟨hbk, hb1, hb7, _⟩ => R_loadA (vs := [.string (((dec data).1).key), .bool (((dec data).1).was), .bool (((dec data).1).is), .string (((dec data).1).old), .string (((dec data).1).new), .int .i64 (((dec data).1).next)]) rfl agg34 (At.pre (hb7.at_ 0) rfl) rfl)) ⟨hbk, hb1, hb7, trivial⟩ rfl ?_
      refine T_tk (i := 13) rfl (Y_of (fun _ _ => R_nilck rfl)) ⟨hbk, hb1, hb7, trivial⟩ rfl ?_
      refine T_tk (i := 14) rfl (Y_of (fun _ _ => R_field (r := 4) rfl fld104_1 rfl)) ⟨hbk, hb1, hb7, trivial⟩ rfl ?_
      refine T_all (rs := [11]) (by kernel_rfl) rfl (all1 (O_one rfl ?_))
      refine L_buildSlice (pv := [(0, .agg #[.string (((dec data).1).key), .bool (((dec data).1).was), .bool (((dec data).1).is), .string (((dec data).1).old), .string (((dec data).1).new), .int .i64 (((dec data).1).next)])]) (cs := [.string (((dec data).1).key), .bool (((dec data).1).was), .bool (((dec data).1).is), .string (((dec data).1).old), .string (((dec data).1).new), .int .i64 (((dec data).1).next)]) slc25 zer34 rfl rfl (by kernel_rfl) rfl ?_
      intro g5 w14 eg5 hb8 hs14 hz11
      have ge5 : w.heap.size ≤ g5 := eg_ge hB eg5
      have lw5 : wa.heap.size ≤ g5 := (Eq.symm eg5) ▸ hlt_
      have lt10 : gp < g5 := lt_of_eg hbk.lt eg5
      have lt11 : g1 < g5 := lt_of_eg hb1.lt eg5
      have lt12 : g4 < g5 := lt_of_eg hb7.lt eg5
      have hap5 : ∀ k_, (Value.slice A2 xs.length c2).ownBlock = some k_ → k_ ≠ g5 := fun k_ hk => by have h_ := (World.ownsRow.lt hoK k_ hk).2; omega
      replace hB := gb_tr hB hs14
      replace hbk := hbk.gb hs14
      replace hE := own_gb hE hs14
      replace hD := hD.gb hs14
      replace hJ := hJn _ _ hJ hs14
      replace hlt_ := Nat.le_trans hlt_ hs14.size
      replace hoK := own_gb hoK hs14
      replace hb1 := hb1.gb hs14
      replace hb7 := hb7.gb hs14
      refine L_nil (N_then ⟨fun hN_ => ⟨hbk, hb1, hb7, trivial⟩, ?_⟩)
      refine T_all (rs := [12]) (by kernel_rfl) rfl (all1 (O_one rfl ?_))
      have hap0_ := hlt_
      refine T_append (xs := xs) (ys := [(⟨((dec data).1).key, ((dec data).1).was, ((dec data).1).is, ((dec data).1).old, ((dec data).1).new, ((dec data).1).next⟩ : Chg)]) EncC slc25 rfl rfl hoK (Blk.sli (m := 0) hb8) (by simp; omega) (by have := hB.size; omega) rfl ?_
      intro A_2 c_2 w15 ho2 hs15 hat2
      have lt13 := hb7.lt
      replace hB := gb_tro hB hoK hs15 (Nat.le_refl _)
      replace hbk := blk_own hbk hoK rfl hs15
      replace hE := hE.kept hs15 (own_type_ne' hE hoK rfl)
      replace hD := hD.grown hs15 (fun k hk => .inr (Nat.le_trans (Nat.le_refl _) (World.ownsRow.lt hoK k hk).1))
      replace hJ := hJk _ _ hJ hs15
      replace hlt_ := Nat.le_trans hlt_ hs15.size
      replace hb1 := blk_own hb1 hoK rfl hs15
      replace hb7 := hb7.grown hs15 (fun e_ => hap4 _ e_.symm rfl)
      have hap6 : ∀ k_, (Value.slice A_2 (xs ++ ([(⟨((dec data).1).key, ((dec data).1).was, ((dec data).1).is, ((dec data).1).old, ((dec data).1).new, ((dec data).1).next⟩ : Chg)])).length c_2).ownBlock = some k_ → k_ ≠ g4 := fun k_ hk => by rcases hat2 with h_ | h_ <;> rw [h_] at hk <;> first | exact hap4 k_ hk | (injection hk with hk; omega)
      refine L_nil (N_then ⟨fun hN_ => ⟨hbk, hb1, hb7, trivial⟩, ?_⟩)
      refine T_tk (i := 15) rfl (Y_of (fun _ _ => R_indexArr (sz := 1) (i := 2) (r := 6) rfl rfl (by first | rfl | omega) arr102 (by omega) (by omega))) ⟨hbk, hb1, hb7, trivial⟩ rfl ?_
      refine T_switch (S' := fun _ => True) (qs' := []) (by kernel_rfl) ?_
      refine T_all (rs := [16]) (by kernel_rfl) rfl (all1 (O_one rfl ?_))
      refine L_st1 rfl rfl rfl sz25 hbk rfl ?_
      intro w16 hb9 hs16 hz12
      replace hB := gb_trg hB hs16 gp0
      replace hE := own_other hE hbk rfl hs16
      replace hD := hD.old hs16 gp0
      replace hJ := hJb _ _ _ hJ hbk hs16
      replace hlt_ := Nat.le_trans hlt_ hs16.size
      replace hb1 := hb1.grown hs16 (ne_gt lt1)
      replace hb7 := hb7.grown hs16 (ne_gt lt8)
      replace ho2 := own_other ho2 hbk rfl hs16
      refine L_nil (N_then ⟨fun hN_ => trivial, ?_⟩)
      refine T_done (by kernel_rfl) (CalmE.normal ?_)
      refine N_in (N_then (C_seq (C_reg rfl ?_)))
      refine L_run (R_assign rfl) rfl ?_
      refine L_nil (N_then (C_ret ?_))
      refine ret1 Try.results40 rfl ?_
      have hsame_ := hat2.imp (fun h_ => (ob_n.symm.trans h_).trans ob_n) (fun h_ => (fun k_ hk_ => by have h2_ := (ob_n.symm.trans h_).symm.trans hk_; injection h2_; omega : ∀ k, (Value.slice A_2 0 0).ownBlock = some k → wa.heap.size ≤ k))
      exact ⟨hB, .inr ⟨rfl, by omega, hJ, .inl ⟨by omega, by omega, _, _, hb9, (own_lo hE (Nat.le_refl _)), (own_lo ho2 (Nat.le_refl _)), hsame_⟩⟩⟩
    ·refine C_seq (C_reg rfl ?_)
     refine L_run (R_eql rfl rfl) rfl ?_
     refine L_run (R_assign rfl) rfl ?_
     refine L_nil (N_then ?_)
     refine C_if rfl (fun h7 => ?_) (fun h7 => ?_)
     ·refine C_seq ?_
      refine C_draw2 rfl mix ?_
      intro w17 hs17 hz13
      replace hB := gb_tr hB hs17
      replace hbk := hbk.gb hs17
      replace hE := own_gb hE hs17
      replace hD := hD.gb hs17
      replace hJ := hJn _ _ hJ hs17
      replace hlt_ := Nat.le_trans hlt_ hs17.size
      replace hoK := own_gb hoK hs17
      replace hb1 := hb1.gb hs17
      refine ⟨fun W_ => Blk W_ gp 104 [.bool b0, .bool b1, .bool true, .bool b3, .slice A0 n0 c0, .slice A1 n1 c1, .slice A2 xs.length c2, .slice A3 n3 c3, .slice Ao E.length co] ∧ Blk W_ g1 65 [.int .i64 kd, .int .i64 2, .int .i64 lsn, .int .i64 pv, .slice da data.length dc] ∧ True, [0, 1, 2, 3, 4, 5, 6, 7, 8, 9, 10, 11, 12, 13, 14, 15, 16, 19, 20], ?_⟩
      refine T_tk (i := 0) rfl (Y_of (fun _ _ => R_move rfl)) ⟨hbk, hb1, trivial⟩ rfl ?_
      refine T_tk (i := 1) rfl (Y_of (fun _ _ => R_move rfl)) ⟨hbk, hb1, trivial⟩ rfl ?_
      refine T_tk (i := 2) rfl (Y_of (fun _ _ => R_nilck rfl)) ⟨hbk, hb1, trivial⟩ rfl ?_
      refine T_tk (i := 3) rfl (Y_of (fun _ _ => R_field (r := 8) rfl fld104_2 rfl)) ⟨hbk, hb1, trivial⟩ rfl ?_
      refine T_tk (i := 4) rfl (Y_of (fun _ ⟨hbk, hb1, _⟩ => R_load1 rfl scl24 (hbk.cell (i := 8) rfl))) ⟨hbk, hb1, trivial⟩ rfl ?_
      refine T_tk (i := 5) rfl (Y_of (fun _ _ => R_field (r := 2) rfl fld65_2 rfl)) ⟨hbk, hb1, trivial⟩ rfl ?_
      refine T_tk (i := 6) rfl (Y_of (fun _ ⟨hbk, hb1, _⟩ => R_load1 rfl scl3 (hb1.cell (i := 2) rfl))) ⟨hbk, hb1, trivial⟩ rfl ?_
      refine T_tk (i := 7) rfl (Y_of (fun _ _ => R_field (r := 1) rfl fld65_1 rfl)) ⟨hbk, hb1, trivial⟩ rfl ?_
      refine T_tk (i := 8) rfl (Y_of (fun _ ⟨hbk, hb1, _⟩ => R_load1 rfl scl3 (hb1.cell (i := 1) rfl))) ⟨hbk, hb1, trivial⟩ rfl ?_
      refine T_tk (i := 9) rfl (Y_of (fun _ _ => R_move rfl)) ⟨hbk, hb1, trivial⟩ rfl ?_
      refine T_tk (i := 10) rfl (Y_of (fun _ _ => R_field (r := 1) rfl fld65_1 rfl)) ⟨hbk, hb1, trivial⟩ rfl ?_
      refine T_tk (i := 11) rfl (Y_of (fun _ ⟨hbk, hb1, _⟩ => R_load1 rfl scl3 (hb1.cell (i := 1) rfl))) ⟨hbk, hb1, trivial⟩ rfl ?_
      refine T_tk (i := 12) rfl (Y_of (fun _ _ => R_nilck rfl)) ⟨hbk, hb1, trivial⟩ rfl ?_
      refine T_tk (i := 13) rfl (Y_of (fun _ _ => R_field (r := 4) rfl fld104_1 rfl)) ⟨hbk, hb1, trivial⟩ rfl ?_
      refine T_tk (i := 14) rfl (Y_of (fun _ _ => R_indexArr (sz := 1) (i := 2) (r := 6) rfl rfl (by first | rfl | omega) arr102 (by omega) (by omega))) ⟨hbk, hb1, trivial⟩ rfl ?_
      refine T_tk (i := 15) rfl (Y_of (fun _ ⟨hbk, hb1, _⟩ => R_load1 rfl scl25 (hbk.cell (i := 6) rfl))) ⟨hbk, hb1, trivial⟩ rfl ?_
      refine T_tk (i := 16) rfl (Y_of (fun _ _ => R_build (pv := [(0, .int .i64 lsn), (1, .int .i64 2), (2, .slice A2 xs.length c2)]) (cs := [.int .i64 lsn, .int .i64 2, .slice A2 xs.length c2]) rfl (by kernel_rfl))) ⟨hbk, hb1, trivial⟩ rfl ?_
      refine T_all (rs := [17]) (by kernel_rfl) rfl (all1 (O_one rfl ?_))
      refine L_buildSlice (pv := [(0, .agg #[.int .i64 lsn, .int .i64 2, .slice A2 xs.length c2])]) (cs := [.int .i64 lsn, .int .i64 2, .slice A2 xs.length c2]) slc24 zer28 rfl rfl (by kernel_rfl) rfl ?_
      intro g6 w18 eg6 hb10 hs18 hz14
      have ge6 : w.heap.size ≤ g6 := eg_ge hB eg6
      have lw6 : wa.heap.size ≤ g6 := (Eq.symm eg6) ▸ hlt_
      have lt14 : gp < g6 := lt_of_eg hbk.lt eg6
      have lt15 : g1 < g6 := lt_of_eg hb1.lt eg6
      have hap7 : ∀ k_, (Value.slice Ao E.length co).ownBlock = some k_ → k_ ≠ g6 := fun k_ hk => by have h_ := (World.ownsRow.lt hE k_ hk).2; omega
      replace hB := gb_tr hB hs18
      replace hbk := hbk.gb hs18
      replace hE := own_gb hE hs18
      replace hD := hD.gb hs18
      replace hJ := hJn _ _ hJ hs18
      replace hlt_ := Nat.le_trans hlt_ hs18.size
      replace hoK := own_gb hoK hs18
      replace hb1 := hb1.gb hs18
      refine L_nil (N_then ⟨fun hN_ => ⟨hbk, hb1, trivial⟩, ?_⟩)
      refine T_all (rs := [18]) (by kernel_rfl) rfl (all1 (O_one rfl ?_))
      refine T_append (xs := E) (ys := [(⟨lsn, 2, A2, c2, xs⟩ : Ent)]) EncEn slc24 rfl rfl hE (Blk.sli (m := 0) hb10) (by simp; omega) (by have := hB.size; omega) rfl ?_
      intro A_3 c_3 w19 ho3 hs19 hat3
      replace hB := gb_tro hB hE hs19 (Nat.le_refl _)
      replace hbk := blk_own hbk hE rfl hs19
      replace hD := hD.grown hs19 (fun k hk => .inr (Nat.le_trans (Nat.le_refl _) (World.ownsRow.lt hE k hk).1))
      replace hJ := hJe _ _ _ _ _ hJ hE hs19
      replace hlt_ := Nat.le_trans hlt_ hs19.size
      replace hoK := hoK.kept hs19 (own_type_ne' hoK hE rfl)
      replace hb1 := blk_own hb1 hE rfl hs19
      refine L_nil (N_then ⟨fun hN_ => ⟨hbk, hb1, trivial⟩, ?_⟩)
      refine T_tk (i := 19) rfl (Y_of (fun _ _ => R_nilck rfl)) ⟨hbk, hb1, trivial⟩ rfl ?_
      refine T_tk (i := 20) rfl (Y_of (fun _ _ => R_field (r := 8) rfl fld104_2 rfl)) ⟨hbk, hb1, trivial⟩ rfl ?_
      refine T_switch (S' := fun _ => True) (qs' := []) (by kernel_rfl) ?_
      refine T_all (rs := [21]) (by kernel_rfl) rfl (all1 (O_one rfl ?_))
      refine L_st1 rfl rfl rfl sz24 hbk rfl ?_
      intro w20 hb11 hs20 hz15
      replace hB := gb_trg hB hs20 gp0
      replace hD := hD.old hs20 gp0
      replace hJ := hJb _ _ _ hJ hbk hs20
      replace hlt_ := Nat.le_trans hlt_ hs20.size
      replace hoK := own_other hoK hbk rfl hs20
      replace hb1 := hb1.grown hs20 (ne_gt lt1)
      replace ho3 := own_other ho3 hbk rfl hs20
      refine L_nil (N_then ⟨fun hN_ => trivial, ?_⟩)
      refine T_done (by kernel_rfl) (CalmE.normal ?_)
      refine N_then ?_
      refine C_draw2 rfl mix ?_
      intro w21 hs21 hz16
      replace hB := gb_tr hB hs21
      replace hb11 := hb11.gb hs21
      replace hD := hD.gb hs21
      replace hJ := hJn _ _ hJ hs21
      replace hlt_ := Nat.le_trans hlt_ hs21.size
      replace hoK := own_gb hoK hs21
      replace hb1 := hb1.gb hs21
      replace ho3 := own_gb ho3 hs21
      refine ⟨fun W_ => Blk W_ g1 65 [.int .i64 kd, .int .i64 2, .int .i64 lsn, .int .i64 pv, .slice da data.length dc] ∧ True, [0, 1, 2, 3, 4, 5], ?_⟩
      refine T_tk (i := 0) rfl (Y_of (fun _ _ => R_move rfl)) ⟨hb1, trivial⟩ rfl ?_
      refine T_tk (i := 1) rfl (Y_of (fun _ _ => R_field (r := 1) rfl fld65_1 rfl)) ⟨hb1, trivial⟩ rfl ?_
      refine T_tk (i := 2) rfl (Y_of (fun _ ⟨hb1, _⟩ => R_load1 rfl scl3 (hb1.cell (i := 1) rfl))) ⟨hb1, trivial⟩ rfl ?_
      refine T_tk (i := 3) rfl (Y_of (fun _ _ => R_nilck rfl)) ⟨hb1, trivial⟩ rfl ?_
      refine T_tk (i := 4) rfl (Y_of (fun _ _ => R_field (r := 0) rfl fld104_0 rfl)) ⟨hb1, trivial⟩ rfl ?_
      refine T_tk (i := 5) rfl (Y_of (fun _ _ => R_indexArr (sz := 1) (i := 2) (r := 2) rfl rfl (by first | rfl | omega) arr101 (by omega) (by omega))) ⟨hb1, trivial⟩ rfl ?_
      refine T_switch (S' := fun _ => True) (qs' := []) (by kernel_rfl) ?_
      refine T_all (rs := [6]) (by kernel_rfl) rfl (all1 (O_one rfl ?_))
      refine L_st1 rfl rfl rfl sz4 hb11 rfl ?_
      intro w22 hb12 hs22 hz17
      replace hB := gb_trg hB hs22 gp0
      replace hD := hD.old hs22 gp0
      replace hJ := hJb _ _ _ hJ hb11 hs22
      replace hlt_ := Nat.le_trans hlt_ hs22.size
      replace hoK := own_other hoK hb11 rfl hs22
      replace hb1 := hb1.grown hs22 (ne_gt lt1)
      replace ho3 := own_other ho3 hb11 rfl hs22
      refine L_nil (N_then ⟨fun hN_ => trivial, ?_⟩)
      refine T_done (by kernel_rfl) (CalmE.normal ?_)
      refine N_in (N_then (C_seq (C_reg rfl ?_)))
      refine L_run (R_assign rfl) rfl ?_
      refine L_nil (N_then (C_ret ?_))
      refine ret1 Try.results40 rfl ?_
      exact ⟨hB, .inr ⟨rfl, by omega, hJ, .inr (.inl ⟨by omega, _, _, hb12, (own_lo ho3 (Nat.le_refl _)), (own_lo hoK (Nat.le_refl _))⟩)⟩⟩
     ·refine C_seq (C_reg rfl ?_)
      refine L_run (R_eql rfl rfl) rfl ?_
      refine L_run (R_assign rfl) rfl ?_
      refine L_nil (N_then ?_)
      refine C_if rfl (fun h8 => ?_) (fun h8 => ?_)
      ·refine C_draw2 rfl mix ?_
       intro w23 hs23 hz18
       replace hB := gb_tr hB hs23
       replace hbk := hbk.gb hs23
       replace hE := own_gb hE hs23
       replace hD := hD.gb hs23
       replace hJ := hJn _ _ hJ hs23
       replace hlt_ := Nat.le_trans hlt_ hs23.size
       replace hoK := own_gb hoK hs23
       replace hb1 := hb1.gb hs23
       refine ⟨fun W_ => Blk W_ g1 65 [.int .i64 kd, .int .i64 2, .int .i64 lsn, .int .i64 pv, .slice da data.length dc] ∧ True, [0, 1, 2, 3, 4, 5], ?_⟩
       refine T_tk (i := 0) rfl (Y_of (fun _ _ => R_move rfl)) ⟨hb1, trivial⟩ rfl ?_
       refine T_tk (i := 1) rfl (Y_of (fun _ _ => R_field (r := 1) rfl fld65_1 rfl)) ⟨hb1, trivial⟩ rfl ?_
       refine T_tk (i := 2) rfl (Y_of (fun _ ⟨hb1, _⟩ => R_load1 rfl scl3 (hb1.cell (i := 1) rfl))) ⟨hb1, trivial⟩ rfl ?_
       refine T_tk (i := 3) rfl (Y_of (fun _ _ => R_nilck rfl)) ⟨hb1, trivial⟩ rfl ?_
       refine T_tk (i := 4) rfl (Y_of (fun _ _ => R_field (r := 0) rfl fld104_0 rfl)) ⟨hb1, trivial⟩ rfl ?_
       refine T_tk (i := 5) rfl (Y_of (fun _ _ => R_indexArr (sz := 1) (i := 2) (r := 2) rfl rfl (by first | rfl | omega) arr101 (by omega) (by omega))) ⟨hb1, trivial⟩ rfl ?_
       refine T_switch (S' := fun _ => True) (qs' := []) (by kernel_rfl) ?_
       refine T_all (rs := [6]) (by kernel_rfl) rfl (all1 (O_one rfl ?_))
       refine L_st1 rfl rfl rfl sz4 hbk rfl ?_
       intro w24 hb13 hs24 hz19
       replace hB := gb_trg hB hs24 gp0
       replace hE := own_other hE hbk rfl hs24
       replace hD := hD.old hs24 gp0
       replace hJ := hJb _ _ _ hJ hbk hs24
       replace hlt_ := Nat.le_trans hlt_ hs24.size
       replace hoK := own_other hoK hbk rfl hs24
       replace hb1 := hb1.grown hs24 (ne_gt lt1)
       refine L_nil (N_then ⟨fun hN_ => trivial, ?_⟩)
       refine T_done (by kernel_rfl) (CalmE.normal ?_)
       refine N_in (N_then (C_seq (C_reg rfl ?_)))
       refine L_run (R_assign rfl) rfl ?_
       refine L_nil (N_then (C_ret ?_))
       refine ret1 Try.results40 rfl ?_
       exact ⟨hB, .inr ⟨rfl, by omega, hJ, .inr (.inr ⟨by omega, hb13, (own_lo hE (Nat.le_refl _)), (own_lo hoK (Nat.le_refl _))⟩)⟩⟩
      ·refine C_seq (C_reg rfl ?_)
       refine L_run (R_assign rfl) rfl ?_
       refine L_nil (N_then (C_ret (R_in (R_then ?_))))
       refine ret1 Try.results40 rfl ?_
       exact ⟨hB, .inl ⟨rfl, fun q_ => by have h_ := q_.2.2.2; omega⟩⟩

theorem one_2c {w wa : World} {gp : Nat} {b0 b1 b2 b3 : Bool} {A0 A1 A2 A3 Ao da : Option Addr} {n0 n1 n2 n3 c0 c1 c2 c3 co dc : Nat} {xs : List Chg} {E : List Ent} {kd lsn pv : Int} {data : List UInt8} (hB : w.grownBy wa none) (gp0 : w.heap.size ≤ gp) (hbk : Blk wa gp 104 [.bool b0, .bool b1, .bool false, .bool b3, .slice A0 n0 c0, .slice A1 n1 c1, .slice A2 n2 c2, .slice A3 n3 c3, .slice Ao E.length co]) (hE : wa.ownsRow w.heap.size 28 3 (.slice Ao E.length co) E.length (fl encEn E)) (hD0 : Sli 0 0 w.heap.size w da (fl encB data)) (hd6 : data.length ≤ 600) (hdc : data.length ≤ dc) (hE1 : E.length ≤ 1000) (hx1 : xs.length ≤ 1000) {J : World → Prop} (hJ : J wa) (hJn : ∀ w w', J w → w.grownBy w' none → J w') (hJb : ∀ w w' cs, J w → Blk w gp 104 cs → w.grownBy w' (some gp) → J w') (hJf : ∀ w w' g T cs, J w → Blk w g T cs → wa.heap.size ≤ g → w.grownBy w' (some g) → J w') (hJk : ∀ w w', J w → w.grownBy w' (Value.slice none xs.length 0).ownBlock → J w') (hJe : ∀ w1 w2 v n vs, J w1 → w1.ownsRow w.heap.size 28 3 v n vs → w1.grownBy w2 v.ownBlock → J w2) :
    Runs Try.prog 40 #[.pointer (some ⟨gp, 0, none⟩), .agg #[.int .i64 kd, .int .i64 2, .int .i64 lsn, .int .i64 pv, .slice da data.length dc]] wa (fun v_ w' => w.grownBy w' none ∧ v_ = .bool (decide (1 ≤ lsn ∧ kd = 5)) ∧ (1 ≤ lsn ∧ kd = 5 → J w' ∧ Blk w' gp 104 [.bool b0, .bool b1, .bool true, .bool b3, .slice A0 n0 c0, .slice A1 n1 c1, .slice none 0 0, .slice A3 n3 c3, .slice Ao E.length co] ∧ w'.ownsRow w.heap.size 28 3 (.slice Ao E.length co) E.length (fl encEn E))) := by
 have hD := hD0.gb hB
 have hlt_ : wa.heap.size ≤ wa.heap.size := Nat.le_refl _
 refine enter Try.func40 Try.ntmps40 rfl rfl ?_
 refine C_seq (C_reg rfl ?_)
 refine L_box (cs := [.int .i64 kd, .int .i64 2, .int .i64 lsn, .int .i64 pv, .slice da data.length dc]) rfl rfl rfl ?_
 intro g1 w1 eg1 hb1 hs1 hz1
 have ge1 : w.heap.size ≤ g1 := eg_ge hB eg1
 have lw1 : wa.heap.size ≤ g1 := (Eq.symm eg1) ▸ hlt_
 have lt1 : gp < g1 := lt_of_eg hbk.lt eg1
 replace hB := gb_tr hB hs1
 replace hbk := hbk.gb hs1
 replace hE := own_gb hE hs1
 replace hD := hD.gb hs1
 replace hJ := hJn _ _ hJ hs1
 replace hlt_ := Nat.le_trans hlt_ hs1.size
 refine L_run (R_assign rfl) rfl ?_
 refine L_nil (N_then (C_seq (C_seq ?_)))
 refine C_draw2 rfl mix ?_
 intro w2 hs2 hz2
 replace hB := gb_tr hB hs2
 replace hbk := hbk.gb hs2
 replace hE := own_gb hE hs2
 replace hD := hD.gb hs2
 replace hJ := hJn _ _ hJ hs2
 replace hlt_ := Nat.le_trans hlt_ hs2.size
 replace hb1 := hb1.gb hs2
 refine ⟨fun W_ => Blk W_ gp 104 [.bool b0, .bool b1, .bool false, .bool b3, .slice A0 n0 c0, .slice A1 n1 c1, .slice A2 n2 c2, .slice A3 n3 c3, .slice Ao E.length co] ∧ Blk W_ g1 65 [.int .i64 kd, .int .i64 2, .int .i64 lsn, .int .i64 pv, .slice da data.length dc] ∧ True, [0, 1, 2, 3, 4, 5, 6, 7, 8, 9, 10, 11, 12, 13, 14, 15, 16, 17, 18, 19, 20, 21, 22, 23, 24, 25], ?_⟩
 refine T_tk (i := 0) rfl (Y_of (fun _ _ => R_field (r := 1) rfl fld65_1 rfl)) ⟨hbk, hb1, trivial⟩ rfl ?_
 refine T_tk (i := 1) rfl (Y_of (fun _ ⟨hbk, hb1, _⟩ => R_load1 rfl scl3 (hb1.cell (i := 1) rfl))) ⟨hbk, hb1, trivial⟩ rfl ?_
 refine T_tk (i := 2) rfl (Y_of (fun _ _ => R_eqv (R_lss rfl rfl) (v' := .bool false) rfl)) ⟨hbk, hb1, trivial⟩ rfl ?_
 refine T_tk (i := 3) rfl (Y_of (fun _ _ => R_move rfl)) ⟨hbk, hb1, trivial⟩ rfl ?_
 refine T_tk (i := 4) rfl (Y_yes rfl rfl rfl rfl (fun _ _ => R_field (r := 1) rfl fld65_1 rfl)) ⟨hbk, hb1, trivial⟩ rfl ?_
 refine T_tk (i := 5) rfl (Y_yes rfl rfl rfl rfl (fun _ ⟨hbk, hb1, _⟩ => R_load1 rfl scl3 (hb1.cell (i := 1) rfl))) ⟨hbk, hb1, trivial⟩ rfl ?_
 refine T_tk (i := 6) rfl (Y_yes rfl rfl rfl rfl (fun _ _ => R_eqv (R_gtr rfl rfl) (v' := .bool false) rfl)) ⟨hbk, hb1, trivial⟩ rfl ?_
 refine T_tk (i := 7) rfl (Y_of (fun _ _ => R_pickF rfl rfl rfl)) ⟨hbk, hb1, trivial⟩ rfl ?_
 refine T_tk (i := 8) rfl (Y_of (fun _ _ => R_move rfl)) ⟨hbk, hb1, trivial⟩ rfl ?_
 refine T_tk (i := 9) rfl (Y_yes rfl rfl rfl rfl (fun _ _ => R_field (r := 2) rfl fld65_2 rfl)) ⟨hbk, hb1, trivial⟩ rfl ?_
 refine T_tk (i := 10) rfl (Y_yes rfl rfl rfl rfl (fun _ ⟨hbk, hb1, _⟩ => R_load1 rfl scl3 (hb1.cell (i := 2) rfl))) ⟨hbk, hb1, trivial⟩ rfl ?_
 refine T_tk (i := 11) rfl (Y_yes rfl rfl rfl rfl (fun _ _ => R_lss rfl rfl)) ⟨hbk, hb1, trivial⟩ rfl ?_
 refine T_tk (i := 12) rfl (Y_of (fun _ _ => R_pickF rfl rfl rfl)) ⟨hbk, hb1, trivial⟩ rfl ?_
 refine T_tk (i := 13) rfl (Y_of (fun _ _ => R_move rfl)) ⟨hbk, hb1, trivial⟩ rfl ?_
 by_cases h1 : lsn < 1
 ·refine T_tk (i := 14) rfl (Y_no rfl rfl rfl (decide_eq_true h1)) ⟨hbk, hb1, trivial⟩ rfl ?_
  refine T_tk (i := 15) rfl (Y_no rfl rfl rfl (decide_eq_true h1)) ⟨hbk, hb1, trivial⟩ rfl ?_
  refine T_tk (i := 16) rfl (Y_no rfl rfl rfl (decide_eq_true h1)) ⟨hbk, hb1, trivial⟩ rfl ?_
  refine T_tk (i := 17) rfl (Y_no rfl rfl rfl (decide_eq_true h1)) ⟨hbk, hb1, trivial⟩ rfl ?_
  refine T_tk (i := 18) rfl (Y_no rfl rfl rfl (decide_eq_true h1)) ⟨hbk, hb1, trivial⟩ rfl ?_
  refine T_tk (i := 19) rfl (Y_no rfl rfl rfl (decide_eq_true h1)) ⟨hbk, hb1, trivial⟩ rfl ?_
  refine T_tk (i := 20) rfl (Y_no rfl rfl rfl (decide_eq_true h1)) ⟨hbk, hb1, trivial⟩ rfl ?_
  refine T_tk (i := 21) rfl (Y_no rfl rfl rfl (decide_eq_true h1)) ⟨hbk, hb1, trivial⟩ rfl ?_
  refine T_tk (i := 22) rfl (Y_no rfl rfl rfl (decide_eq_true h1)) ⟨hbk, hb1, trivial⟩ rfl ?_
  refine T_tk (i := 23) rfl (Y_no rfl rfl rfl (decide_eq_true h1)) ⟨hbk, hb1, trivial⟩ rfl ?_
  refine T_tk (i := 24) rfl (Y_no rfl rfl rfl (decide_eq_true h1)) ⟨hbk, hb1, trivial⟩ rfl ?_
  refine T_tk (i := 25) rfl (Y_of (fun _ _ => R_pickT rfl (decide_eq_true h1) rfl)) ⟨hbk, hb1, trivial⟩ rfl ?_
  refine T_done (by kernel_rfl) (CalmE.normal ?_)
  refine N_then (C_condT rfl rfl (C_seq (C_reg rfl ?_)))
  refine L_run (R_assign rfl) rfl ?_
  refine L_nil (N_then (C_ret (R_then ?_)))
  refine ret1 Try.results40 rfl ?_
  exact ⟨hB, bF (by omega), fun q_ => by omega⟩
 ·refine T_tk (i := 14) rfl (Y_yes rfl rfl rfl (decide_eq_false h1) (fun _ _ => R_move rfl)) ⟨hbk, hb1, trivial⟩ rfl ?_
  refine T_tk (i := 15) rfl (Y_yes rfl rfl rfl (decide_eq_false h1) (fun _ _ => R_field (r := 1) rfl fld65_1 rfl)) ⟨hbk, hb1, trivial⟩ rfl ?_
  refine T_tk (i := 16) rfl (Y_yes rfl rfl rfl (decide_eq_false h1) (fun _ ⟨hbk, hb1, _⟩ => R_load1 rfl scl3 (hb1.cell (i := 1) rfl))) ⟨hbk, hb1, trivial⟩ rfl ?_
  refine T_tk (i := 17) rfl (Y_yes rfl rfl rfl (decide_eq_false h1) (fun _ _ => R_nilck rfl)) ⟨hbk, hb1, trivial⟩ rfl ?_
  refine T_tk (i := 18) rfl (Y_yes rfl rfl rfl (decide_eq_false h1) (fun _ _ => R_field (r := 0) rfl fld104_0 rfl)) ⟨hbk, hb1, trivial⟩ rfl ?_
  refine T_tk (i := 19) rfl (Y_yes rfl rfl rfl (decide_eq_false h1) (fun _ _ => R_indexArr (sz := 1) (i := 2) (r := 2) rfl rfl (by first | rfl | omega) arr101 (by omega) (by omega))) ⟨hbk, hb1, trivial⟩ rfl ?_
  refine T_tk (i := 20) rfl (Y_yes rfl rfl rfl (decide_eq_false h1) (fun _ ⟨hbk, hb1, _⟩ => R_load1 rfl scl4 (hbk.cell (i := 2) rfl))) ⟨hbk, hb1, trivial⟩ rfl ?_
  refine T_tk (i := 21) rfl (Y_yes rfl rfl rfl (decide_eq_false h1) (fun _ _ => R_field (r := 0) rfl fld65_0 rfl)) ⟨hbk, hb1, trivial⟩ rfl ?_
  refine T_tk (i := 22) rfl (Y_yes rfl rfl rfl (decide_eq_false h1) (fun _ ⟨hbk, hb1, _⟩ => R_load1 rfl scl3 (hb1.cell (i := 0) rfl))) ⟨hbk, hb1, trivial⟩ rfl ?_
  refine T_tk (i := 23) rfl (Y_yes rfl rfl rfl (decide_eq_false h1) (fun _ _ => R_eql rfl rfl)) ⟨hbk, hb1, trivial⟩ rfl ?_
  refine T_tk (i := 24) rfl (Y_yes rfl rfl rfl (decide_eq_false h1) (fun _ _ => R_eqv (R_eqlB rfl rfl boo4) (v' := .bool (decide (¬ (kd = 5)))) (congrArg _ (by simp)))) ⟨hbk, hb1, trivial⟩ rfl ?_
  refine T_tk (i := 25) rfl (Y_of (fun _ _ => R_pickF rfl (decide_eq_false h1) rfl)) ⟨hbk, hb1, trivial⟩ rfl ?_
  refine T_done (by kernel_rfl) (CalmE.normal ?_)
  refine N_then ?_
  refine C_ifN rfl (fun h2 => ?_) (fun h2 => ?_)
  ·refine C_seq (C_reg rfl ?_)
   refine L_run (R_assign rfl) rfl ?_
   refine L_nil (N_then (C_ret (R_then ?_)))
   refine ret1 Try.results40 rfl ?_
   exact ⟨hB, bF (by omega), fun q_ => by omega⟩
  ·refine C_skip (N_then (C_seq (C_seq (C_reg rfl ?_))))
   refine L_run (R_field (r := 0) rfl fld65_0 rfl) rfl ?_
   refine L_run (R_load1 rfl scl3 (hb1.cell (i := 0) rfl)) rfl ?_
   refine L_nil (N_then (C_block (C_seq (C_reg rfl ?_))))
   refine L_run (R_eql rfl rfl) rfl ?_
   refine L_run (R_assign rfl) rfl ?_
   refine L_nil (N_then (C_condT rfl (decide_eq_true h2) ?_))
   refine C_draw2 rfl mix ?_
   intro w3 hs3 hz3
   replace hB := gb_tr hB hs3
   replace hbk := hbk.gb hs3
   replace hE := own_gb hE hs3
   replace hD := hD.gb hs3
   replace hJ := hJn _ _ hJ hs3
   replace hlt_ := Nat.le_trans hlt_ hs3.size
   replace hb1 := hb1.gb hs3
   refine ⟨fun W_ => Blk W_ g1 65 [.int .i64 kd, .int .i64 2, .int .i64 lsn, .int .i64 pv, .slice da data.length dc] ∧ True, [0, 1, 2, 3, 4, 5, 6, 7, 8, 10, 11, 12], ?_⟩
   refine T_tk (i := 0) rfl (Y_of (fun _ _ => R_move rfl)) ⟨hb1, trivial⟩ rfl ?_
   refine T_tk (i := 1) rfl (Y_of (fun _ _ => R_field (r := 1) rfl fld65_1 rfl)) ⟨hb1, trivial⟩ rfl ?_
   refine T_tk (i := 2) rfl (Y_of (fun _ ⟨hb1, _⟩ => R_load1 rfl scl3 (hb1.cell (i := 1) rfl))) ⟨hb1, trivial⟩ rfl ?_
   refine T_tk (i := 3) rfl (Y_of (fun _ _ => R_move rfl)) ⟨hb1, trivial⟩ rfl ?_
   refine T_tk (i := 4) rfl (Y_of (fun _ _ => R_field (r := 1) rfl fld65_1 rfl)) ⟨hb1, trivial⟩ rfl ?_
   refine T_tk (i := 5) rfl (Y_of (fun _ ⟨hb1, _⟩ => R_load1 rfl scl3 (hb1.cell (i := 1) rfl))) ⟨hb1, trivial⟩ rfl ?_
   refine T_tk (i := 6) rfl (Y_of (fun _ _ => R_nilck rfl)) ⟨hb1, trivial⟩ rfl ?_
   refine T_tk (i := 7) rfl (Y_of (fun _ _ => R_field (r := 0) rfl fld104_0 rfl)) ⟨hb1, trivial⟩ rfl ?_
   refine T_tk (i := 8) rfl (Y_of (fun _ _ => R_indexArr (sz := 1) (i := 2) (r := 2) rfl rfl (by first | rfl | omega) arr101 (by omega) (by omega))) ⟨hb1, trivial⟩ rfl ?_
   refine T_tk (i := 10) rfl (Y_of (fun _ _ => R_nilck rfl)) ⟨hb1, trivial⟩ rfl ?_
   refine T_tk (i := 11) rfl (Y_of (fun _ _ => R_field (r := 4) rfl fld104_1 rfl)) ⟨hb1, trivial⟩ rfl ?_
   refine T_all (rs := [9]) (by kernel_rfl) rfl (all1 (O_one rfl ?_))
   refine L_st1 rfl rfl rfl sz4 hbk rfl ?_
   intro w4 hb2 hs4 hz4
   replace hB := gb_trg hB hs4 gp0
   replace hE := own_other hE hbk rfl hs4
   replace hD := hD.old hs4 gp0
   replace hJ := hJb _ _ _ hJ hbk hs4
   replace hlt_ := Nat.le_trans hlt_ hs4.size
   replace hb1 := hb1.grown hs4 (ne_gt lt1)
   refine L_nil (N_then ⟨fun hN_ => ⟨hb1, trivial⟩, ?_⟩)
   refine T_tk (i := 12) rfl (Y_of (fun _ _ => R_indexArr (sz := 1) (i := 2) (r := 6) rfl rfl (by first | rfl | omega) arr102 (by omega) (by omega))) ⟨hb1, trivial⟩ rfl ?_
   refine T_switch (S' := fun _ => True) (qs' := []) (by kernel_rfl) ?_
   refine T_all (rs := [13]) (by kernel_rfl) rfl (all1 (O_one rfl ?_))
   refine L_st1 rfl rfl rfl sz25 hb2 rfl ?_
   intro w5 hb3 hs5 hz5
   replace hB := gb_trg hB hs5 gp0
   replace hE := own_other hE hb2 rfl hs5
   replace hD := hD.old hs5 gp0
   replace hJ := hJb _ _ _ hJ hb2 hs5
   replace hlt_ := Nat.le_trans hlt_ hs5.size
   replace hb1 := hb1.grown hs5 (ne_gt lt1)
   refine L_nil (N_then ⟨fun hN_ => trivial, ?_⟩)
   refine T_done (by kernel_rfl) (CalmE.normal ?_)
   refine N_in (N_then (C_seq (C_reg rfl ?_)))
   refine L_run (R_assign rfl) rfl ?_
   refine L_nil (N_then (C_ret ?_))
   refine ret1 Try.results40 rfl ?_
   exact ⟨hB, bT (by omega), fun _ => ⟨hJ, hb3, (own_lo hE (Nat.le_refl _))⟩⟩

theorem one_3o {w wa : World} {gp : Nat} {b0 b1 b2 b3 : Bool} {A0 A1 A2 A3 Ao da : Option Addr} {n0 n1 n2 n3 c0 c1 c2 c3 co dc : Nat} {xs : List Chg} {E : List Ent} {kd lsn pv : Int} {data : List UInt8} (hB : w.grownBy wa none) (gp0 : w.heap.size ≤ gp) (hbk : Blk wa gp 104 [.bool b0, .bool b1, .bool b2, .bool true, .slice A0 n0 c0, .slice A1 n1 c1, .slice A2 n2 c2, .slice A3 xs.length c3, .slice Ao E.length co]) (hE : wa.ownsRow w.heap.size 28 3 (.slice Ao E.length co) E.length (fl encEn E)) (hD0 : Sli 0 0 w.heap.size w da (fl encB data)) (hd6 : data.length ≤ 600) (hdc : data.length ≤ dc) (hE1 : E.length ≤ 1000) (hx1 : xs.length ≤ 1000) (hoK : wa.ownsRow w.heap.size 34 6 (.slice A3 xs.length c3) xs.length (fl encC xs)) {J : World → Prop} (hJ : J wa) (hJn : ∀ w w', J w → w.grownBy w' none → J w') (hJb : ∀ w w' cs, J w → Blk w gp 104 cs → w.grownBy w' (some gp) → J w') (hJf : ∀ w w' g T cs, J w → Blk w g T cs → wa.heap.size ≤ g → w.grownBy w' (some g) → J w') (hJk : ∀ w w', J w → w.grownBy w' (Value.slice A3 xs.length c3).ownBlock → J w') (hJe : ∀ w1 w2 v n vs, J w1 → w1.ownsRow w.heap.size 28 3 v n vs → w1.grownBy w2 v.ownBlock → J w2) :
    Runs Try.prog 40 #[.pointer (some ⟨gp, 0, none⟩), .agg #[.int .i64 kd, .int .i64 3, .int .i64 lsn, .int .i64 pv, .slice da data.length dc]] wa (fun v_ w' => w.grownBy w' none ∧ ((v_ = .bool false ∧ ¬ (1 ≤ lsn ∧ 6 ≤ kd ∧ kd ≤ 9 ∧ ((kd = 6 ∨ kd = 7) → (dec data).2 = 0))) ∨ (v_ = .bool true ∧ 1 ≤ lsn ∧ J w' ∧ (((kd = 6 ∨ kd = 7) ∧ (dec data).2 = 0 ∧ ∃ A' c', Blk w' gp 104 [.bool b0, .bool b1, .bool b2, .bool true, .slice A0 n0 c0, .slice A1 n1 c1, .slice A2 n2 c2, .slice A' ((xs ++ [(dec data).1]).length) c', .slice Ao E.length co] ∧ w'.ownsRow w.heap.size 28 3 (.slice Ao E.length co) E.length (fl encEn E) ∧ w'.ownsRow w.heap.size 34 6 (.slice A' (xs ++ [(dec data).1]).length c') (xs ++ [(dec data).1]).length (fl encC (xs ++ [(dec data).1])) ∧ ((Value.slice A' 0 0).ownBlock = (Value.slice A3 0 0).ownBlock ∨ ∀ k, (Value.slice A' 0 0).ownBlock = some k → wa.heap.size ≤ k)) ∨ (kd = 8 ∧ ∃ A' c', Blk w' gp 104 [.bool b0, .bool b1, .bool b2, .bool false, .slice A0 n0 c0, .slice A1 n1 c1, .slice A2 n2 c2, .slice A3 xs.length c3, .slice A' ((E ++ [(⟨lsn, 3, A3, c3, xs⟩ : Ent)]).length) c'] ∧ w'.ownsRow w.heap.size 28 3 (.slice A' (E ++ [(⟨lsn, 3, A3, c3, xs⟩ : Ent)]).length c') (E ++ [(⟨lsn, 3, A3, c3, xs⟩ : Ent)]).length (fl encEn (E ++ [(⟨lsn, 3, A3, c3, xs⟩ : Ent)])) ∧ w'.ownsRow w.heap.size 34 6 (.slice A3 xs.length c3) xs.length (fl encC xs)) ∨ (kd = 9 ∧ Blk w' gp 104 [.bool b0, .bool b1, .bool b2, .bool false, .slice A0 n0 c0, .slice A1 n1 c1, .slice A2 n2 c2, .slice A3 xs.length c3, .slice Ao E.length co] ∧ w'.ownsRow w.heap.size 28 3 (.slice Ao E.length co) E.length (fl encEn E) ∧ w'.ownsRow w.heap.size 34 6 (.slice A3 xs.length c3) xs.length (fl encC xs)))))) := by
 have hD := hD0.gb hB
 have hlt_ : wa.heap.size ≤ wa.heap.size := Nat.le_refl _
 refine enter Try.func40 Try.ntmps40 rfl rfl ?_
 refine C_seq (C_reg rfl ?_)
 refine L_box (cs := [.int .i64 kd, .int .i64 3, .int .i64 lsn, .int .i64 pv, .slice da data.length dc]) rfl rfl rfl ?_
 intro g1 w1 eg1 hb1 hs1 hz1
 have ge1 : w.heap.size ≤ g1 := eg_ge hB eg1
 have lw1 : wa.heap.size ≤ g1 := (Eq.symm eg1) ▸ hlt_
 have lt1 : gp < g1 := lt_of_eg hbk.lt eg1
 replace hB := gb_tr hB hs1
 replace hbk := hbk.gb hs1
 replace hE := own_gb hE hs1
 replace hD := hD.gb hs1
 replace hJ := hJn _ _ hJ hs1
 replace hlt_ := Nat.le_trans hlt_ hs1.size
 replace hoK := own_gb hoK hs1
 refine L_run (R_assign rfl) rfl ?_
 refine L_nil (N_then (C_seq (C_seq ?_)))
 refine C_draw2 rfl mix ?_
 intro w2 hs2 hz2
 replace hB := gb_tr hB hs2
 replace hbk := hbk.gb hs2
 replace hE := own_gb hE hs2
 replace hD := hD.gb hs2
 replace hJ := hJn _ _ hJ hs2
 replace hlt_ := Nat.le_trans hlt_ hs2.size
 replace hoK := own_gb hoK hs2
 replace hb1 := hb1.gb hs2
 refine ⟨fun W_ => Blk W_ gp 104 [.bool b0, .bool b1, .bool b2, .bool true, .slice A0 n0 c0, .slice A1 n1 c1, .slice A2 n2 c2, .slice A3 xs.length c3, .slice Ao E.length co] ∧ Blk W_ g1 65 [.int .i64 kd, .int .i64 3, .int .i64 lsn, .int .i64 pv, .slice da data.length dc] ∧ True, [0, 1, 2, 3, 4, 5, 6, 7, 8, 9, 10, 11, 12, 13, 14, 15, 16, 17, 18, 19, 20, 21, 22, 23, 24, 25], ?_⟩
 refine T_tk (i := 0) rfl (Y_of (fun _ _ => R_field (r := 1) rfl fld65_1 rfl)) ⟨hbk, hb1, trivial⟩ rfl ?_
 refine T_tk (i := 1) rfl (Y_of (fun _ ⟨hbk, hb1, _⟩ => R_load1 rfl scl3 (hb1.cell (i := 1) rfl))) ⟨hbk, hb1, trivial⟩ rfl ?_
 refine T_tk (i := 2) rfl (Y_of (fun _ _ => R_eqv (R_lss rfl rfl) (v' := .bool false) rfl)) ⟨hbk, hb1, trivial⟩ rfl ?_
 refine T_tk (i := 3) rfl (Y_of (fun _ _ => R_move rfl)) ⟨hbk, hb1, trivial⟩ rfl ?_
 refine T_tk (i := 4) rfl (Y_yes rfl rfl rfl rfl (fun _ _ => R_field (r := 1) rfl fld65_1 rfl)) ⟨hbk, hb1, trivial⟩ rfl ?_
 refine T_tk (i := 5) rfl (Y_yes rfl rfl rfl rfl (fun _ ⟨hbk, hb1, _⟩ => R_load1 rfl scl3 (hb1.cell (i := 1) rfl))) ⟨hbk, hb1, trivial⟩ rfl ?_
 refine T_tk (i := 6) rfl (Y_yes rfl rfl rfl rfl (fun _ _ => R_eqv (R_gtr rfl rfl) (v' := .bool false) rfl)) ⟨hbk, hb1, trivial⟩ rfl ?_
 refine T_tk (i := 7) rfl (Y_of (fun _ _ => R_pickF rfl rfl rfl)) ⟨hbk, hb1, trivial⟩ rfl ?_
 refine T_tk (i := 8) rfl (Y_of (fun _ _ => R_move rfl)) ⟨hbk, hb1, trivial⟩ rfl ?_
 refine T_tk (i := 9) rfl (Y_yes rfl rfl rfl rfl (fun _ _ => R_field (r := 2) rfl fld65_2 rfl)) ⟨hbk, hb1, trivial⟩ rfl ?_
 refine T_tk (i := 10) rfl (Y_yes rfl rfl rfl rfl (fun _ ⟨hbk, hb1, _⟩ => R_load1 rfl scl3 (hb1.cell (i := 2) rfl))) ⟨hbk, hb1, trivial⟩ rfl ?_
 refine T_tk (i := 11) rfl (Y_yes rfl rfl rfl rfl (fun _ _ => R_lss rfl rfl)) ⟨hbk, hb1, trivial⟩ rfl ?_
 refine T_tk (i := 12) rfl (Y_of (fun _ _ => R_pickF rfl rfl rfl)) ⟨hbk, hb1, trivial⟩ rfl ?_
 refine T_tk (i := 13) rfl (Y_of (fun _ _ => R_move rfl)) ⟨hbk, hb1, trivial⟩ rfl ?_
 by_cases h1 : lsn < 1
 ·refine T_tk (i := 14) rfl (Y_no rfl rfl rfl (decide_eq_true h1)) ⟨hbk, hb1, trivial⟩ rfl ?_
  refine T_tk (i := 15) rfl (Y_no rfl rfl rfl (decide_eq_true h1)) ⟨hbk, hb1, trivial⟩ rfl ?_
  refine T_tk (i := 16) rfl (Y_no rfl rfl rfl (decide_eq_true h1)) ⟨hbk, hb1, trivial⟩ rfl ?_
  refine T_tk (i := 17) rfl (Y_no rfl rfl rfl (decide_eq_true h1)) ⟨hbk, hb1, trivial⟩ rfl ?_
  refine T_tk (i := 18) rfl (Y_no rfl rfl rfl (decide_eq_true h1)) ⟨hbk, hb1, trivial⟩ rfl ?_
  refine T_tk (i := 19) rfl (Y_no rfl rfl rfl (decide_eq_true h1)) ⟨hbk, hb1, trivial⟩ rfl ?_
  refine T_tk (i := 20) rfl (Y_no rfl rfl rfl (decide_eq_true h1)) ⟨hbk, hb1, trivial⟩ rfl ?_
  refine T_tk (i := 21) rfl (Y_no rfl rfl rfl (decide_eq_true h1)) ⟨hbk, hb1, trivial⟩ rfl ?_
  refine T_tk (i := 22) rfl (Y_no rfl rfl rfl (decide_eq_true h1)) ⟨hbk, hb1, trivial⟩ rfl ?_
  refine T_tk (i := 23) rfl (Y_no rfl rfl rfl (decide_eq_true h1)) ⟨hbk, hb1, trivial⟩ rfl ?_
  refine T_tk (i := 24) rfl (Y_no rfl rfl rfl (decide_eq_true h1)) ⟨hbk, hb1, trivial⟩ rfl ?_
  refine T_tk (i := 25) rfl (Y_of (fun _ _ => R_pickT rfl (decide_eq_true h1) rfl)) ⟨hbk, hb1, trivial⟩ rfl ?_
  refine T_done (by kernel_rfl) (CalmE.normal ?_)
  refine N_then (C_condT rfl rfl (C_seq (C_reg rfl ?_)))
  refine L_run (R_assign rfl) rfl ?_
  refine L_nil (N_then (C_ret (R_then ?_)))
  refine ret1 Try.results40 rfl ?_
  exact ⟨hB, .inl ⟨rfl, fun q_ => by have h_ := q_.2.2.2; omega⟩⟩
 ·refine T_tk (i := 14) rfl (Y_yes rfl rfl rfl (decide_eq_false h1) (fun _ _ => R_move rfl)) ⟨hbk, hb1, trivial⟩ rfl ?_
  refine T_tk (i := 15) rfl (Y_yes rfl rfl rfl (decide_eq_false h1) (fun _ _ => R_field (r := 1) rfl fld65_1 rfl)) ⟨hbk, hb1, trivial⟩ rfl ?_
  refine T_tk (i := 16) rfl (Y_yes rfl rfl rfl (decide_eq_false h1) (fun _ ⟨hbk, hb1, _⟩ => R_load1 rfl scl3 (hb1.cell (i := 1) rfl))) ⟨hbk, hb1, trivial⟩ rfl ?_
  refine T_tk (i := 17) rfl (Y_yes rfl rfl rfl (decide_eq_false h1) (fun _ _ => R_nilck rfl)) ⟨hbk, hb1, trivial⟩ rfl ?_
  refine T_tk (i := 18) rfl (Y_yes rfl rfl rfl (decide_eq_false h1) (fun _ _ => R_field (r := 0) rfl fld104_0 rfl)) ⟨hbk, hb1, trivial⟩ rfl ?_
  refine T_tk (i := 19) rfl (Y_yes rfl rfl rfl (decide_eq_false h1) (fun _ _ => R_indexArr (sz := 1) (i := 3) (r := 3) rfl rfl (by first | rfl | omega) arr101 (by omega) (by omega))) ⟨hbk, hb1, trivial⟩ rfl ?_
  refine T_tk (i := 20) rfl (Y_yes rfl rfl rfl (decide_eq_false h1) (fun _ ⟨hbk, hb1, _⟩ => R_load1 rfl scl4 (hbk.cell (i := 3) rfl))) ⟨hbk, hb1, trivial⟩ rfl ?_
  refine T_tk (i := 21) rfl (Y_yes rfl rfl rfl (decide_eq_false h1) (fun _ _ => R_field (r := 0) rfl fld65_0 rfl)) ⟨hbk, hb1, trivial⟩ rfl ?_
  refine T_tk (i := 22) rfl (Y_yes rfl rfl rfl (decide_eq_false h1) (fun _ ⟨hbk, hb1, _⟩ => R_load1 rfl scl3 (hb1.cell (i := 0) rfl))) ⟨hbk, hb1, trivial⟩ rfl ?_
  refine T_tk (i := 23) rfl (Y_yes rfl rfl rfl (decide_eq_false h1) (fun _ _ => R_eql rfl rfl)) ⟨hbk, hb1, trivial⟩ rfl ?_
  refine T_tk (i := 24) rfl (Y_yes rfl rfl rfl (decide_eq_false h1) (fun _ _ => R_eqv (R_eqlB rfl rfl boo4) (v' := .bool (decide (kd = 5))) (congrArg _ (by simp)))) ⟨hbk, hb1, trivial⟩ rfl ?_
  refine T_tk (i := 25) rfl (Y_of (fun _ _ => R_pickF rfl (decide_eq_false h1) rfl)) ⟨hbk, hb1, trivial⟩ rfl ?_
  refine T_done (by kernel_rfl) (CalmE.normal ?_)
  refine N_then ?_
  refine C_if rfl (fun h2 => ?_) (fun h2 => ?_)
  ·refine C_seq (C_reg rfl ?_)
   refine L_run (R_assign rfl) rfl ?_
   refine L_nil (N_then (C_ret (R_then ?_)))
   refine ret1 Try.results40 rfl ?_
   exact ⟨hB, .inl ⟨rfl, fun q_ => by have h_ := q_.2.2.2; omega⟩⟩
  ·refine C_skip (N_then (C_seq (C_seq (C_reg rfl ?_))))
   refine L_run (R_field (r := 0) rfl fld65_0 rfl) rfl ?_
   refine L_run (R_load1 rfl scl3 (hb1.cell (i := 0) rfl)) rfl ?_
   refine L_nil (N_then (C_block (C_seq (C_reg rfl ?_))))
   refine L_run (R_eql rfl rfl) rfl ?_
   refine L_run (R_assign rfl) rfl ?_
   refine L_nil (N_then (C_condF rfl (decide_eq_false h2) (C_seq (C_seq (C_reg rfl ?_)))))
   refine L_run (R_eql rfl rfl) rfl ?_
   refine L_run (R_assign rfl) rfl ?_
   refine L_nil (N_then ?_)
   refine C_if rfl (fun h3 => ?_) (fun h3 => ?_)
   ·refine C_skip (N_then (C_condT rfl (decide_eq_true h3) (C_seq (C_reg rfl ?_))))
    refine L_run (R_field (r := 4) rfl fld65_4 rfl) rfl ?_
    refine L_run (R_load1 rfl scl63 (hb1.cell (i := 4) rfl)) rfl ?_
    refine L_call rfl cb44 (txdec_ok (bs := data) hD (by omega) hdc) rfl ?_
    rintro _ w3 ⟨hs3, rfl⟩
    replace hB := gb_tr hB hs3
    replace hbk := hbk.gb hs3
    replace hE := own_gb hE hs3
    replace hD := hD.gb hs3
    replace hJ := hJn _ _ hJ hs3
    replace hlt_ := Nat.le_trans hlt_ hs3.size
    replace hoK := own_gb hoK hs3
    replace hb1 := hb1.gb hs3
    refine L_run (R_move rfl) rfl ?_
    refine L_run (R_extract rfl rfl) rfl ?_
    refine L_run (R_extract rfl rfl) rfl ?_
    refine L_alloc (cs := [.string (⟨#[]⟩), .bool false, .bool false, .string (⟨#[]⟩), .string (⟨#[]⟩), .int .i64 0]) zer34 rfl rfl ?_
    intro g2 w4 eg2 hb2 hs4 hz3
    have ge2 : w.heap.size ≤ g2 := eg_ge hB eg2
    have lw2 : wa.heap.size ≤ g2 := (Eq.symm eg2) ▸ hlt_
    have lt2 : gp < g2 := lt_of_eg hbk.lt eg2
    have lt3 : g1 < g2 := lt_of_eg hb1.lt eg2
    have hap1 : ∀ k_, (Value.slice A3 xs.length c3).ownBlock = some k_ → k_ ≠ g2 := fun k_ hk => by have h_ := (World.ownsRow.lt hoK k_ hk).2; omega
    replace hB := gb_tr hB hs4
    replace hbk := hbk.gb hs4
    replace hE := own_gb hE hs4
    replace hD := hD.gb hs4
    replace hJ := hJn _ _ hJ hs4
    replace hlt_ := Nat.le_trans hlt_ hs4.size
    replace hoK := own_gb hoK hs4
    replace hb1 := hb1.gb hs4
    refine L_stA (vs := [.string (((dec data).1).key), .bool (((dec data).1).was), .bool (((dec data).1).is), .string (((dec data).1).old), .string (((dec data).1).new), .int .i64 (((dec data).1).next)]) rfl rfl rfl sz34 rfl hb2 rfl ?_
    intro w5 hb3 hs5 hz4
    replace hB := gb_trg hB hs5 ge2
    replace hbk := hbk.grown hs5 (ne_lt lt2)
    replace hE := own_other hE hb2 rfl hs5
    replace hD := hD.old hs5 ge2
    replace hJ := hJf _ _ _ _ _ hJ hb2 (by omega) hs5
    replace hlt_ := Nat.le_trans hlt_ hs5.size
    replace hoK := hoK.kept hs5 (.inr (fun e_ => hap1 _ e_ rfl))
    replace hb1 := hb1.grown hs5 (ne_lt lt3)
    refine L_run (R_assign rfl) rfl ?_
    refine L_nil (N_then (C_seq (C_seq (C_reg rfl ?_))))
    refine L_run (R_move rfl) rfl ?_
    refine L_run (R_neq rfl rfl) rfl ?_
    refine L_nil (N_then ?_)
    refine C_if rfl (fun h4 => ?_) (fun h4 => ?_)
    ·refine C_seq (C_reg rfl ?_)
     refine L_run (R_assign rfl) rfl ?_
     refine L_nil (N_then (C_ret (R_then (R_in (R_then ?_)))))
     refine ret1 Try.results40 rfl ?_
     exact ⟨hB, .inl ⟨rfl, fun q_ => by have h_ := q_.2.2.2; omega⟩⟩
    ·refine C_skip (N_then ?_)
     refine C_draw2 rfl mix ?_
     intro w6 hs6 hz5
     replace hB := gb_tr hB hs6
     replace hbk := hbk.gb hs6
     replace hE := own_gb hE hs6
     replace hD := hD.gb hs6
     replace hJ := hJn _ _ hJ hs6
     replace hlt_ := Nat.le_trans hlt_ hs6.size
     replace hoK := own_gb hoK hs6
     replace hb1 := hb1.gb hs6
     replace hb3 := hb3.gb hs6
     refine ⟨fun W_ => Blk W_ gp 104 [.bool b0, .bool b1, .bool b2, .bool true, .slice A0 n0 c0, .slice A1 n1 c1, .slice A2 n2 c2, .slice A3 xs.length c3, .slice Ao E.length co] ∧ Blk W_ g1 65 [.int .i64 kd, .int .i64 3, .int .i64 lsn, .int .i64 pv, .slice da data.length dc] ∧ Blk W_ g2 34 [.string (((dec data).1).key), .bool (((dec data).1).was), .bool (((dec data).1).is), .string (((dec data).1).old), .string (((dec data).1).new), .int .i64 (((dec data).1).next)] ∧ True, [0, 1, 2, 3, 4, 5, 6, 7, 8, 9, 10, 13, 14, 15], ?_⟩
     refine T_tk (i := 0) rfl (Y_of (fun _ _ => R_move rfl)) ⟨hbk, hb1, hb3, trivial⟩ rfl ?_
     refine T_tk (i := 1) rfl (Y_of (fun _ _ => R_field (r := 1) rfl fld65_1 rfl)) ⟨hbk, hb1, hb3, trivial⟩ rfl ?_
     refine T_tk (i := 2) rfl (Y_of (fun _ ⟨hbk, hb1, hb3, _⟩ => R_load1 rfl scl3 (hb1.cell (i := 1) rfl))) ⟨hbk, hb1, hb3, trivial⟩ rfl ?_
     refine T_tk (i := 3) rfl (Y_of (fun _ _ => R_move rfl)) ⟨hbk, hb1, hb3, trivial⟩ rfl ?_
     refine T_tk (i := 4) rfl (Y_of (fun _ _ => R_field (r := 1) rfl fld65_1 rfl)) ⟨hbk, hb1, hb3, trivial⟩ rfl ?_
     refine T_tk (i := 5) rfl (Y_of (fun _ ⟨hbk, hb1, hb3, _⟩ => R_load1 rfl scl3 (hb1.cell (i := 1) rfl))) ⟨hbk, hb1, hb3, trivial⟩ rfl ?_
     refine T_tk (i := 6) rfl (Y_of (fun _ _ => R_nilck rfl)) ⟨hbk, hb1, hb3, trivial⟩ rfl ?_
     refine T_tk (i := 7) rfl (Y_of (fun _ _ => R_field (r := 4) rfl fld104_1 rfl)) ⟨hbk, hb1, hb3, trivial⟩ rfl ?_
     refine T_tk (i := 8) rfl (Y_of (fun _ _ => R_indexArr (sz := 1) (i := 3) (r := 7) rfl rfl (by first | rfl | omega) arr102 (by omega) (by omega))) ⟨hbk, hb1, hb3, trivial⟩ rfl ?_
     refine T_tk (i := 9) rfl (Y_of (fun _ ⟨hbk, hb1, hb3, _⟩ => R_load1 rfl scl25 (hbk.cell (i := 7) rfl))) ⟨hbk, hb1, hb3, trivial⟩ rfl ?_
     refine T_tk (i := 10) rfl (Y_of (fun _ ⟨hbk, hb1, hb3, _⟩ => R_loadA (vs := [.string (((dec data).1).key), .bool (((dec data).1).was), .bool (((dec data).1).is), .string (((dec data).1).old), .string (((dec data).1).new), .int .i64 (((dec data).1).next)]) rfl agg34 (At.pre (hb3.at_ 0) rfl) rfl)) ⟨hbk, hb1, hb3, trivial⟩ rfl ?_
     refine T_tk (i := 13) rfl (Y_of (fun _ _ => R_nilck rfl)) ⟨hbk, hb1, hb3, trivial⟩ rfl ?_
     refine T_tk (i := 14) rfl (Y_of (fun _ _ => R_field (r := 4) rfl fld104_1 rfl)) ⟨hbk, hb1, hb3, trivial⟩ rfl ?_
     refine T_all (rs := [11]) (by kernel_rfl) rfl (all1 (O_one rfl ?_))
     refine L_buildSlice (pv := [(0, .agg #[.string (((dec data).1).key), .bool (((dec data).1).was), .bool (((dec data).1).is), .string (((dec data).1).old), .string (((dec data).1).new), .int .i64 (((dec data).1).next)])]) (cs := [.string (((dec data).1).key), .bool (((dec data).1).was), .bool (((dec data).1).is), .string (((dec data).1).old), .string (((dec data).1).new), .int .i64 (((dec data).1).next)]) slc25 zer34 rfl rfl (by kernel_rfl) rfl ?_
     intro g3 w7 eg3 hb4 hs7 hz6
     have ge3 : w.heap.size ≤ g3 := eg_ge hB eg3
     have lw3 : wa.heap.size ≤ g3 := (Eq.symm eg3) ▸ hlt_
     have lt4 : gp < g3 := lt_of_eg hbk.lt eg3
     have lt5 : g1 < g3 := lt_of_eg hb1.lt eg3
     have lt6 : g2 < g3 := lt_of_eg hb3.lt eg3
     have hap2 : ∀ k_, (Value.slice A3 xs.length c3).ownBlock = some k_ → k_ ≠ g3 := fun k_ hk => by have h_ := (World.ownsRow.lt hoK k_ hk).2; omega
     replace hB := gb_tr hB hs7
     replace hbk := hbk.gb hs7
     replace hE := own_gb hE hs7
     replace hD := hD.gb hs7
     replace hJ := hJn _ _ hJ hs7
     replace hlt_ := Nat.le_trans hlt_ hs7.size
     replace hoK := own_gb hoK hs7
     replace hb1 := hb1.gb hs7
     replace hb3 := hb3.gb hs7
     refine L_nil (N_then ⟨fun hN_ => ⟨hbk, hb1, hb3, trivial⟩, ?_⟩)
     refine T_all (rs := [12]) (by kernel_rfl) rfl (all1 (O_one rfl ?_))
     have hap0_ := hlt_
     refine T_append (xs := xs) (ys := [(⟨((dec data).1).key, ((dec data).1).was, ((dec data).1).is, ((dec data).1).old, ((dec data).1).new, ((dec data).1).next⟩ : Chg)]) EncC slc25 rfl rfl hoK (Blk.sli (m := 0) hb4) (by simp; omega) (by have := hB.size; omega) rfl ?_
     intro A_1 c_1 w8 ho1 hs8 hat1
     have lt7 := hb3.lt
     replace hB := gb_tro hB hoK hs8 (Nat.le_refl _)
     replace hbk := blk_own hbk hoK rfl hs8
     replace hE := hE.kept hs8 (own_type_ne' hE hoK rfl)
     replace hD := hD.grown hs8 (fun k hk => .inr (Nat.le_trans (Nat.le_refl _) (World.ownsRow.lt hoK k hk).1))
     replace hJ := hJk _ _ hJ hs8
     replace hlt_ := Nat.le_trans hlt_ hs8.size
     replace hb1 := blk_own hb1 hoK rfl hs8
     replace hb3 := hb3.grown hs8 (fun e_ => hap1 _ e_.symm rfl)
     have hap3 : ∀ k_, (Value.slice A_1 (xs ++ ([(⟨((dec data).1).key, ((dec data).1).was, ((dec data).1).is, ((dec data).1).old, ((dec data).1).new, ((dec data).1).next⟩ : Chg)])).length c_1).ownBlock = some k_ → k_ ≠ g2 := fun k_ hk => by rcases hat1 with h_ | h_ <;> rw [h_] at hk <;> first | exact hap1 k_ hk | (injection hk with hk; omega)
     refine L_nil (N_then ⟨fun hN_ => ⟨hbk, hb1, hb3, trivial⟩, ?_⟩)
     refine T_tk (i := 15) rfl (Y_of (fun _ _ => R_indexArr (sz := 1) (i := 3) (r := 7) rfl rfl (by first | rfl | omega) arr102 (by omega) (by omega))) ⟨hbk, hb1, hb3, trivial⟩ rfl ?_
     refine T_switch (S' := fun _ => True) (qs' := []) (by kernel_rfl) ?_
     refine T_all (rs := [16]) (by kernel_rfl) rfl (all1 (O_one rfl ?_))
     refine L_st1 rfl rfl rfl sz25 hbk rfl ?_
     intro w9 hb5 hs9 hz7
     replace hB := gb_trg hB hs9 gp0
     replace hE := own_other hE hbk rfl hs9
     replace hD := hD.old hs9 gp0
     replace hJ := hJb _ _ _ hJ hbk hs9
     replace hlt_ := Nat.le_trans hlt_ hs9.size
     replace hb1 := hb1.grown hs9 (ne_gt lt1)
     replace hb3 := hb3.grown hs9 (ne_gt lt2)
     replace ho1 := own_other ho1 hbk rfl hs9
     refine L_nil (N_then ⟨fun hN_ => trivial, ?_⟩)
     refine T_done (by kernel_rfl) (CalmE.normal ?_)
     refine N_in (N_then (C_seq (C_reg rfl ?_)))
     refine L_run (R_assign rfl) rfl ?_
     refine L_nil (N_then (C_ret ?_))
     refine ret1 Try.results40 rfl ?_
     have hsame_ := hat1.imp (fun h_ => (ob_n.symm.trans h_).trans ob_n) (fun h_ => (fun k_ hk_ => by have h2_ := (ob_n.symm.trans h_).symm.trans hk_; injection h2_; omega : ∀ k, (Value.slice A_1 0 0).ownBlock = some k → wa.heap.size ≤ k))
     exact ⟨hB, .inr ⟨rfl, by omega, hJ, .inl ⟨by omega, by omega, _, _, hb5, (own_lo hE (Nat.le_refl _)), (own_lo ho1 (Nat.le_refl _)), hsame_⟩⟩⟩
   ·refine C_reg rfl ?_
    refine L_run (R_eql rfl rfl) rfl ?_
    refine L_run (R_assign rfl) rfl ?_
    refine L_nil (N_then ?_)
    refine C_if rfl (fun h5 => ?_) (fun h5 => ?_)
    ·refine C_seq (C_reg rfl ?_)
     refine L_run (R_field (r := 4) rfl fld65_4 rfl) rfl ?_
     refine L_run (R_load1 rfl scl63 (hb1.cell (i := 4) rfl)) rfl ?_
     refine L_call rfl cb44 (txdec_ok (bs := data) hD (by omega) hdc) rfl ?_
     rintro _ w10 ⟨hs10, rfl⟩
     replace hB := gb_tr hB hs10
     replace hbk := hbk.gb hs10
     replace hE := own_gb hE hs10
     replace hD := hD.gb hs10
     replace hJ := hJn _ _ hJ hs10
     replace hlt_ := Nat.le_trans hlt_ hs10.size
     replace hoK := own_gb hoK hs10
     replace hb1 := hb1.gb hs10
     refine L_run (R_move rfl) rfl ?_
     refine L_run (R_extract rfl rfl) rfl ?_
     refine L_run (R_extract rfl rfl) rfl ?_
     refine L_alloc (cs := [.string (⟨#[]⟩), .bool false, .bool false, .string (⟨#[]⟩), .string (⟨#[]⟩), .int .i64 0]) zer34 rfl rfl ?_
     intro g4 w11 eg4 hb6 hs11 hz8
     have ge4 : w.heap.size ≤ g4 := eg_ge hB eg4
     have lw4 : wa.heap.size ≤ g4 := (Eq.symm eg4) ▸ hlt_
     have lt8 : gp < g4 := lt_of_eg hbk.lt eg4
     have lt9 : g1 < g4 := lt_of_eg hb1.lt eg4
     have hap4 : ∀ k_, (Value.slice A3 xs.length c3).ownBlock = some k_ → k_ ≠ g4 := fun k_ hk => by have h_ := (World.ownsRow.lt hoK k_ hk).2; omega
     replace hB := gb_tr hB hs11
     replace hbk := hbk.gb hs11
     replace hE := own_gb hE hs11
     replace hD := hD.gb hs11
     replace hJ := hJn _ _ hJ hs11
     replace hlt_ := Nat.le_trans hlt_ hs11.size
     replace hoK := own_gb hoK hs11
     replace hb1 := hb1.gb hs11
     refine L_stA (vs := [.string (((dec data).1).key), .bool (((dec data).1).was), .bool (((dec data).1).is), .string (((dec data).1).old), .string (((dec data).1).new), .int .i64 (((dec data).1).next)]) rfl rfl rfl sz34 rfl hb6 rfl ?_
     intro w12 hb7 hs12 hz9
     replace hB := gb_trg hB hs12 ge4
     replace hbk := hbk.grown hs12 (ne_lt lt8)
     replace hE := own_other hE hb6 rfl hs12
     replace hD := hD.old hs12 ge4
     replace hJ := hJf _ _ _ _ _ hJ hb6 (by omega) hs12
     replace hlt_ := Nat.le_trans hlt_ hs12.size
     replace hoK := hoK.kept hs12 (.inr (fun e_ => hap4 _ e_ rfl))
     replace hb1 := hb1.grown hs12 (ne_lt lt9)
     refine L_run (R_assign rfl) rfl ?_
     refine L_nil (N_then (C_seq (C_seq (C_reg rfl ?_))))
     refine L_run (R_move rfl) rfl ?_
     refine L_run (R_neq rfl rfl) rfl ?_
     refine L_nil (N_then ?_)
     refine C_if rfl (fun h6 => ?_) (fun h6 => ?_)
     ·refine C_seq (C_reg rfl ?_)
      refine L_run (R_assign rfl) rfl ?_
      refine L_nil (N_then (C_ret (R_then (R_in (R_then ?_)))))
      refine ret1 Try.results40 rfl ?_
      exact ⟨hB, .inl ⟨rfl, fun q_ => by have h_ := q_.2.2.2; omega⟩⟩
     ·refine C_skip (N_then ?_)
      refine C_draw2 rfl mix ?_
      intro w13 hs13 hz10
      replace hB := gb_tr hB hs13
      replace hbk := hbk.gb hs13
      replace hE := own_gb hE hs13
      replace hD := hD.gb hs13
      replace hJ := hJn _ _ hJ hs13
      replace hlt_ := Nat.le_trans hlt_ hs13.size
      replace hoK := own_gb hoK hs13
      replace hb1 := hb1.gb hs13
      replace hb7 := hb7.gb hs13
      refine ⟨fun W_ => Blk W_ gp 104 [.bool b0, .bool b1, .bool b2, .bool true, .slice A0 n0 c0, .slice A1 n1 c1, .slice A2 n2 c2, .slice A3 xs.length c3, .slice Ao E.length co] ∧ Blk W_ g1 65 [.int .i64 kd, .int .i64 3, .int .i64 lsn, .int .i64 pv, .slice da data.length dc] ∧ Blk W_ g4 34 [.string (((dec data).1).key), .bool (((dec data).1).was), .bool (((dec data).1).is), .string (((dec data).1).old), .string (((dec data).1).new), .int .i64 (((dec data).1).next)] ∧ True, [0, 1, 2, 3, 4, 5, 6, 7, 8, 9, 10, 13, 14, 15], ?_⟩
      refine T_tk (i := 0) rfl (Y_of (fun _ _ => R_move rfl)) ⟨hbk, hb1, hb7, trivial⟩ rfl ?_
      refine T_tk (i := 1) rfl (Y_of (fun _ _ => R_field (r := 1) rfl fld65_1 rfl)) ⟨hbk, hb1, hb7, trivial⟩ rfl ?_
      refine T_tk (i := 2) rfl (Y_of (fun _ ⟨hbk, hb1, hb7, _⟩ => R_load1 rfl scl3 (hb1.cell (i := 1) rfl))) ⟨hbk, hb1, hb7, trivial⟩ rfl ?_
      refine T_tk (i := 3) rfl (Y_of (fun _ _ => R_move rfl)) ⟨hbk, hb1, hb7, trivial⟩ rfl ?_
      refine T_tk (i := 4) rfl (Y_of (fun _ _ => R_field (r := 1) rfl fld65_1 rfl)) ⟨hbk, hb1, hb7, trivial⟩ rfl ?_
      refine T_tk (i := 5) rfl (Y_of (fun _ ⟨hbk, hb1, hb7, _⟩ => R_load1 rfl scl3 (hb1.cell (i := 1) rfl))) ⟨hbk, hb1, hb7, trivial⟩ rfl ?_
      refine T_tk (i := 6) rfl (Y_of (fun _ _ => R_nilck rfl)) ⟨hbk, hb1, hb7, trivial⟩ rfl ?_
      refine T_tk (i := 7) rfl (Y_of (fun _ _ => R_field (r := 4) rfl fld104_1 rfl)) ⟨hbk, hb1, hb7, trivial⟩ rfl ?_
      refine T_tk (i := 8) rfl (Y_of (fun _ _ => R_indexArr (sz := 1) (i := 3) (r := 7) rfl rfl (by first | rfl | omega) arr102 (by omega) (by omega))) ⟨hbk, hb1, hb7, trivial⟩ rfl ?_
      refine T_tk (i := 9) rfl (Y_of (fun _ ⟨hbk, hb1, hb7, _⟩ => R_load1 rfl scl25 (hbk.cell (i := 7) rfl))) ⟨hbk, hb1, hb7, trivial⟩ rfl ?_
      refine T_tk (i := 10) rfl (Y_of (fun _ ⟨hbk, hb1, hb7, _⟩ => R_loadA (vs := [.string (((dec data).1).key), .bool (((dec data).1).was), .bool (((dec data).1).is), .string (((dec data).1).old), .string (((dec data).1).new), .int .i64 (((dec data).1).next)]) rfl agg34 (At.pre (hb7.at_ 0) rfl) rfl)) ⟨hbk, hb1, hb7, trivial⟩ rfl ?_
      refine T_tk (i := 13) rfl (Y_of (fun _ _ => R_nilck rfl)) ⟨hbk, hb1, hb7, trivial⟩ rfl ?_
      refine T_tk (i := 14) rfl (Y_of (fun _ _ => R_field (r := 4) rfl fld104_1 rfl)) ⟨hbk, hb1, hb7, trivial⟩ rfl ?_
      refine T_all (rs := [11]) (by kernel_rfl) rfl (all1 (O_one rfl ?_))
      refine L_buildSlice (pv := [(0, .agg #[.string (((dec data).1).key), .bool (((dec data).1).was), .bool (((dec data).1).is), .string (((dec data).1).old), .string (((dec data).1).new), .int .i64 (((dec data).1).next)])]) (cs := [.string (((dec data).1).key), .bool (((dec data).1).was), .bool (((dec data).1).is), .string (((dec data).1).old), .string (((dec data).1).new), .int .i64 (((dec data).1).next)]) slc25 zer34 rfl rfl (by kernel_rfl) rfl ?_
      intro g5 w14 eg5 hb8 hs14 hz11
      have ge5 : w.heap.size ≤ g5 := eg_ge hB eg5
      have lw5 : wa.heap.size ≤ g5 := (Eq.symm eg5) ▸ hlt_
      have lt10 : gp < g5 := lt_of_eg hbk.lt eg5
      have lt11 : g1 < g5 := lt_of_eg hb1.lt eg5
      have lt12 : g4 < g5 := lt_of_eg hb7.lt eg5
      have hap5 : ∀ k_, (Value.slice A3 xs.length c3).ownBlock = some k_ → k_ ≠ g5 := fun k_ hk => by have h_ := (World.ownsRow.lt hoK k_ hk).2; omega
      replace hB := gb_tr hB hs14
      replace hbk := hbk.gb hs14
      replace hE := own_gb hE hs14
      replace hD := hD.gb hs14
      replace hJ := hJn _ _ hJ hs14
      replace hlt_ := Nat.le_trans hlt_ hs14.size
      replace hoK := own_gb hoK hs14
      replace hb1 := hb1.gb hs14
      replace hb7 := hb7.gb hs14
      refine L_nil (N_then ⟨fun hN_ => ⟨hbk, hb1, hb7, trivial⟩, ?_⟩)
      refine T_all (rs := [12]) (by kernel_rfl) rfl (all1 (O_one rfl ?_))
      have hap0_ := hlt_
      refine T_append (xs := xs) (ys := [(⟨((dec data).1).key, ((dec data).1).was, ((dec data).1).is, ((dec data).1).old, ((dec data).1).new, ((dec data).1).next⟩ : Chg)]) EncC slc25 rfl rfl hoK (Blk.sli (m := 0) hb8) (by simp; omega) (by have := hB.size; omega) rfl ?_
      intro A_2 c_2 w15 ho2 hs15 hat2
      have lt13 := hb7.lt
      replace hB := gb_tro hB hoK hs15 (Nat.le_refl _)
      replace hbk := blk_own hbk hoK rfl hs15
      replace hE := hE.kept hs15 (own_type_ne' hE hoK rfl)
      replace hD := hD.grown hs15 (fun k hk => .inr (Nat.le_trans (Nat.le_refl _) (World.ownsRow.lt hoK k hk).1))
      replace hJ := hJk _ _ hJ hs15
      replace hlt_ := Nat.le_trans hlt_ hs15.size
      replace hb1 := blk_own hb1 hoK rfl hs15
      replace hb7 := hb7.grown hs15 (fun e_ => hap4 _ e_.symm rfl)
      have hap6 : ∀ k_, (Value.slice A_2 (xs ++ ([(⟨((dec data).1).key, ((dec data).1).was, ((dec data).1).is, ((dec data).1).old, ((dec data).1).new, ((dec data).1).next⟩ : Chg)])).length c_2).ownBlock = some k_ → k_ ≠ g4 := fun k_ hk => by rcases hat2 with h_ | h_ <;> rw [h_] at hk <;> first | exact hap4 k_ hk | (injection hk with hk; omega)
      refine L_nil (N_then ⟨fun hN_ => ⟨hbk, hb1, hb7, trivial⟩, ?_⟩)
      refine T_tk (i := 15) rfl (Y_of (fun _ _ => R_indexArr (sz := 1) (i := 3) (r := 7) rfl rfl (by first | rfl | omega) arr102 (by omega) (by omega))) ⟨hbk, hb1, hb7, trivial⟩ rfl ?_
      refine T_switch (S' := fun _ => True) (qs' := []) (by kernel_rfl) ?_
      refine T_all (rs := [16]) (by kernel_rfl) rfl (all1 (O_one rfl ?_))
      refine L_st1 rfl rfl rfl sz25 hbk rfl ?_
      intro w16 hb9 hs16 hz12
      replace hB := gb_trg hB hs16 gp0
      replace hE := own_other hE hbk rfl hs16
      replace hD := hD.old hs16 gp0
      replace hJ := hJb _ _ _ hJ hbk hs16
      replace hlt_ := Nat.le_trans hlt_ hs16.size
      replace hb1 := hb1.grown hs16 (ne_gt lt1)
      replace hb7 := hb7.grown hs16 (ne_gt lt8)
      replace ho2 := own_other ho2 hbk rfl hs16
      refine L_nil (N_then ⟨fun hN_ => trivial, ?_⟩)
      refine T_done (by kernel_rfl) (CalmE.normal ?_)
      refine N_in (N_then (C_seq (C_reg rfl ?_)))
      refine L_run (R_assign rfl) rfl ?_
      refine L_nil (N_then (C_ret ?_))
      refine ret1 Try.results40 rfl ?_
      have hsame_ := hat2.imp (fun h_ => (ob_n.symm.trans h_).trans ob_n) (fun h_ => (fun k_ hk_ => by have h2_ := (ob_n.symm.trans h_).symm.trans hk_; injection h2_; omega : ∀ k, (Value.slice A_2 0 0).ownBlock = some k → wa.heap.size ≤ k))
      exact ⟨hB, .inr ⟨rfl, by omega, hJ, .inl ⟨by omega, by omega, _, _, hb9, (own_lo hE (Nat.le_refl _)), (own_lo ho2 (Nat.le_refl _)), hsame_⟩⟩⟩
    ·refine C_seq (C_reg rfl ?_)
     refine L_run (R_eql rfl rfl) rfl ?_
     refine L_run (R_assign rfl) rfl ?_
     refine L_nil (N_then ?_)
     refine C_if rfl (fun h7 => ?_) (fun h7 => ?_)
     ·refine C_seq ?_
      refine C_draw2 rfl mix ?_
      intro w17 hs17 hz13
      replace hB := gb_tr hB hs17
      replace hbk := hbk.gb hs17
      replace hE := own_gb hE hs17
      replace hD := hD.gb hs17
      replace hJ := hJn _ _ hJ hs17
      replace hlt_ := Nat.le_trans hlt_ hs17.size
      replace hoK := own_gb hoK hs17
      replace hb1 := hb1.gb hs17
      refine ⟨fun W_ => Blk W_ gp 104 [.bool b0, .bool b1, .bool b2, .bool true, .slice A0 n0 c0, .slice A1 n1 c1, .slice A2 n2 c2, .slice A3 xs.length c3, .slice Ao E.length co] ∧ Blk W_ g1 65 [.int .i64 kd, .int .i64 3, .int .i64 lsn, .int .i64 pv, .slice da data.length dc] ∧ True, [0, 1, 2, 3, 4, 5, 6, 7, 8, 9, 10, 11, 12, 13, 14, 15, 16, 19, 20], ?_⟩
      refine T_tk (i := 0) rfl (Y_of (fun _ _ => R_move rfl)) ⟨hbk, hb1, trivial⟩ rfl ?_
      refine T_tk (i := 1) rfl (Y_of (fun _ _ => R_move rfl)) ⟨hbk, hb1, trivial⟩ rfl ?_
      refine T_tk (i := 2) rfl (Y_of (fun _ _ => R_nilck rfl)) ⟨hbk, hb1, trivial⟩ rfl ?_
      refine T_tk (i := 3) rfl (Y_of (fun _ _ => R_field (r := 8) rfl fld104_2 rfl)) ⟨hbk, hb1, trivial⟩ rfl ?_
      refine T_tk (i := 4) rfl (Y_of (fun _ ⟨hbk, hb1, _⟩ => R_load1 rfl scl24 (hbk.cell (i := 8) rfl))) ⟨hbk, hb1, trivial⟩ rfl ?_
      refine T_tk (i := 5) rfl (Y_of (fun _ _ => R_field (r := 2) rfl fld65_2 rfl)) ⟨hbk, hb1, trivial⟩ rfl ?_
      refine T_tk (i := 6) rfl (Y_of (fun _ ⟨hbk, hb1, _⟩ => R_load1 rfl scl3 (hb1.cell (i := 2) rfl))) ⟨hbk, hb1, trivial⟩ rfl ?_
      refine T_tk (i := 7) rfl (Y_of (fun _ _ => R_field (r := 1) rfl fld65_1 rfl)) ⟨hbk, hb1, trivial⟩ rfl ?_
      refine T_tk (i := 8) rfl (Y_of (fun _ ⟨hbk, hb1, _⟩ => R_load1 rfl scl3 (hb1.cell (i := 1) rfl))) ⟨hbk, hb1, trivial⟩ rfl ?_
      refine T_tk (i := 9) rfl (Y_of (fun _ _ => R_move rfl)) ⟨hbk, hb1, trivial⟩ rfl ?_
      refine T_tk (i := 10) rfl (Y_of (fun _ _ => R_field (r := 1) rfl fld65_1 rfl)) ⟨hbk, hb1, trivial⟩ rfl ?_
      refine T_tk (i := 11) rfl (Y_of (fun _ ⟨hbk, hb1, _⟩ => R_load1 rfl scl3 (hb1.cell (i := 1) rfl))) ⟨hbk, hb1, trivial⟩ rfl ?_
      refine T_tk (i := 12) rfl (Y_of (fun _ _ => R_nilck rfl)) ⟨hbk, hb1, trivial⟩ rfl ?_
      refine T_tk (i := 13) rfl (Y_of (fun _ _ => R_field (r := 4) rfl fld104_1 rfl)) ⟨hbk, hb1, trivial⟩ rfl ?_
      refine T_tk (i := 14) rfl (Y_of (fun _ _ => R_indexArr (sz := 1) (i := 3) (r := 7) rfl rfl (by first | rfl | omega) arr102 (by omega) (by omega))) ⟨hbk, hb1, trivial⟩ rfl ?_
      refine T_tk (i := 15) rfl (Y_of (fun _ ⟨hbk, hb1, _⟩ => R_load1 rfl scl25 (hbk.cell (i := 7) rfl))) ⟨hbk, hb1, trivial⟩ rfl ?_
      refine T_tk (i := 16) rfl (Y_of (fun _ _ => R_build (pv := [(0, .int .i64 lsn), (1, .int .i64 3), (2, .slice A3 xs.length c3)]) (cs := [.int .i64 lsn, .int .i64 3, .slice A3 xs.length c3]) rfl (by kernel_rfl))) ⟨hbk, hb1, trivial⟩ rfl ?_
      refine T_all (rs := [17]) (by kernel_rfl) rfl (all1 (O_one rfl ?_))
      refine L_buildSlice (pv := [(0, .agg #[.int .i64 lsn, .int .i64 3, .slice A3 xs.length c3])]) (cs := [.int .i64 lsn, .int .i64 3, .slice A3 xs.length c3]) slc24 zer28 rfl rfl (by kernel_rfl) rfl ?_
      intro g6 w18 eg6 hb10 hs18 hz14
      have ge6 : w.heap.size ≤ g6 := eg_ge hB eg6
      have lw6 : wa.heap.size ≤ g6 := (Eq.symm eg6) ▸ hlt_
      have lt14 : gp < g6 := lt_of_eg hbk.lt eg6
      have lt15 : g1 < g6 := lt_of_eg hb1.lt eg6
      have hap7 : ∀ k_, (Value.slice Ao E.length co).ownBlock = some k_ → k_ ≠ g6 := fun k_ hk => by have h_ := (World.ownsRow.lt hE k_ hk).2; omega
      replace hB := gb_tr hB hs18
      replace hbk := hbk.gb hs18
      replace hE := own_gb hE hs18
      replace hD := hD.gb hs18
      replace hJ := hJn _ _ hJ hs18
      replace hlt_ := Nat.le_trans hlt_ hs18.size
      replace hoK := own_gb hoK hs18
      replace hb1 := hb1.gb hs18
      refine L_nil (N_then ⟨fun hN_ => ⟨hbk, hb1, trivial⟩, ?_⟩)
      refine T_all (rs := [18]) (by kernel_rfl) rfl (all1 (O_one rfl ?_))
      refine T_append (xs := E) (ys := [(⟨lsn, 3, A3, c3, xs⟩ : Ent)]) EncEn slc24 rfl rfl hE (Blk.sli (m := 0) hb10) (by simp; omega) (by have := hB.size; omega) rfl ?_
      intro A_3 c_3 w19 ho3 hs19 hat3
      replace hB := gb_tro hB hE hs19 (Nat.le_refl _)
      replace hbk := blk_own hbk hE rfl hs19
      replace hD := hD.grown hs19 (fun k hk => .inr (Nat.le_trans (Nat.le_refl _) (World.ownsRow.lt hE k hk).1))
      replace hJ := hJe _ _ _ _ _ hJ hE hs19
      replace hlt_ := Nat.le_trans hlt_ hs19.size
      replace hoK := hoK.kept hs19 (own_type_ne' hoK hE rfl)
      replace hb1 := blk_own hb1 hE rfl hs19
      refine L_nil (N_then ⟨fun hN_ => ⟨hbk, hb1, trivial⟩, ?_⟩)
      refine T_tk (i := 19) rfl (Y_of (fun _ _ => R_nilck rfl)) ⟨hbk, hb1, trivial⟩ rfl ?_
      refine T_tk (i := 20) rfl (Y_of (fun _ _ => R_field (r := 8) rfl fld104_2 rfl)) ⟨hbk, hb1, trivial⟩ rfl ?_
      refine T_switch (S' := fun _ => True) (qs' := []) (by kernel_rfl) ?_
      refine T_all (rs := [21]) (by kernel_rfl) rfl (all1 (O_one rfl ?_))
      refine L_st1 rfl rfl rfl sz24 hbk rfl ?_
      intro w20 hb11 hs20 hz15
      replace hB := gb_trg hB hs20 gp0
      replace hD := hD.old hs20 gp0
      replace hJ := hJb _ _ _ hJ hbk hs20
      replace hlt_ := Nat.le_trans hlt_ hs20.size
      replace hoK := own_other hoK hbk rfl hs20
      replace hb1 := hb1.grown hs20 (ne_gt lt1)
      replace ho3 := own_other ho3 hbk rfl hs20
      refine L_nil (N_then ⟨fun hN_ => trivial, ?_⟩)
      refine T_done (by kernel_rfl) (CalmE.normal ?_)
      refine N_then ?_
      refine C_draw2 rfl mix ?_
      intro w21 hs21 hz16
      replace hB := gb_tr hB hs21
      replace hb11 := hb11.gb hs21
      replace hD := hD.gb hs21
      replace hJ := hJn _ _ hJ hs21
      replace hlt_ := Nat.le_trans hlt_ hs21.size
      replace hoK := own_gb hoK hs21
      replace hb1 := hb1.gb hs21
      replace ho3 := own_gb ho3 hs21
      refine ⟨fun W_ => Blk W_ g1 65 [.int .i64 kd, .int .i64 3, .int .i64 lsn, .int .i64 pv, .slice da data.length dc] ∧ True, [0, 1, 2, 3, 4, 5], ?_⟩
      refine T_tk (i := 0) rfl (Y_of (fun _ _ => R_move rfl)) ⟨hb1, trivial⟩ rfl ?_
      refine T_tk (i := 1) rfl (Y_of (fun _ _ => R_field (r := 1) rfl fld65_1 rfl)) ⟨hb1, trivial⟩ rfl ?_
      refine T_tk (i := 2) rfl (Y_of (fun _ ⟨hb1, _⟩ => R_load1 rfl scl3 (hb1.cell (i := 1) rfl))) ⟨hb1, trivial⟩ rfl ?_
      refine T_tk (i := 3) rfl (Y_of (fun _ _ => R_nilck rfl)) ⟨hb1, trivial⟩ rfl ?_
      refine T_tk (i := 4) rfl (Y_of (fun _ _ => R_field (r := 0) rfl fld104_0 rfl)) ⟨hb1, trivial⟩ rfl ?_
      refine T_tk (i := 5) rfl (Y_of (fun _ _ => R_indexArr (sz := 1) (i := 3) (r := 3) rfl rfl (by first | rfl | omega) arr101 (by omega) (by omega))) ⟨hb1, trivial⟩ rfl ?_
      refine T_switch (S' := fun _ => True) (qs' := []) (by kernel_rfl) ?_
      refine T_all (rs := [6]) (by kernel_rfl) rfl (all1 (O_one rfl ?_))
      refine L_st1 rfl rfl rfl sz4 hb11 rfl ?_
      intro w22 hb12 hs22 hz17
      replace hB := gb_trg hB hs22 gp0
      replace hD := hD.old hs22 gp0
      replace hJ := hJb _ _ _ hJ hb11 hs22
      replace hlt_ := Nat.le_trans hlt_ hs22.size
      replace hoK := own_other hoK hb11 rfl hs22
      replace hb1 := hb1.grown hs22 (ne_gt lt1)
      replace ho3 := own_other ho3 hb11 rfl hs22
      refine L_nil (N_then ⟨fun hN_ => trivial, ?_⟩)
      refine T_done (by kernel_rfl) (CalmE.normal ?_)
      refine N_in (N_then (C_seq (C_reg rfl ?_)))
      refine L_run (R_assign rfl) rfl ?_
      refine L_nil (N_then (C_ret ?_))
      refine ret1 Try.results40 rfl ?_
      exact ⟨hB, .inr ⟨rfl, by omega, hJ, .inr (.inl ⟨by omega, _, _, hb12, (own_lo ho3 (Nat.le_refl _)), (own_lo hoK (Nat.le_refl _))⟩)⟩⟩
     ·refine C_seq (C_reg rfl ?_)
      refine L_run (R_eql rfl rfl) rfl ?_
      refine L_run (R_assign rfl) rfl ?_
      refine L_nil (N_then ?_)
      refine C_if rfl (fun h8 => ?_) (fun h8 => ?_)
      ·refine C_draw2 rfl mix ?_
       intro w23 hs23 hz18
       replace hB := gb_tr hB hs23
       replace hbk := hbk.gb hs23
       replace hE := own_gb hE hs23
       replace hD := hD.gb hs23
       replace hJ := hJn _ _ hJ hs23
       replace hlt_ := Nat.le_trans hlt_ hs23.size
       replace hoK := own_gb hoK hs23
       replace hb1 := hb1.gb hs23
       refine ⟨fun W_ => Blk W_ g1 65 [.int .i64 kd, .int .i64 3, .int .i64 lsn, .int .i64 pv, .slice da data.length dc] ∧ True, [0, 1, 2, 3, 4, 5], ?_⟩
       refine T_tk (i := 0) rfl (Y_of (fun _ _ => R_move rfl)) ⟨hb1, trivial⟩ rfl ?_
       refine T_tk (i := 1) rfl (Y_of (fun _ _ => R_field (r := 1) rfl fld65_1 rfl)) ⟨hb1, trivial⟩ rfl ?_
       refine T_tk (i := 2) rfl (Y_of (fun _ ⟨hb1, _⟩ => R_load1 rfl scl3 (hb1.cell (i := 1) rfl))) ⟨hb1, trivial⟩ rfl ?_
       refine T_tk (i := 3) rfl (Y_of (fun _ _ => R_nilck rfl)) ⟨hb1, trivial⟩ rfl ?_
       refine T_tk (i := 4) rfl (Y_of (fun _ _ => R_field (r := 0) rfl fld104_0 rfl)) ⟨hb1, trivial⟩ rfl ?_
       refine T_tk (i := 5) rfl (Y_of (fun _ _ => R_indexArr (sz := 1) (i := 3) (r := 3) rfl rfl (by first | rfl | omega) arr101 (by omega) (by omega))) ⟨hb1, trivial⟩ rfl ?_
       refine T_switch (S' := fun _ => True) (qs' := []) (by kernel_rfl) ?_
       refine T_all (rs := [6]) (by kernel_rfl) rfl (all1 (O_one rfl ?_))
       refine L_st1 rfl rfl rfl sz4 hbk rfl ?_
       intro w24 hb13 hs24 hz19
       replace hB := gb_trg hB hs24 gp0
       replace hE := own_other hE hbk rfl hs24
       replace hD := hD.old hs24 gp0
       replace hJ := hJb _ _ _ hJ hbk hs24
       replace hlt_ := Nat.le_trans hlt_ hs24.size
       replace hoK := own_other hoK hbk rfl hs24
       replace hb1 := hb1.grown hs24 (ne_gt lt1)
       refine L_nil (N_then ⟨fun hN_ => trivial, ?_⟩)
       refine T_done (by kernel_rfl) (CalmE.normal ?_)
       refine N_in (N_then (C_seq (C_reg rfl ?_)))
       refine L_run (R_assign rfl) rfl ?_
       refine L_nil (N_then (C_ret ?_))
       refine ret1 Try.results40 rfl ?_
       exact ⟨hB, .inr ⟨rfl, by omega, hJ, .inr (.inr ⟨by omega, hb13, (own_lo hE (Nat.le_refl _)), (own_lo hoK (Nat.le_refl _))⟩)⟩⟩
      ·refine C_seq (C_reg rfl ?_)
       refine L_run (R_assign rfl) rfl ?_
       refine L_nil (N_then (C_ret (R_in (R_then ?_))))
       refine ret1 Try.results40 rfl ?_
       exact ⟨hB, .inl ⟨rfl, fun q_ => by have h_ := q_.2.2.2; omega⟩⟩

theorem one_3c {w wa : World} {gp : Nat} {b0 b1 b2 b3 : Bool} {A0 A1 A2 A3 Ao da : Option Addr} {n0 n1 n2 n3 c0 c1 c2 c3 co dc : Nat} {xs : List Chg} {E : List Ent} {kd lsn pv : Int} {data : List UInt8} (hB : w.grownBy wa none) (gp0 : w.heap.size ≤ gp) (hbk : Blk wa gp 104 [.bool b0, .bool b1, .bool b2, .bool false, .slice A0 n0 c0, .slice A1 n1 c1, .slice A2 n2 c2, .slice A3 n3 c3, .slice Ao E.length co]) (hE : wa.ownsRow w.heap.size 28 3 (.slice Ao E.length co) E.length (fl encEn E)) (hD0 : Sli 0 0 w.heap.size w da (fl encB data)) (hd6 : data.length ≤ 600) (hdc : data.length ≤ dc) (hE1 : E.length ≤ 1000) (hx1 : xs.length ≤ 1000) {J : World → Prop} (hJ : J wa) (hJn : ∀ w w', J w → w.grownBy w' none → J w') (hJb : ∀ w w' cs, J w → Blk w gp 104 cs → w.grownBy w' (some gp) → J w') (hJf : ∀ w w' g T cs, J w → Blk w g T cs → wa.heap.size ≤ g → w.grownBy w' (some g) → J w') (hJk : ∀ w w', J w → w.grownBy w' (Value.slice none xs.length 0).ownBlock → J w') (hJe : ∀ w1 w2 v n vs, J w1 → w1.ownsRow w.heap.size 28 3 v n vs → w1.grownBy w2 v.ownBlock → J w2) :
    Runs Try.prog 40 #[.pointer (some ⟨gp, 0, none⟩), .agg #[.int .i64 kd, .int .i64 3, .int .i64 lsn, .int .i64 pv, .slice da data.length dc]] wa (fun v_ w' => w.grownBy w' none ∧ v_ = .bool (decide (1 ≤ lsn ∧ kd = 5)) ∧ (1 ≤ lsn ∧ kd = 5 → J w' ∧ Blk w' gp 104 [.bool b0, .bool b1, .bool b2, .bool true, .slice A0 n0 c0, .slice A1 n1 c1, .slice A2 n2 c2, .slice none 0 0, .slice Ao E.length co] ∧ w'.ownsRow w.heap.size 28 3 (.slice Ao E.length co) E.length (fl encEn E))) := by
 have hD := hD0.gb hB
 have hlt_ : wa.heap.size ≤ wa.heap.size := Nat.le_refl _
 refine enter Try.func40 Try.ntmps40 rfl rfl ?_
 refine C_seq (C_reg rfl ?_)
 refine L_box (cs := [.int .i64 kd, .int .i64 3, .int .i64 lsn, .int .i64 pv, .slice da data.length dc]) rfl rfl rfl ?_
 intro g1 w1 eg1 hb1 hs1 hz1
 have ge1 : w.heap.size ≤ g1 := eg_ge hB eg1
 have lw1 : wa.heap.size ≤ g1 := (Eq.symm eg1) ▸ hlt_
 have lt1 : gp < g1 := lt_of_eg hbk.lt eg1
 replace hB := gb_tr hB hs1
 replace hbk := hbk.gb hs1
 replace hE := own_gb hE hs1
 replace hD := hD.gb hs1
 replace hJ := hJn _ _ hJ hs1
 replace hlt_ := Nat.le_trans hlt_ hs1.size
 refine L_run (R_assign rfl) rfl ?_
 refine L_nil (N_then (C_seq (C_seq ?_)))
 refine C_draw2 rfl mix ?_
 intro w2 hs2 hz2
 replace hB := gb_tr hB hs2
 replace hbk := hbk.gb hs2
 replace hE := own_gb hE hs2
 replace hD := hD.gb hs2
 replace hJ := hJn _ _ hJ hs2
 replace hlt_ := Nat.le_trans hlt_ hs2.size
 replace hb1 := hb1.gb hs2
 refine ⟨fun W_ => Blk W_ gp 104 [.bool b0, .bool b1, .bool b2, .bool false, .slice A0 n0 c0, .slice A1 n1 c1, .slice A2 n2 c2, .slice A3 n3 c3, .slice Ao E.length co] ∧ Blk W_ g1 65 [.int .i64 kd, .int .i64 3, .int .i64 lsn, .int .i64 pv, .slice da data.length dc] ∧ True, [0, 1, 2, 3, 4, 5, 6, 7, 8, 9, 10, 11, 12, 13, 14, 15, 16, 17, 18, 19, 20, 21, 22, 23, 24, 25], ?_⟩
 refine T_tk (i := 0) rfl (Y_of (fun _ _ => R_field (r := 1) rfl fld65_1 rfl)) ⟨hbk, hb1, trivial⟩ rfl ?_
 refine T_tk (i := 1) rfl (Y_of (fun _ ⟨hbk, hb1, _⟩ => R_load1 rfl scl3 (hb1.cell (i := 1) rfl))) ⟨hbk, hb1, trivial⟩ rfl ?_
 refine T_tk (i := 2) rfl (Y_of (fun _ _ => R_eqv (R_lss rfl rfl) (v' := .bool false) rfl)) ⟨hbk, hb1, trivial⟩ rfl ?_
 refine T_tk (i := 3) rfl (Y_of (fun _ _ => R_move rfl)) ⟨hbk, hb1, trivial⟩ rfl ?_
 refine T_tk (i := 4) rfl (Y_yes rfl rfl rfl rfl (fun _ _ => R_field (r := 1) rfl fld65_1 rfl)) ⟨hbk, hb1, trivial⟩ rfl ?_
 refine T_tk (i := 5) rfl (Y_yes rfl rfl rfl rfl (fun _ ⟨hbk, hb1, _⟩ => R_load1 rfl scl3 (hb1.cell (i := 1) rfl))) ⟨hbk, hb1, trivial⟩ rfl ?_
 refine T_tk (i := 6) rfl (Y_yes rfl rfl rfl rfl (fun _ _ => R_eqv (R_gtr rfl rfl) (v' := .bool false) rfl)) ⟨hbk, hb1, trivial⟩ rfl ?_
 refine T_tk (i := 7) rfl (Y_of (fun _ _ => R_pickF rfl rfl rfl)) ⟨hbk, hb1, trivial⟩ rfl ?_
 refine T_tk (i := 8) rfl (Y_of (fun _ _ => R_move rfl)) ⟨hbk, hb1, trivial⟩ rfl ?_
 refine T_tk (i := 9) rfl (Y_yes rfl rfl rfl rfl (fun _ _ => R_field (r := 2) rfl fld65_2 rfl)) ⟨hbk, hb1, trivial⟩ rfl ?_
 refine T_tk (i := 10) rfl (Y_yes rfl rfl rfl rfl (fun _ ⟨hbk, hb1, _⟩ => R_load1 rfl scl3 (hb1.cell (i := 2) rfl))) ⟨hbk, hb1, trivial⟩ rfl ?_
 refine T_tk (i := 11) rfl (Y_yes rfl rfl rfl rfl (fun _ _ => R_lss rfl rfl)) ⟨hbk, hb1, trivial⟩ rfl ?_
 refine T_tk (i := 12) rfl (Y_of (fun _ _ => R_pickF rfl rfl rfl)) ⟨hbk, hb1, trivial⟩ rfl ?_
 refine T_tk (i := 13) rfl (Y_of (fun _ _ => R_move rfl)) ⟨hbk, hb1, trivial⟩ rfl ?_
 by_cases h1 : lsn < 1
 ·refine T_tk (i := 14) rfl (Y_no rfl rfl rfl (decide_eq_true h1)) ⟨hbk, hb1, trivial⟩ rfl ?_
  refine T_tk (i := 15) rfl (Y_no rfl rfl rfl (decide_eq_true h1)) ⟨hbk, hb1, trivial⟩ rfl ?_
  refine T_tk (i := 16) rfl (Y_no rfl rfl rfl (decide_eq_true h1)) ⟨hbk, hb1, trivial⟩ rfl ?_
  refine T_tk (i := 17) rfl (Y_no rfl rfl rfl (decide_eq_true h1)) ⟨hbk, hb1, trivial⟩ rfl ?_
  refine T_tk (i := 18) rfl (Y_no rfl rfl rfl (decide_eq_true h1)) ⟨hbk, hb1, trivial⟩ rfl ?_
  refine T_tk (i := 19) rfl (Y_no rfl rfl rfl (decide_eq_true h1)) ⟨hbk, hb1, trivial⟩ rfl ?_
  refine T_tk (i := 20) rfl (Y_no rfl rfl rfl (decide_eq_true h1)) ⟨hbk, hb1, trivial⟩ rfl ?_
  refine T_tk (i := 21) rfl (Y_no rfl rfl rfl (decide_eq_true h1)) ⟨hbk, hb1, trivial⟩ rfl ?_
  refine T_tk (i := 22) rfl (Y_no rfl rfl rfl (decide_eq_true h1)) ⟨hbk, hb1, trivial⟩ rfl ?_
  refine T_tk (i := 23) rfl (Y_no rfl rfl rfl (decide_eq_true h1)) ⟨hbk, hb1, trivial⟩ rfl ?_
  refine T_tk (i := 24) rfl (Y_no rfl rfl rfl (decide_eq_true h1)) ⟨hbk, hb1, trivial⟩ rfl ?_
  refine T_tk (i := 25) rfl (Y_of (fun _ _ => R_pickT rfl (decide_eq_true h1) rfl)) ⟨hbk, hb1, trivial⟩ rfl ?_
  refine T_done (by kernel_rfl) (CalmE.normal ?_)
  refine N_then (C_condT rfl rfl (C_seq (C_reg rfl ?_)))
  refine L_run (R_assign rfl) rfl ?_
  refine L_nil (N_then (C_ret (R_then ?_)))
  refine ret1 Try.results40 rfl ?_
  exact ⟨hB, bF (by omega), fun q_ => by omega⟩
 ·refine T_tk (i := 14) rfl (Y_yes rfl rfl rfl (decide_eq_false h1) (fun _ _ => R_move rfl)) ⟨hbk, hb1, trivial⟩ rfl ?_
  refine T_tk (i := 15) rfl (Y_yes rfl rfl rfl (decide_eq_false h1) (fun _ _ => R_field (r := 1) rfl fld65_1 rfl)) ⟨hbk, hb1, trivial⟩ rfl ?_
  refine T_tk (i := 16) rfl (Y_yes rfl rfl rfl (decide_eq_false h1) (fun _ ⟨hbk, hb1, _⟩ => R_load1 rfl scl3 (hb1.cell (i := 1) rfl))) ⟨hbk, hb1, trivial⟩ rfl ?_
  refine T_tk (i := 17) rfl (Y_yes rfl rfl rfl (decide_eq_false h1) (fun _ _ => R_nilck rfl)) ⟨hbk, hb1, trivial⟩ rfl ?_
  refine T_tk (i := 18) rfl (Y_yes rfl rfl rfl (decide_eq_false h1) (fun _ _ => R_field (r := 0) rfl fld104_0 rfl)) ⟨hbk, hb1, trivial⟩ rfl ?_
  refine T_tk (i := 19) rfl (Y_yes rfl rfl rfl (decide_eq_false h1) (fun _ _ => R_indexArr (sz := 1) (i := 3) (r := 3) rfl rfl (by first | rfl | omega) arr101 (by omega) (by omega))) ⟨hbk, hb1, trivial⟩ rfl ?_
  refine T_tk (i := 20) rfl (Y_yes rfl rfl rfl (decide_eq_false h1) (fun _ ⟨hbk, hb1, _⟩ => R_load1 rfl scl4 (hbk.cell (i := 3) rfl))) ⟨hbk, hb1, trivial⟩ rfl ?_
  refine T_tk (i := 21) rfl (Y_yes rfl rfl rfl (decide_eq_false h1) (fun _ _ => R_field (r := 0) rfl fld65_0 rfl)) ⟨hbk, hb1, trivial⟩ rfl ?_
  refine T_tk (i := 22) rfl (Y_yes rfl rfl rfl (decide_eq_false h1) (fun _ ⟨hbk, hb1, _⟩ => R_load1 rfl scl3 (hb1.cell (i := 0) rfl))) ⟨hbk, hb1, trivial⟩ rfl ?_
  refine T_tk (i := 23) rfl (Y_yes rfl rfl rfl (decide_eq_false h1) (fun _ _ => R_eql rfl rfl)) ⟨hbk, hb1, trivial⟩ rfl ?_
  refine T_tk (i := 24) rfl (Y_yes rfl rfl rfl (decide_eq_false h1) (fun _ _ => R_eqv (R_eqlB rfl rfl boo4) (v' := .bool (decide (¬ (kd = 5)))) (congrArg _ (by simp)))) ⟨hbk, hb1, trivial⟩ rfl ?_
  refine T_tk (i := 25) rfl (Y_of (fun _ _ => R_pickF rfl (decide_eq_false h1) rfl)) ⟨hbk, hb1, trivial⟩ rfl ?_
  refine T_done (by kernel_rfl) (CalmE.normal ?_)
  refine N_then ?_
  refine C_ifN rfl (fun h2 => ?_) (fun h2 => ?_)
  ·refine C_seq (C_reg rfl ?_)
   refine L_run (R_assign rfl) rfl ?_
   refine L_nil (N_then (C_ret (R_then ?_)))
   refine ret1 Try.results40 rfl ?_
   exact ⟨hB, bF (by omega), fun q_ => by omega⟩
  ·refine C_skip (N_then (C_seq (C_seq (C_reg rfl ?_))))
   refine L_run (R_field (r := 0) rfl fld65_0 rfl) rfl ?_
   refine L_run (R_load1 rfl scl3 (hb1.cell (i := 0) rfl)) rfl ?_
   refine L_nil (N_then (C_block (C_seq (C_reg rfl ?_))))
   refine L_run (R_eql rfl rfl) rfl ?_
   refine L_run (R_assign rfl) rfl ?_
   refine L_nil (N_then (C_condT rfl (decide_eq_true h2) ?_))
   refine C_draw2 rfl mix ?_
   intro w3 hs3 hz3
   replace hB := gb_tr hB hs3
   replace hbk := hbk.gb hs3
   replace hE := own_gb hE hs3
   replace hD := hD.gb hs3
   replace hJ := hJn _ _ hJ hs3
   replace hlt_ := Nat.le_trans hlt_ hs3.size
   replace hb1 := hb1.gb hs3
   refine ⟨fun W_ => Blk W_ g1 65 [.int .i64 kd, .int .i64 3, .int .i64 lsn, .int .i64 pv, .slice da data.length dc] ∧ True, [0, 1, 2, 3, 4, 5, 6, 7, 8, 10, 11, 12], ?_⟩
   refine T_tk (i := 0) rfl (Y_of (fun _ _ => R_move rfl)) ⟨hb1, trivial⟩ rfl ?_
   refine T_tk (i := 1) rfl (Y_of (fun _ _ => R_field (r := 1) rfl fld65_1 rfl)) ⟨hb1, trivial⟩ rfl ?_
   refine T_tk (i := 2) rfl (Y_of (fun _ ⟨hb1, _⟩ => R_load1 rfl scl3 (hb1.cell (i := 1) rfl))) ⟨hb1, trivial⟩ rfl ?_
   refine T_tk (i := 3) rfl (Y_of (fun _ _ => R_move rfl)) ⟨hb1, trivial⟩ rfl ?_
   refine T_tk (i := 4) rfl (Y_of (fun _ _ => R_field (r := 1) rfl fld65_1 rfl)) ⟨hb1, trivial⟩ rfl ?_
   refine T_tk (i := 5) rfl (Y_of (fun _ ⟨hb1, _⟩ => R_load1 rfl scl3 (hb1.cell (i := 1) rfl))) ⟨hb1, trivial⟩ rfl ?_
   refine T_tk (i := 6) rfl (Y_of (fun _ _ => R_nilck rfl)) ⟨hb1, trivial⟩ rfl ?_
   refine T_tk (i := 7) rfl (Y_of (fun _ _ => R_field (r := 0) rfl fld104_0 rfl)) ⟨hb1, trivial⟩ rfl ?_
   refine T_tk (i := 8) rfl (Y_of (fun _ _ => R_indexArr (sz := 1) (i := 3) (r := 3) rfl rfl (by first | rfl | omega) arr101 (by omega) (by omega))) ⟨hb1, trivial⟩ rfl ?_
   refine T_tk (i := 10) rfl (Y_of (fun _ _ => R_nilck rfl)) ⟨hb1, trivial⟩ rfl ?_
   refine T_tk (i := 11) rfl (Y_of (fun _ _ => R_field (r := 4) rfl fld104_1 rfl)) ⟨hb1, trivial⟩ rfl ?_
   refine T_all (rs := [9]) (by kernel_rfl) rfl (all1 (O_one rfl ?_))
   refine L_st1 rfl rfl rfl sz4 hbk rfl ?_
   intro w4 hb2 hs4 hz4
   replace hB := gb_trg hB hs4 gp0
   replace hE := own_other hE hbk rfl hs4
   replace hD := hD.old hs4 gp0
   replace hJ := hJb _ _ _ hJ hbk hs4
   replace hlt_ := Nat.le_trans hlt_ hs4.size
   replace hb1 := hb1.grown hs4 (ne_gt lt1)
   refine L_nil (N_then ⟨fun hN_ => ⟨hb1, trivial⟩, ?_⟩)
   refine T_tk (i := 12) rfl (Y_of (fun _ _ => R_indexArr (sz := 1) (i := 3) (r := 7) rfl rfl (by first | rfl | omega) arr102 (by omega) (by omega))) ⟨hb1, trivial⟩ rfl ?_
   refine T_switch (S' := fun _ => True) (qs' := []) (by kernel_rfl) ?_
   refine T_all (rs := [13]) (by kernel_rfl) rfl (all1 (O_one rfl ?_))
   refine L_st1 rfl rfl rfl sz25 hb2 rfl ?_
   intro w5 hb3 hs5 hz5
   replace hB := gb_trg hB hs5 gp0
   replace hE := own_other hE hb2 rfl hs5
   replace hD := hD.old hs5 gp0
   replace hJ := hJb _ _ _ hJ hb2 hs5
   replace hlt_ := Nat.le_trans hlt_ hs5.size
   replace hb1 := hb1.grown hs5 (ne_gt lt1)
   refine L_nil (N_then ⟨fun hN_ => trivial, ?_⟩)
   refine T_done (by kernel_rfl) (CalmE.normal ?_)
   refine N_in (N_then (C_seq (C_reg rfl ?_)))
   refine L_run (R_assign rfl) rfl ?_
   refine L_nil (N_then (C_ret ?_))
   refine ret1 Try.results40 rfl ?_
   exact ⟨hB, bT (by omega), fun _ => ⟨hJ, hb3, (own_lo hE (Nat.le_refl _))⟩⟩

end Go.Proofs.Ytbmohojdlgedpaa
