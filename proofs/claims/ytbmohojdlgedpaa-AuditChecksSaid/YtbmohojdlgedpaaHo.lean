/-
  Contracts of the package audit: a step without an error.
-/
import Derived.Test.YtbmohojdlgedpaaHn
import Derived.Test.YtbmohojdlgedpaaGe
namespace Go.Proofs.Ytbmohojdlgedpaa
open Go.RowKit Gw Pl
set_option linter.unusedVariables false
set_option linter.unusedSimpArgs false
theorem agg86 : aggB Try.prog 86 6 = true := by kernel_rfl
theorem cb69 : callB Try.prog 69 = true := by kernel_rfl
theorem fld87_2 : fldB Try.prog 87 2 2 = true := by kernel_rfl
theorem fld92_0 : fldB Try.prog 92 0 0 = true := by kernel_rfl
theorem fld92_1 : fldB Try.prog 92 1 1 = true := by kernel_rfl
theorem fld92_2 : fldB Try.prog 92 2 2 = true := by kernel_rfl
theorem fld92_3 : fldB Try.prog 92 3 3 = true := by kernel_rfl
theorem scl4 : sclB Try.prog 4 = true := by kernel_rfl
theorem scl51 : sclB Try.prog 51 = true := by kernel_rfl
theorem slc51 : slcB Try.prog 51 3 1 8 = true := by kernel_rfl
theorem sz4 : szB Try.prog 4 1 = true := by kernel_rfl
theorem sz51 : szB Try.prog 51 1 = true := by kernel_rfl
theorem sz90 : szB Try.prog 90 1 = true := by kernel_rfl
theorem zer3 : (Try.prog.info? 3).bind (·.zero) = some (.int .i64 0) := by kernel_rfl
theorem zer80 : (Try.prog.info? 80).bind (·.zero) = some (.slice none 0 0) := by kernel_rfl
def encZ (n : Int) : List Value := [.int .i64 n]
theorem EncZ : Enc encZ 1 := ⟨fun _ => rfl, fun _ => rfl⟩
structure EvD where
  kind : Int
  e : Int
  bat : Int
  syn : Int
  pa : Option Addr
  pc : Nat
  prs : List Kv
def encEv (x : EvD) : List Value := [.int .i64 x.kind, .int .i64 x.e, .int .i64 x.bat, .int .i64 x.syn, .slice x.pa x.prs.length x.pc]
theorem EncEv : Enc encEv 5 := ⟨fun _ => rfl, fun _ => rfl⟩
def DeepV (hi : Nat) (w : World) (l : List EvD) : Prop := ∀ y ∈ l, Sli 0 0 hi w y.pa (fl encK y.prs)
section
variable {hi : Nat} {w w' : World} {l : List EvD}
theorem DeepV.gb (h : DeepV hi w l) (hg : w.grownBy w' none) : DeepV hi w' l := fun y hy => (h y hy).gb hg
theorem DeepV.old {g : Nat} (h : DeepV hi w l) (hg : w.grownBy w' (some g)) (hr : hi ≤ g) : DeepV hi w' l := fun y hy => (h y hy).old hg hr
theorem DeepV.own {base t sz m : Nat} {v : Value} {us : List Value} (h : DeepV hi w l) (ho : w.ownsRow base t sz v m us) (hb : hi ≤ base) (hg : w.grownBy w' v.ownBlock) : DeepV hi w' l := fun y hy => (h y hy).grown hg (fun k hk => .inr (Nat.le_trans hb (World.ownsRow.lt ho k hk).1))
theorem DeepV.getP (h : DeepV hi w l) {i : Nat} (hi' : i < l.length) : Sli 0 0 hi w l[i].pa (fl encK l[i].prs) := h _ (List.getElem_mem _)
theorem DeepV.top (h : DeepV hi w l) : DeepV w.heap.size w l := fun y hy => (h y hy).top
end
def GoodV (W : World) (y : EvD) : Prop := Sli 0 0 W.heap.size W y.pa (fl encK y.prs)
structure BkP where
  l : List OpsD
  syn : Int
  has : Bool
def opsOf (y : StepD) : OpsD := ⟨y.oa, y.oc, y.p.ops⟩
def apH (b : BkP) : List Kv := if b.has = true then apL b.l else []
def FitsB (b : BkP) (e : EvD) : Prop := e.bat = (b.l.length : Int) ∧ e.syn = b.syn ∧ e.prs = apH b
instance (b : BkP) (e : EvD) : Decidable (FitsB b e) := by unfold FitsB; infer_instance
def doneB (b : BkP) (y : StepD) (e : EvD) : BkP :=
  if y.p.kind = 1 then ⟨b.l ++ [opsOf y], b.syn, b.has⟩ else if y.p.kind = 2 ∨ y.p.kind = 3 then ⟨b.l, (b.l.length : Int), b.has⟩
  else if y.p.kind = 4 ∨ y.p.kind = 6 then ⟨b.l.take e.bat.toNat, e.bat, true⟩ else b
def okD (b : BkP) (y : StepD) (e : EvD) : Prop := ((y.p.kind = 4 ∨ y.p.kind = 6) → b.syn ≤ e.bat ∧ e.bat ≤ (b.l.length : Int)) ∧ ((doneB b y e).has = true ∨ y.p.kind = 5)
instance (b : BkP) (y : StepD) (e : EvD) : Decidable (okD b y e) := by unfold okD; infer_instance
def nxt (b : BkP) (y : StepD) (e : EvD) : BkP := if e.e = 0 then doneB b y e else ⟨b.l, b.syn, b.has && !(decide ((y.p.kind = 4 ∨ y.p.kind = 6) ∧ e.e ≠ 13))⟩
def okB (b : BkP) (y : StepD) (e : EvD) : Prop := e.kind = y.p.kind ∧ (sOk y.p ↔ e.e ≠ 13) ∧ (e.e = 0 → okD b y e) ∧ FitsB (nxt b y e) e
instance (b : BkP) (y : StepD) (e : EvD) : Decidable (okB b y e) := by unfold okB; infer_instance
def lostD (b : BkP) (y : StepD) (e : EvD) (lost : List Int) : List Int := if y.p.kind = 4 then lost ++ [(b.l.length : Int) - e.bat] else lost
def lostN (b : BkP) (y : StepD) (e : EvD) (lost : List Int) : List Int := if e.e = 0 then lostD b y e lost else lost
def LostOr (y : StepD) (lost lost' : List Int) : Prop := lost' = lost ∨ (y.p.kind = 4 ∧ ∃ x, lost' = lost ++ [x])
/-- A row of batches: one's own, or full. -/
def RowL (lo : Nat) (w : World) (A : Option Addr) (c : Nat) (xs : List OpsD) : Prop := w.ownsRow lo 80 1 (.slice A xs.length c) xs.length (fl encO2 xs) ∨ (c = xs.length ∧ Sli 80 lo w.heap.size w A (fl encO2 xs))
section
variable {lo : Nat} {w w' : World} {A : Option Addr} {c : Nat} {xs : List OpsD}
theorem RowL.sli (h : RowL lo w A c xs) : Sli 80 lo w.heap.size w A (fl encO2 xs) := by
  rcases h with h | h
  · exact (own_of h).2.2
  · exact h.2
theorem RowL.cap (h : RowL lo w A c xs) : xs.length ≤ c := by
  rcases h with h | h
  · exact own_cap h
  · omega
theorem RowL.gb (h : RowL lo w A c xs) (hg : w.grownBy w' none) : RowL lo w' A c xs := by
  rcases h with h | h
  · exact .inl (own_gb h hg)
  · exact .inr ⟨h.1, (h.2.gb hg).top⟩
theorem RowL.other {g T : Nat} {cs : List Value} (h : RowL lo w A c xs) (hb : Blk w g T cs) (hT : Nat.beq 80 T = false) (hg : w.grownBy w' (some g)) : RowL lo w' A c xs := by
  rcases h with h | h
  · exact .inl (own_other h hb hT hg)
  · exact .inr ⟨h.1, (h.2.other hb rfl hT hg).top⟩
theorem RowL.own {base T sz m : Nat} {v : Value} {us : List Value} (h : RowL lo w A c xs) (ho : w.ownsRow base T sz v m us) (hT : Nat.beq 80 T = false) (hg : w.grownBy w' v.ownBlock) : RowL lo w' A c xs := by
  rcases h with h | h
  · exact .inl (h.kept hg (own_type_ne' h ho hT))
  · exact .inr ⟨h.1, (h.2.otherO ho rfl hT hg).top⟩
end
def BkM (w wa : World) (gb : Nat) (b : BkP) (lost : List Int) : Prop := ∃ A c A2 c2, Blk wa gb 92 [.slice A b.l.length c, .int .i64 b.syn, .bool b.has, .slice A2 lost.length c2] ∧ RowL w.heap.size wa A c b.l ∧ wa.ownsRow w.heap.size 3 1 (.slice A2 lost.length c2) lost.length (fl encZ lost)
theorem take_len {xs : List OpsD} {j : Nat} (h : j ≤ xs.length) : (xs.take j).length = j := by rw [List.length_take]; omega
theorem done_own {w wa : World} {gb : Nat} {b : BkP} {lost : List Int} {y : StepD} {e : EvD} {A A2 : Option Addr} {c c2 : Nat} (hB : w.grownBy wa none) (gb0 : w.heap.size ≤ gb) (hbk : Blk wa gb 92 [.slice A b.l.length c, .int .i64 b.syn, .bool b.has, .slice A2 lost.length c2]) (hX : wa.ownsRow w.heap.size 3 1 (.slice A2 lost.length c2) lost.length (fl encZ lost)) (h0 : 0 ≤ b.syn) (hbl : b.l.length ≤ 1000) (hll : lost.length ≤ 1000) (hL : wa.ownsRow w.heap.size 80 1 (.slice A b.l.length c) b.l.length (fl encO2 b.l)) {J : World → Prop} (hJ : J wa) (hJn : ∀ w w', J w → w.grownBy w' none → J w') (hJf : ∀ w w' g T cs, J w → Blk w g T cs → wa.heap.size ≤ g → w.grownBy w' (some g) → J w') (hJb : ∀ w w' cs, J w → Blk w gb 92 cs → w.grownBy w' (some gb) → J w') (hJl : ∀ w1 w2 v n vs, J w1 → w1.ownsRow w.heap.size 80 1 v n vs → w1.grownBy w2 v.ownBlock → J w2) (hJx : ∀ w1 w2 v n vs, J w1 → w1.ownsRow w.heap.size 3 1 v n vs → w1.grownBy w2 v.ownBlock → J w2) :
    Runs Try.prog 70 #[.pointer (some ⟨gb, 0, none⟩), .agg #[.int .i64 y.p.kind, .int .i64 y.p.n, .slice y.oa y.p.ops.length y.oc, .slice y.ka y.p.keep.length y.kc, .int .i64 y.p.torn, .int .i64 y.p.cut], .agg #[.int .i64 e.kind, .int .i64 e.e, .int .i64 e.bat, .int .i64 e.syn, .slice e.pa e.prs.length e.pc]] wa (fun v_ w' => w.grownBy w' none ∧ J w' ∧ ∃ wr : Int, v_ = .int .i64 wr ∧ ((wr = 0 ∧ okD b y e ∧ BkM w w' gb (doneB b y e) (lostD b y e lost)) ∨ (wr ≠ 0 ∧ (1 ≤ wr ∧ wr ≤ 5) ∧ ¬ okD b y e ∧ ∃ b' lost', BkM w w' gb b' lost' ∧ LostOr y lost lost'))) := by
  refine enter Try.func70 Try.ntmps70 rfl rfl ?_
  refine C_seq (C_reg rfl ?_)
  refine L_box (cs := [.int .i64 y.p.kind, .int .i64 y.p.n, .slice y.oa y.p.ops.length y.oc, .slice y.ka y.p.keep.length y.kc, .int .i64 y.p.torn, .int .i64 y.p.cut]) rfl rfl rfl ?_
  intro g1 w1 eg1 hb1 hs1 hz1
  have ge1 : w.heap.size ≤ g1 := eg_ge hB eg1
  have lt1 : gb < g1 := lt_of_eg hbk.lt eg1
  replace hB := gb_tr hB hs1
  replace hbk := hbk.gb hs1
  replace hX := own_gb hX hs1
  replace hJ := hJn _ _ hJ hs1
  replace hL := own_gb hL hs1
  refine L_box (cs := [.int .i64 e.kind, .int .i64 e.e, .int .i64 e.bat, .int .i64 e.syn, .slice e.pa e.prs.length e.pc]) rfl rfl rfl ?_
  intro g2 w2 eg2 hb2 hs2 hz2
  have ge2 : w.heap.size ≤ g2 := eg_ge hB eg2
  have lt2 : gb < g2 := lt_of_eg hbk.lt eg2
  have lt3 : g1 < g2 := lt_of_eg hb1.lt eg2
  replace hB := gb_tr hB hs2
  replace hbk := hbk.gb hs2
  replace hX := own_gb hX hs2
  replace hJ := hJn _ _ hJ hs2
  replace hL := own_gb hL hs2
  replace hb1 := hb1.gb hs2
  refine L_run (R_assign rfl) rfl ?_
  refine L_nil (N_then (C_seq (C_block (C_seq (C_reg rfl ?_)))))
  refine L_run (R_field (r := 0) rfl fld86_0 rfl) rfl ?_
  refine L_run (R_load1 rfl scl3 (hb1.cell (i := 0) rfl)) rfl ?_
  refine L_run (R_eql rfl rfl) rfl ?_
  refine L_run (R_assign rfl) rfl ?_
  refine L_nil (N_then ?_)
  refine C_if rfl (fun h1 => ?_) (fun h1 => ?_)
  · refine C_draw2 rfl mix ?_
    intro w3 hs3 hz3
    replace hB := gb_tr hB hs3
    replace hbk := hbk.gb hs3
    replace hX := own_gb hX hs3
    replace hJ := hJn _ _ hJ hs3
    replace hL := own_gb hL hs3
    replace hb1 := hb1.gb hs3
    replace hb2 := hb2.gb hs3
    refine ⟨fun W_ => Blk W_ gb 92 [.slice A b.l.length c, .int .i64 b.syn, .bool b.has, .slice A2 lost.length c2] ∧ Blk W_ g1 86 [.int .i64 y.p.kind, .int .i64 y.p.n, .slice y.oa y.p.ops.length y.oc, .slice y.ka y.p.keep.length y.kc, .int .i64 y.p.torn, .int .i64 y.p.cut] ∧ True, [0, 1, 2, 3, 4, 5, 6, 9, 10], ?_⟩
    refine T_takeA (i := 0) rfl (by kernel_rfl) (by kernel_rfl) (by kernel_rfl) (by kernel_rfl) (Y_of (fun _ ⟨hbk, hb1, _⟩ => R_move rfl)) ⟨hbk, hb1, trivial⟩ rfl ?_
    refine T_takeA (i := 1) rfl (by kernel_rfl) (by kernel_rfl) (by kernel_rfl) (by kernel_rfl) (Y_of (fun _ ⟨hbk, hb1, _⟩ => R_move rfl)) ⟨hbk, hb1, trivial⟩ rfl ?_
    refine T_takeA (i := 2) rfl (by kernel_rfl) (by kernel_rfl) (by kernel_rfl) (by kernel_rfl) (Y_of (fun _ ⟨hbk, hb1, _⟩ => R_nilck rfl)) ⟨hbk, hb1, trivial⟩ rfl ?_
    refine T_takeA (i := 3) rfl (by kernel_rfl) (by kernel_rfl) (by kernel_rfl) (by kernel_rfl) (Y_of (fun _ ⟨hbk, hb1, _⟩ => R_field (r := 0) rfl fld92_0 rfl)) ⟨hbk, hb1, trivial⟩ rfl ?_
    refine T_takeA (i := 4) rfl (by kernel_rfl) (by kernel_rfl) (by kernel_rfl) (by kernel_rfl) (Y_of (fun _ ⟨hbk, hb1, _⟩ => R_load1 rfl scl90 (hbk.cell (i := 0) rfl))) ⟨hbk, hb1, trivial⟩ rfl ?_
    refine T_takeA (i := 5) rfl (by kernel_rfl) (by kernel_rfl) (by kernel_rfl) (by kernel_rfl) (Y_of (fun _ ⟨hbk, hb1, _⟩ => R_field (r := 2) rfl fld86_2 rfl)) ⟨hbk, hb1, trivial⟩ rfl ?_
    refine T_takeA (i := 6) rfl (by kernel_rfl) (by kernel_rfl) (by kernel_rfl) (by kernel_rfl) (Y_of (fun _ ⟨hbk, hb1, _⟩ => R_load1 rfl scl80 (hb1.cell (i := 2) rfl))) ⟨hbk, hb1, trivial⟩ rfl ?_
    refine T_all (rs := [7]) (by kernel_rfl) rfl (all1 (O_one rfl ?_))
    refine L_buildSlice (pv := [(0, .slice y.oa y.p.ops.length y.oc)]) (cs := [.slice y.oa y.p.ops.length y.oc]) slc90 zer80 rfl rfl (by kernel_rfl) rfl ?_
    intro g3 w4 eg3 hb3 hs4 hz4
    have ge3 : w.heap.size ≤ g3 := eg_ge hB eg3
    have lt4 : gb < g3 := lt_of_eg hbk.lt eg3
    have lt5 : g1 < g3 := lt_of_eg hb1.lt eg3
    have lt6 : g2 < g3 := lt_of_eg hb2.lt eg3
    have hap1 : ∀ k_, (Value.slice A b.l.length c).ownBlock = some k_ → k_ ≠ g3 := fun k_ hk => by have h_ := (World.ownsRow.lt hL k_ hk).2; omega
    replace hB := gb_tr hB hs4
    replace hbk := hbk.gb hs4
    replace hX := own_gb hX hs4
    replace hJ := hJn _ _ hJ hs4
    replace hL := own_gb hL hs4
    replace hb1 := hb1.gb hs4
    replace hb2 := hb2.gb hs4
    refine L_nil (N_then ⟨fun hN_ => ⟨hbk, hb1, trivial⟩, ?_⟩)
    refine T_all (rs := [8]) (by kernel_rfl) rfl (all1 (O_one rfl ?_))
    refine T_append (xs := b.l) (ys := [(⟨y.oa, y.oc, y.p.ops⟩ : OpsD)]) EncO2 slc90 rfl rfl hL (Blk.sli (m := 0) hb3) (by simp; omega) (by have := hB.size; omega) rfl ?_
    intro A_1 c_1 w5 ho1 hs5 hat1
    replace hB := gb_tro hB hL hs5 (Nat.le_refl _)
    replace hbk := blk_own hbk hL rfl hs5
    replace hX := hX.kept hs5 (own_type_ne' hX hL rfl)
    replace hJ := hJl _ _ _ _ _ hJ hL hs5
    replace hb1 := blk_own hb1 hL rfl hs5
    replace hb2 := blk_own hb2 hL rfl hs5
    refine L_nil (N_then ⟨fun hN_ => ⟨hbk, hb1, trivial⟩, ?_⟩)
    refine T_takeA (i := 9) rfl (by kernel_rfl) (by kernel_rfl) (by kernel_rfl) (by kernel_rfl) (Y_of (fun _ ⟨hbk, hb1, _⟩ => R_nilck rfl)) ⟨hbk, hb1, trivial⟩ rfl ?_
    refine T_takeA (i := 10) rfl (by kernel_rfl) (by kernel_rfl) (by kernel_rfl) (by kernel_rfl) (Y_of (fun _ ⟨hbk, hb1, _⟩ => R_field (r := 0) rfl fld92_0 rfl)) ⟨hbk, hb1, trivial⟩ rfl ?_
    refine T_switch (S' := fun _ => True) (qs' := []) (by kernel_rfl) ?_
    refine T_all (rs := [11]) (by kernel_rfl) rfl (all1 (O_one rfl ?_))
    refine L_st1 rfl rfl rfl sz90 hbk rfl ?_
    intro w6 hb4 hs6 hz5
    replace hB := gb_trg hB hs6 gb0
    replace hX := own_other hX hbk rfl hs6
    replace hJ := hJb _ _ _ hJ hbk hs6
    replace hb1 := hb1.grown hs6 (ne_gt lt1)
    replace hb2 := hb2.grown hs6 (ne_gt lt2)
    replace ho1 := own_other ho1 hbk rfl hs6
    refine L_nil (N_then ⟨fun hN_ => trivial, ?_⟩)
    refine T_done (by kernel_rfl) (CalmE.normal ?_)
    refine N_in (N_then (C_seq (C_seq (C_reg rfl ?_))))
    refine L_run (R_move rfl) rfl ?_
    refine L_run (R_nilck rfl) rfl ?_
    refine L_run (R_field (r := 2) rfl fld92_2 rfl) rfl ?_
    refine L_run (R_load1 rfl scl4 (hb4.cell (i := 2) rfl)) rfl ?_
    refine L_run (R_not rfl) rfl ?_
    refine L_run (R_move rfl) rfl ?_
    refine L_split (!b.has) (fun h2 => ?_) (fun h2 => ?_)
    · refine L_yes rfl rfl rfl h2 ?_
      refine L_run (R_field (r := 0) rfl fld86_0 rfl) rfl ?_
      refine L_yes rfl rfl rfl h2 ?_
      refine L_run (R_load1 rfl scl3 (hb1.cell (i := 0) rfl)) rfl ?_
      refine L_yes rfl rfl rfl h2 ?_
      refine L_run (R_neq rfl rfl) rfl ?_
      refine L_run (R_pickT rfl h2 rfl) rfl ?_
      refine L_nil (N_then ?_)
      refine C_if rfl (fun h3 => ?_) (fun h3 => ?_)
      · refine C_seq (C_reg rfl ?_)
        refine L_run (R_assign rfl) rfl ?_
        refine L_nil (N_then (C_ret (R_then ?_)))
        refine ret1 Try.results70 rfl ?_
        have ed_ : doneB b y e = (⟨b.l ++ ([(⟨y.oa, y.oc, y.p.ops⟩ : OpsD)]), b.syn, b.has⟩ : BkP) := by
          unfold doneB opsOf
          first | (rw [if_pos (by omega)]; done) | (rw [if_neg (by omega), if_pos (by omega)]; done) | (rw [if_neg (by omega), if_neg (by omega), if_pos (by omega)]; done) | (rw [if_neg (by omega), if_neg (by omega), if_neg (by omega)]; done)
        have hno_ : ¬ okD b y e := fun q_ => by
          rcases q_.2 with h_ | h_
          · rw [ed_] at h_; have h2_ : b.has = false := (tnot h2); rw [show _ = true from h_] at h2_; cases h2_
          · omega
        exact ⟨hB, hJ, _, rfl, .inr ⟨by decide, by decide, hno_, (⟨b.l ++ ([(⟨y.oa, y.oc, y.p.ops⟩ : OpsD)]), b.syn, b.has⟩ : BkP), lost, ⟨_, _, _, _, hb4, .inl ho1, (own_lo hX (Nat.le_refl _))⟩, (.inl rfl)⟩⟩
      · refine C_skip (N_then (C_seq (C_reg rfl ?_)))
        refine L_run (R_assign rfl) rfl ?_
        refine L_nil (N_then (C_ret ?_))
        refine ret1 Try.results70 rfl ?_
        have ed_ : doneB b y e = (⟨b.l ++ ([(⟨y.oa, y.oc, y.p.ops⟩ : OpsD)]), b.syn, b.has⟩ : BkP) := by
          unfold doneB opsOf
          first | (rw [if_pos (by omega)]; done) | (rw [if_neg (by omega), if_pos (by omega)]; done) | (rw [if_neg (by omega), if_neg (by omega), if_pos (by omega)]; done) | (rw [if_neg (by omega), if_neg (by omega), if_neg (by omega)]; done)
        have el_ : lostD b y e lost = lost := by
          unfold lostD
          first | (rw [if_pos (by omega)]; done) | (rw [if_neg (by omega)]; done)
        exact ⟨hB, hJ, _, rfl, .inl ⟨rfl, ⟨fun q_ => ⟨by omega, by omega⟩, by rw [ed_]; first | exact .inl rfl | exact .inl rfl | exact .inr (by omega)⟩, by rw [ed_, el_]; exact ⟨_, _, _, _, hb4, .inl ho1, (own_lo hX (Nat.le_refl _))⟩⟩⟩
    · refine L_no rfl rfl rfl h2 rfl ?_
      refine L_no rfl rfl rfl h2 rfl ?_
      refine L_no rfl rfl rfl h2 rfl ?_
      refine L_run (R_pickF rfl h2 rfl) rfl ?_
      refine L_nil (N_then (C_condF rfl rfl (C_skip (N_then (C_seq (C_reg rfl ?_))))))
      refine L_run (R_assign rfl) rfl ?_
      refine L_nil (N_then (C_ret ?_))
      refine ret1 Try.results70 rfl ?_
      have ed_ : doneB b y e = (⟨b.l ++ ([(⟨y.oa, y.oc, y.p.ops⟩ : OpsD)]), b.syn, b.has⟩ : BkP) := by
        unfold doneB opsOf
        first | (rw [if_pos (by omega)]; done) | (rw [if_neg (by omega), if_pos (by omega)]; done) | (rw [if_neg (by omega), if_neg (by omega), if_pos (by omega)]; done) | (rw [if_neg (by omega), if_neg (by omega), if_neg (by omega)]; done)
      have el_ : lostD b y e lost = lost := by
        unfold lostD
        first | (rw [if_pos (by omega)]; done) | (rw [if_neg (by omega)]; done)
      exact ⟨hB, hJ, _, rfl, .inl ⟨rfl, ⟨fun q_ => ⟨by omega, by omega⟩, by rw [ed_]; first | exact .inl rfl | exact .inl (tnot' h2) | exact .inr (by omega)⟩, by rw [ed_, el_]; exact ⟨_, _, _, _, hb4, .inl ho1, (own_lo hX (Nat.le_refl _))⟩⟩⟩
  · refine C_seq (C_reg rfl ?_)
    refine L_run (R_field (r := 0) rfl fld86_0 rfl) rfl ?_
    refine L_run (R_load1 rfl scl3 (hb1.cell (i := 0) rfl)) rfl ?_
    refine L_run (R_eql rfl rfl) rfl ?_
    refine L_run (R_move rfl) rfl ?_
    refine L_splitD (p := y.p.kind = 2) (fun h4 => ?_) (fun h4 => ?_)
    · refine L_no rfl rfl rfl (decide_eq_true h4) rfl ?_
      refine L_no rfl rfl rfl (decide_eq_true h4) rfl ?_
      refine L_no rfl rfl rfl (decide_eq_true h4) rfl ?_
      refine L_run (R_pickT rfl (decide_eq_true h4) rfl) rfl ?_
      refine L_run (R_assign rfl) rfl ?_
      refine L_nil (N_then (C_condT rfl rfl (C_reg rfl ?_)))
      refine L_run (R_move rfl) rfl ?_
      refine L_run (R_move rfl) rfl ?_
      refine L_run (R_nilck rfl) rfl ?_
      refine L_run (R_field (r := 0) rfl fld92_0 rfl) rfl ?_
      refine L_run (R_load1 rfl scl90 (hbk.cell (i := 0) rfl)) rfl ?_
      refine L_run (R_lenSl rfl slc90) rfl ?_
      refine L_run (R_nilck rfl) rfl ?_
      refine L_run (R_field (r := 1) rfl fld92_1 rfl) rfl ?_
      refine L_st1 rfl rfl rfl sz3 hbk rfl ?_
      intro w7 hb5 hs7 hz6
      replace hB := gb_trg hB hs7 gb0
      replace hX := own_other hX hbk rfl hs7
      replace hJ := hJb _ _ _ hJ hbk hs7
      replace hL := own_other hL hbk rfl hs7
      replace hb1 := hb1.grown hs7 (ne_gt lt1)
      replace hb2 := hb2.grown hs7 (ne_gt lt2)
      refine L_nil (N_in (N_then (C_seq (C_seq (C_reg rfl ?_)))))
      refine L_run (R_move rfl) rfl ?_
      refine L_run (R_nilck rfl) rfl ?_
      refine L_run (R_field (r := 2) rfl fld92_2 rfl) rfl ?_
      refine L_run (R_load1 rfl scl4 (hb5.cell (i := 2) rfl)) rfl ?_
      refine L_run (R_not rfl) rfl ?_
      refine L_run (R_move rfl) rfl ?_
      refine L_split (!b.has) (fun h5 => ?_) (fun h5 => ?_)
      · refine L_yes rfl rfl rfl h5 ?_
        refine L_run (R_field (r := 0) rfl fld86_0 rfl) rfl ?_
        refine L_yes rfl rfl rfl h5 ?_
        refine L_run (R_load1 rfl scl3 (hb1.cell (i := 0) rfl)) rfl ?_
        refine L_yes rfl rfl rfl h5 ?_
        refine L_run (R_neq rfl rfl) rfl ?_
        refine L_run (R_pickT rfl h5 rfl) rfl ?_
        refine L_nil (N_then ?_)
        refine C_if rfl (fun h6 => ?_) (fun h6 => ?_)
        · refine C_seq (C_reg rfl ?_)
          refine L_run (R_assign rfl) rfl ?_
          refine L_nil (N_then (C_ret (R_then ?_)))
          refine ret1 Try.results70 rfl ?_
          have ed_ : doneB b y e = (⟨b.l, (b.l.length : Int), b.has⟩ : BkP) := by
            unfold doneB opsOf
            first | (rw [if_pos (by omega)]; done) | (rw [if_neg (by omega), if_pos (by omega)]; done) | (rw [if_neg (by omega), if_neg (by omega), if_pos (by omega)]; done) | (rw [if_neg (by omega), if_neg (by omega), if_neg (by omega)]; done)
          have hno_ : ¬ okD b y e := fun q_ => by
            rcases q_.2 with h_ | h_
            · rw [ed_] at h_; have h2_ : b.has = false := (tnot h5); rw [show _ = true from h_] at h2_; cases h2_
            · omega
          exact ⟨hB, hJ, _, rfl, .inr ⟨by decide, by decide, hno_, (⟨b.l, (b.l.length : Int), b.has⟩ : BkP), lost, ⟨_, _, _, _, hb5, .inl hL, (own_lo hX (Nat.le_refl _))⟩, (.inl rfl)⟩⟩
        · refine C_skip (N_then (C_seq (C_reg rfl ?_)))
          refine L_run (R_assign rfl) rfl ?_
          refine L_nil (N_then (C_ret ?_))
          refine ret1 Try.results70 rfl ?_
          have ed_ : doneB b y e = (⟨b.l, (b.l.length : Int), b.has⟩ : BkP) := by
            unfold doneB opsOf
            first | (rw [if_pos (by omega)]; done) | (rw [if_neg (by omega), if_pos (by omega)]; done) | (rw [if_neg (by omega), if_neg (by omega), if_pos (by omega)]; done) | (rw [if_neg (by omega), if_neg (by omega), if_neg (by omega)]; done)
          have el_ : lostD b y e lost = lost := by
            unfold lostD
            first | (rw [if_pos (by omega)]; done) | (rw [if_neg (by omega)]; done)
          exact ⟨hB, hJ, _, rfl, .inl ⟨rfl, ⟨fun q_ => ⟨by omega, by omega⟩, by rw [ed_]; first | exact .inl rfl | exact .inl rfl | exact .inr (by omega)⟩, by rw [ed_, el_]; exact ⟨_, _, _, _, hb5, .inl hL, (own_lo hX (Nat.le_refl _))⟩⟩⟩
      · refine L_no rfl rfl rfl h5 rfl ?_
        refine L_no rfl rfl rfl h5 rfl ?_
        refine L_no rfl rfl rfl h5 rfl ?_
        refine L_run (R_pickF rfl h5 rfl) rfl ?_
        refine L_nil (N_then (C_condF rfl rfl (C_skip (N_then (C_seq (C_reg rfl ?_))))))
        refine L_run (R_assign rfl) rfl ?_
        refine L_nil (N_then (C_ret ?_))
        refine ret1 Try.results70 rfl ?_
        have ed_ : doneB b y e = (⟨b.l, (b.l.length : Int), b.has⟩ : BkP) := by
          unfold doneB opsOf
          first | (rw [if_pos (by omega)]; done) | (rw [if_neg (by omega), if_pos (by omega)]; done) | (rw [if_neg (by omega), if_neg (by omega), if_pos (by omega)]; done) | (rw [if_neg (by omega), if_neg (by omega), if_neg (by omega)]; done)
        have el_ : lostD b y e lost = lost := by
          unfold lostD
          first | (rw [if_pos (by omega)]; done) | (rw [if_neg (by omega)]; done)
        exact ⟨hB, hJ, _, rfl, .inl ⟨rfl, ⟨fun q_ => ⟨by omega, by omega⟩, by rw [ed_]; first | exact .inl rfl | exact .inl (tnot' h5) | exact .inr (by omega)⟩, by rw [ed_, el_]; exact ⟨_, _, _, _, hb5, .inl hL, (own_lo hX (Nat.le_refl _))⟩⟩⟩
    · refine L_yes rfl rfl rfl (decide_eq_false h4) ?_
      refine L_run (R_field (r := 0) rfl fld86_0 rfl) rfl ?_
      refine L_yes rfl rfl rfl (decide_eq_false h4) ?_
      refine L_run (R_load1 rfl scl3 (hb1.cell (i := 0) rfl)) rfl ?_
      refine L_yes rfl rfl rfl (decide_eq_false h4) ?_
      refine L_run (R_eql rfl rfl) rfl ?_
      refine L_run (R_pickF rfl (decide_eq_false h4) rfl) rfl ?_
      refine L_run (R_assign rfl) rfl ?_
      refine L_nil (N_then ?_)
      refine C_if rfl (fun h7 => ?_) (fun h7 => ?_)
      · refine C_reg rfl ?_
        refine L_run (R_move rfl) rfl ?_
        refine L_run (R_move rfl) rfl ?_
        refine L_run (R_nilck rfl) rfl ?_
        refine L_run (R_field (r := 0) rfl fld92_0 rfl) rfl ?_
        refine L_run (R_load1 rfl scl90 (hbk.cell (i := 0) rfl)) rfl ?_
        refine L_run (R_lenSl rfl slc90) rfl ?_
        refine L_run (R_nilck rfl) rfl ?_
        refine L_run (R_field (r := 1) rfl fld92_1 rfl) rfl ?_
        refine L_st1 rfl rfl rfl sz3 hbk rfl ?_
        intro w8 hb6 hs8 hz7
        replace hB := gb_trg hB hs8 gb0
        replace hX := own_other hX hbk rfl hs8
        replace hJ := hJb _ _ _ hJ hbk hs8
        replace hL := own_other hL hbk rfl hs8
        replace hb1 := hb1.grown hs8 (ne_gt lt1)
        replace hb2 := hb2.grown hs8 (ne_gt lt2)
        refine L_nil (N_in (N_then (C_seq (C_seq (C_reg rfl ?_)))))
        refine L_run (R_move rfl) rfl ?_
        refine L_run (R_nilck rfl) rfl ?_
        refine L_run (R_field (r := 2) rfl fld92_2 rfl) rfl ?_
        refine L_run (R_load1 rfl scl4 (hb6.cell (i := 2) rfl)) rfl ?_
        refine L_run (R_not rfl) rfl ?_
        refine L_run (R_move rfl) rfl ?_
        refine L_split (!b.has) (fun h8 => ?_) (fun h8 => ?_)
        · refine L_yes rfl rfl rfl h8 ?_
          refine L_run (R_field (r := 0) rfl fld86_0 rfl) rfl ?_
          refine L_yes rfl rfl rfl h8 ?_
          refine L_run (R_load1 rfl scl3 (hb1.cell (i := 0) rfl)) rfl ?_
          refine L_yes rfl rfl rfl h8 ?_
          refine L_run (R_neq rfl rfl) rfl ?_
          refine L_run (R_pickT rfl h8 rfl) rfl ?_
          refine L_nil (N_then ?_)
          refine C_if rfl (fun h9 => ?_) (fun h9 => ?_)
          · refine C_seq (C_reg rfl ?_)
            refine L_run (R_assign rfl) rfl ?_
            refine L_nil (N_then (C_ret (R_then ?_)))
            refine ret1 Try.results70 rfl ?_
            have ed_ : doneB b y e = (⟨b.l, (b.l.length : Int), b.has⟩ : BkP) := by
              unfold doneB opsOf
              first | (rw [if_pos (by omega)]; done) | (rw [if_neg (by omega), if_pos (by omega)]; done) | (rw [if_neg (by omega), if_neg (by omega), if_pos (by omega)]; done) | (rw [if_neg (by omega), if_neg (by omega), if_neg (by omega)]; done)
            have hno_ : ¬ okD b y e := fun q_ => by
              rcases q_.2 with h_ | h_
              · rw [ed_] at h_; have h2_ : b.has = false := (tnot h8); rw [show _ = true from h_] at h2_; cases h2_
              · omega
            exact ⟨hB, hJ, _, rfl, .inr ⟨by decide, by decide, hno_, (⟨b.l, (b.l.length : Int), b.has⟩ : BkP), lost, ⟨_, _, _, _, hb6, .inl hL, (own_lo hX (Nat.le_refl _))⟩, (.inl rfl)⟩⟩
          · refine C_skip (N_then (C_seq (C_reg rfl ?_)))
            refine L_run (R_assign rfl) rfl ?_
            refine L_nil (N_then (C_ret ?_))
            refine ret1 Try.results70 rfl ?_
            have ed_ : doneB b y e = (⟨b.l, (b.l.length : Int), b.has⟩ : BkP) := by
              unfold doneB opsOf
              first | (rw [if_pos (by omega)]; done) | (rw [if_neg (by omega), if_pos (by omega)]; done) | (rw [if_neg (by omega), if_neg (by omega), if_pos (by omega)]; done) | (rw [if_neg (by omega), if_neg (by omega), if_neg (by omega)]; done)
            have el_ : lostD b y e lost = lost := by
              unfold lostD
              first | (rw [if_pos (by omega)]; done) | (rw [if_neg (by omega)]; done)
            exact ⟨hB, hJ, _, rfl, .inl ⟨rfl, ⟨fun q_ => ⟨by omega, by omega⟩, by rw [ed_]; first | exact .inl rfl | exact .inl rfl | exact .inr (by omega)⟩, by rw [ed_, el_]; exact ⟨_, _, _, _, hb6, .inl hL, (own_lo hX (Nat.le_refl _))⟩⟩⟩
        · refine L_no rfl rfl rfl h8 rfl ?_
          refine L_no rfl rfl rfl h8 rfl ?_
          refine L_no rfl rfl rfl h8 rfl ?_
          refine L_run (R_pickF rfl h8 rfl) rfl ?_
          refine L_nil (N_then (C_condF rfl rfl (C_skip (N_then (C_seq (C_reg rfl ?_))))))
          refine L_run (R_assign rfl) rfl ?_
          refine L_nil (N_then (C_ret ?_))
          refine ret1 Try.results70 rfl ?_
          have ed_ : doneB b y e = (⟨b.l, (b.l.length : Int), b.has⟩ : BkP) := by
            unfold doneB opsOf
            first | (rw [if_pos (by omega)]; done) | (rw [if_neg (by omega), if_pos (by omega)]; done) | (rw [if_neg (by omega), if_neg (by omega), if_pos (by omega)]; done) | (rw [if_neg (by omega), if_neg (by omega), if_neg (by omega)]; done)
          have el_ : lostD b y e lost = lost := by
            unfold lostD
            first | (rw [if_pos (by omega)]; done) | (rw [if_neg (by omega)]; done)
          exact ⟨hB, hJ, _, rfl, .inl ⟨rfl, ⟨fun q_ => ⟨by omega, by omega⟩, by rw [ed_]; first | exact .inl rfl | exact .inl (tnot' h8) | exact .inr (by omega)⟩, by rw [ed_, el_]; exact ⟨_, _, _, _, hb6, .inl hL, (own_lo hX (Nat.le_refl _))⟩⟩⟩
      · refine C_seq (C_reg rfl ?_)
        refine L_run (R_loadA (vs := [.int .i64 y.p.kind, .int .i64 y.p.n, .slice y.oa y.p.ops.length y.oc, .slice y.ka y.p.keep.length y.kc, .int .i64 y.p.torn, .int .i64 y.p.cut]) rfl agg86 (At.pre (hb1.at_ 0) rfl) rfl) rfl ?_
        refine L_call rfl cb69 (opens_ok (y := y)) rfl ?_
        rintro _ w9 ⟨hs9, rfl⟩
        replace hB := gb_tr hB hs9
        replace hbk := hbk.gb hs9
        replace hX := own_gb hX hs9
        replace hJ := hJn _ _ hJ hs9
        replace hL := own_gb hL hs9
        replace hb1 := hb1.gb hs9
        replace hb2 := hb2.gb hs9
        refine L_run (R_assign rfl) rfl ?_
        refine L_nil (N_then ?_)
        refine C_if rfl (fun h10 => ?_) (fun h10 => ?_)
        · refine C_seq (C_seq ?_)
          refine C_draw2 rfl mix ?_
          intro w10 hs10 hz8
          replace hB := gb_tr hB hs10
          replace hbk := hbk.gb hs10
          replace hX := own_gb hX hs10
          replace hJ := hJn _ _ hJ hs10
          replace hL := own_gb hL hs10
          replace hb1 := hb1.gb hs10
          replace hb2 := hb2.gb hs10
          refine ⟨fun W_ => Blk W_ gb 92 [.slice A b.l.length c, .int .i64 b.syn, .bool b.has, .slice A2 lost.length c2] ∧ Blk W_ g2 87 [.int .i64 e.kind, .int .i64 e.e, .int .i64 e.bat, .int .i64 e.syn, .slice e.pa e.prs.length e.pc] ∧ True, [0, 1, 2, 3, 4, 5, 6, 7, 8, 9, 10, 11, 12, 13, 14, 15, 16], ?_⟩
          refine T_takeA (i := 0) rfl (by kernel_rfl) (by kernel_rfl) (by kernel_rfl) (by kernel_rfl) (Y_of (fun _ ⟨hbk, hb2, _⟩ => R_field (r := 2) rfl fld87_2 rfl)) ⟨hbk, hb2, trivial⟩ rfl ?_
          refine T_takeA (i := 1) rfl (by kernel_rfl) (by kernel_rfl) (by kernel_rfl) (by kernel_rfl) (Y_of (fun _ ⟨hbk, hb2, _⟩ => R_load1 rfl scl3 (hb2.cell (i := 2) rfl))) ⟨hbk, hb2, trivial⟩ rfl ?_
          refine T_takeA (i := 2) rfl (by kernel_rfl) (by kernel_rfl) (by kernel_rfl) (by kernel_rfl) (Y_of (fun _ ⟨hbk, hb2, _⟩ => R_move rfl)) ⟨hbk, hb2, trivial⟩ rfl ?_
          refine T_takeA (i := 3) rfl (by kernel_rfl) (by kernel_rfl) (by kernel_rfl) (by kernel_rfl) (Y_of (fun _ ⟨hbk, hb2, _⟩ => R_nilck rfl)) ⟨hbk, hb2, trivial⟩ rfl ?_
          refine T_takeA (i := 4) rfl (by kernel_rfl) (by kernel_rfl) (by kernel_rfl) (by kernel_rfl) (Y_of (fun _ ⟨hbk, hb2, _⟩ => R_field (r := 1) rfl fld92_1 rfl)) ⟨hbk, hb2, trivial⟩ rfl ?_
          refine T_takeA (i := 5) rfl (by kernel_rfl) (by kernel_rfl) (by kernel_rfl) (by kernel_rfl) (Y_of (fun _ ⟨hbk, hb2, _⟩ => R_load1 rfl scl3 (hbk.cell (i := 1) rfl))) ⟨hbk, hb2, trivial⟩ rfl ?_
          refine T_takeA (i := 6) rfl (by kernel_rfl) (by kernel_rfl) (by kernel_rfl) (by kernel_rfl) (Y_of (fun _ ⟨hbk, hb2, _⟩ => R_lss rfl rfl)) ⟨hbk, hb2, trivial⟩ rfl ?_
          refine T_takeA (i := 7) rfl (by kernel_rfl) (by kernel_rfl) (by kernel_rfl) (by kernel_rfl) (Y_of (fun _ ⟨hbk, hb2, _⟩ => R_move rfl)) ⟨hbk, hb2, trivial⟩ rfl ?_
          by_cases h11 : e.bat < b.syn
          · refine T_takeA (i := 8) rfl (by kernel_rfl) (by kernel_rfl) (by kernel_rfl) (by kernel_rfl) (Y_no rfl rfl rfl (decide_eq_true h11)) ⟨hbk, hb2, trivial⟩ rfl ?_
            refine T_takeA (i := 9) rfl (by kernel_rfl) (by kernel_rfl) (by kernel_rfl) (by kernel_rfl) (Y_no rfl rfl rfl (decide_eq_true h11)) ⟨hbk, hb2, trivial⟩ rfl ?_
            refine T_takeA (i := 10) rfl (by kernel_rfl) (by kernel_rfl) (by kernel_rfl) (by kernel_rfl) (Y_no rfl rfl rfl (decide_eq_true h11)) ⟨hbk, hb2, trivial⟩ rfl ?_
            refine T_takeA (i := 11) rfl (by kernel_rfl) (by kernel_rfl) (by kernel_rfl) (by kernel_rfl) (Y_no rfl rfl rfl (decide_eq_true h11)) ⟨hbk, hb2, trivial⟩ rfl ?_
            refine T_takeA (i := 12) rfl (by kernel_rfl) (by kernel_rfl) (by kernel_rfl) (by kernel_rfl) (Y_no rfl rfl rfl (decide_eq_true h11)) ⟨hbk, hb2, trivial⟩ rfl ?_
            refine T_takeA (i := 13) rfl (by kernel_rfl) (by kernel_rfl) (by kernel_rfl) (by kernel_rfl) (Y_no rfl rfl rfl (decide_eq_true h11)) ⟨hbk, hb2, trivial⟩ rfl ?_
            refine T_takeA (i := 14) rfl (by kernel_rfl) (by kernel_rfl) (by kernel_rfl) (by kernel_rfl) (Y_no rfl rfl rfl (decide_eq_true h11)) ⟨hbk, hb2, trivial⟩ rfl ?_
            refine T_takeA (i := 15) rfl (by kernel_rfl) (by kernel_rfl) (by kernel_rfl) (by kernel_rfl) (Y_no rfl rfl rfl (decide_eq_true h11)) ⟨hbk, hb2, trivial⟩ rfl ?_
            refine T_takeA (i := 16) rfl (by kernel_rfl) (by kernel_rfl) (by kernel_rfl) (by kernel_rfl) (Y_of (fun _ ⟨hbk, hb2, _⟩ => R_pickT rfl (decide_eq_true h11) rfl)) ⟨hbk, hb2, trivial⟩ rfl ?_
            refine T_done (by kernel_rfl) (CalmE.normal ?_)
            refine N_then (C_condT rfl rfl (C_seq (C_reg rfl ?_)))
            refine L_run (R_assign rfl) rfl ?_
            refine L_nil (N_then (C_ret (R_then (R_in (R_then ?_)))))
            refine ret1 Try.results70 rfl ?_
            have hno_ : ¬ okD b y e := fun q_ => by have h_ := q_.1 (by omega); omega
            exact ⟨hB, hJ, _, rfl, .inr ⟨by decide, by decide, hno_, (⟨b.l, b.syn, b.has⟩ : BkP), lost, ⟨_, _, _, _, hbk, .inl hL, (own_lo hX (Nat.le_refl _))⟩, (.inl rfl)⟩⟩
          · refine T_takeA (i := 8) rfl (by kernel_rfl) (by kernel_rfl) (by kernel_rfl) (by kernel_rfl) (Y_yes rfl rfl rfl (decide_eq_false h11) (fun _ ⟨hbk, hb2, _⟩ => R_field (r := 2) rfl fld87_2 rfl)) ⟨hbk, hb2, trivial⟩ rfl ?_
            refine T_takeA (i := 9) rfl (by kernel_rfl) (by kernel_rfl) (by kernel_rfl) (by kernel_rfl) (Y_yes rfl rfl rfl (decide_eq_false h11) (fun _ ⟨hbk, hb2, _⟩ => R_load1 rfl scl3 (hb2.cell (i := 2) rfl))) ⟨hbk, hb2, trivial⟩ rfl ?_
            refine T_takeA (i := 10) rfl (by kernel_rfl) (by kernel_rfl) (by kernel_rfl) (by kernel_rfl) (Y_yes rfl rfl rfl (decide_eq_false h11) (fun _ ⟨hbk, hb2, _⟩ => R_move rfl)) ⟨hbk, hb2, trivial⟩ rfl ?_
            refine T_takeA (i := 11) rfl (by kernel_rfl) (by kernel_rfl) (by kernel_rfl) (by kernel_rfl) (Y_yes rfl rfl rfl (decide_eq_false h11) (fun _ ⟨hbk, hb2, _⟩ => R_nilck rfl)) ⟨hbk, hb2, trivial⟩ rfl ?_
            refine T_takeA (i := 12) rfl (by kernel_rfl) (by kernel_rfl) (by kernel_rfl) (by kernel_rfl) (Y_yes rfl rfl rfl (decide_eq_false h11) (fun _ ⟨hbk, hb2, _⟩ => R_field (r := 0) rfl fld92_0 rfl)) ⟨hbk, hb2, trivial⟩ rfl ?_
            refine T_takeA (i := 13) rfl (by kernel_rfl) (by kernel_rfl) (by kernel_rfl) (by kernel_rfl) (Y_yes rfl rfl rfl (decide_eq_false h11) (fun _ ⟨hbk, hb2, _⟩ => R_load1 rfl scl90 (hbk.cell (i := 0) rfl))) ⟨hbk, hb2, trivial⟩ rfl ?_
            refine T_takeA (i := 14) rfl (by kernel_rfl) (by kernel_rfl) (by kernel_rfl) (by kernel_rfl) (Y_yes rfl rfl rfl (decide_eq_false h11) (fun _ ⟨hbk, hb2, _⟩ => R_lenSl rfl slc90)) ⟨hbk, hb2, trivial⟩ rfl ?_
            refine T_takeA (i := 15) rfl (by kernel_rfl) (by kernel_rfl) (by kernel_rfl) (by kernel_rfl) (Y_yes rfl rfl rfl (decide_eq_false h11) (fun _ ⟨hbk, hb2, _⟩ => R_gtr rfl rfl)) ⟨hbk, hb2, trivial⟩ rfl ?_
            refine T_takeA (i := 16) rfl (by kernel_rfl) (by kernel_rfl) (by kernel_rfl) (by kernel_rfl) (Y_of (fun _ ⟨hbk, hb2, _⟩ => R_pickF rfl (decide_eq_false h11) rfl)) ⟨hbk, hb2, trivial⟩ rfl ?_
            refine T_done (by kernel_rfl) (CalmE.normal ?_)
            refine N_then ?_
            refine C_if rfl (fun h12 => ?_) (fun h12 => ?_)
            · refine C_seq (C_reg rfl ?_)
              refine L_run (R_assign rfl) rfl ?_
              refine L_nil (N_then (C_ret (R_then (R_in (R_then ?_)))))
              refine ret1 Try.results70 rfl ?_
              have hno_ : ¬ okD b y e := fun q_ => by have h_ := q_.1 (by omega); omega
              exact ⟨hB, hJ, _, rfl, .inr ⟨by decide, by decide, hno_, (⟨b.l, b.syn, b.has⟩ : BkP), lost, ⟨_, _, _, _, hbk, .inl hL, (own_lo hX (Nat.le_refl _))⟩, (.inl rfl)⟩⟩
            · refine C_skip (N_then (C_seq (C_seq (C_reg rfl ?_))))
              refine L_run (R_field (r := 0) rfl fld86_0 rfl) rfl ?_
              refine L_run (R_load1 rfl scl3 (hb1.cell (i := 0) rfl)) rfl ?_
              refine L_run (R_eql rfl rfl) rfl ?_
              refine L_nil (N_then ?_)
              refine C_if rfl (fun h13 => ?_) (fun h13 => ?_)
              · refine C_draw2 rfl mix ?_
                intro w11 hs11 hz9
                replace hB := gb_tr hB hs11
                replace hbk := hbk.gb hs11
                replace hX := own_gb hX hs11
                replace hJ := hJn _ _ hJ hs11
                replace hL := own_gb hL hs11
                replace hb1 := hb1.gb hs11
                replace hb2 := hb2.gb hs11
                refine ⟨fun W_ => Blk W_ gb 92 [.slice A b.l.length c, .int .i64 b.syn, .bool b.has, .slice A2 lost.length c2] ∧ Blk W_ g2 87 [.int .i64 e.kind, .int .i64 e.e, .int .i64 e.bat, .int .i64 e.syn, .slice e.pa e.prs.length e.pc] ∧ True, [0, 1, 2, 3, 4, 5, 6, 7, 8, 9, 10, 11, 12, 15, 16], ?_⟩
                refine T_takeA (i := 0) rfl (by kernel_rfl) (by kernel_rfl) (by kernel_rfl) (by kernel_rfl) (Y_of (fun _ ⟨hbk, hb2, _⟩ => R_move rfl)) ⟨hbk, hb2, trivial⟩ rfl ?_
                refine T_takeA (i := 1) rfl (by kernel_rfl) (by kernel_rfl) (by kernel_rfl) (by kernel_rfl) (Y_of (fun _ ⟨hbk, hb2, _⟩ => R_move rfl)) ⟨hbk, hb2, trivial⟩ rfl ?_
                refine T_takeA (i := 2) rfl (by kernel_rfl) (by kernel_rfl) (by kernel_rfl) (by kernel_rfl) (Y_of (fun _ ⟨hbk, hb2, _⟩ => R_nilck rfl)) ⟨hbk, hb2, trivial⟩ rfl ?_
                refine T_takeA (i := 3) rfl (by kernel_rfl) (by kernel_rfl) (by kernel_rfl) (by kernel_rfl) (Y_of (fun _ ⟨hbk, hb2, _⟩ => R_field (r := 3) rfl fld92_3 rfl)) ⟨hbk, hb2, trivial⟩ rfl ?_
                refine T_takeA (i := 4) rfl (by kernel_rfl) (by kernel_rfl) (by kernel_rfl) (by kernel_rfl) (Y_of (fun _ ⟨hbk, hb2, _⟩ => R_load1 rfl scl51 (hbk.cell (i := 3) rfl))) ⟨hbk, hb2, trivial⟩ rfl ?_
                refine T_takeA (i := 5) rfl (by kernel_rfl) (by kernel_rfl) (by kernel_rfl) (by kernel_rfl) (Y_of (fun _ ⟨hbk, hb2, _⟩ => R_move rfl)) ⟨hbk, hb2, trivial⟩ rfl ?_
                refine T_takeA (i := 6) rfl (by kernel_rfl) (by kernel_rfl) (by kernel_rfl) (by kernel_rfl) (Y_of (fun _ ⟨hbk, hb2, _⟩ => R_nilck rfl)) ⟨hbk, hb2, trivial⟩ rfl ?_
                refine T_takeA (i := 7) rfl (by kernel_rfl) (by kernel_rfl) (by kernel_rfl) (by kernel_rfl) (Y_of (fun _ ⟨hbk, hb2, _⟩ => R_field (r := 0) rfl fld92_0 rfl)) ⟨hbk, hb2, trivial⟩ rfl ?_
                refine T_takeA (i := 8) rfl (by kernel_rfl) (by kernel_rfl) (by kernel_rfl) (by kernel_rfl) (Y_of (fun _ ⟨hbk, hb2, _⟩ => R_load1 rfl scl90 (hbk.cell (i := 0) rfl))) ⟨hbk, hb2, trivial⟩ rfl ?_
                refine T_takeA (i := 9) rfl (by kernel_rfl) (by kernel_rfl) (by kernel_rfl) (by kernel_rfl) (Y_of (fun _ ⟨hbk, hb2, _⟩ => R_lenSl rfl slc90)) ⟨hbk, hb2, trivial⟩ rfl ?_
                refine T_takeA (i := 10) rfl (by kernel_rfl) (by kernel_rfl) (by kernel_rfl) (by kernel_rfl) (Y_of (fun _ ⟨hbk, hb2, _⟩ => R_field (r := 2) rfl fld87_2 rfl)) ⟨hbk, hb2, trivial⟩ rfl ?_
                refine T_takeA (i := 11) rfl (by kernel_rfl) (by kernel_rfl) (by kernel_rfl) (by kernel_rfl) (Y_of (fun _ ⟨hbk, hb2, _⟩ => R_load1 rfl scl3 (hb2.cell (i := 2) rfl))) ⟨hbk, hb2, trivial⟩ rfl ?_
                refine T_takeA (i := 12) rfl (by kernel_rfl) (by kernel_rfl) (by kernel_rfl) (by kernel_rfl) (Y_of (fun _ ⟨hbk, hb2, _⟩ => R_sub64 rfl rfl (by omega))) ⟨hbk, hb2, trivial⟩ rfl ?_
                refine T_all (rs := [13]) (by kernel_rfl) rfl (all1 (O_one rfl ?_))
                refine L_buildSlice (pv := [(0, .int .i64 ((b.l.length : Int) - e.bat))]) (cs := [.int .i64 ((b.l.length : Int) - e.bat)]) slc51 zer3 rfl rfl (by kernel_rfl) rfl ?_
                intro g4 w12 eg4 hb7 hs12 hz10
                have ge4 : w.heap.size ≤ g4 := eg_ge hB eg4
                have lt7 : gb < g4 := lt_of_eg hbk.lt eg4
                have lt8 : g1 < g4 := lt_of_eg hb1.lt eg4
                have lt9 : g2 < g4 := lt_of_eg hb2.lt eg4
                have hap2 : ∀ k_, (Value.slice A2 lost.length c2).ownBlock = some k_ → k_ ≠ g4 := fun k_ hk => by have h_ := (World.ownsRow.lt hX k_ hk).2; omega
                replace hB := gb_tr hB hs12
                replace hbk := hbk.gb hs12
                replace hX := own_gb hX hs12
                replace hJ := hJn _ _ hJ hs12
                replace hL := own_gb hL hs12
                replace hb1 := hb1.gb hs12
                replace hb2 := hb2.gb hs12
                refine L_nil (N_then ⟨fun hN_ => ⟨hbk, hb2, trivial⟩, ?_⟩)
                refine T_all (rs := [14]) (by kernel_rfl) rfl (all1 (O_one rfl ?_))
                refine T_append (xs := lost) (ys := [((b.l.length : Int) - e.bat)]) EncZ slc51 rfl rfl hX (Blk.sli (m := 0) hb7) (by simp; omega) (by have := hB.size; omega) rfl ?_
                intro A_2 c_2 w13 ho2 hs13 hat2
                replace hB := gb_tro hB hX hs13 (Nat.le_refl _)
                replace hbk := blk_own hbk hX rfl hs13
                replace hJ := hJx _ _ _ _ _ hJ hX hs13
                replace hL := hL.kept hs13 (own_type_ne' hL hX rfl)
                replace hb1 := blk_own hb1 hX rfl hs13
                replace hb2 := blk_own hb2 hX rfl hs13
                refine L_nil (N_then ⟨fun hN_ => ⟨hbk, hb2, trivial⟩, ?_⟩)
                refine T_takeA (i := 15) rfl (by kernel_rfl) (by kernel_rfl) (by kernel_rfl) (by kernel_rfl) (Y_of (fun _ ⟨hbk, hb2, _⟩ => R_nilck rfl)) ⟨hbk, hb2, trivial⟩ rfl ?_
                refine T_takeA (i := 16) rfl (by kernel_rfl) (by kernel_rfl) (by kernel_rfl) (by kernel_rfl) (Y_of (fun _ ⟨hbk, hb2, _⟩ => R_field (r := 3) rfl fld92_3 rfl)) ⟨hbk, hb2, trivial⟩ rfl ?_
                refine T_switch (S' := fun _ => True) (qs' := []) (by kernel_rfl) ?_
                refine T_all (rs := [17]) (by kernel_rfl) rfl (all1 (O_one rfl ?_))
                refine L_st1 rfl rfl rfl sz51 hbk rfl ?_
                intro w14 hb8 hs14 hz11
                replace hB := gb_trg hB hs14 gb0
                replace hJ := hJb _ _ _ hJ hbk hs14
                replace hL := own_other hL hbk rfl hs14
                replace hb1 := hb1.grown hs14 (ne_gt lt1)
                replace hb2 := hb2.grown hs14 (ne_gt lt2)
                replace ho2 := own_other ho2 hbk rfl hs14
                refine L_nil (N_then ⟨fun hN_ => trivial, ?_⟩)
                refine T_done (by kernel_rfl) (CalmE.normal ?_)
                refine N_then (C_seq ?_)
                refine C_draw2 rfl mix ?_
                intro w15 hs15 hz12
                replace hB := gb_tr hB hs15
                replace hb8 := hb8.gb hs15
                replace hJ := hJn _ _ hJ hs15
                replace hL := own_gb hL hs15
                replace hb1 := hb1.gb hs15
                replace hb2 := hb2.gb hs15
                replace ho2 := own_gb ho2 hs15
                refine ⟨fun W_ => Blk W_ gb 92 [.slice A b.l.length c, .int .i64 b.syn, .bool b.has, .slice A_2 ((lost ++ ([((b.l.length : Int) - e.bat)])).length) c_2] ∧ Blk W_ g2 87 [.int .i64 e.kind, .int .i64 e.e, .int .i64 e.bat, .int .i64 e.syn, .slice e.pa e.prs.length e.pc] ∧ True, [0, 1, 2, 3, 4, 5, 6, 7, 8, 10, 11], ?_⟩
                refine T_takeA (i := 0) rfl (by kernel_rfl) (by kernel_rfl) (by kernel_rfl) (by kernel_rfl) (Y_of (fun _ ⟨hb8, hb2, _⟩ => R_move rfl)) ⟨hb8, hb2, trivial⟩ rfl ?_
                refine T_takeA (i := 1) rfl (by kernel_rfl) (by kernel_rfl) (by kernel_rfl) (by kernel_rfl) (Y_of (fun _ ⟨hb8, hb2, _⟩ => R_move rfl)) ⟨hb8, hb2, trivial⟩ rfl ?_
                refine T_takeA (i := 2) rfl (by kernel_rfl) (by kernel_rfl) (by kernel_rfl) (by kernel_rfl) (Y_of (fun _ ⟨hb8, hb2, _⟩ => R_nilck rfl)) ⟨hb8, hb2, trivial⟩ rfl ?_
                refine T_takeA (i := 3) rfl (by kernel_rfl) (by kernel_rfl) (by kernel_rfl) (by kernel_rfl) (Y_of (fun _ ⟨hb8, hb2, _⟩ => R_field (r := 0) rfl fld92_0 rfl)) ⟨hb8, hb2, trivial⟩ rfl ?_
                refine T_takeA (i := 4) rfl (by kernel_rfl) (by kernel_rfl) (by kernel_rfl) (by kernel_rfl) (Y_of (fun _ ⟨hb8, hb2, _⟩ => R_load1 rfl scl90 (hb8.cell (i := 0) rfl))) ⟨hb8, hb2, trivial⟩ rfl ?_
                refine T_takeA (i := 5) rfl (by kernel_rfl) (by kernel_rfl) (by kernel_rfl) (by kernel_rfl) (Y_of (fun _ ⟨hb8, hb2, _⟩ => R_field (r := 2) rfl fld87_2 rfl)) ⟨hb8, hb2, trivial⟩ rfl ?_
                refine T_takeA (i := 6) rfl (by kernel_rfl) (by kernel_rfl) (by kernel_rfl) (by kernel_rfl) (Y_of (fun _ ⟨hb8, hb2, _⟩ => R_load1 rfl scl3 (hb2.cell (i := 2) rfl))) ⟨hb8, hb2, trivial⟩ rfl ?_
                refine T_takeA (i := 7) rfl (by kernel_rfl) (by kernel_rfl) (by kernel_rfl) (by kernel_rfl) (Y_of (fun _ ⟨hb8, hb2, _⟩ => R_field (r := 2) rfl fld87_2 rfl)) ⟨hb8, hb2, trivial⟩ rfl ?_
                refine T_takeA (i := 8) rfl (by kernel_rfl) (by kernel_rfl) (by kernel_rfl) (by kernel_rfl) (Y_of (fun _ ⟨hb8, hb2, _⟩ => R_load1 rfl scl3 (hb2.cell (i := 2) rfl))) ⟨hb8, hb2, trivial⟩ rfl ?_
                refine T_all (rs := [9]) (by kernel_rfl) rfl (all1 (O_one rfl ?_))
                refine T_slHM (xs := b.l) (j := e.bat.toNat) (r := e.bat.toNat) EncO2 rfl rfl rfl (by omega) (by omega) slc90 (by omega) (Nat.le_refl _) (Nat.le_trans (by omega) (own_cap hL)) (own_of hL).2.2 rfl ?_
                intro A_3 hS_1
                refine L_nil (N_then ⟨fun hN_ => ⟨hb8, hb2, trivial⟩, ?_⟩)
                refine T_takeA (i := 10) rfl (by kernel_rfl) (by kernel_rfl) (by kernel_rfl) (by kernel_rfl) (Y_of (fun _ ⟨hb8, hb2, _⟩ => R_nilck rfl)) ⟨hb8, hb2, trivial⟩ rfl ?_
                refine T_takeA (i := 11) rfl (by kernel_rfl) (by kernel_rfl) (by kernel_rfl) (by kernel_rfl) (Y_of (fun _ ⟨hb8, hb2, _⟩ => R_field (r := 0) rfl fld92_0 rfl)) ⟨hb8, hb2, trivial⟩ rfl ?_
                refine T_switch (S' := fun _ => True) (qs' := []) (by kernel_rfl) ?_
                refine T_all (rs := [12]) (by kernel_rfl) rfl (all1 (O_one rfl ?_))
                refine L_st1 rfl rfl rfl sz90 hb8 rfl ?_
                intro w16 hb9 hs16 hz13
                replace hB := gb_trg hB hs16 gb0
                replace hJ := hJb _ _ _ hJ hb8 hs16
                replace hL := own_other hL hb8 rfl hs16
                replace hb1 := hb1.grown hs16 (ne_gt lt1)
                replace hb2 := hb2.grown hs16 (ne_gt lt2)
                replace ho2 := own_other ho2 hb8 rfl hs16
                replace hS_1 := hS_1.other hb8 rfl rfl hs16
                refine L_nil (N_then ⟨fun hN_ => trivial, ?_⟩)
                refine T_done (by kernel_rfl) (CalmE.normal ?_)
                refine N_then (C_reg rfl ?_)
                refine L_run (R_move rfl) rfl ?_
                refine L_run (R_move rfl) rfl ?_
                refine L_run (R_field (r := 2) rfl fld87_2 rfl) rfl ?_
                refine L_run (R_load1 rfl scl3 (hb2.cell (i := 2) rfl)) rfl ?_
                refine L_run (R_nilck rfl) rfl ?_
                refine L_run (R_field (r := 1) rfl fld92_1 rfl) rfl ?_
                refine L_st1 rfl rfl rfl sz3 hb9 rfl ?_
                intro w17 hb10 hs17 hz14
                replace hB := gb_trg hB hs17 gb0
                replace hJ := hJb _ _ _ hJ hb9 hs17
                replace hL := own_other hL hb9 rfl hs17
                replace hb1 := hb1.grown hs17 (ne_gt lt1)
                replace hb2 := hb2.grown hs17 (ne_gt lt2)
                replace ho2 := own_other ho2 hb9 rfl hs17
                replace hS_1 := hS_1.other hb9 rfl rfl hs17
                refine L_run (R_nilck rfl) rfl ?_
                refine L_run (R_field (r := 2) rfl fld92_2 rfl) rfl ?_
                refine L_st1 rfl rfl rfl sz4 hb10 rfl ?_
                intro w18 hb11 hs18 hz15
                replace hB := gb_trg hB hs18 gb0
                replace hJ := hJb _ _ _ hJ hb10 hs18
                replace hL := own_other hL hb10 rfl hs18
                replace hb1 := hb1.grown hs18 (ne_gt lt1)
                replace hb2 := hb2.grown hs18 (ne_gt lt2)
                replace ho2 := own_other ho2 hb10 rfl hs18
                replace hS_1 := hS_1.other hb10 rfl rfl hs18
                refine L_nil (N_in (N_then (C_seq (C_seq (C_reg rfl ?_)))))
                refine L_run (R_move rfl) rfl ?_
                refine L_run (R_nilck rfl) rfl ?_
                refine L_run (R_field (r := 2) rfl fld92_2 rfl) rfl ?_
                refine L_run (R_load1 rfl scl4 (hb11.cell (i := 2) rfl)) rfl ?_
                refine L_run (R_not rfl) rfl ?_
                refine L_run (R_move rfl) rfl ?_
                refine L_no rfl rfl rfl rfl rfl ?_
                refine L_no rfl rfl rfl rfl rfl ?_
                refine L_no rfl rfl rfl rfl rfl ?_
                refine L_run (R_pickF rfl rfl rfl) rfl ?_
                refine L_nil (N_then (C_condF rfl rfl (C_skip (N_then (C_seq (C_reg rfl ?_))))))
                refine L_run (R_assign rfl) rfl ?_
                refine L_nil (N_then (C_ret ?_))
                refine ret1 Try.results70 rfl ?_
                have ed_ : doneB b y e = (⟨b.l.take e.bat.toNat, e.bat, true⟩ : BkP) := by
                  unfold doneB opsOf
                  first | (rw [if_pos (by omega)]; done) | (rw [if_neg (by omega), if_pos (by omega)]; done) | (rw [if_neg (by omega), if_neg (by omega), if_pos (by omega)]; done) | (rw [if_neg (by omega), if_neg (by omega), if_neg (by omega)]; done)
                have el_ : lostD b y e lost = lost ++ ([((b.l.length : Int) - e.bat)]) := by
                  unfold lostD
                  first | (rw [if_pos (by omega)]; done) | (rw [if_neg (by omega)]; done)
                exact ⟨hB, hJ, _, rfl, .inl ⟨rfl, ⟨fun q_ => ⟨by omega, by omega⟩, by rw [ed_]; first | exact .inl rfl | exact .inl rfl | exact .inr (by omega)⟩, by rw [ed_, el_]; exact ⟨_, _, _, _, hb11, .inr ⟨(by first | rfl | exact hcf | (rw [take_len (by omega)])), hS_1.top⟩, (own_lo ho2 (Nat.le_refl _))⟩⟩⟩
              · refine C_skip (N_then (C_seq ?_))
                refine C_draw2 rfl mix ?_
                intro w19 hs19 hz16
                replace hB := gb_tr hB hs19
                replace hbk := hbk.gb hs19
                replace hX := own_gb hX hs19
                replace hJ := hJn _ _ hJ hs19
                replace hL := own_gb hL hs19
                replace hb1 := hb1.gb hs19
                replace hb2 := hb2.gb hs19
                refine ⟨fun W_ => Blk W_ gb 92 [.slice A b.l.length c, .int .i64 b.syn, .bool b.has, .slice A2 lost.length c2] ∧ Blk W_ g2 87 [.int .i64 e.kind, .int .i64 e.e, .int .i64 e.bat, .int .i64 e.syn, .slice e.pa e.prs.length e.pc] ∧ True, [0, 1, 2, 3, 4, 5, 6, 7, 8, 10, 11], ?_⟩
                refine T_takeA (i := 0) rfl (by kernel_rfl) (by kernel_rfl) (by kernel_rfl) (by kernel_rfl) (Y_of (fun _ ⟨hbk, hb2, _⟩ => R_move rfl)) ⟨hbk, hb2, trivial⟩ rfl ?_
                refine T_takeA (i := 1) rfl (by kernel_rfl) (by kernel_rfl) (by kernel_rfl) (by kernel_rfl) (Y_of (fun _ ⟨hbk, hb2, _⟩ => R_move rfl)) ⟨hbk, hb2, trivial⟩ rfl ?_
                refine T_takeA (i := 2) rfl (by kernel_rfl) (by kernel_rfl) (by kernel_rfl) (by kernel_rfl) (Y_of (fun _ ⟨hbk, hb2, _⟩ => R_nilck rfl)) ⟨hbk, hb2, trivial⟩ rfl ?_
                refine T_takeA (i := 3) rfl (by kernel_rfl) (by kernel_rfl) (by kernel_rfl) (by kernel_rfl) (Y_of (fun _ ⟨hbk, hb2, _⟩ => R_field (r := 0) rfl fld92_0 rfl)) ⟨hbk, hb2, trivial⟩ rfl ?_
                refine T_takeA (i := 4) rfl (by kernel_rfl) (by kernel_rfl) (by kernel_rfl) (by kernel_rfl) (Y_of (fun _ ⟨hbk, hb2, _⟩ => R_load1 rfl scl90 (hbk.cell (i := 0) rfl))) ⟨hbk, hb2, trivial⟩ rfl ?_
                refine T_takeA (i := 5) rfl (by kernel_rfl) (by kernel_rfl) (by kernel_rfl) (by kernel_rfl) (Y_of (fun _ ⟨hbk, hb2, _⟩ => R_field (r := 2) rfl fld87_2 rfl)) ⟨hbk, hb2, trivial⟩ rfl ?_
                refine T_takeA (i := 6) rfl (by kernel_rfl) (by kernel_rfl) (by kernel_rfl) (by kernel_rfl) (Y_of (fun _ ⟨hbk, hb2, _⟩ => R_load1 rfl scl3 (hb2.cell (i := 2) rfl))) ⟨hbk, hb2, trivial⟩ rfl ?_
                refine T_takeA (i := 7) rfl (by kernel_rfl) (by kernel_rfl) (by kernel_rfl) (by kernel_rfl) (Y_of (fun _ ⟨hbk, hb2, _⟩ => R_field (r := 2) rfl fld87_2 rfl)) ⟨hbk, hb2, trivial⟩ rfl ?_
                refine T_takeA (i := 8) rfl (by kernel_rfl) (by kernel_rfl) (by kernel_rfl) (by kernel_rfl) (Y_of (fun _ ⟨hbk, hb2, _⟩ => R_load1 rfl scl3 (hb2.cell (i := 2) rfl))) ⟨hbk, hb2, trivial⟩ rfl ?_
                refine T_all (rs := [9]) (by kernel_rfl) rfl (all1 (O_one rfl ?_))
                refine T_slHM (xs := b.l) (j := e.bat.toNat) (r := e.bat.toNat) EncO2 rfl rfl rfl (by omega) (by omega) slc90 (by omega) (Nat.le_refl _) (Nat.le_trans (by omega) (own_cap hL)) (own_of hL).2.2 rfl ?_
                intro A_4 hS_2
                refine L_nil (N_then ⟨fun hN_ => ⟨hbk, hb2, trivial⟩, ?_⟩)
                refine T_takeA (i := 10) rfl (by kernel_rfl) (by kernel_rfl) (by kernel_rfl) (by kernel_rfl) (Y_of (fun _ ⟨hbk, hb2, _⟩ => R_nilck rfl)) ⟨hbk, hb2, trivial⟩ rfl ?_
                refine T_takeA (i := 11) rfl (by kernel_rfl) (by kernel_rfl) (by kernel_rfl) (by kernel_rfl) (Y_of (fun _ ⟨hbk, hb2, _⟩ => R_field (r := 0) rfl fld92_0 rfl)) ⟨hbk, hb2, trivial⟩ rfl ?_
                refine T_switch (S' := fun _ => True) (qs' := []) (by kernel_rfl) ?_
                refine T_all (rs := [12]) (by kernel_rfl) rfl (all1 (O_one rfl ?_))
                refine L_st1 rfl rfl rfl sz90 hbk rfl ?_
                intro w20 hb12 hs20 hz17
                replace hB := gb_trg hB hs20 gb0
                replace hX := own_other hX hbk rfl hs20
                replace hJ := hJb _ _ _ hJ hbk hs20
                replace hL := own_other hL hbk rfl hs20
                replace hb1 := hb1.grown hs20 (ne_gt lt1)
                replace hb2 := hb2.grown hs20 (ne_gt lt2)
                replace hS_2 := hS_2.other hbk rfl rfl hs20
                refine L_nil (N_then ⟨fun hN_ => trivial, ?_⟩)
                refine T_done (by kernel_rfl) (CalmE.normal ?_)
                refine N_then (C_reg rfl ?_)
                refine L_run (R_move rfl) rfl ?_
                refine L_run (R_move rfl) rfl ?_
                refine L_run (R_field (r := 2) rfl fld87_2 rfl) rfl ?_
                refine L_run (R_load1 rfl scl3 (hb2.cell (i := 2) rfl)) rfl ?_
                refine L_run (R_nilck rfl) rfl ?_
                refine L_run (R_field (r := 1) rfl fld92_1 rfl) rfl ?_
                refine L_st1 rfl rfl rfl sz3 hb12 rfl ?_
                intro w21 hb13 hs21 hz18
                replace hB := gb_trg hB hs21 gb0
                replace hX := own_other hX hb12 rfl hs21
                replace hJ := hJb _ _ _ hJ hb12 hs21
                replace hL := own_other hL hb12 rfl hs21
                replace hb1 := hb1.grown hs21 (ne_gt lt1)
                replace hb2 := hb2.grown hs21 (ne_gt lt2)
                replace hS_2 := hS_2.other hb12 rfl rfl hs21
                refine L_run (R_nilck rfl) rfl ?_
                refine L_run (R_field (r := 2) rfl fld92_2 rfl) rfl ?_
                refine L_st1 rfl rfl rfl sz4 hb13 rfl ?_
                intro w22 hb14 hs22 hz19
                replace hB := gb_trg hB hs22 gb0
                replace hX := own_other hX hb13 rfl hs22
                replace hJ := hJb _ _ _ hJ hb13 hs22
                replace hL := own_other hL hb13 rfl hs22
                replace hb1 := hb1.grown hs22 (ne_gt lt1)
                replace hb2 := hb2.grown hs22 (ne_gt lt2)
                replace hS_2 := hS_2.other hb13 rfl rfl hs22
                refine L_nil (N_in (N_then (C_seq (C_seq (C_reg rfl ?_)))))
                refine L_run (R_move rfl) rfl ?_
                refine L_run (R_nilck rfl) rfl ?_
                refine L_run (R_field (r := 2) rfl fld92_2 rfl) rfl ?_
                refine L_run (R_load1 rfl scl4 (hb14.cell (i := 2) rfl)) rfl ?_
                refine L_run (R_not rfl) rfl ?_
                refine L_run (R_move rfl) rfl ?_
                refine L_no rfl rfl rfl rfl rfl ?_
                refine L_no rfl rfl rfl rfl rfl ?_
                refine L_no rfl rfl rfl rfl rfl ?_
                refine L_run (R_pickF rfl rfl rfl) rfl ?_
                refine L_nil (N_then (C_condF rfl rfl (C_skip (N_then (C_seq (C_reg rfl ?_))))))
                refine L_run (R_assign rfl) rfl ?_
                refine L_nil (N_then (C_ret ?_))
                refine ret1 Try.results70 rfl ?_
                have ed_ : doneB b y e = (⟨b.l.take e.bat.toNat, e.bat, true⟩ : BkP) := by
                  unfold doneB opsOf
                  first | (rw [if_pos (by omega)]; done) | (rw [if_neg (by omega), if_pos (by omega)]; done) | (rw [if_neg (by omega), if_neg (by omega), if_pos (by omega)]; done) | (rw [if_neg (by omega), if_neg (by omega), if_neg (by omega)]; done)
                have el_ : lostD b y e lost = lost := by
                  unfold lostD
                  first | (rw [if_pos (by omega)]; done) | (rw [if_neg (by omega)]; done)
                exact ⟨hB, hJ, _, rfl, .inl ⟨rfl, ⟨fun q_ => ⟨by omega, by omega⟩, by rw [ed_]; first | exact .inl rfl | exact .inl rfl | exact .inr (by omega)⟩, by rw [ed_, el_]; exact ⟨_, _, _, _, hb14, .inr ⟨(by first | rfl | exact hcf | (rw [take_len (by omega)])), hS_2.top⟩, (own_lo hX (Nat.le_refl _))⟩⟩⟩
        · refine C_skip (N_in (N_then (C_seq (C_seq (C_reg rfl ?_)))))
          refine L_run (R_move rfl) rfl ?_
          refine L_run (R_nilck rfl) rfl ?_
          refine L_run (R_field (r := 2) rfl fld92_2 rfl) rfl ?_
          refine L_run (R_load1 rfl scl4 (hbk.cell (i := 2) rfl)) rfl ?_
          refine L_run (R_not rfl) rfl ?_
          refine L_run (R_move rfl) rfl ?_
          refine L_split (!b.has) (fun h14 => ?_) (fun h14 => ?_)
          · refine L_yes rfl rfl rfl h14 ?_
            refine L_run (R_field (r := 0) rfl fld86_0 rfl) rfl ?_
            refine L_yes rfl rfl rfl h14 ?_
            refine L_run (R_load1 rfl scl3 (hb1.cell (i := 0) rfl)) rfl ?_
            refine L_yes rfl rfl rfl h14 ?_
            refine L_run (R_neq rfl rfl) rfl ?_
            refine L_run (R_pickT rfl h14 rfl) rfl ?_
            refine L_nil (N_then ?_)
            refine C_if rfl (fun h15 => ?_) (fun h15 => ?_)
            · refine C_seq (C_reg rfl ?_)
              refine L_run (R_assign rfl) rfl ?_
              refine L_nil (N_then (C_ret (R_then ?_)))
              refine ret1 Try.results70 rfl ?_
              have ed_ : doneB b y e = (⟨b.l, b.syn, b.has⟩ : BkP) := by
                unfold doneB opsOf
                first | (rw [if_pos (by omega)]; done) | (rw [if_neg (by omega), if_pos (by omega)]; done) | (rw [if_neg (by omega), if_neg (by omega), if_pos (by omega)]; done) | (rw [if_neg (by omega), if_neg (by omega), if_neg (by omega)]; done)
              have hno_ : ¬ okD b y e := fun q_ => by
                rcases q_.2 with h_ | h_
                · rw [ed_] at h_; have h2_ : b.has = false := (tnot h14); rw [show _ = true from h_] at h2_; cases h2_
                · omega
              exact ⟨hB, hJ, _, rfl, .inr ⟨by decide, by decide, hno_, (⟨b.l, b.syn, b.has⟩ : BkP), lost, ⟨_, _, _, _, hbk, .inl hL, (own_lo hX (Nat.le_refl _))⟩, (.inl rfl)⟩⟩
            · refine C_skip (N_then (C_seq (C_reg rfl ?_)))
              refine L_run (R_assign rfl) rfl ?_
              refine L_nil (N_then (C_ret ?_))
              refine ret1 Try.results70 rfl ?_
              have ed_ : doneB b y e = (⟨b.l, b.syn, b.has⟩ : BkP) := by
                unfold doneB opsOf
                first | (rw [if_pos (by omega)]; done) | (rw [if_neg (by omega), if_pos (by omega)]; done) | (rw [if_neg (by omega), if_neg (by omega), if_pos (by omega)]; done) | (rw [if_neg (by omega), if_neg (by omega), if_neg (by omega)]; done)
              have el_ : lostD b y e lost = lost := by
                unfold lostD
                first | (rw [if_pos (by omega)]; done) | (rw [if_neg (by omega)]; done)
              exact ⟨hB, hJ, _, rfl, .inl ⟨rfl, ⟨fun q_ => ⟨by omega, by omega⟩, by rw [ed_]; first | exact .inl rfl | exact .inl rfl | exact .inr (by omega)⟩, by rw [ed_, el_]; exact ⟨_, _, _, _, hbk, .inl hL, (own_lo hX (Nat.le_refl _))⟩⟩⟩
          · refine L_no rfl rfl rfl h14 rfl ?_
            refine L_no rfl rfl rfl h14 rfl ?_
            refine L_no rfl rfl rfl h14 rfl ?_
            refine L_run (R_pickF rfl h14 rfl) rfl ?_
            refine L_nil (N_then (C_condF rfl rfl (C_skip (N_then (C_seq (C_reg rfl ?_))))))
            refine L_run (R_assign rfl) rfl ?_
            refine L_nil (N_then (C_ret ?_))
            refine ret1 Try.results70 rfl ?_
            have ed_ : doneB b y e = (⟨b.l, b.syn, b.has⟩ : BkP) := by
              unfold doneB opsOf
              first | (rw [if_pos (by omega)]; done) | (rw [if_neg (by omega), if_pos (by omega)]; done) | (rw [if_neg (by omega), if_neg (by omega), if_pos (by omega)]; done) | (rw [if_neg (by omega), if_neg (by omega), if_neg (by omega)]; done)
            have el_ : lostD b y e lost = lost := by
              unfold lostD
              first | (rw [if_pos (by omega)]; done) | (rw [if_neg (by omega)]; done)
            exact ⟨hB, hJ, _, rfl, .inl ⟨rfl, ⟨fun q_ => ⟨by omega, by omega⟩, by rw [ed_]; first | exact .inl rfl | exact .inl (tnot' h14) | exact .inr (by omega)⟩, by rw [ed_, el_]; exact ⟨_, _, _, _, hbk, .inl hL, (own_lo hX (Nat.le_refl _))⟩⟩⟩

theorem done_full {w wa : World} {gb : Nat} {b : BkP} {lost : List Int} {y : StepD} {e : EvD} {A A2 : Option Addr} {c c2 : Nat} (hB : w.grownBy wa none) (gb0 : w.heap.size ≤ gb) (hbk : Blk wa gb 92 [.slice A b.l.length c, .int .i64 b.syn, .bool b.has, .slice A2 lost.length c2]) (hX : wa.ownsRow w.heap.size 3 1 (.slice A2 lost.length c2) lost.length (fl encZ lost)) (h0 : 0 ≤ b.syn) (hbl : b.l.length ≤ 1000) (hll : lost.length ≤ 1000) (hcf : c = b.l.length) (hL : Sli 80 w.heap.size wa.heap.size wa A (fl encO2 b.l)) {J : World → Prop} (hJ : J wa) (hJn : ∀ w w', J w → w.grownBy w' none → J w') (hJf : ∀ w w' g T cs, J w → Blk w g T cs → wa.heap.size ≤ g → w.grownBy w' (some g) → J w') (hJb : ∀ w w' cs, J w → Blk w gb 92 cs → w.grownBy w' (some gb) → J w') (hJl : ∀ w1 w2 v n vs, J w1 → w1.ownsRow w.heap.size 80 1 v n vs → w1.grownBy w2 v.ownBlock → J w2) (hJx : ∀ w1 w2 v n vs, J w1 → w1.ownsRow w.heap.size 3 1 v n vs → w1.grownBy w2 v.ownBlock → J w2) :
    Runs Try.prog 70 #[.pointer (some ⟨gb, 0, none⟩), .agg #[.int .i64 y.p.kind, .int .i64 y.p.n, .slice y.oa y.p.ops.length y.oc, .slice y.ka y.p.keep.length y.kc, .int .i64 y.p.torn, .int .i64 y.p.cut], .agg #[.int .i64 e.kind, .int .i64 e.e, .int .i64 e.bat, .int .i64 e.syn, .slice e.pa e.prs.length e.pc]] wa (fun v_ w' => w.grownBy w' none ∧ J w' ∧ ∃ wr : Int, v_ = .int .i64 wr ∧ ((wr = 0 ∧ okD b y e ∧ BkM w w' gb (doneB b y e) (lostD b y e lost)) ∨ (wr ≠ 0 ∧ (1 ≤ wr ∧ wr ≤ 5) ∧ ¬ okD b y e ∧ ∃ b' lost', BkM w w' gb b' lost' ∧ LostOr y lost lost'))) := by
  refine enter Try.func70 Try.ntmps70 rfl rfl ?_
  refine C_seq (C_reg rfl ?_)
  refine L_box (cs := [.int .i64 y.p.kind, .int .i64 y.p.n, .slice y.oa y.p.ops.length y.oc, .slice y.ka y.p.keep.length y.kc, .int .i64 y.p.torn, .int .i64 y.p.cut]) rfl rfl rfl ?_
  intro g1 w1 eg1 hb1 hs1 hz1
  have ge1 : w.heap.size ≤ g1 := eg_ge hB eg1
  have lt1 : gb < g1 := lt_of_eg hbk.lt eg1
  replace hB := gb_tr hB hs1
  replace hbk := hbk.gb hs1
  replace hX := own_gb hX hs1
  replace hJ := hJn _ _ hJ hs1
  replace hL := hL.gb hs1
  refine L_box (cs := [.int .i64 e.kind, .int .i64 e.e, .int .i64 e.bat, .int .i64 e.syn, .slice e.pa e.prs.length e.pc]) rfl rfl rfl ?_
  intro g2 w2 eg2 hb2 hs2 hz2
  have ge2 : w.heap.size ≤ g2 := eg_ge hB eg2
  have lt2 : gb < g2 := lt_of_eg hbk.lt eg2
  have lt3 : g1 < g2 := lt_of_eg hb1.lt eg2
  replace hB := gb_tr hB hs2
  replace hbk := hbk.gb hs2
  replace hX := own_gb hX hs2
  replace hJ := hJn _ _ hJ hs2
  replace hL := hL.gb hs2
  replace hb1 := hb1.gb hs2
  refine L_run (R_assign rfl) rfl ?_
  refine L_nil (N_then (C_seq (C_block (C_seq (C_reg rfl ?_)))))
  refine L_run (R_field (r := 0) rfl fld86_0 rfl) rfl ?_
  refine L_run (R_load1 rfl scl3 (hb1.cell (i := 0) rfl)) rfl ?_
  refine L_run (R_eql rfl rfl) rfl ?_
  refine L_run (R_assign rfl) rfl ?_
  refine L_nil (N_then ?_)
  refine C_if rfl (fun h1 => ?_) (fun h1 => ?_)
  · refine C_draw2 rfl mix ?_
    intro w3 hs3 hz3
    replace hB := gb_tr hB hs3
    replace hbk := hbk.gb hs3
    replace hX := own_gb hX hs3
    replace hJ := hJn _ _ hJ hs3
    replace hL := hL.gb hs3
    replace hb1 := hb1.gb hs3
    replace hb2 := hb2.gb hs3
    refine ⟨fun W_ => Blk W_ gb 92 [.slice A b.l.length c, .int .i64 b.syn, .bool b.has, .slice A2 lost.length c2] ∧ Blk W_ g1 86 [.int .i64 y.p.kind, .int .i64 y.p.n, .slice y.oa y.p.ops.length y.oc, .slice y.ka y.p.keep.length y.kc, .int .i64 y.p.torn, .int .i64 y.p.cut] ∧ True, [0, 1, 2, 3, 4, 5, 6, 9, 10], ?_⟩
    refine T_takeA (i := 0) rfl (by kernel_rfl) (by kernel_rfl) (by kernel_rfl) (by kernel_rfl) (Y_of (fun _ ⟨hbk, hb1, _⟩ => R_move rfl)) ⟨hbk, hb1, trivial⟩ rfl ?_
    refine T_takeA (i := 1) rfl (by kernel_rfl) (by kernel_rfl) (by kernel_rfl) (by kernel_rfl) (Y_of (fun _ ⟨hbk, hb1, _⟩ => R_move rfl)) ⟨hbk, hb1, trivial⟩ rfl ?_
    refine T_takeA (i := 2) rfl (by kernel_rfl) (by kernel_rfl) (by kernel_rfl) (by kernel_rfl) (Y_of (fun _ ⟨hbk, hb1, _⟩ => R_nilck rfl)) ⟨hbk, hb1, trivial⟩ rfl ?_
    refine T_takeA (i := 3) rfl (by kernel_rfl) (by kernel_rfl) (by kernel_rfl) (by kernel_rfl) (Y_of (fun _ ⟨hbk, hb1, _⟩ => R_field (r := 0) rfl fld92_0 rfl)) ⟨hbk, hb1, trivial⟩ rfl ?_
    refine T_takeA (i := 4) rfl (by kernel_rfl) (by kernel_rfl) (by kernel_rfl) (by kernel_rfl) (Y_of (fun _ ⟨hbk, hb1, _⟩ => R_load1 rfl scl90 (hbk.cell (i := 0) rfl))) ⟨hbk, hb1, trivial⟩ rfl ?_
    refine T_takeA (i := 5) rfl (by kernel_rfl) (by kernel_rfl) (by kernel_rfl) (by kernel_rfl) (Y_of (fun _ ⟨hbk, hb1, _⟩ => R_field (r := 2) rfl fld86_2 rfl)) ⟨hbk, hb1, trivial⟩ rfl ?_
    refine T_takeA (i := 6) rfl (by kernel_rfl) (by kernel_rfl) (by kernel_rfl) (by kernel_rfl) (Y_of (fun _ ⟨hbk, hb1, _⟩ => R_load1 rfl scl80 (hb1.cell (i := 2) rfl))) ⟨hbk, hb1, trivial⟩ rfl ?_
    refine T_all (rs := [7]) (by kernel_rfl) rfl (all1 (O_one rfl ?_))
    refine L_buildSlice (pv := [(0, .slice y.oa y.p.ops.length y.oc)]) (cs := [.slice y.oa y.p.ops.length y.oc]) slc90 zer80 rfl rfl (by kernel_rfl) rfl ?_
    intro g3 w4 eg3 hb3 hs4 hz4
    have ge3 : w.heap.size ≤ g3 := eg_ge hB eg3
    have lt4 : gb < g3 := lt_of_eg hbk.lt eg3
    have lt5 : g1 < g3 := lt_of_eg hb1.lt eg3
    have lt6 : g2 < g3 := lt_of_eg hb2.lt eg3
    replace hB := gb_tr hB hs4
    replace hbk := hbk.gb hs4
    replace hX := own_gb hX hs4
    replace hJ := hJn _ _ hJ hs4
    replace hL := hL.gb hs4
    replace hb1 := hb1.gb hs4
    replace hb2 := hb2.gb hs4
    refine L_nil (N_then ⟨fun hN_ => ⟨hbk, hb1, trivial⟩, ?_⟩)
    refine T_all (rs := [8]) (by kernel_rfl) rfl (all1 (O_one rfl ?_))
    have ge4 : w.heap.size ≤ w4.heap.size := hB.size
    refine T_appendF (xs := b.l) (ys := [(⟨y.oa, y.oc, y.p.ops⟩ : OpsD)]) EncO2 slc90 rfl rfl hcf hL (Blk.sli (m := 0) hb3) (by first | decide | (simp; done) | (simp; omega)) (by simp; omega) rfl ?_
    intro A_1 c_1 w5 ho1 hs5
    replace hB := gb_tr hB hs5
    replace hbk := hbk.gb hs5
    replace hX := own_gb hX hs5
    replace hJ := hJn _ _ hJ hs5
    replace hL := hL.gb hs5
    replace hb1 := hb1.gb hs5
    replace hb2 := hb2.gb hs5
    replace hb3 := hb3.gb hs5
    refine L_nil (N_then ⟨fun hN_ => ⟨hbk, hb1, trivial⟩, ?_⟩)
    refine T_takeA (i := 9) rfl (by kernel_rfl) (by kernel_rfl) (by kernel_rfl) (by kernel_rfl) (Y_of (fun _ ⟨hbk, hb1, _⟩ => R_nilck rfl)) ⟨hbk, hb1, trivial⟩ rfl ?_
    refine T_takeA (i := 10) rfl (by kernel_rfl) (by kernel_rfl) (by kernel_rfl) (by kernel_rfl) (Y_of (fun _ ⟨hbk, hb1, _⟩ => R_field (r := 0) rfl fld92_0 rfl)) ⟨hbk, hb1, trivial⟩ rfl ?_
    refine T_switch (S' := fun _ => True) (qs' := []) (by kernel_rfl) ?_
    refine T_all (rs := [11]) (by kernel_rfl) rfl (all1 (O_one rfl ?_))
    refine L_st1 rfl rfl rfl sz90 hbk rfl ?_
    intro w6 hb4 hs6 hz5
    replace hB := gb_trg hB hs6 gb0
    replace hX := own_other hX hbk rfl hs6
    replace hJ := hJb _ _ _ hJ hbk hs6
    replace hL := hL.other hbk rfl rfl hs6
    replace hb1 := hb1.grown hs6 (ne_gt lt1)
    replace hb2 := hb2.grown hs6 (ne_gt lt2)
    replace hb3 := hb3.grown hs6 (ne_gt lt4)
    replace ho1 := own_other ho1 hbk rfl hs6
    refine L_nil (N_then ⟨fun hN_ => trivial, ?_⟩)
    refine T_done (by kernel_rfl) (CalmE.normal ?_)
    refine N_in (N_then (C_seq (C_seq (C_reg rfl ?_))))
    refine L_run (R_move rfl) rfl ?_
    refine L_run (R_nilck rfl) rfl ?_
    refine L_run (R_field (r := 2) rfl fld92_2 rfl) rfl ?_
    refine L_run (R_load1 rfl scl4 (hb4.cell (i := 2) rfl)) rfl ?_
    refine L_run (R_not rfl) rfl ?_
    refine L_run (R_move rfl) rfl ?_
    refine L_split (!b.has) (fun h2 => ?_) (fun h2 => ?_)
    · refine L_yes rfl rfl rfl h2 ?_
      refine L_run (R_field (r := 0) rfl fld86_0 rfl) rfl ?_
      refine L_yes rfl rfl rfl h2 ?_
      refine L_run (R_load1 rfl scl3 (hb1.cell (i := 0) rfl)) rfl ?_
      refine L_yes rfl rfl rfl h2 ?_
      refine L_run (R_neq rfl rfl) rfl ?_
      refine L_run (R_pickT rfl h2 rfl) rfl ?_
      refine L_nil (N_then ?_)
      refine C_if rfl (fun h3 => ?_) (fun h3 => ?_)
      · refine C_seq (C_reg rfl ?_)
        refine L_run (R_assign rfl) rfl ?_
        refine L_nil (N_then (C_ret (R_then ?_)))
        refine ret1 Try.results70 rfl ?_
        have ed_ : doneB b y e = (⟨b.l ++ ([(⟨y.oa, y.oc, y.p.ops⟩ : OpsD)]), b.syn, b.has⟩ : BkP) := by
          unfold doneB opsOf
          first | (rw [if_pos (by omega)]; done) | (rw [if_neg (by omega), if_pos (by omega)]; done) | (rw [if_neg (by omega), if_neg (by omega), if_pos (by omega)]; done) | (rw [if_neg (by omega), if_neg (by omega), if_neg (by omega)]; done)
        have hno_ : ¬ okD b y e := fun q_ => by
          rcases q_.2 with h_ | h_
          · rw [ed_] at h_; have h2_ : b.has = false := (tnot h2); rw [show _ = true from h_] at h2_; cases h2_
          · omega
        exact ⟨hB, hJ, _, rfl, .inr ⟨by decide, by decide, hno_, (⟨b.l ++ ([(⟨y.oa, y.oc, y.p.ops⟩ : OpsD)]), b.syn, b.has⟩ : BkP), lost, ⟨_, _, _, _, hb4, .inl (own_lo ho1 ge4), (own_lo hX (Nat.le_refl _))⟩, (.inl rfl)⟩⟩
      · refine C_skip (N_then (C_seq (C_reg rfl ?_)))
        refine L_run (R_assign rfl) rfl ?_
        refine L_nil (N_then (C_ret ?_))
        refine ret1 Try.results70 rfl ?_
        have ed_ : doneB b y e = (⟨b.l ++ ([(⟨y.oa, y.oc, y.p.ops⟩ : OpsD)]), b.syn, b.has⟩ : BkP) := by
          unfold doneB opsOf
          first | (rw [if_pos (by omega)]; done) | (rw [if_neg (by omega), if_pos (by omega)]; done) | (rw [if_neg (by omega), if_neg (by omega), if_pos (by omega)]; done) | (rw [if_neg (by omega), if_neg (by omega), if_neg (by omega)]; done)
        have el_ : lostD b y e lost = lost := by
          unfold lostD
          first | (rw [if_pos (by omega)]; done) | (rw [if_neg (by omega)]; done)
        exact ⟨hB, hJ, _, rfl, .inl ⟨rfl, ⟨fun q_ => ⟨by omega, by omega⟩, by rw [ed_]; first | exact .inl rfl | exact .inl rfl | exact .inr (by omega)⟩, by rw [ed_, el_]; exact ⟨_, _, _, _, hb4, .inl (own_lo ho1 ge4), (own_lo hX (Nat.le_refl _))⟩⟩⟩
    · refine L_no rfl rfl rfl h2 rfl ?_
      refine L_no rfl rfl rfl h2 rfl ?_
      refine L_no rfl rfl rfl h2 rfl ?_
      refine L_run (R_pickF rfl h2 rfl) rfl ?_
      refine L_nil (N_then (C_condF rfl rfl (C_skip (N_then (C_seq (C_reg rfl ?_))))))
      refine L_run (R_assign rfl) rfl ?_
      refine L_nil (N_then (C_ret ?_))
      refine ret1 Try.results70 rfl ?_
      have ed_ : doneB b y e = (⟨b.l ++ ([(⟨y.oa, y.oc, y.p.ops⟩ : OpsD)]), b.syn, b.has⟩ : BkP) := by
        unfold doneB opsOf
        first | (rw [if_pos (by omega)]; done) | (rw [if_neg (by omega), if_pos (by omega)]; done) | (rw [if_neg (by omega), if_neg (by omega), if_pos (by omega)]; done) | (rw [if_neg (by omega), if_neg (by omega), if_neg (by omega)]; done)
      have el_ : lostD b y e lost = lost := by
        unfold lostD
        first | (rw [if_pos (by omega)]; done) | (rw [if_neg (by omega)]; done)
      exact ⟨hB, hJ, _, rfl, .inl ⟨rfl, ⟨fun q_ => ⟨by omega, by omega⟩, by rw [ed_]; first | exact .inl rfl | exact .inl (tnot' h2) | exact .inr (by omega)⟩, by rw [ed_, el_]; exact ⟨_, _, _, _, hb4, .inl (own_lo ho1 ge4), (own_lo hX (Nat.le_refl _))⟩⟩⟩
  · refine C_seq (C_reg rfl ?_)
    refine L_run (R_field (r := 0) rfl fld86_0 rfl) rfl ?_
    refine L_run (R_load1 rfl scl3 (hb1.cell (i := 0) rfl)) rfl ?_
    refine L_run (R_eql rfl rfl) rfl ?_
    refine L_run (R_move rfl) rfl ?_
    refine L_splitD (p := y.p.kind = 2) (fun h4 => ?_) (fun h4 => ?_)
    · refine L_no rfl rfl rfl (decide_eq_true h4) rfl ?_
      refine L_no rfl rfl rfl (decide_eq_true h4) rfl ?_
      refine L_no rfl rfl rfl (decide_eq_true h4) rfl ?_
      refine L_run (R_pickT rfl (decide_eq_true h4) rfl) rfl ?_
      refine L_run (R_assign rfl) rfl ?_
      refine L_nil (N_then (C_condT rfl rfl (C_reg rfl ?_)))
      refine L_run (R_move rfl) rfl ?_
      refine L_run (R_move rfl) rfl ?_
      refine L_run (R_nilck rfl) rfl ?_
      refine L_run (R_field (r := 0) rfl fld92_0 rfl) rfl ?_
      refine L_run (R_load1 rfl scl90 (hbk.cell (i := 0) rfl)) rfl ?_
      refine L_run (R_lenSl rfl slc90) rfl ?_
      refine L_run (R_nilck rfl) rfl ?_
      refine L_run (R_field (r := 1) rfl fld92_1 rfl) rfl ?_
      refine L_st1 rfl rfl rfl sz3 hbk rfl ?_
      intro w7 hb5 hs7 hz6
      replace hB := gb_trg hB hs7 gb0
      replace hX := own_other hX hbk rfl hs7
      replace hJ := hJb _ _ _ hJ hbk hs7
      replace hL := hL.other hbk rfl rfl hs7
      replace hb1 := hb1.grown hs7 (ne_gt lt1)
      replace hb2 := hb2.grown hs7 (ne_gt lt2)
      refine L_nil (N_in (N_then (C_seq (C_seq (C_reg rfl ?_)))))
      refine L_run (R_move rfl) rfl ?_
      refine L_run (R_nilck rfl) rfl ?_
      refine L_run (R_field (r := 2) rfl fld92_2 rfl) rfl ?_
      refine L_run (R_load1 rfl scl4 (hb5.cell (i := 2) rfl)) rfl ?_
      refine L_run (R_not rfl) rfl ?_
      refine L_run (R_move rfl) rfl ?_
      refine L_split (!b.has) (fun h5 => ?_) (fun h5 => ?_)
      · refine L_yes rfl rfl rfl h5 ?_
        refine L_run (R_field (r := 0) rfl fld86_0 rfl) rfl ?_
        refine L_yes rfl rfl rfl h5 ?_
        refine L_run (R_load1 rfl scl3 (hb1.cell (i := 0) rfl)) rfl ?_
        refine L_yes rfl rfl rfl h5 ?_
        refine L_run (R_neq rfl rfl) rfl ?_
        refine L_run (R_pickT rfl h5 rfl) rfl ?_
        refine L_nil (N_then ?_)
        refine C_if rfl (fun h6 => ?_) (fun h6 => ?_)
        · refine C_seq (C_reg rfl ?_)
          refine L_run (R_assign rfl) rfl ?_
          refine L_nil (N_then (C_ret (R_then ?_)))
          refine ret1 Try.results70 rfl ?_
          have ed_ : doneB b y e = (⟨b.l, (b.l.length : Int), b.has⟩ : BkP) := by
            unfold doneB opsOf
            first | (rw [if_pos (by omega)]; done) | (rw [if_neg (by omega), if_pos (by omega)]; done) | (rw [if_neg (by omega), if_neg (by omega), if_pos (by omega)]; done) | (rw [if_neg (by omega), if_neg (by omega), if_neg (by omega)]; done)
          have hno_ : ¬ okD b y e := fun q_ => by
            rcases q_.2 with h_ | h_
            · rw [ed_] at h_; have h2_ : b.has = false := (tnot h5); rw [show _ = true from h_] at h2_; cases h2_
            · omega
          exact ⟨hB, hJ, _, rfl, .inr ⟨by decide, by decide, hno_, (⟨b.l, (b.l.length : Int), b.has⟩ : BkP), lost, ⟨_, _, _, _, hb5, .inr ⟨(by first | rfl | exact hcf | (rw [take_len (by omega)])), hL.top⟩, (own_lo hX (Nat.le_refl _))⟩, (.inl rfl)⟩⟩
        · refine C_skip (N_then (C_seq (C_reg rfl ?_)))
          refine L_run (R_assign rfl) rfl ?_
          refine L_nil (N_then (C_ret ?_))
          refine ret1 Try.results70 rfl ?_
          have ed_ : doneB b y e = (⟨b.l, (b.l.length : Int), b.has⟩ : BkP) := by
            unfold doneB opsOf
            first | (rw [if_pos (by omega)]; done) | (rw [if_neg (by omega), if_pos (by omega)]; done) | (rw [if_neg (by omega), if_neg (by omega), if_pos (by omega)]; done) | (rw [if_neg (by omega), if_neg (by omega), if_neg (by omega)]; done)
          have el_ : lostD b y e lost = lost := by
            unfold lostD
            first | (rw [if_pos (by omega)]; done) | (rw [if_neg (by omega)]; done)
          exact ⟨hB, hJ, _, rfl, .inl ⟨rfl, ⟨fun q_ => ⟨by omega, by omega⟩, by rw [ed_]; first | exact .inl rfl | exact .inl rfl | exact .inr (by omega)⟩, by rw [ed_, el_]; exact ⟨_, _, _, _, hb5, .inr ⟨(by first | rfl | exact hcf | (rw [take_len (by omega)])), hL.top⟩, (own_lo hX (Nat.le_refl _))⟩⟩⟩
      · refine L_no rfl rfl rfl h5 rfl ?_
        refine L_no rfl rfl rfl h5 rfl ?_
        refine L_no rfl rfl rfl h5 rfl ?_
        refine L_run (R_pickF rfl h5 rfl) rfl ?_
        refine L_nil (N_then (C_condF rfl rfl (C_skip (N_then (C_seq (C_reg rfl ?_))))))
        refine L_run (R_assign rfl) rfl ?_
        refine L_nil (N_then (C_ret ?_))
        refine ret1 Try.results70 rfl ?_
        have ed_ : doneB b y e = (⟨b.l, (b.l.length : Int), b.has⟩ : BkP) := by
          unfold doneB opsOf
          first | (rw [if_pos (by omega)]; done) | (rw [if_neg (by omega), if_pos (by omega)]; done) | (rw [if_neg (by omega), if_neg (by omega), if_pos (by omega)]; done) | (rw [if_neg (by omega), if_neg (by omega), if_neg (by omega)]; done)
        have el_ : lostD b y e lost = lost := by
          unfold lostD
          first | (rw [if_pos (by omega)]; done) | (rw [if_neg (by omega)]; done)
        exact ⟨hB, hJ, _, rfl, .inl ⟨rfl, ⟨fun q_ => ⟨by omega, by omega⟩, by rw [ed_]; first | exact .inl rfl | exact .inl (tnot' h5) | exact .inr (by omega)⟩, by rw [ed_, el_]; exact ⟨_, _, _, _, hb5, .inr ⟨(by first | rfl | exact hcf | (rw [take_len (by omega)])), hL.top⟩, (own_lo hX (Nat.le_refl _))⟩⟩⟩
    · refine L_yes rfl rfl rfl (decide_eq_false h4) ?_
      refine L_run (R_field (r := 0) rfl fld86_0 rfl) rfl ?_
      refine L_yes rfl rfl rfl (decide_eq_false h4) ?_
      refine L_run (R_load1 rfl scl3 (hb1.cell (i := 0) rfl)) rfl ?_
      refine L_yes rfl rfl rfl (decide_eq_false h4) ?_
      refine L_run (R_eql rfl rfl) rfl ?_
      refine L_run (R_pickF rfl (decide_eq_false h4) rfl) rfl ?_
      refine L_run (R_assign rfl) rfl ?_
      refine L_nil (N_then ?_)
      refine C_if rfl (fun h7 => ?_) (fun h7 => ?_)
      · refine C_reg rfl ?_
        refine L_run (R_move rfl) rfl ?_
        refine L_run (R_move rfl) rfl ?_
        refine L_run (R_nilck rfl) rfl ?_
        refine L_run (R_field (r := 0) rfl fld92_0 rfl) rfl ?_
        refine L_run (R_load1 rfl scl90 (hbk.cell (i := 0) rfl)) rfl ?_
        refine L_run (R_lenSl rfl slc90) rfl ?_
        refine L_run (R_nilck rfl) rfl ?_
        refine L_run (R_field (r := 1) rfl fld92_1 rfl) rfl ?_
        refine L_st1 rfl rfl rfl sz3 hbk rfl ?_
        intro w8 hb6 hs8 hz7
        replace hB := gb_trg hB hs8 gb0
        replace hX := own_other hX hbk rfl hs8
        replace hJ := hJb _ _ _ hJ hbk hs8
        replace hL := hL.other hbk rfl rfl hs8
        replace hb1 := hb1.grown hs8 (ne_gt lt1)
        replace hb2 := hb2.grown hs8 (ne_gt lt2)
        refine L_nil (N_in (N_then (C_seq (C_seq (C_reg rfl ?_)))))
        refine L_run (R_move rfl) rfl ?_
        refine L_run (R_nilck rfl) rfl ?_
        refine L_run (R_field (r := 2) rfl fld92_2 rfl) rfl ?_
        refine L_run (R_load1 rfl scl4 (hb6.cell (i := 2) rfl)) rfl ?_
        refine L_run (R_not rfl) rfl ?_
        refine L_run (R_move rfl) rfl ?_
        refine L_split (!b.has) (fun h8 => ?_) (fun h8 => ?_)
        · refine L_yes rfl rfl rfl h8 ?_
          refine L_run (R_field (r := 0) rfl fld86_0 rfl) rfl ?_
          refine L_yes rfl rfl rfl h8 ?_
          refine L_run (R_load1 rfl scl3 (hb1.cell (i := 0) rfl)) rfl ?_
          refine L_yes rfl rfl rfl h8 ?_
          refine L_run (R_neq rfl rfl) rfl ?_
          refine L_run (R_pickT rfl h8 rfl) rfl ?_
          refine L_nil (N_then ?_)
          refine C_if rfl (fun h9 => ?_) (fun h9 => ?_)
          · refine C_seq (C_reg rfl ?_)
            refine L_run (R_assign rfl) rfl ?_
            refine L_nil (N_then (C_ret (R_then ?_)))
            refine ret1 Try.results70 rfl ?_
            have ed_ : doneB b y e = (⟨b.l, (b.l.length : Int), b.has⟩ : BkP) := by
              unfold doneB opsOf
              first | (rw [if_pos (by omega)]; done) | (rw [if_neg (by omega), if_pos (by omega)]; done) | (rw [if_neg (by omega), if_neg (by omega), if_pos (by omega)]; done) | (rw [if_neg (by omega), if_neg (by omega), if_neg (by omega)]; done)
            have hno_ : ¬ okD b y e := fun q_ => by
              rcases q_.2 with h_ | h_
              · rw [ed_] at h_; have h2_ : b.has = false := (tnot h8); rw [show _ = true from h_] at h2_; cases h2_
              · omega
            exact ⟨hB, hJ, _, rfl, .inr ⟨by decide, by decide, hno_, (⟨b.l, (b.l.length : Int), b.has⟩ : BkP), lost, ⟨_, _, _, _, hb6, .inr ⟨(by first | rfl | exact hcf | (rw [take_len (by omega)])), hL.top⟩, (own_lo hX (Nat.le_refl _))⟩, (.inl rfl)⟩⟩
          · refine C_skip (N_then (C_seq (C_reg rfl ?_)))
            refine L_run (R_assign rfl) rfl ?_
            refine L_nil (N_then (C_ret ?_))
            refine ret1 Try.results70 rfl ?_
            have ed_ : doneB b y e = (⟨b.l, (b.l.length : Int), b.has⟩ : BkP) := by
              unfold doneB opsOf
              first | (rw [if_pos (by omega)]; done) | (rw [if_neg (by omega), if_pos (by omega)]; done) | (rw [if_neg (by omega), if_neg (by omega), if_pos (by omega)]; done) | (rw [if_neg (by omega), if_neg (by omega), if_neg (by omega)]; done)
            have el_ : lostD b y e lost = lost := by
              unfold lostD
              first | (rw [if_pos (by omega)]; done) | (rw [if_neg (by omega)]; done)
            exact ⟨hB, hJ, _, rfl, .inl ⟨rfl, ⟨fun q_ => ⟨by omega, by omega⟩, by rw [ed_]; first | exact .inl rfl | exact .inl rfl | exact .inr (by omega)⟩, by rw [ed_, el_]; exact ⟨_, _, _, _, hb6, .inr ⟨(by first | rfl | exact hcf | (rw [take_len (by omega)])), hL.top⟩, (own_lo hX (Nat.le_refl _))⟩⟩⟩
        · refine L_no rfl rfl rfl h8 rfl ?_
          refine L_no rfl rfl rfl h8 rfl ?_
          refine L_no rfl rfl rfl h8 rfl ?_
          refine L_run (R_pickF rfl h8 rfl) rfl ?_
          refine L_nil (N_then (C_condF rfl rfl (C_skip (N_then (C_seq (C_reg rfl ?_))))))
          refine L_run (R_assign rfl) rfl ?_
          refine L_nil (N_then (C_ret ?_))
          refine ret1 Try.results70 rfl ?_
          have ed_ : doneB b y e = (⟨b.l, (b.l.length : Int), b.has⟩ : BkP) := by
            unfold doneB opsOf
            first | (rw [if_pos (by omega)]; done) | (rw [if_neg (by omega), if_pos (by omega)]; done) | (rw [if_neg (by omega), if_neg (by omega), if_pos (by omega)]; done) | (rw [if_neg (by omega), if_neg (by omega), if_neg (by omega)]; done)
          have el_ : lostD b y e lost = lost := by
            unfold lostD
            first | (rw [if_pos (by omega)]; done) | (rw [if_neg (by omega)]; done)
          exact ⟨hB, hJ, _, rfl, .inl ⟨rfl, ⟨fun q_ => ⟨by omega, by omega⟩, by rw [ed_]; first | exact .inl rfl | exact .inl (tnot' h8) | exact .inr (by omega)⟩, by rw [ed_, el_]; exact ⟨_, _, _, _, hb6, .inr ⟨(by first | rfl | exact hcf | (rw [take_len (by omega)])), hL.top⟩, (own_lo hX (Nat.le_refl _))⟩⟩⟩
      · refine C_seq (C_reg rfl ?_)
        refine L_run (R_loadA (vs := [.int .i64 y.p.kind, .int .i64 y.p.n, .slice y.oa y.p.ops.length y.oc, .slice y.ka y.p.keep.length y.kc, .int .i64 y.p.torn, .int .i64 y.p.cut]) rfl agg86 (At.pre (hb1.at_ 0) rfl) rfl) rfl ?_
        refine L_call rfl cb69 (opens_ok (y := y)) rfl ?_
        rintro _ w9 ⟨hs9, rfl⟩
        replace hB := gb_tr hB hs9
        replace hbk := hbk.gb hs9
        replace hX := own_gb hX hs9
        replace hJ := hJn _ _ hJ hs9
        replace hL := hL.gb hs9
        replace hb1 := hb1.gb hs9
        replace hb2 := hb2.gb hs9
        refine L_run (R_assign rfl) rfl ?_
        refine L_nil (N_then ?_)
        refine C_if rfl (fun h10 => ?_) (fun h10 => ?_)
        · refine C_seq (C_seq ?_)
          refine C_draw2 rfl mix ?_
          intro w10 hs10 hz8
          replace hB := gb_tr hB hs10
          replace hbk := hbk.gb hs10
          replace hX := own_gb hX hs10
          replace hJ := hJn _ _ hJ hs10
          replace hL := hL.gb hs10
          replace hb1 := hb1.gb hs10
          replace hb2 := hb2.gb hs10
          refine ⟨fun W_ => Blk W_ gb 92 [.slice A b.l.length c, .int .i64 b.syn, .bool b.has, .slice A2 lost.length c2] ∧ Blk W_ g2 87 [.int .i64 e.kind, .int .i64 e.e, .int .i64 e.bat, .int .i64 e.syn, .slice e.pa e.prs.length e.pc] ∧ True, [0, 1, 2, 3, 4, 5, 6, 7, 8, 9, 10, 11, 12, 13, 14, 15, 16], ?_⟩
          refine T_takeA (i := 0) rfl (by kernel_rfl) (by kernel_rfl) (by kernel_rfl) (by kernel_rfl) (Y_of (fun _ ⟨hbk, hb2, _⟩ => R_field (r := 2) rfl fld87_2 rfl)) ⟨hbk, hb2, trivial⟩ rfl ?_
          refine T_takeA (i := 1) rfl (by kernel_rfl) (by kernel_rfl) (by kernel_rfl) (by kernel_rfl) (Y_of (fun _ ⟨hbk, hb2, _⟩ => R_load1 rfl scl3 (hb2.cell (i := 2) rfl))) ⟨hbk, hb2, trivial⟩ rfl ?_
          refine T_takeA (i := 2) rfl (by kernel_rfl) (by kernel_rfl) (by kernel_rfl) (by kernel_rfl) (Y_of (fun _ ⟨hbk, hb2, _⟩ => R_move rfl)) ⟨hbk, hb2, trivial⟩ rfl ?_
          refine T_takeA (i := 3) rfl (by kernel_rfl) (by kernel_rfl) (by kernel_rfl) (by kernel_rfl) (Y_of (fun _ ⟨hbk, hb2, _⟩ => R_nilck rfl)) ⟨hbk, hb2, trivial⟩ rfl ?_
          refine T_takeA (i := 4) rfl (by kernel_rfl) (by kernel_rfl) (by kernel_rfl) (by kernel_rfl) (Y_of (fun _ ⟨hbk, hb2, _⟩ => R_field (r := 1) rfl fld92_1 rfl)) ⟨hbk, hb2, trivial⟩ rfl ?_
          refine T_takeA (i := 5) rfl (by kernel_rfl) (by kernel_rfl) (by kernel_rfl) (by kernel_rfl) (Y_of (fun _ ⟨hbk, hb2, _⟩ => R_load1 rfl scl3 (hbk.cell (i := 1) rfl))) ⟨hbk, hb2, trivial⟩ rfl ?_
          refine T_takeA (i := 6) rfl (by kernel_rfl) (by kernel_rfl) (by kernel_rfl) (by kernel_rfl) (Y_of (fun _ ⟨hbk, hb2, _⟩ => R_lss rfl rfl)) ⟨hbk, hb2, trivial⟩ rfl ?_
          refine T_takeA (i := 7) rfl (by kernel_rfl) (by kernel_rfl) (by kernel_rfl) (by kernel_rfl) (Y_of (fun _ ⟨hbk, hb2, _⟩ => R_move rfl)) ⟨hbk, hb2, trivial⟩ rfl ?_
          by_cases h11 : e.bat < b.syn
          · refine T_takeA (i := 8) rfl (by kernel_rfl) (by kernel_rfl) (by kernel_rfl) (by kernel_rfl) (Y_no rfl rfl rfl (decide_eq_true h11)) ⟨hbk, hb2, trivial⟩ rfl ?_
            refine T_takeA (i := 9) rfl (by kernel_rfl) (by kernel_rfl) (by kernel_rfl) (by kernel_rfl) (Y_no rfl rfl rfl (decide_eq_true h11)) ⟨hbk, hb2, trivial⟩ rfl ?_
            refine T_takeA (i := 10) rfl (by kernel_rfl) (by kernel_rfl) (by kernel_rfl) (by kernel_rfl) (Y_no rfl rfl rfl (decide_eq_true h11)) ⟨hbk, hb2, trivial⟩ rfl ?_
            refine T_takeA (i := 11) rfl (by kernel_rfl) (by kernel_rfl) (by kernel_rfl) (by kernel_rfl) (Y_no rfl rfl rfl (decide_eq_true h11)) ⟨hbk, hb2, trivial⟩ rfl ?_
            refine T_takeA (i := 12) rfl (by kernel_rfl) (by kernel_rfl) (by kernel_rfl) (by kernel_rfl) (Y_no rfl rfl rfl (decide_eq_true h11)) ⟨hbk, hb2, trivial⟩ rfl ?_
            refine T_takeA (i := 13) rfl (by kernel_rfl) (by kernel_rfl) (by kernel_rfl) (by kernel_rfl) (Y_no rfl rfl rfl (decide_eq_true h11)) ⟨hbk, hb2, trivial⟩ rfl ?_
            refine T_takeA (i := 14) rfl (by kernel_rfl) (by kernel_rfl) (by kernel_rfl) (by kernel_rfl) (Y_no rfl rfl rfl (decide_eq_true h11)) ⟨hbk, hb2, trivial⟩ rfl ?_
            refine T_takeA (i := 15) rfl (by kernel_rfl) (by kernel_rfl) (by kernel_rfl) (by kernel_rfl) (Y_no rfl rfl rfl (decide_eq_true h11)) ⟨hbk, hb2, trivial⟩ rfl ?_
            refine T_takeA (i := 16) rfl (by kernel_rfl) (by kernel_rfl) (by kernel_rfl) (by kernel_rfl) (Y_of (fun _ ⟨hbk, hb2, _⟩ => R_pickT rfl (decide_eq_true h11) rfl)) ⟨hbk, hb2, trivial⟩ rfl ?_
            refine T_done (by kernel_rfl) (CalmE.normal ?_)
            refine N_then (C_condT rfl rfl (C_seq (C_reg rfl ?_)))
            refine L_run (R_assign rfl) rfl ?_
            refine L_nil (N_then (C_ret (R_then (R_in (R_then ?_)))))
            refine ret1 Try.results70 rfl ?_
            have hno_ : ¬ okD b y e := fun q_ => by have h_ := q_.1 (by omega); omega
            exact ⟨hB, hJ, _, rfl, .inr ⟨by decide, by decide, hno_, (⟨b.l, b.syn, b.has⟩ : BkP), lost, ⟨_, _, _, _, hbk, .inr ⟨(by first | rfl | exact hcf | (rw [take_len (by omega)])), hL.top⟩, (own_lo hX (Nat.le_refl _))⟩, (.inl rfl)⟩⟩
          · refine T_takeA (i := 8) rfl (by kernel_rfl) (by kernel_rfl) (by kernel_rfl) (by kernel_rfl) (Y_yes rfl rfl rfl (decide_eq_false h11) (fun _ ⟨hbk, hb2, _⟩ => R_field (r := 2) rfl fld87_2 rfl)) ⟨hbk, hb2, trivial⟩ rfl ?_
            refine T_takeA (i := 9) rfl (by kernel_rfl) (by kernel_rfl) (by kernel_rfl) (by kernel_rfl) (Y_yes rfl rfl rfl (decide_eq_false h11) (fun _ ⟨hbk, hb2, _⟩ => R_load1 rfl scl3 (hb2.cell (i := 2) rfl))) ⟨hbk, hb2, trivial⟩ rfl ?_
            refine T_takeA (i := 10) rfl (by kernel_rfl) (by kernel_rfl) (by kernel_rfl) (by kernel_rfl) (Y_yes rfl rfl rfl (decide_eq_false h11) (fun _ ⟨hbk, hb2, _⟩ => R_move rfl)) ⟨hbk, hb2, trivial⟩ rfl ?_
            refine T_takeA (i := 11) rfl (by kernel_rfl) (by kernel_rfl) (by kernel_rfl) (by kernel_rfl) (Y_yes rfl rfl rfl (decide_eq_false h11) (fun _ ⟨hbk, hb2, _⟩ => R_nilck rfl)) ⟨hbk, hb2, trivial⟩ rfl ?_
            refine T_takeA (i := 12) rfl (by kernel_rfl) (by kernel_rfl) (by kernel_rfl) (by kernel_rfl) (Y_yes rfl rfl rfl (decide_eq_false h11) (fun _ ⟨hbk, hb2, _⟩ => R_field (r := 0) rfl fld92_0 rfl)) ⟨hbk, hb2, trivial⟩ rfl ?_
            refine T_takeA (i := 13) rfl (by kernel_rfl) (by kernel_rfl) (by kernel_rfl) (by kernel_rfl) (Y_yes rfl rfl rfl (decide_eq_false h11) (fun _ ⟨hbk, hb2, _⟩ => R_load1 rfl scl90 (hbk.cell (i := 0) rfl))) ⟨hbk, hb2, trivial⟩ rfl ?_
            refine T_takeA (i := 14) rfl (by kernel_rfl) (by kernel_rfl) (by kernel_rfl) (by kernel_rfl) (Y_yes rfl rfl rfl (decide_eq_false h11) (fun _ ⟨hbk, hb2, _⟩ => R_lenSl rfl slc90)) ⟨hbk, hb2, trivial⟩ rfl ?_
            refine T_takeA (i := 15) rfl (by kernel_rfl) (by kernel_rfl) (by kernel_rfl) (by kernel_rfl) (Y_yes rfl rfl rfl (decide_eq_false h11) (fun _ ⟨hbk, hb2, _⟩ => R_gtr rfl rfl)) ⟨hbk, hb2, trivial⟩ rfl ?_
            refine T_takeA (i := 16) rfl (by kernel_rfl) (by kernel_rfl) (by kernel_rfl) (by kernel_rfl) (Y_of (fun _ ⟨hbk, hb2, _⟩ => R_pickF rfl (decide_eq_false h11) rfl)) ⟨hbk, hb2, trivial⟩ rfl ?_
            refine T_done (by kernel_rfl) (CalmE.normal ?_)
            refine N_then ?_
            refine C_if rfl (fun h12 => ?_) (fun h12 => ?_)
            · refine C_seq (C_reg rfl ?_)
              refine L_run (R_assign rfl) rfl ?_
              refine L_nil (N_then (C_ret (R_then (R_in (R_then ?_)))))
              refine ret1 Try.results70 rfl ?_
              have hno_ : ¬ okD b y e := fun q_ => by have h_ := q_.1 (by omega); omega
              exact ⟨hB, hJ, _, rfl, .inr ⟨by decide, by decide, hno_, (⟨b.l, b.syn, b.has⟩ : BkP), lost, ⟨_, _, _, _, hbk, .inr ⟨(by first | rfl | exact hcf | (rw [take_len (by omega)])), hL.top⟩, (own_lo hX (Nat.le_refl _))⟩, (.inl rfl)⟩⟩
            · refine C_skip (N_then (C_seq (C_seq (C_reg rfl ?_))))
              refine L_run (R_field (r := 0) rfl fld86_0 rfl) rfl ?_
              refine L_run (R_load1 rfl scl3 (hb1.cell (i := 0) rfl)) rfl ?_
              refine L_run (R_eql rfl rfl) rfl ?_
              refine L_nil (N_then ?_)
              refine C_if rfl (fun h13 => ?_) (fun h13 => ?_)
              · refine C_draw2 rfl mix ?_
                intro w11 hs11 hz9
                replace hB := gb_tr hB hs11
                replace hbk := hbk.gb hs11
                replace hX := own_gb hX hs11
                replace hJ := hJn _ _ hJ hs11
                replace hL := hL.gb hs11
                replace hb1 := hb1.gb hs11
                replace hb2 := hb2.gb hs11
                refine ⟨fun W_ => Blk W_ gb 92 [.slice A b.l.length c, .int .i64 b.syn, .bool b.has, .slice A2 lost.length c2] ∧ Blk W_ g2 87 [.int .i64 e.kind, .int .i64 e.e, .int .i64 e.bat, .int .i64 e.syn, .slice e.pa e.prs.length e.pc] ∧ True, [0, 1, 2, 3, 4, 5, 6, 7, 8, 9, 10, 11, 12, 15, 16], ?_⟩
                refine T_takeA (i := 0) rfl (by kernel_rfl) (by kernel_rfl) (by kernel_rfl) (by kernel_rfl) (Y_of (fun _ ⟨hbk, hb2, _⟩ => R_move rfl)) ⟨hbk, hb2, trivial⟩ rfl ?_
                refine T_takeA (i := 1) rfl (by kernel_rfl) (by kernel_rfl) (by kernel_rfl) (by kernel_rfl) (Y_of (fun _ ⟨hbk, hb2, _⟩ => R_move rfl)) ⟨hbk, hb2, trivial⟩ rfl ?_
                refine T_takeA (i := 2) rfl (by kernel_rfl) (by kernel_rfl) (by kernel_rfl) (by kernel_rfl) (Y_of (fun _ ⟨hbk, hb2, _⟩ => R_nilck rfl)) ⟨hbk, hb2, trivial⟩ rfl ?_
                refine T_takeA (i := 3) rfl (by kernel_rfl) (by kernel_rfl) (by kernel_rfl) (by kernel_rfl) (Y_of (fun _ ⟨hbk, hb2, _⟩ => R_field (r := 3) rfl fld92_3 rfl)) ⟨hbk, hb2, trivial⟩ rfl ?_
                refine T_takeA (i := 4) rfl (by kernel_rfl) (by kernel_rfl) (by kernel_rfl) (by kernel_rfl) (Y_of (fun _ ⟨hbk, hb2, _⟩ => R_load1 rfl scl51 (hbk.cell (i := 3) rfl))) ⟨hbk, hb2, trivial⟩ rfl ?_
                refine T_takeA (i := 5) rfl (by kernel_rfl) (by kernel_rfl) (by kernel_rfl) (by kernel_rfl) (Y_of (fun _ ⟨hbk, hb2, _⟩ => R_move rfl)) ⟨hbk, hb2, trivial⟩ rfl ?_
                refine T_takeA (i := 6) rfl (by kernel_rfl) (by kernel_rfl) (by kernel_rfl) (by kernel_rfl) (Y_of (fun _ ⟨hbk, hb2, _⟩ => R_nilck rfl)) ⟨hbk, hb2, trivial⟩ rfl ?_
                refine T_takeA (i := 7) rfl (by kernel_rfl) (by kernel_rfl) (by kernel_rfl) (by kernel_rfl) (Y_of (fun _ ⟨hbk, hb2, _⟩ => R_field (r := 0) rfl fld92_0 rfl)) ⟨hbk, hb2, trivial⟩ rfl ?_
                refine T_takeA (i := 8) rfl (by kernel_rfl) (by kernel_rfl) (by kernel_rfl) (by kernel_rfl) (Y_of (fun _ ⟨hbk, hb2, _⟩ => R_load1 rfl scl90 (hbk.cell (i := 0) rfl))) ⟨hbk, hb2, trivial⟩ rfl ?_
                refine T_takeA (i := 9) rfl (by kernel_rfl) (by kernel_rfl) (by kernel_rfl) (by kernel_rfl) (Y_of (fun _ ⟨hbk, hb2, _⟩ => R_lenSl rfl slc90)) ⟨hbk, hb2, trivial⟩ rfl ?_
                refine T_takeA (i := 10) rfl (by kernel_rfl) (by kernel_rfl) (by kernel_rfl) (by kernel_rfl) (Y_of (fun _ ⟨hbk, hb2, _⟩ => R_field (r := 2) rfl fld87_2 rfl)) ⟨hbk, hb2, trivial⟩ rfl ?_
                refine T_takeA (i := 11) rfl (by kernel_rfl) (by kernel_rfl) (by kernel_rfl) (by kernel_rfl) (Y_of (fun _ ⟨hbk, hb2, _⟩ => R_load1 rfl scl3 (hb2.cell (i := 2) rfl))) ⟨hbk, hb2, trivial⟩ rfl ?_
                refine T_takeA (i := 12) rfl (by kernel_rfl) (by kernel_rfl) (by kernel_rfl) (by kernel_rfl) (Y_of (fun _ ⟨hbk, hb2, _⟩ => R_sub64 rfl rfl (by omega))) ⟨hbk, hb2, trivial⟩ rfl ?_
                refine T_all (rs := [13]) (by kernel_rfl) rfl (all1 (O_one rfl ?_))
                refine L_buildSlice (pv := [(0, .int .i64 ((b.l.length : Int) - e.bat))]) (cs := [.int .i64 ((b.l.length : Int) - e.bat)]) slc51 zer3 rfl rfl (by kernel_rfl) rfl ?_
                intro g4 w12 eg4 hb7 hs12 hz10
                have ge5 : w.heap.size ≤ g4 := eg_ge hB eg4
                have lt7 : gb < g4 := lt_of_eg hbk.lt eg4
                have lt8 : g1 < g4 := lt_of_eg hb1.lt eg4
                have lt9 : g2 < g4 := lt_of_eg hb2.lt eg4
                have hap1 : ∀ k_, (Value.slice A2 lost.length c2).ownBlock = some k_ → k_ ≠ g4 := fun k_ hk => by have h_ := (World.ownsRow.lt hX k_ hk).2; omega
                replace hB := gb_tr hB hs12
                replace hbk := hbk.gb hs12
                replace hX := own_gb hX hs12
                replace hJ := hJn _ _ hJ hs12
                replace hL := hL.gb hs12
                replace hb1 := hb1.gb hs12
                replace hb2 := hb2.gb hs12
                refine L_nil (N_then ⟨fun hN_ => ⟨hbk, hb2, trivial⟩, ?_⟩)
                refine T_all (rs := [14]) (by kernel_rfl) rfl (all1 (O_one rfl ?_))
                refine T_append (xs := lost) (ys := [((b.l.length : Int) - e.bat)]) EncZ slc51 rfl rfl hX (Blk.sli (m := 0) hb7) (by simp; omega) (by have := hB.size; omega) rfl ?_
                intro A_2 c_2 w13 ho2 hs13 hat1
                replace hB := gb_tro hB hX hs13 (Nat.le_refl _)
                replace hbk := blk_own hbk hX rfl hs13
                replace hJ := hJx _ _ _ _ _ hJ hX hs13
                replace hL := hL.otherO hX rfl rfl hs13
                replace hb1 := blk_own hb1 hX rfl hs13
                replace hb2 := blk_own hb2 hX rfl hs13
                refine L_nil (N_then ⟨fun hN_ => ⟨hbk, hb2, trivial⟩, ?_⟩)
                refine T_takeA (i := 15) rfl (by kernel_rfl) (by kernel_rfl) (by kernel_rfl) (by kernel_rfl) (Y_of (fun _ ⟨hbk, hb2, _⟩ => R_nilck rfl)) ⟨hbk, hb2, trivial⟩ rfl ?_
                refine T_takeA (i := 16) rfl (by kernel_rfl) (by kernel_rfl) (by kernel_rfl) (by kernel_rfl) (Y_of (fun _ ⟨hbk, hb2, _⟩ => R_field (r := 3) rfl fld92_3 rfl)) ⟨hbk, hb2, trivial⟩ rfl ?_
                refine T_switch (S' := fun _ => True) (qs' := []) (by kernel_rfl) ?_
                refine T_all (rs := [17]) (by kernel_rfl) rfl (all1 (O_one rfl ?_))
                refine L_st1 rfl rfl rfl sz51 hbk rfl ?_
                intro w14 hb8 hs14 hz11
                replace hB := gb_trg hB hs14 gb0
                replace hJ := hJb _ _ _ hJ hbk hs14
                replace hL := hL.other hbk rfl rfl hs14
                replace hb1 := hb1.grown hs14 (ne_gt lt1)
                replace hb2 := hb2.grown hs14 (ne_gt lt2)
                replace ho2 := own_other ho2 hbk rfl hs14
                refine L_nil (N_then ⟨fun hN_ => trivial, ?_⟩)
                refine T_done (by kernel_rfl) (CalmE.normal ?_)
                refine N_then (C_seq ?_)
                refine C_draw2 rfl mix ?_
                intro w15 hs15 hz12
                replace hB := gb_tr hB hs15
                replace hb8 := hb8.gb hs15
                replace hJ := hJn _ _ hJ hs15
                replace hL := hL.gb hs15
                replace hb1 := hb1.gb hs15
                replace hb2 := hb2.gb hs15
                replace ho2 := own_gb ho2 hs15
                refine ⟨fun W_ => Blk W_ gb 92 [.slice A b.l.length c, .int .i64 b.syn, .bool b.has, .slice A_2 ((lost ++ ([((b.l.length : Int) - e.bat)])).length) c_2] ∧ Blk W_ g2 87 [.int .i64 e.kind, .int .i64 e.e, .int .i64 e.bat, .int .i64 e.syn, .slice e.pa e.prs.length e.pc] ∧ True, [0, 1, 2, 3, 4, 5, 6, 7, 8, 10, 11], ?_⟩
                refine T_takeA (i := 0) rfl (by kernel_rfl) (by kernel_rfl) (by kernel_rfl) (by kernel_rfl) (Y_of (fun _ ⟨hb8, hb2, _⟩ => R_move rfl)) ⟨hb8, hb2, trivial⟩ rfl ?_
                refine T_takeA (i := 1) rfl (by kernel_rfl) (by kernel_rfl) (by kernel_rfl) (by kernel_rfl) (Y_of (fun _ ⟨hb8, hb2, _⟩ => R_move rfl)) ⟨hb8, hb2, trivial⟩ rfl ?_
                refine T_takeA (i := 2) rfl (by kernel_rfl) (by kernel_rfl) (by kernel_rfl) (by kernel_rfl) (Y_of (fun _ ⟨hb8, hb2, _⟩ => R_nilck rfl)) ⟨hb8, hb2, trivial⟩ rfl ?_
                refine T_takeA (i := 3) rfl (by kernel_rfl) (by kernel_rfl) (by kernel_rfl) (by kernel_rfl) (Y_of (fun _ ⟨hb8, hb2, _⟩ => R_field (r := 0) rfl fld92_0 rfl)) ⟨hb8, hb2, trivial⟩ rfl ?_
                refine T_takeA (i := 4) rfl (by kernel_rfl) (by kernel_rfl) (by kernel_rfl) (by kernel_rfl) (Y_of (fun _ ⟨hb8, hb2, _⟩ => R_load1 rfl scl90 (hb8.cell (i := 0) rfl))) ⟨hb8, hb2, trivial⟩ rfl ?_
                refine T_takeA (i := 5) rfl (by kernel_rfl) (by kernel_rfl) (by kernel_rfl) (by kernel_rfl) (Y_of (fun _ ⟨hb8, hb2, _⟩ => R_field (r := 2) rfl fld87_2 rfl)) ⟨hb8, hb2, trivial⟩ rfl ?_
                refine T_takeA (i := 6) rfl (by kernel_rfl) (by kernel_rfl) (by kernel_rfl) (by kernel_rfl) (Y_of (fun _ ⟨hb8, hb2, _⟩ => R_load1 rfl scl3 (hb2.cell (i := 2) rfl))) ⟨hb8, hb2, trivial⟩ rfl ?_
                refine T_takeA (i := 7) rfl (by kernel_rfl) (by kernel_rfl) (by kernel_rfl) (by kernel_rfl) (Y_of (fun _ ⟨hb8, hb2, _⟩ => R_field (r := 2) rfl fld87_2 rfl)) ⟨hb8, hb2, trivial⟩ rfl ?_
                refine T_takeA (i := 8) rfl (by kernel_rfl) (by kernel_rfl) (by kernel_rfl) (by kernel_rfl) (Y_of (fun _ ⟨hb8, hb2, _⟩ => R_load1 rfl scl3 (hb2.cell (i := 2) rfl))) ⟨hb8, hb2, trivial⟩ rfl ?_
                refine T_all (rs := [9]) (by kernel_rfl) rfl (all1 (O_one rfl ?_))
                refine T_slHM (xs := b.l) (j := e.bat.toNat) (r := e.bat.toNat) EncO2 rfl rfl rfl (by omega) (by omega) slc90 (by omega) (Nat.le_refl _) (by omega) hL rfl ?_
                intro A_3 hS_1
                refine L_nil (N_then ⟨fun hN_ => ⟨hb8, hb2, trivial⟩, ?_⟩)
                refine T_takeA (i := 10) rfl (by kernel_rfl) (by kernel_rfl) (by kernel_rfl) (by kernel_rfl) (Y_of (fun _ ⟨hb8, hb2, _⟩ => R_nilck rfl)) ⟨hb8, hb2, trivial⟩ rfl ?_
                refine T_takeA (i := 11) rfl (by kernel_rfl) (by kernel_rfl) (by kernel_rfl) (by kernel_rfl) (Y_of (fun _ ⟨hb8, hb2, _⟩ => R_field (r := 0) rfl fld92_0 rfl)) ⟨hb8, hb2, trivial⟩ rfl ?_
                refine T_switch (S' := fun _ => True) (qs' := []) (by kernel_rfl) ?_
                refine T_all (rs := [12]) (by kernel_rfl) rfl (all1 (O_one rfl ?_))
                refine L_st1 rfl rfl rfl sz90 hb8 rfl ?_
                intro w16 hb9 hs16 hz13
                replace hB := gb_trg hB hs16 gb0
                replace hJ := hJb _ _ _ hJ hb8 hs16
                replace hL := hL.other hb8 rfl rfl hs16
                replace hb1 := hb1.grown hs16 (ne_gt lt1)
                replace hb2 := hb2.grown hs16 (ne_gt lt2)
                replace ho2 := own_other ho2 hb8 rfl hs16
                replace hS_1 := hS_1.other hb8 rfl rfl hs16
                refine L_nil (N_then ⟨fun hN_ => trivial, ?_⟩)
                refine T_done (by kernel_rfl) (CalmE.normal ?_)
                refine N_then (C_reg rfl ?_)
                refine L_run (R_move rfl) rfl ?_
                refine L_run (R_move rfl) rfl ?_
                refine L_run (R_field (r := 2) rfl fld87_2 rfl) rfl ?_
                refine L_run (R_load1 rfl scl3 (hb2.cell (i := 2) rfl)) rfl ?_
                refine L_run (R_nilck rfl) rfl ?_
                refine L_run (R_field (r := 1) rfl fld92_1 rfl) rfl ?_
                refine L_st1 rfl rfl rfl sz3 hb9 rfl ?_
                intro w17 hb10 hs17 hz14
                replace hB := gb_trg hB hs17 gb0
                replace hJ := hJb _ _ _ hJ hb9 hs17
                replace hL := hL.other hb9 rfl rfl hs17
                replace hb1 := hb1.grown hs17 (ne_gt lt1)
                replace hb2 := hb2.grown hs17 (ne_gt lt2)
                replace ho2 := own_other ho2 hb9 rfl hs17
                replace hS_1 := hS_1.other hb9 rfl rfl hs17
                refine L_run (R_nilck rfl) rfl ?_
                refine L_run (R_field (r := 2) rfl fld92_2 rfl) rfl ?_
                refine L_st1 rfl rfl rfl sz4 hb10 rfl ?_
                intro w18 hb11 hs18 hz15
                replace hB := gb_trg hB hs18 gb0
                replace hJ := hJb _ _ _ hJ hb10 hs18
                replace hL := hL.other hb10 rfl rfl hs18
                replace hb1 := hb1.grown hs18 (ne_gt lt1)
                replace hb2 := hb2.grown hs18 (ne_gt lt2)
                replace ho2 := own_other ho2 hb10 rfl hs18
                replace hS_1 := hS_1.other hb10 rfl rfl hs18
                refine L_nil (N_in (N_then (C_seq (C_seq (C_reg rfl ?_)))))
                refine L_run (R_move rfl) rfl ?_
                refine L_run (R_nilck rfl) rfl ?_
                refine L_run (R_field (r := 2) rfl fld92_2 rfl) rfl ?_
                refine L_run (R_load1 rfl scl4 (hb11.cell (i := 2) rfl)) rfl ?_
                refine L_run (R_not rfl) rfl ?_
                refine L_run (R_move rfl) rfl ?_
                refine L_no rfl rfl rfl rfl rfl ?_
                refine L_no rfl rfl rfl rfl rfl ?_
                refine L_no rfl rfl rfl rfl rfl ?_
                refine L_run (R_pickF rfl rfl rfl) rfl ?_
                refine L_nil (N_then (C_condF rfl rfl (C_skip (N_then (C_seq (C_reg rfl ?_))))))
                refine L_run (R_assign rfl) rfl ?_
                refine L_nil (N_then (C_ret ?_))
                refine ret1 Try.results70 rfl ?_
                have ed_ : doneB b y e = (⟨b.l.take e.bat.toNat, e.bat, true⟩ : BkP) := by
                  unfold doneB opsOf
                  first | (rw [if_pos (by omega)]; done) | (rw [if_neg (by omega), if_pos (by omega)]; done) | (rw [if_neg (by omega), if_neg (by omega), if_pos (by omega)]; done) | (rw [if_neg (by omega), if_neg (by omega), if_neg (by omega)]; done)
                have el_ : lostD b y e lost = lost ++ ([((b.l.length : Int) - e.bat)]) := by
                  unfold lostD
                  first | (rw [if_pos (by omega)]; done) | (rw [if_neg (by omega)]; done)
                exact ⟨hB, hJ, _, rfl, .inl ⟨rfl, ⟨fun q_ => ⟨by omega, by omega⟩, by rw [ed_]; first | exact .inl rfl | exact .inl rfl | exact .inr (by omega)⟩, by rw [ed_, el_]; exact ⟨_, _, _, _, hb11, .inr ⟨(by first | rfl | exact hcf | (rw [take_len (by omega)])), hS_1.top⟩, (own_lo ho2 (Nat.le_refl _))⟩⟩⟩
              · refine C_skip (N_then (C_seq ?_))
                refine C_draw2 rfl mix ?_
                intro w19 hs19 hz16
                replace hB := gb_tr hB hs19
                replace hbk := hbk.gb hs19
                replace hX := own_gb hX hs19
                replace hJ := hJn _ _ hJ hs19
                replace hL := hL.gb hs19
                replace hb1 := hb1.gb hs19
                replace hb2 := hb2.gb hs19
                refine ⟨fun W_ => Blk W_ gb 92 [.slice A b.l.length c, .int .i64 b.syn, .bool b.has, .slice A2 lost.length c2] ∧ Blk W_ g2 87 [.int .i64 e.kind, .int .i64 e.e, .int .i64 e.bat, .int .i64 e.syn, .slice e.pa e.prs.length e.pc] ∧ True, [0, 1, 2, 3, 4, 5, 6, 7, 8, 10, 11], ?_⟩
                refine T_takeA (i := 0) rfl (by kernel_rfl) (by kernel_rfl) (by kernel_rfl) (by kernel_rfl) (Y_of (fun _ ⟨hbk, hb2, _⟩ => R_move rfl)) ⟨hbk, hb2, trivial⟩ rfl ?_
                refine T_takeA (i := 1) rfl (by kernel_rfl) (by kernel_rfl) (by kernel_rfl) (by kernel_rfl) (Y_of (fun _ ⟨hbk, hb2, _⟩ => R_move rfl)) ⟨hbk, hb2, trivial⟩ rfl ?_
                refine T_takeA (i := 2) rfl (by kernel_rfl) (by kernel_rfl) (by kernel_rfl) (by kernel_rfl) (Y_of (fun _ ⟨hbk, hb2, _⟩ => R_nilck rfl)) ⟨hbk, hb2, trivial⟩ rfl ?_
                refine T_takeA (i := 3) rfl (by kernel_rfl) (by kernel_rfl) (by kernel_rfl) (by kernel_rfl) (Y_of (fun _ ⟨hbk, hb2, _⟩ => R_field (r := 0) rfl fld92_0 rfl)) ⟨hbk, hb2, trivial⟩ rfl ?_
                refine T_takeA (i := 4) rfl (by kernel_rfl) (by kernel_rfl) (by kernel_rfl) (by kernel_rfl) (Y_of (fun _ ⟨hbk, hb2, _⟩ => R_load1 rfl scl90 (hbk.cell (i := 0) rfl))) ⟨hbk, hb2, trivial⟩ rfl ?_
                refine T_takeA (i := 5) rfl (by kernel_rfl) (by kernel_rfl) (by kernel_rfl) (by kernel_rfl) (Y_of (fun _ ⟨hbk, hb2, _⟩ => R_field (r := 2) rfl fld87_2 rfl)) ⟨hbk, hb2, trivial⟩ rfl ?_
                refine T_takeA (i := 6) rfl (by kernel_rfl) (by kernel_rfl) (by kernel_rfl) (by kernel_rfl) (Y_of (fun _ ⟨hbk, hb2, _⟩ => R_load1 rfl scl3 (hb2.cell (i := 2) rfl))) ⟨hbk, hb2, trivial⟩ rfl ?_
                refine T_takeA (i := 7) rfl (by kernel_rfl) (by kernel_rfl) (by kernel_rfl) (by kernel_rfl) (Y_of (fun _ ⟨hbk, hb2, _⟩ => R_field (r := 2) rfl fld87_2 rfl)) ⟨hbk, hb2, trivial⟩ rfl ?_
                refine T_takeA (i := 8) rfl (by kernel_rfl) (by kernel_rfl) (by kernel_rfl) (by kernel_rfl) (Y_of (fun _ ⟨hbk, hb2, _⟩ => R_load1 rfl scl3 (hb2.cell (i := 2) rfl))) ⟨hbk, hb2, trivial⟩ rfl ?_
                refine T_all (rs := [9]) (by kernel_rfl) rfl (all1 (O_one rfl ?_))
                refine T_slHM (xs := b.l) (j := e.bat.toNat) (r := e.bat.toNat) EncO2 rfl rfl rfl (by omega) (by omega) slc90 (by omega) (Nat.le_refl _) (by omega) hL rfl ?_
                intro A_4 hS_2
                refine L_nil (N_then ⟨fun hN_ => ⟨hbk, hb2, trivial⟩, ?_⟩)
                refine T_takeA (i := 10) rfl (by kernel_rfl) (by kernel_rfl) (by kernel_rfl) (by kernel_rfl) (Y_of (fun _ ⟨hbk, hb2, _⟩ => R_nilck rfl)) ⟨hbk, hb2, trivial⟩ rfl ?_
                refine T_takeA (i := 11) rfl (by kernel_rfl) (by kernel_rfl) (by kernel_rfl) (by kernel_rfl) (Y_of (fun _ ⟨hbk, hb2, _⟩ => R_field (r := 0) rfl fld92_0 rfl)) ⟨hbk, hb2, trivial⟩ rfl ?_
                refine T_switch (S' := fun _ => True) (qs' := []) (by kernel_rfl) ?_
                refine T_all (rs := [12]) (by kernel_rfl) rfl (all1 (O_one rfl ?_))
                refine L_st1 rfl rfl rfl sz90 hbk rfl ?_
                intro w20 hb12 hs20 hz17
                replace hB := gb_trg hB hs20 gb0
                replace hX := own_other hX hbk rfl hs20
                replace hJ := hJb _ _ _ hJ hbk hs20
                replace hL := hL.other hbk rfl rfl hs20
                replace hb1 := hb1.grown hs20 (ne_gt lt1)
                replace hb2 := hb2.grown hs20 (ne_gt lt2)
                replace hS_2 := hS_2.other hbk rfl rfl hs20
                refine L_nil (N_then ⟨fun hN_ => trivial, ?_⟩)
                refine T_done (by kernel_rfl) (CalmE.normal ?_)
                refine N_then (C_reg rfl ?_)
                refine L_run (R_move rfl) rfl ?_
                refine L_run (R_move rfl) rfl ?_
                refine L_run (R_field (r := 2) rfl fld87_2 rfl) rfl ?_
                refine L_run (R_load1 rfl scl3 (hb2.cell (i := 2) rfl)) rfl ?_
                refine L_run (R_nilck rfl) rfl ?_
                refine L_run (R_field (r := 1) rfl fld92_1 rfl) rfl ?_
                refine L_st1 rfl rfl rfl sz3 hb12 rfl ?_
                intro w21 hb13 hs21 hz18
                replace hB := gb_trg hB hs21 gb0
                replace hX := own_other hX hb12 rfl hs21
                replace hJ := hJb _ _ _ hJ hb12 hs21
                replace hL := hL.other hb12 rfl rfl hs21
                replace hb1 := hb1.grown hs21 (ne_gt lt1)
                replace hb2 := hb2.grown hs21 (ne_gt lt2)
                replace hS_2 := hS_2.other hb12 rfl rfl hs21
                refine L_run (R_nilck rfl) rfl ?_
                refine L_run (R_field (r := 2) rfl fld92_2 rfl) rfl ?_
                refine L_st1 rfl rfl rfl sz4 hb13 rfl ?_
                intro w22 hb14 hs22 hz19
                replace hB := gb_trg hB hs22 gb0
                replace hX := own_other hX hb13 rfl hs22
                replace hJ := hJb _ _ _ hJ hb13 hs22
                replace hL := hL.other hb13 rfl rfl hs22
                replace hb1 := hb1.grown hs22 (ne_gt lt1)
                replace hb2 := hb2.grown hs22 (ne_gt lt2)
                replace hS_2 := hS_2.other hb13 rfl rfl hs22
                refine L_nil (N_in (N_then (C_seq (C_seq (C_reg rfl ?_)))))
                refine L_run (R_move rfl) rfl ?_
                refine L_run (R_nilck rfl) rfl ?_
                refine L_run (R_field (r := 2) rfl fld92_2 rfl) rfl ?_
                refine L_run (R_load1 rfl scl4 (hb14.cell (i := 2) rfl)) rfl ?_
                refine L_run (R_not rfl) rfl ?_
                refine L_run (R_move rfl) rfl ?_
                refine L_no rfl rfl rfl rfl rfl ?_
                refine L_no rfl rfl rfl rfl rfl ?_
                refine L_no rfl rfl rfl rfl rfl ?_
                refine L_run (R_pickF rfl rfl rfl) rfl ?_
                refine L_nil (N_then (C_condF rfl rfl (C_skip (N_then (C_seq (C_reg rfl ?_))))))
                refine L_run (R_assign rfl) rfl ?_
                refine L_nil (N_then (C_ret ?_))
                refine ret1 Try.results70 rfl ?_
                have ed_ : doneB b y e = (⟨b.l.take e.bat.toNat, e.bat, true⟩ : BkP) := by
                  unfold doneB opsOf
                  first | (rw [if_pos (by omega)]; done) | (rw [if_neg (by omega), if_pos (by omega)]; done) | (rw [if_neg (by omega), if_neg (by omega), if_pos (by omega)]; done) | (rw [if_neg (by omega), if_neg (by omega), if_neg (by omega)]; done)
                have el_ : lostD b y e lost = lost := by
                  unfold lostD
                  first | (rw [if_pos (by omega)]; done) | (rw [if_neg (by omega)]; done)
                exact ⟨hB, hJ, _, rfl, .inl ⟨rfl, ⟨fun q_ => ⟨by omega, by omega⟩, by rw [ed_]; first | exact .inl rfl | exact .inl rfl | exact .inr (by omega)⟩, by rw [ed_, el_]; exact ⟨_, _, _, _, hb14, .inr ⟨(by first | rfl | exact hcf | (rw [take_len (by omega)])), hS_2.top⟩, (own_lo hX (Nat.le_refl _))⟩⟩⟩
        · refine C_skip (N_in (N_then (C_seq (C_seq (C_reg rfl ?_)))))
          refine L_run (R_move rfl) rfl ?_
          refine L_run (R_nilck rfl) rfl ?_
          refine L_run (R_field (r := 2) rfl fld92_2 rfl) rfl ?_
          refine L_run (R_load1 rfl scl4 (hbk.cell (i := 2) rfl)) rfl ?_
          refine L_run (R_not rfl) rfl ?_
          refine L_run (R_move rfl) rfl ?_
          refine L_split (!b.has) (fun h14 => ?_) (fun h14 => ?_)
          · refine L_yes rfl rfl rfl h14 ?_
            refine L_run (R_field (r := 0) rfl fld86_0 rfl) rfl ?_
            refine L_yes rfl rfl rfl h14 ?_
            refine L_run (R_load1 rfl scl3 (hb1.cell (i := 0) rfl)) rfl ?_
            refine L_yes rfl rfl rfl h14 ?_
            refine L_run (R_neq rfl rfl) rfl ?_
            refine L_run (R_pickT rfl h14 rfl) rfl ?_
            refine L_nil (N_then ?_)
            refine C_if rfl (fun h15 => ?_) (fun h15 => ?_)
            · refine C_seq (C_reg rfl ?_)
              refine L_run (R_assign rfl) rfl ?_
              refine L_nil (N_then (C_ret (R_then ?_)))
              refine ret1 Try.results70 rfl ?_
              have ed_ : doneB b y e = (⟨b.l, b.syn, b.has⟩ : BkP) := by
                unfold doneB opsOf
                first | (rw [if_pos (by omega)]; done) | (rw [if_neg (by omega), if_pos (by omega)]; done) | (rw [if_neg (by omega), if_neg (by omega), if_pos (by omega)]; done) | (rw [if_neg (by omega), if_neg (by omega), if_neg (by omega)]; done)
              have hno_ : ¬ okD b y e := fun q_ => by
                rcases q_.2 with h_ | h_
                · rw [ed_] at h_; have h2_ : b.has = false := (tnot h14); rw [show _ = true from h_] at h2_; cases h2_
                · omega
              exact ⟨hB, hJ, _, rfl, .inr ⟨by decide, by decide, hno_, (⟨b.l, b.syn, b.has⟩ : BkP), lost, ⟨_, _, _, _, hbk, .inr ⟨(by first | rfl | exact hcf | (rw [take_len (by omega)])), hL.top⟩, (own_lo hX (Nat.le_refl _))⟩, (.inl rfl)⟩⟩
            · refine C_skip (N_then (C_seq (C_reg rfl ?_)))
              refine L_run (R_assign rfl) rfl ?_
              refine L_nil (N_then (C_ret ?_))
              refine ret1 Try.results70 rfl ?_
              have ed_ : doneB b y e = (⟨b.l, b.syn, b.has⟩ : BkP) := by
                unfold doneB opsOf
                first | (rw [if_pos (by omega)]; done) | (rw [if_neg (by omega), if_pos (by omega)]; done) | (rw [if_neg (by omega), if_neg (by omega), if_pos (by omega)]; done) | (rw [if_neg (by omega), if_neg (by omega), if_neg (by omega)]; done)
              have el_ : lostD b y e lost = lost := by
                unfold lostD
                first | (rw [if_pos (by omega)]; done) | (rw [if_neg (by omega)]; done)
              exact ⟨hB, hJ, _, rfl, .inl ⟨rfl, ⟨fun q_ => ⟨by omega, by omega⟩, by rw [ed_]; first | exact .inl rfl | exact .inl rfl | exact .inr (by omega)⟩, by rw [ed_, el_]; exact ⟨_, _, _, _, hbk, .inr ⟨(by first | rfl | exact hcf | (rw [take_len (by omega)])), hL.top⟩, (own_lo hX (Nat.le_refl _))⟩⟩⟩
          · refine L_no rfl rfl rfl h14 rfl ?_
            refine L_no rfl rfl rfl h14 rfl ?_
            refine L_no rfl rfl rfl h14 rfl ?_
            refine L_run (R_pickF rfl h14 rfl) rfl ?_
            refine L_nil (N_then (C_condF rfl rfl (C_skip (N_then (C_seq (C_reg rfl ?_))))))
            refine L_run (R_assign rfl) rfl ?_
            refine L_nil (N_then (C_ret ?_))
            refine ret1 Try.results70 rfl ?_
            have ed_ : doneB b y e = (⟨b.l, b.syn, b.has⟩ : BkP) := by
              unfold doneB opsOf
              first | (rw [if_pos (by omega)]; done) | (rw [if_neg (by omega), if_pos (by omega)]; done) | (rw [if_neg (by omega), if_neg (by omega), if_pos (by omega)]; done) | (rw [if_neg (by omega), if_neg (by omega), if_neg (by omega)]; done)
            have el_ : lostD b y e lost = lost := by
              unfold lostD
              first | (rw [if_pos (by omega)]; done) | (rw [if_neg (by omega)]; done)
            exact ⟨hB, hJ, _, rfl, .inl ⟨rfl, ⟨fun q_ => ⟨by omega, by omega⟩, by rw [ed_]; first | exact .inl rfl | exact .inl (tnot' h14) | exact .inr (by omega)⟩, by rw [ed_, el_]; exact ⟨_, _, _, _, hbk, .inr ⟨(by first | rfl | exact hcf | (rw [take_len (by omega)])), hL.top⟩, (own_lo hX (Nat.le_refl _))⟩⟩⟩

end Go.Proofs.Ytbmohojdlgedpaa
