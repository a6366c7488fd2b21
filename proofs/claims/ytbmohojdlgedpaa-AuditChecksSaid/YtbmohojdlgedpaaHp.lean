/-
  Contracts of the package audit: any step.
-/
import Derived.Test.YtbmohojdlgedpaaHo
namespace Go.Proofs.Ytbmohojdlgedpaa
open Go.RowKit Gw Pl
set_option linter.unusedVariables false
set_option linter.unusedSimpArgs false
theorem agg87 : aggB Try.prog 87 5 = true := by kernel_rfl
theorem boo4 : Try.prog.underlying 4 = some .bool := by kernel_rfl
theorem cb68 : callB Try.prog 68 = true := by kernel_rfl
theorem cb70 : callB Try.prog 70 = true := by kernel_rfl
theorem cb71 : callB Try.prog 71 = true := by kernel_rfl
theorem cb72 : callB Try.prog 72 = true := by kernel_rfl
theorem fld87_0 : fldB Try.prog 87 0 0 = true := by kernel_rfl
theorem fld87_1 : fldB Try.prog 87 1 1 = true := by kernel_rfl
theorem fld87_3 : fldB Try.prog 87 3 3 = true := by kernel_rfl
theorem fld87_4 : fldB Try.prog 87 4 4 = true := by kernel_rfl
theorem scl42 : sclB Try.prog 42 = true := by kernel_rfl
section
variable {w wa : World} {gb : Nat} {b : BkP} {lost : List Int} {y : StepD} {e : EvD}
theorem done_ok {J : World → Prop} (hM : BkM w wa gb b lost) (hB : w.grownBy wa none) (gb0 : w.heap.size ≤ gb) (h0 : 0 ≤ b.syn) (hbl : b.l.length ≤ 1000) (hll : lost.length ≤ 1000)
    (hJ : J wa) (hJn : ∀ w w', J w → w.grownBy w' none → J w') (hJf : ∀ w w' g T cs, J w → Blk w g T cs → wa.heap.size ≤ g → w.grownBy w' (some g) → J w') (hJb : ∀ w w' cs, J w → Blk w gb 92 cs → w.grownBy w' (some gb) → J w') (hJl : ∀ w1 w2 v n vs, J w1 → w1.ownsRow w.heap.size 80 1 v n vs → w1.grownBy w2 v.ownBlock → J w2) (hJx : ∀ w1 w2 v n vs, J w1 → w1.ownsRow w.heap.size 3 1 v n vs → w1.grownBy w2 v.ownBlock → J w2) :
    Runs Try.prog 70 #[.pointer (some ⟨gb, 0, none⟩), .agg (encS y).toArray, .agg (encEv e).toArray] wa (fun v_ w' => w.grownBy w' none ∧ J w' ∧ ∃ wr : Int, v_ = .int .i64 wr ∧ ((wr = 0 ∧ okD b y e ∧ BkM w w' gb (doneB b y e) (lostD b y e lost)) ∨ (wr ≠ 0 ∧ (1 ≤ wr ∧ wr ≤ 5) ∧ ¬ okD b y e ∧ ∃ b' lost', BkM w w' gb b' lost' ∧ LostOr y lost lost'))) := by
  obtain ⟨A, c, A2, c2, hbk, hR, hX⟩ := hM
  rcases hR with hR | hR
  · exact done_own hB gb0 hbk hX h0 hbl hll hR hJ hJn hJf hJb hJl hJx
  · exact done_full hB gb0 hbk hX h0 hbl hll hR.1 hR.2 hJ hJn hJf hJb hJl hJx
theorem done_y {J : World → Prop} (ho : okD b y e) (hM : BkM w wa gb b lost) (hB : w.grownBy wa none) (gb0 : w.heap.size ≤ gb) (h0 : 0 ≤ b.syn) (hbl : b.l.length ≤ 1000) (hll : lost.length ≤ 1000)
    (hJ : J wa) (hJn : ∀ w w', J w → w.grownBy w' none → J w') (hJf : ∀ w w' g T cs, J w → Blk w g T cs → wa.heap.size ≤ g → w.grownBy w' (some g) → J w') (hJb : ∀ w w' cs, J w → Blk w gb 92 cs → w.grownBy w' (some gb) → J w') (hJl : ∀ w1 w2 v n vs, J w1 → w1.ownsRow w.heap.size 80 1 v n vs → w1.grownBy w2 v.ownBlock → J w2) (hJx : ∀ w1 w2 v n vs, J w1 → w1.ownsRow w.heap.size 3 1 v n vs → w1.grownBy w2 v.ownBlock → J w2) :
    Runs Try.prog 70 #[.pointer (some ⟨gb, 0, none⟩), .agg (encS y).toArray, .agg (encEv e).toArray] wa (fun v_ w' => w.grownBy w' none ∧ J w' ∧ v_ = .int .i64 0 ∧ BkM w w' gb (doneB b y e) (lostD b y e lost)) :=
  (done_ok hM hB gb0 h0 hbl hll hJ hJn hJf hJb hJl hJx).mono fun v_ w' h => by
    obtain ⟨h1, h2, wr, rfl, ⟨rfl, _, h5⟩ | ⟨_, _, h5, _⟩⟩ := h
    · exact ⟨h1, h2, rfl, h5⟩
    · exact absurd ho h5
theorem done_n {J : World → Prop} (ho : ¬ okD b y e) (hM : BkM w wa gb b lost) (hB : w.grownBy wa none) (gb0 : w.heap.size ≤ gb) (h0 : 0 ≤ b.syn) (hbl : b.l.length ≤ 1000) (hll : lost.length ≤ 1000)
    (hJ : J wa) (hJn : ∀ w w', J w → w.grownBy w' none → J w') (hJf : ∀ w w' g T cs, J w → Blk w g T cs → wa.heap.size ≤ g → w.grownBy w' (some g) → J w') (hJb : ∀ w w' cs, J w → Blk w gb 92 cs → w.grownBy w' (some gb) → J w') (hJl : ∀ w1 w2 v n vs, J w1 → w1.ownsRow w.heap.size 80 1 v n vs → w1.grownBy w2 v.ownBlock → J w2) (hJx : ∀ w1 w2 v n vs, J w1 → w1.ownsRow w.heap.size 3 1 v n vs → w1.grownBy w2 v.ownBlock → J w2) :
    Runs Try.prog 70 #[.pointer (some ⟨gb, 0, none⟩), .agg (encS y).toArray, .agg (encEv e).toArray] wa (fun v_ w' => w.grownBy w' none ∧ J w' ∧ ∃ (wr : Int) (b' : BkP) (lost' : List Int), v_ = .int .i64 wr ∧ wr ≠ 0 ∧ (1 ≤ wr ∧ wr ≤ 5) ∧ BkM w w' gb b' lost' ∧ LostOr y lost lost') :=
  (done_ok hM hB gb0 h0 hbl hll hJ hJn hJf hJb hJl hJx).mono fun v_ w' h => by
    obtain ⟨h1, h2, wr, rfl, ⟨_, h5, _⟩ | ⟨h3, h4, _, b', lost', h6, h7⟩⟩ := h
    · exact absurd h5 ho
    · exact ⟨h1, h2, wr, b', lost', rfl, h3, h4, h6, h7⟩
end
def GoodB (n : Nat) (b : BkP) : Prop := 0 ≤ b.syn ∧ b.l.length ≤ n ∧ ∀ x ∈ b.l, x.xs.length ≤ 30
theorem opsN_b : ∀ {l : List OpsD}, (∀ x ∈ l, x.xs.length ≤ 30) → opsN l ≤ 30 * l.length
  | [], _ => Nat.le_refl _
  | x :: l, h => by
    have h1 := h x List.mem_cons_self
    have h2 := opsN_b (l := l) (fun z hz => h z (List.mem_cons_of_mem _ hz))
    unfold opsN at h2 ⊢
    rw [List.flatMap_cons, List.length_append, List.length_cons]
    omega
theorem GoodB.ops {n : Nat} {b : BkP} (h : GoodB n b) (hn : n ≤ 1000) : opsN b.l ≤ 700000 := by
  have := opsN_b h.2.2
  have := h.2.1
  omega
theorem GoodB.wide {n m : Nat} {b : BkP} (h : GoodB n b) (hm : n ≤ m) : GoodB m b := ⟨h.1, Nat.le_trans h.2.1 hm, h.2.2⟩
theorem GoodB.done {n : Nat} {b : BkP} {y : StepD} {e : EvD} (h : GoodB n b) (hy : y.p.ops.length ≤ 30) (ho : okD b y e) : GoodB (n + 1) (doneB b y e) := by
  have h1 := ho.1
  obtain ⟨g1, g2, g3⟩ := h
  unfold doneB
  split
  · refine ⟨g1, by simp only [List.length_append, List.length_cons, List.length_nil]; omega, fun x hx => ?_⟩
    rcases List.mem_append.1 hx with hx | hx
    · exact g3 x hx
    · rw [List.mem_singleton.1 hx]; exact hy
  · split
    · exact ⟨Int.natCast_nonneg _, Nat.le_succ_of_le g2, g3⟩
    · split
      · rename_i hk
        exact ⟨Int.le_trans g1 (h1 hk).1, Nat.le_trans (List.length_take_le' _ _) (Nat.le_succ_of_le g2), fun x hx => g3 x (List.mem_of_mem_take hx)⟩
      · exact ⟨g1, Nat.le_succ_of_le g2, g3⟩
theorem GoodB.nxt {n : Nat} {b : BkP} {y : StepD} {e : EvD} (h : GoodB n b) (hy : y.p.ops.length ≤ 30) (ho : okB b y e) : GoodB (n + 1) (nxt b y e) := by
  unfold Go.Proofs.Ytbmohojdlgedpaa.nxt
  split
  · rename_i he; exact h.done hy (ho.2.2.1 he)
  · exact ⟨h.1, Nat.le_succ_of_le h.2.1, h.2.2⟩
theorem doneB_deep {hi : Nat} {w : World} {b : BkP} {y : StepD} {e : EvD} (h : DeepO hi w b.l) (hy : Sli 0 0 hi w y.oa (fl encOp y.p.ops)) : DeepO hi w (doneB b y e).l := by
  unfold doneB
  split
  · exact h.snoc hy
  · split
    · exact h
    · split
      · exact h.take
      · exact h
theorem nxt_deep {hi : Nat} {w : World} {b : BkP} {y : StepD} {e : EvD} (h : DeepO hi w b.l) (hy : Sli 0 0 hi w y.oa (fl encOp y.p.ops)) : DeepO hi w (nxt b y e).l := by
  unfold nxt
  split
  · exact doneB_deep h hy
  · exact h
theorem lostD_len {b : BkP} {y : StepD} {e : EvD} {lost : List Int} : (lostD b y e lost).length ≤ lost.length + 1 := by
  unfold lostD
  split
  · simp
  · omega
theorem lostN_len {b : BkP} {y : StepD} {e : EvD} {lost : List Int} : (lostN b y e lost).length ≤ lost.length + 1 := by
  unfold lostN
  split
  · exact lostD_len
  · omega
theorem fits_no {b : BkP} {y : StepD} {e : EvD} {b2 : BkP} (h : nxt b y e = b2) (hf : ¬ FitsB b2 e) : ¬ okB b y e := fun q => hf (h ▸ q.2.2.2)
theorem lostD_or {b : BkP} {y : StepD} {e : EvD} {lost l2 : List Int} (h : l2 = lostD b y e lost) : LostOr y lost l2 := by
  subst h
  unfold lostD
  split
  · rename_i hk; exact .inr ⟨hk, _, rfl⟩
  · exact .inl rfl
theorem next_a {w wa : World} {gb n : Nat} {b : BkP} {lost : List Int} {y : StepD} {e : EvD} (hM : BkM w wa gb b lost) (hB : w.grownBy wa none) (gb0 : w.heap.size ≤ gb) (hg : GoodB n b) (hn : n ≤ 900) (hll : lost.length ≤ 900) (hOp0 : Sli 0 0 w.heap.size w y.oa (fl encOp y.p.ops)) (hPr0 : Sli 0 0 w.heap.size w e.pa (fl encK e.prs)) (hDO0 : DeepO w.heap.size w b.l) (hy30 : y.p.ops.length ≤ 30) (hp : e.prs.length ≤ 1000) (hr : sOk y.p) (h13 : e.e = 13) :
    Runs Try.prog 55 #[.pointer (some ⟨gb, 0, none⟩), .agg #[.int .i64 y.p.kind, .int .i64 y.p.n, .slice y.oa y.p.ops.length y.oc, .slice y.ka y.p.keep.length y.kc, .int .i64 y.p.torn, .int .i64 y.p.cut], .agg #[.int .i64 e.kind, .int .i64 e.e, .int .i64 e.bat, .int .i64 e.syn, .slice e.pa e.prs.length e.pc]] wa (fun v_ w' => w.grownBy w' none ∧ ∃ wr : Int, v_ = .int .i64 wr ∧ ((wr = 0 ∧ okB b y e ∧ BkM w w' gb (nxt b y e) (lostN b y e lost)) ∨ (wr ≠ 0 ∧ (1 ≤ wr ∧ wr ≤ 5) ∧ ¬ okB b y e ∧ ∃ b' lost', BkM w w' gb b' lost' ∧ LostOr y lost lost'))) := by
  obtain ⟨A, c, A2, c2, hbk, hR, hX⟩ := hM
  have hOp := hOp0.gb hB
  have hPr := hPr0.gb hB
  have hDO := hDO0.gb hB
  have hno := hg.ops (by omega)
  have hnl : b.l.length ≤ 1000000 := by have := hg.2.1; omega
  refine enter Try.func55 Try.ntmps55 rfl rfl ?_
  refine C_seq (C_reg rfl ?_)
  refine L_box (cs := [.int .i64 y.p.kind, .int .i64 y.p.n, .slice y.oa y.p.ops.length y.oc, .slice y.ka y.p.keep.length y.kc, .int .i64 y.p.torn, .int .i64 y.p.cut]) rfl rfl rfl ?_
  intro g1 w1 eg1 hb1 hs1 hz1
  have ge1 : w.heap.size ≤ g1 := eg_ge hB eg1
  have lt1 : gb < g1 := lt_of_eg hbk.lt eg1
  replace hB := gb_tr hB hs1
  replace hbk := hbk.gb hs1
  replace hR := hR.gb hs1
  replace hX := own_gb hX hs1
  replace hOp := hOp.gb hs1
  replace hPr := hPr.gb hs1
  replace hDO := hDO.gb hs1
  refine L_box (cs := [.int .i64 e.kind, .int .i64 e.e, .int .i64 e.bat, .int .i64 e.syn, .slice e.pa e.prs.length e.pc]) rfl rfl rfl ?_
  intro g2 w2 eg2 hb2 hs2 hz2
  have ge2 : w.heap.size ≤ g2 := eg_ge hB eg2
  have lt2 : gb < g2 := lt_of_eg hbk.lt eg2
  have lt3 : g1 < g2 := lt_of_eg hb1.lt eg2
  replace hB := gb_tr hB hs2
  replace hbk := hbk.gb hs2
  replace hR := hR.gb hs2
  replace hX := own_gb hX hs2
  replace hOp := hOp.gb hs2
  replace hPr := hPr.gb hs2
  replace hDO := hDO.gb hs2
  replace hb1 := hb1.gb hs2
  refine L_run (R_assign rfl) rfl ?_
  refine L_nil (N_then (C_seq (C_seq (C_reg rfl ?_))))
  refine L_run (R_field (r := 0) rfl fld87_0 rfl) rfl ?_
  refine L_run (R_load1 rfl scl3 (hb2.cell (i := 0) rfl)) rfl ?_
  refine L_run (R_field (r := 0) rfl fld86_0 rfl) rfl ?_
  refine L_run (R_load1 rfl scl3 (hb1.cell (i := 0) rfl)) rfl ?_
  refine L_run (R_neq rfl rfl) rfl ?_
  refine L_nil (N_then ?_)
  refine C_if rfl (fun h1 => ?_) (fun h1 => ?_)
  · refine C_seq (C_reg rfl ?_)
    refine L_run (R_assign rfl) rfl ?_
    refine L_nil (N_then (C_ret (R_then ?_)))
    refine ret1 Try.results55 rfl ?_
    exact ⟨hB, _, rfl, .inr ⟨by decide, by decide, (fun q_ => by have h_ := q_.1; omega), (⟨b.l, b.syn, b.has⟩ : BkP), lost, ⟨_, _, _, _, hbk, hR, (own_lo hX (Nat.le_refl _))⟩, (.inl rfl)⟩⟩
  · refine C_skip (N_then (C_seq (C_seq ?_)))
    refine C_draw2 rfl mix ?_
    intro w3 hs3 hz3
    replace hB := gb_tr hB hs3
    replace hbk := hbk.gb hs3
    replace hR := hR.gb hs3
    replace hX := own_gb hX hs3
    replace hOp := hOp.gb hs3
    replace hPr := hPr.gb hs3
    replace hDO := hDO.gb hs3
    replace hb1 := hb1.gb hs3
    replace hb2 := hb2.gb hs3
    refine ⟨fun W_ => Blk W_ g1 86 [.int .i64 y.p.kind, .int .i64 y.p.n, .slice y.oa y.p.ops.length y.oc, .slice y.ka y.p.keep.length y.kc, .int .i64 y.p.torn, .int .i64 y.p.cut] ∧ Blk W_ g2 87 [.int .i64 e.kind, .int .i64 e.e, .int .i64 e.bat, .int .i64 e.syn, .slice e.pa e.prs.length e.pc] ∧ True, [0, 2, 3, 4, 5], ?_⟩
    refine T_takeA (i := 0) rfl (by kernel_rfl) (by kernel_rfl) (by kernel_rfl) (by kernel_rfl) (Y_of (fun _ ⟨hb1, hb2, _⟩ => R_loadA (vs := [.int .i64 y.p.kind, .int .i64 y.p.n, .slice y.oa y.p.ops.length y.oc, .slice y.ka y.p.keep.length y.kc, .int .i64 y.p.torn, .int .i64 y.p.cut]) rfl agg86 (At.pre (hb1.at_ 0) rfl) rfl)) ⟨hb1, hb2, trivial⟩ rfl ?_
    refine T_takeA (i := 2) rfl (by kernel_rfl) (by kernel_rfl) (by kernel_rfl) (by kernel_rfl) (Y_of (fun _ ⟨hb1, hb2, _⟩ => R_field (r := 1) rfl fld87_1 rfl)) ⟨hb1, hb2, trivial⟩ rfl ?_
    refine T_takeA (i := 3) rfl (by kernel_rfl) (by kernel_rfl) (by kernel_rfl) (by kernel_rfl) (Y_of (fun _ ⟨hb1, hb2, _⟩ => R_load1 rfl scl42 (hb2.cell (i := 1) rfl))) ⟨hb1, hb2, trivial⟩ rfl ?_
    refine T_takeA (i := 4) rfl (by kernel_rfl) (by kernel_rfl) (by kernel_rfl) (by kernel_rfl) (Y_of (fun _ ⟨hb1, hb2, _⟩ => R_eql rfl rfl)) ⟨hb1, hb2, trivial⟩ rfl ?_
    refine T_all (rs := [1]) (by kernel_rfl) rfl (all1 (O_one rfl ?_))
    refine L_call rfl cb68 (script_Right (ops := y.p.ops) hOp (by omega)) rfl ?_
    rintro _ w4 ⟨hs4, rfl⟩
    replace hB := gb_tr hB hs4
    replace hbk := hbk.gb hs4
    replace hR := hR.gb hs4
    replace hX := own_gb hX hs4
    replace hOp := hOp.gb hs4
    replace hPr := hPr.gb hs4
    replace hDO := hDO.gb hs4
    replace hb1 := hb1.gb hs4
    replace hb2 := hb2.gb hs4
    refine L_nil (N_then ⟨fun hN_ => ⟨hb1, hb2, trivial⟩, ?_⟩)
    refine T_takeA (i := 5) rfl (by kernel_rfl) (by kernel_rfl) (by kernel_rfl) (by kernel_rfl) (Y_of (fun _ ⟨hb1, hb2, _⟩ => R_eqv (R_eqlB rfl rfl boo4) (v' := .bool true) (by rw [(decide_eq_true (show SOk y.p.kind y.p.n y.p.ops y.p.keep.length y.p.torn y.p.cut from hr)), (decide_eq_true (Decidable.not_not.1 (show ¬ (e.e ≠ 13) from fun q_ => q_ h13)))]; rfl))) ⟨hb1, hb2, trivial⟩ rfl ?_
    refine T_done (by kernel_rfl) (CalmE.normal ?_)
    refine N_then (C_condT rfl rfl (C_seq (C_reg rfl ?_)))
    refine L_run (R_assign rfl) rfl ?_
    refine L_nil (N_then (C_ret (R_then ?_)))
    refine ret1 Try.results55 rfl ?_
    exact ⟨hB, _, rfl, .inr ⟨by decide, by decide, (fun q_ => by have h_ := q_.2.1; first | exact (h_.1 hr) h13 | exact hr (h_.2 h13)), (⟨b.l, b.syn, b.has⟩ : BkP), lost, ⟨_, _, _, _, hbk, hR, (own_lo hX (Nat.le_refl _))⟩, (.inl rfl)⟩⟩

theorem next_b {w wa : World} {gb n : Nat} {b : BkP} {lost : List Int} {y : StepD} {e : EvD} (hM : BkM w wa gb b lost) (hB : w.grownBy wa none) (gb0 : w.heap.size ≤ gb) (hg : GoodB n b) (hn : n ≤ 900) (hll : lost.length ≤ 900) (hOp0 : Sli 0 0 w.heap.size w y.oa (fl encOp y.p.ops)) (hPr0 : Sli 0 0 w.heap.size w e.pa (fl encK e.prs)) (hDO0 : DeepO w.heap.size w b.l) (hy30 : y.p.ops.length ≤ 30) (hp : e.prs.length ≤ 1000) (hr : ¬ sOk y.p) (h13 : ¬ e.e = 13) :
    Runs Try.prog 55 #[.pointer (some ⟨gb, 0, none⟩), .agg #[.int .i64 y.p.kind, .int .i64 y.p.n, .slice y.oa y.p.ops.length y.oc, .slice y.ka y.p.keep.length y.kc, .int .i64 y.p.torn, .int .i64 y.p.cut], .agg #[.int .i64 e.kind, .int .i64 e.e, .int .i64 e.bat, .int .i64 e.syn, .slice e.pa e.prs.length e.pc]] wa (fun v_ w' => w.grownBy w' none ∧ ∃ wr : Int, v_ = .int .i64 wr ∧ ((wr = 0 ∧ okB b y e ∧ BkM w w' gb (nxt b y e) (lostN b y e lost)) ∨ (wr ≠ 0 ∧ (1 ≤ wr ∧ wr ≤ 5) ∧ ¬ okB b y e ∧ ∃ b' lost', BkM w w' gb b' lost' ∧ LostOr y lost lost'))) := by
  obtain ⟨A, c, A2, c2, hbk, hR, hX⟩ := hM
  have hOp := hOp0.gb hB
  have hPr := hPr0.gb hB
  have hDO := hDO0.gb hB
  have hno := hg.ops (by omega)
  have hnl : b.l.length ≤ 1000000 := by have := hg.2.1; omega
  refine enter Try.func55 Try.ntmps55 rfl rfl ?_
  refine C_seq (C_reg rfl ?_)
  refine L_box (cs := [.int .i64 y.p.kind, .int .i64 y.p.n, .slice y.oa y.p.ops.length y.oc, .slice y.ka y.p.keep.length y.kc, .int .i64 y.p.torn, .int .i64 y.p.cut]) rfl rfl rfl ?_
  intro g1 w1 eg1 hb1 hs1 hz1
  have ge1 : w.heap.size ≤ g1 := eg_ge hB eg1
  have lt1 : gb < g1 := lt_of_eg hbk.lt eg1
  replace hB := gb_tr hB hs1
  replace hbk := hbk.gb hs1
  replace hR := hR.gb hs1
  replace hX := own_gb hX hs1
  replace hOp := hOp.gb hs1
  replace hPr := hPr.gb hs1
  replace hDO := hDO.gb hs1
  refine L_box (cs := [.int .i64 e.kind, .int .i64 e.e, .int .i64 e.bat, .int .i64 e.syn, .slice e.pa e.prs.length e.pc]) rfl rfl rfl ?_
  intro g2 w2 eg2 hb2 hs2 hz2
  have ge2 : w.heap.size ≤ g2 := eg_ge hB eg2
  have lt2 : gb < g2 := lt_of_eg hbk.lt eg2
  have lt3 : g1 < g2 := lt_of_eg hb1.lt eg2
  replace hB := gb_tr hB hs2
  replace hbk := hbk.gb hs2
  replace hR := hR.gb hs2
  replace hX := own_gb hX hs2
  replace hOp := hOp.gb hs2
  replace hPr := hPr.gb hs2
  replace hDO := hDO.gb hs2
  replace hb1 := hb1.gb hs2
  refine L_run (R_assign rfl) rfl ?_
  refine L_nil (N_then (C_seq (C_seq (C_reg rfl ?_))))
  refine L_run (R_field (r := 0) rfl fld87_0 rfl) rfl ?_
  refine L_run (R_load1 rfl scl3 (hb2.cell (i := 0) rfl)) rfl ?_
  refine L_run (R_field (r := 0) rfl fld86_0 rfl) rfl ?_
  refine L_run (R_load1 rfl scl3 (hb1.cell (i := 0) rfl)) rfl ?_
  refine L_run (R_neq rfl rfl) rfl ?_
  refine L_nil (N_then ?_)
  refine C_if rfl (fun h1 => ?_) (fun h1 => ?_)
  · refine C_seq (C_reg rfl ?_)
    refine L_run (R_assign rfl) rfl ?_
    refine L_nil (N_then (C_ret (R_then ?_)))
    refine ret1 Try.results55 rfl ?_
    exact ⟨hB, _, rfl, .inr ⟨by decide, by decide, (fun q_ => by have h_ := q_.1; omega), (⟨b.l, b.syn, b.has⟩ : BkP), lost, ⟨_, _, _, _, hbk, hR, (own_lo hX (Nat.le_refl _))⟩, (.inl rfl)⟩⟩
  · refine C_skip (N_then (C_seq (C_seq ?_)))
    refine C_draw2 rfl mix ?_
    intro w3 hs3 hz3
    replace hB := gb_tr hB hs3
    replace hbk := hbk.gb hs3
    replace hR := hR.gb hs3
    replace hX := own_gb hX hs3
    replace hOp := hOp.gb hs3
    replace hPr := hPr.gb hs3
    replace hDO := hDO.gb hs3
    replace hb1 := hb1.gb hs3
    replace hb2 := hb2.gb hs3
    refine ⟨fun W_ => Blk W_ g1 86 [.int .i64 y.p.kind, .int .i64 y.p.n, .slice y.oa y.p.ops.length y.oc, .slice y.ka y.p.keep.length y.kc, .int .i64 y.p.torn, .int .i64 y.p.cut] ∧ Blk W_ g2 87 [.int .i64 e.kind, .int .i64 e.e, .int .i64 e.bat, .int .i64 e.syn, .slice e.pa e.prs.length e.pc] ∧ True, [0, 2, 3, 4, 5], ?_⟩
    refine T_takeA (i := 0) rfl (by kernel_rfl) (by kernel_rfl) (by kernel_rfl) (by kernel_rfl) (Y_of (fun _ ⟨hb1, hb2, _⟩ => R_loadA (vs := [.int .i64 y.p.kind, .int .i64 y.p.n, .slice y.oa y.p.ops.length y.oc, .slice y.ka y.p.keep.length y.kc, .int .i64 y.p.torn, .int .i64 y.p.cut]) rfl agg86 (At.pre (hb1.at_ 0) rfl) rfl)) ⟨hb1, hb2, trivial⟩ rfl ?_
    refine T_takeA (i := 2) rfl (by kernel_rfl) (by kernel_rfl) (by kernel_rfl) (by kernel_rfl) (Y_of (fun _ ⟨hb1, hb2, _⟩ => R_field (r := 1) rfl fld87_1 rfl)) ⟨hb1, hb2, trivial⟩ rfl ?_
    refine T_takeA (i := 3) rfl (by kernel_rfl) (by kernel_rfl) (by kernel_rfl) (by kernel_rfl) (Y_of (fun _ ⟨hb1, hb2, _⟩ => R_load1 rfl scl42 (hb2.cell (i := 1) rfl))) ⟨hb1, hb2, trivial⟩ rfl ?_
    refine T_takeA (i := 4) rfl (by kernel_rfl) (by kernel_rfl) (by kernel_rfl) (by kernel_rfl) (Y_of (fun _ ⟨hb1, hb2, _⟩ => R_eql rfl rfl)) ⟨hb1, hb2, trivial⟩ rfl ?_
    refine T_all (rs := [1]) (by kernel_rfl) rfl (all1 (O_one rfl ?_))
    refine L_call rfl cb68 (script_Right (ops := y.p.ops) hOp (by omega)) rfl ?_
    rintro _ w4 ⟨hs4, rfl⟩
    replace hB := gb_tr hB hs4
    replace hbk := hbk.gb hs4
    replace hR := hR.gb hs4
    replace hX := own_gb hX hs4
    replace hOp := hOp.gb hs4
    replace hPr := hPr.gb hs4
    replace hDO := hDO.gb hs4
    replace hb1 := hb1.gb hs4
    replace hb2 := hb2.gb hs4
    refine L_nil (N_then ⟨fun hN_ => ⟨hb1, hb2, trivial⟩, ?_⟩)
    refine T_takeA (i := 5) rfl (by kernel_rfl) (by kernel_rfl) (by kernel_rfl) (by kernel_rfl) (Y_of (fun _ ⟨hb1, hb2, _⟩ => R_eqv (R_eqlB rfl rfl boo4) (v' := .bool true) (by rw [(decide_eq_false (show ¬ (SOk y.p.kind y.p.n y.p.ops y.p.keep.length y.p.torn y.p.cut) from hr)), (decide_eq_false (show e.e ≠ 13 from h13))]; rfl))) ⟨hb1, hb2, trivial⟩ rfl ?_
    refine T_done (by kernel_rfl) (CalmE.normal ?_)
    refine N_then (C_condT rfl rfl (C_seq (C_reg rfl ?_)))
    refine L_run (R_assign rfl) rfl ?_
    refine L_nil (N_then (C_ret (R_then ?_)))
    refine ret1 Try.results55 rfl ?_
    exact ⟨hB, _, rfl, .inr ⟨by decide, by decide, (fun q_ => by have h_ := q_.2.1; first | exact (h_.1 hr) h13 | exact hr (h_.2 h13)), (⟨b.l, b.syn, b.has⟩ : BkP), lost, ⟨_, _, _, _, hbk, hR, (own_lo hX (Nat.le_refl _))⟩, (.inl rfl)⟩⟩

theorem next_c {w wa : World} {gb n : Nat} {b : BkP} {lost : List Int} {y : StepD} {e : EvD} (hM : BkM w wa gb b lost) (hB : w.grownBy wa none) (gb0 : w.heap.size ≤ gb) (hg : GoodB n b) (hn : n ≤ 900) (hll : lost.length ≤ 900) (hOp0 : Sli 0 0 w.heap.size w y.oa (fl encOp y.p.ops)) (hPr0 : Sli 0 0 w.heap.size w e.pa (fl encK e.prs)) (hDO0 : DeepO w.heap.size w b.l) (hy30 : y.p.ops.length ≤ 30) (hp : e.prs.length ≤ 1000) (hr : ¬ sOk y.p) (h13 : e.e = 13) :
    Runs Try.prog 55 #[.pointer (some ⟨gb, 0, none⟩), .agg #[.int .i64 y.p.kind, .int .i64 y.p.n, .slice y.oa y.p.ops.length y.oc, .slice y.ka y.p.keep.length y.kc, .int .i64 y.p.torn, .int .i64 y.p.cut], .agg #[.int .i64 e.kind, .int .i64 e.e, .int .i64 e.bat, .int .i64 e.syn, .slice e.pa e.prs.length e.pc]] wa (fun v_ w' => w.grownBy w' none ∧ ∃ wr : Int, v_ = .int .i64 wr ∧ ((wr = 0 ∧ okB b y e ∧ BkM w w' gb (nxt b y e) (lostN b y e lost)) ∨ (wr ≠ 0 ∧ (1 ≤ wr ∧ wr ≤ 5) ∧ ¬ okB b y e ∧ ∃ b' lost', BkM w w' gb b' lost' ∧ LostOr y lost lost'))) := by
  obtain ⟨A, c, A2, c2, hbk, hR, hX⟩ := hM
  have hOp := hOp0.gb hB
  have hPr := hPr0.gb hB
  have hDO := hDO0.gb hB
  have hno := hg.ops (by omega)
  have hnl : b.l.length ≤ 1000000 := by have := hg.2.1; omega
  have he0 : ¬ e.e = 0 := by omega
  refine enter Try.func55 Try.ntmps55 rfl rfl ?_
  refine C_seq (C_reg rfl ?_)
  refine L_box (cs := [.int .i64 y.p.kind, .int .i64 y.p.n, .slice y.oa y.p.ops.length y.oc, .slice y.ka y.p.keep.length y.kc, .int .i64 y.p.torn, .int .i64 y.p.cut]) rfl rfl rfl ?_
  intro g1 w1 eg1 hb1 hs1 hz1
  have ge1 : w.heap.size ≤ g1 := eg_ge hB eg1
  have lt1 : gb < g1 := lt_of_eg hbk.lt eg1
  replace hB := gb_tr hB hs1
  replace hbk := hbk.gb hs1
  replace hR := hR.gb hs1
  replace hX := own_gb hX hs1
  replace hOp := hOp.gb hs1
  replace hPr := hPr.gb hs1
  replace hDO := hDO.gb hs1
  refine L_box (cs := [.int .i64 e.kind, .int .i64 e.e, .int .i64 e.bat, .int .i64 e.syn, .slice e.pa e.prs.length e.pc]) rfl rfl rfl ?_
  intro g2 w2 eg2 hb2 hs2 hz2
  have ge2 : w.heap.size ≤ g2 := eg_ge hB eg2
  have lt2 : gb < g2 := lt_of_eg hbk.lt eg2
  have lt3 : g1 < g2 := lt_of_eg hb1.lt eg2
  replace hB := gb_tr hB hs2
  replace hbk := hbk.gb hs2
  replace hR := hR.gb hs2
  replace hX := own_gb hX hs2
  replace hOp := hOp.gb hs2
  replace hPr := hPr.gb hs2
  replace hDO := hDO.gb hs2
  replace hb1 := hb1.gb hs2
  refine L_run (R_assign rfl) rfl ?_
  refine L_nil (N_then (C_seq (C_seq (C_reg rfl ?_))))
  refine L_run (R_field (r := 0) rfl fld87_0 rfl) rfl ?_
  refine L_run (R_load1 rfl scl3 (hb2.cell (i := 0) rfl)) rfl ?_
  refine L_run (R_field (r := 0) rfl fld86_0 rfl) rfl ?_
  refine L_run (R_load1 rfl scl3 (hb1.cell (i := 0) rfl)) rfl ?_
  refine L_run (R_neq rfl rfl) rfl ?_
  refine L_nil (N_then ?_)
  refine C_if rfl (fun h1 => ?_) (fun h1 => ?_)
  · refine C_seq (C_reg rfl ?_)
    refine L_run (R_assign rfl) rfl ?_
    refine L_nil (N_then (C_ret (R_then ?_)))
    refine ret1 Try.results55 rfl ?_
    exact ⟨hB, _, rfl, .inr ⟨by decide, by decide, (fun q_ => by have h_ := q_.1; omega), (⟨b.l, b.syn, b.has⟩ : BkP), lost, ⟨_, _, _, _, hbk, hR, (own_lo hX (Nat.le_refl _))⟩, (.inl rfl)⟩⟩
  · refine C_skip (N_then (C_seq (C_seq ?_)))
    refine C_draw2 rfl mix ?_
    intro w3 hs3 hz3
    replace hB := gb_tr hB hs3
    replace hbk := hbk.gb hs3
    replace hR := hR.gb hs3
    replace hX := own_gb hX hs3
    replace hOp := hOp.gb hs3
    replace hPr := hPr.gb hs3
    replace hDO := hDO.gb hs3
    replace hb1 := hb1.gb hs3
    replace hb2 := hb2.gb hs3
    refine ⟨fun W_ => Blk W_ g1 86 [.int .i64 y.p.kind, .int .i64 y.p.n, .slice y.oa y.p.ops.length y.oc, .slice y.ka y.p.keep.length y.kc, .int .i64 y.p.torn, .int .i64 y.p.cut] ∧ Blk W_ g2 87 [.int .i64 e.kind, .int .i64 e.e, .int .i64 e.bat, .int .i64 e.syn, .slice e.pa e.prs.length e.pc] ∧ True, [0, 2, 3, 4, 5], ?_⟩
    refine T_takeA (i := 0) rfl (by kernel_rfl) (by kernel_rfl) (by kernel_rfl) (by kernel_rfl) (Y_of (fun _ ⟨hb1, hb2, _⟩ => R_loadA (vs := [.int .i64 y.p.kind, .int .i64 y.p.n, .slice y.oa y.p.ops.length y.oc, .slice y.ka y.p.keep.length y.kc, .int .i64 y.p.torn, .int .i64 y.p.cut]) rfl agg86 (At.pre (hb1.at_ 0) rfl) rfl)) ⟨hb1, hb2, trivial⟩ rfl ?_
    refine T_takeA (i := 2) rfl (by kernel_rfl) (by kernel_rfl) (by kernel_rfl) (by kernel_rfl) (Y_of (fun _ ⟨hb1, hb2, _⟩ => R_field (r := 1) rfl fld87_1 rfl)) ⟨hb1, hb2, trivial⟩ rfl ?_
    refine T_takeA (i := 3) rfl (by kernel_rfl) (by kernel_rfl) (by kernel_rfl) (by kernel_rfl) (Y_of (fun _ ⟨hb1, hb2, _⟩ => R_load1 rfl scl42 (hb2.cell (i := 1) rfl))) ⟨hb1, hb2, trivial⟩ rfl ?_
    refine T_takeA (i := 4) rfl (by kernel_rfl) (by kernel_rfl) (by kernel_rfl) (by kernel_rfl) (Y_of (fun _ ⟨hb1, hb2, _⟩ => R_eql rfl rfl)) ⟨hb1, hb2, trivial⟩ rfl ?_
    refine T_all (rs := [1]) (by kernel_rfl) rfl (all1 (O_one rfl ?_))
    refine L_call rfl cb68 (script_Right (ops := y.p.ops) hOp (by omega)) rfl ?_
    rintro _ w4 ⟨hs4, rfl⟩
    replace hB := gb_tr hB hs4
    replace hbk := hbk.gb hs4
    replace hR := hR.gb hs4
    replace hX := own_gb hX hs4
    replace hOp := hOp.gb hs4
    replace hPr := hPr.gb hs4
    replace hDO := hDO.gb hs4
    replace hb1 := hb1.gb hs4
    replace hb2 := hb2.gb hs4
    refine L_nil (N_then ⟨fun hN_ => ⟨hb1, hb2, trivial⟩, ?_⟩)
    refine T_takeA (i := 5) rfl (by kernel_rfl) (by kernel_rfl) (by kernel_rfl) (by kernel_rfl) (Y_of (fun _ ⟨hb1, hb2, _⟩ => R_eqv (R_eqlB rfl rfl boo4) (v' := .bool false) (by rw [(decide_eq_false (show ¬ (SOk y.p.kind y.p.n y.p.ops y.p.keep.length y.p.torn y.p.cut) from hr)), (decide_eq_true (Decidable.not_not.1 (show ¬ (e.e ≠ 13) from fun q_ => q_ h13)))]; rfl))) ⟨hb1, hb2, trivial⟩ rfl ?_
    refine T_done (by kernel_rfl) (CalmE.normal ?_)
    refine N_then (C_condF rfl rfl (C_skip (N_then (C_seq (C_seq (C_reg rfl ?_))))))
    refine L_run (R_field (r := 1) rfl fld87_1 rfl) rfl ?_
    refine L_run (R_load1 rfl scl42 (hb2.cell (i := 1) rfl)) rfl ?_
    refine L_run (R_neq rfl rfl) rfl ?_
    refine L_nil (N_then (C_condT rfl (decide_eq_true he0) (C_reg rfl ?_)))
    refine L_run (R_move rfl) rfl ?_
    refine L_run (R_move rfl) rfl ?_
    refine L_run (R_nilck rfl) rfl ?_
    refine L_run (R_field (r := 2) rfl fld92_2 rfl) rfl ?_
    refine L_run (R_load1 rfl scl4 (hbk.cell (i := 2) rfl)) rfl ?_
    refine L_run (R_move rfl) rfl ?_
    refine L_split b.has (fun h2 => ?_) (fun h2 => ?_)
    · refine L_yes rfl rfl rfl h2 ?_
      refine L_run (R_loadA (vs := [.int .i64 y.p.kind, .int .i64 y.p.n, .slice y.oa y.p.ops.length y.oc, .slice y.ka y.p.keep.length y.kc, .int .i64 y.p.torn, .int .i64 y.p.cut]) rfl agg86 (At.pre (hb1.at_ 0) rfl) rfl) rfl ?_
      refine L_yes rfl rfl rfl h2 ?_
      refine L_call rfl cb69 (opens_ok (y := y)) rfl ?_
      rintro _ w5 ⟨hs5, rfl⟩
      replace hB := gb_tr hB hs5
      replace hbk := hbk.gb hs5
      replace hR := hR.gb hs5
      replace hX := own_gb hX hs5
      replace hOp := hOp.gb hs5
      replace hPr := hPr.gb hs5
      replace hDO := hDO.gb hs5
      replace hb1 := hb1.gb hs5
      replace hb2 := hb2.gb hs5
      refine L_yes rfl rfl rfl h2 ?_
      refine L_run (R_move rfl) rfl ?_
      refine L_splitD (p := y.p.kind = 4 ∨ y.p.kind = 6) (fun h3 => ?_) (fun h3 => ?_)
      · refine L_yes rfl rfl rfl (decide_eq_true h3) ?_
        refine L_run (R_field (r := 1) rfl fld87_1 rfl) rfl ?_
        refine L_yes rfl rfl rfl (decide_eq_true h3) ?_
        refine L_run (R_load1 rfl scl42 (hb2.cell (i := 1) rfl)) rfl ?_
        refine L_yes rfl rfl rfl (decide_eq_true h3) ?_
        refine L_run (R_neq rfl rfl) rfl ?_
        refine L_yes rfl rfl rfl h2 ?_
        refine L_run (R_pickT rfl (decide_eq_true h3) rfl) rfl ?_
        refine L_yes rfl rfl rfl h2 ?_
        refine L_run (R_notD rfl) rfl ?_
        refine L_run (R_pickT rfl h2 rfl) rfl ?_
        refine L_run (R_nilck rfl) rfl ?_
        refine L_run (R_field (r := 2) rfl fld92_2 rfl) rfl ?_
        refine L_st1 rfl rfl rfl sz4 hbk rfl ?_
        intro w6 hb3 hs6 hz4
        replace hB := gb_trg hB hs6 gb0
        replace hR := hR.other hbk rfl hs6
        replace hX := own_other hX hbk rfl hs6
        replace hOp := hOp.old hs6 gb0
        replace hPr := hPr.old hs6 gb0
        replace hDO := hDO.old hs6 gb0
        replace hb1 := hb1.grown hs6 (ne_gt lt1)
        replace hb2 := hb2.grown hs6 (ne_gt lt2)
        refine L_nil (N_then (C_seq (C_seq ?_)))
        refine C_draw2 rfl mix ?_
        intro w7 hs7 hz5
        replace hB := gb_tr hB hs7
        replace hb3 := hb3.gb hs7
        replace hR := hR.gb hs7
        replace hX := own_gb hX hs7
        replace hOp := hOp.gb hs7
        replace hPr := hPr.gb hs7
        replace hDO := hDO.gb hs7
        replace hb1 := hb1.gb hs7
        replace hb2 := hb2.gb hs7
        refine ⟨fun W_ => Blk W_ gb 92 [.slice A b.l.length c, .int .i64 b.syn, .bool (decide (¬ (e.e ≠ 13))), .slice A2 lost.length c2] ∧ Blk W_ g2 87 [.int .i64 e.kind, .int .i64 e.e, .int .i64 e.bat, .int .i64 e.syn, .slice e.pa e.prs.length e.pc] ∧ True, [0, 1, 2, 3, 4, 5, 6, 7, 8, 9, 10, 11, 12, 13, 14, 15, 16], ?_⟩
        refine T_takeA (i := 0) rfl (by kernel_rfl) (by kernel_rfl) (by kernel_rfl) (by kernel_rfl) (Y_of (fun _ ⟨hb3, hb2, _⟩ => R_field (r := 2) rfl fld87_2 rfl)) ⟨hb3, hb2, trivial⟩ rfl ?_
        refine T_takeA (i := 1) rfl (by kernel_rfl) (by kernel_rfl) (by kernel_rfl) (by kernel_rfl) (Y_of (fun _ ⟨hb3, hb2, _⟩ => R_load1 rfl scl3 (hb2.cell (i := 2) rfl))) ⟨hb3, hb2, trivial⟩ rfl ?_
        refine T_takeA (i := 2) rfl (by kernel_rfl) (by kernel_rfl) (by kernel_rfl) (by kernel_rfl) (Y_of (fun _ ⟨hb3, hb2, _⟩ => R_move rfl)) ⟨hb3, hb2, trivial⟩ rfl ?_
        refine T_takeA (i := 3) rfl (by kernel_rfl) (by kernel_rfl) (by kernel_rfl) (by kernel_rfl) (Y_of (fun _ ⟨hb3, hb2, _⟩ => R_nilck rfl)) ⟨hb3, hb2, trivial⟩ rfl ?_
        refine T_takeA (i := 4) rfl (by kernel_rfl) (by kernel_rfl) (by kernel_rfl) (by kernel_rfl) (Y_of (fun _ ⟨hb3, hb2, _⟩ => R_field (r := 0) rfl fld92_0 rfl)) ⟨hb3, hb2, trivial⟩ rfl ?_
        refine T_takeA (i := 5) rfl (by kernel_rfl) (by kernel_rfl) (by kernel_rfl) (by kernel_rfl) (Y_of (fun _ ⟨hb3, hb2, _⟩ => R_load1 rfl scl90 (hb3.cell (i := 0) rfl))) ⟨hb3, hb2, trivial⟩ rfl ?_
        refine T_takeA (i := 6) rfl (by kernel_rfl) (by kernel_rfl) (by kernel_rfl) (by kernel_rfl) (Y_of (fun _ ⟨hb3, hb2, _⟩ => R_lenSl rfl slc90)) ⟨hb3, hb2, trivial⟩ rfl ?_
        refine T_takeA (i := 7) rfl (by kernel_rfl) (by kernel_rfl) (by kernel_rfl) (by kernel_rfl) (Y_of (fun _ ⟨hb3, hb2, _⟩ => R_neq rfl rfl)) ⟨hb3, hb2, trivial⟩ rfl ?_
        refine T_takeA (i := 8) rfl (by kernel_rfl) (by kernel_rfl) (by kernel_rfl) (by kernel_rfl) (Y_of (fun _ ⟨hb3, hb2, _⟩ => R_move rfl)) ⟨hb3, hb2, trivial⟩ rfl ?_
        by_cases h4 : e.bat ≠ (b.l.length : Int)
        · refine T_takeA (i := 9) rfl (by kernel_rfl) (by kernel_rfl) (by kernel_rfl) (by kernel_rfl) (Y_no rfl rfl rfl (decide_eq_true h4)) ⟨hb3, hb2, trivial⟩ rfl ?_
          refine T_takeA (i := 10) rfl (by kernel_rfl) (by kernel_rfl) (by kernel_rfl) (by kernel_rfl) (Y_no rfl rfl rfl (decide_eq_true h4)) ⟨hb3, hb2, trivial⟩ rfl ?_
          refine T_takeA (i := 11) rfl (by kernel_rfl) (by kernel_rfl) (by kernel_rfl) (by kernel_rfl) (Y_no rfl rfl rfl (decide_eq_true h4)) ⟨hb3, hb2, trivial⟩ rfl ?_
          refine T_takeA (i := 12) rfl (by kernel_rfl) (by kernel_rfl) (by kernel_rfl) (by kernel_rfl) (Y_no rfl rfl rfl (decide_eq_true h4)) ⟨hb3, hb2, trivial⟩ rfl ?_
          refine T_takeA (i := 13) rfl (by kernel_rfl) (by kernel_rfl) (by kernel_rfl) (by kernel_rfl) (Y_no rfl rfl rfl (decide_eq_true h4)) ⟨hb3, hb2, trivial⟩ rfl ?_
          refine T_takeA (i := 14) rfl (by kernel_rfl) (by kernel_rfl) (by kernel_rfl) (by kernel_rfl) (Y_no rfl rfl rfl (decide_eq_true h4)) ⟨hb3, hb2, trivial⟩ rfl ?_
          refine T_takeA (i := 15) rfl (by kernel_rfl) (by kernel_rfl) (by kernel_rfl) (by kernel_rfl) (Y_no rfl rfl rfl (decide_eq_true h4)) ⟨hb3, hb2, trivial⟩ rfl ?_
          refine T_takeA (i := 16) rfl (by kernel_rfl) (by kernel_rfl) (by kernel_rfl) (by kernel_rfl) (Y_of (fun _ ⟨hb3, hb2, _⟩ => R_pickT rfl (decide_eq_true h4) rfl)) ⟨hb3, hb2, trivial⟩ rfl ?_
          refine T_done (by kernel_rfl) (CalmE.normal ?_)
          refine N_then (C_condT rfl rfl (C_seq (C_reg rfl ?_)))
          refine L_run (R_assign rfl) rfl ?_
          refine L_nil (N_then (C_ret (R_then ?_)))
          refine ret1 Try.results55 rfl ?_
          have eh_ : (b.has && !(decide ((y.p.kind = 4 ∨ y.p.kind = 6) ∧ e.e ≠ 13))) = (decide (¬ (e.e ≠ 13))) := by rw [h2, show decide ((y.p.kind = 4 ∨ y.p.kind = 6) ∧ e.e ≠ 13) = false from decide_eq_false (by omega), show (decide (¬ (e.e ≠ 13))) = true from (decide_eq_true (show ¬ (e.e ≠ 13) from fun q_ => q_ h13))]; rfl
          have en_ : nxt b y e = (⟨b.l, b.syn, (decide (¬ (e.e ≠ 13)))⟩ : BkP) := by unfold nxt; rw [if_neg he0, eh_]
          have ea_ : apH (⟨b.l, b.syn, (decide (¬ (e.e ≠ 13)))⟩ : BkP) = apL (⟨b.l, b.syn, (decide (¬ (e.e ≠ 13)))⟩ : BkP).l := if_pos (decide_eq_true (show ¬ (e.e ≠ 13) from fun q_ => q_ h13))
          have hnf_ : ¬ FitsB (⟨b.l, b.syn, (decide (¬ (e.e ≠ 13)))⟩ : BkP) e := fun q_ => by have h1_ : e.bat = (b.l.length : Int) := q_.1; have h2_ : e.syn = b.syn := q_.2.1; omega
          exact ⟨hB, _, rfl, .inr ⟨by decide, by decide, fits_no en_ hnf_, (⟨b.l, b.syn, (decide (¬ (e.e ≠ 13)))⟩ : BkP), lost, ⟨_, _, _, _, hb3, hR, (own_lo hX (Nat.le_refl _))⟩, (.inl rfl)⟩⟩
        · refine T_takeA (i := 9) rfl (by kernel_rfl) (by kernel_rfl) (by kernel_rfl) (by kernel_rfl) (Y_yes rfl rfl rfl (decide_eq_false h4) (fun _ ⟨hb3, hb2, _⟩ => R_field (r := 3) rfl fld87_3 rfl)) ⟨hb3, hb2, trivial⟩ rfl ?_
          refine T_takeA (i := 10) rfl (by kernel_rfl) (by kernel_rfl) (by kernel_rfl) (by kernel_rfl) (Y_yes rfl rfl rfl (decide_eq_false h4) (fun _ ⟨hb3, hb2, _⟩ => R_load1 rfl scl3 (hb2.cell (i := 3) rfl))) ⟨hb3, hb2, trivial⟩ rfl ?_
          refine T_takeA (i := 11) rfl (by kernel_rfl) (by kernel_rfl) (by kernel_rfl) (by kernel_rfl) (Y_yes rfl rfl rfl (decide_eq_false h4) (fun _ ⟨hb3, hb2, _⟩ => R_move rfl)) ⟨hb3, hb2, trivial⟩ rfl ?_
          refine T_takeA (i := 12) rfl (by kernel_rfl) (by kernel_rfl) (by kernel_rfl) (by kernel_rfl) (Y_yes rfl rfl rfl (decide_eq_false h4) (fun _ ⟨hb3, hb2, _⟩ => R_nilck rfl)) ⟨hb3, hb2, trivial⟩ rfl ?_
          refine T_takeA (i := 13) rfl (by kernel_rfl) (by kernel_rfl) (by kernel_rfl) (by kernel_rfl) (Y_yes rfl rfl rfl (decide_eq_false h4) (fun _ ⟨hb3, hb2, _⟩ => R_field (r := 1) rfl fld92_1 rfl)) ⟨hb3, hb2, trivial⟩ rfl ?_
          refine T_takeA (i := 14) rfl (by kernel_rfl) (by kernel_rfl) (by kernel_rfl) (by kernel_rfl) (Y_yes rfl rfl rfl (decide_eq_false h4) (fun _ ⟨hb3, hb2, _⟩ => R_load1 rfl scl3 (hb3.cell (i := 1) rfl))) ⟨hb3, hb2, trivial⟩ rfl ?_
          refine T_takeA (i := 15) rfl (by kernel_rfl) (by kernel_rfl) (by kernel_rfl) (by kernel_rfl) (Y_yes rfl rfl rfl (decide_eq_false h4) (fun _ ⟨hb3, hb2, _⟩ => R_neq rfl rfl)) ⟨hb3, hb2, trivial⟩ rfl ?_
          refine T_takeA (i := 16) rfl (by kernel_rfl) (by kernel_rfl) (by kernel_rfl) (by kernel_rfl) (Y_of (fun _ ⟨hb3, hb2, _⟩ => R_pickF rfl (decide_eq_false h4) rfl)) ⟨hb3, hb2, trivial⟩ rfl ?_
          refine T_done (by kernel_rfl) (CalmE.normal ?_)
          refine N_then ?_
          refine C_if rfl (fun h5 => ?_) (fun h5 => ?_)
          · refine C_seq (C_reg rfl ?_)
            refine L_run (R_assign rfl) rfl ?_
            refine L_nil (N_then (C_ret (R_then ?_)))
            refine ret1 Try.results55 rfl ?_
            have eh_ : (b.has && !(decide ((y.p.kind = 4 ∨ y.p.kind = 6) ∧ e.e ≠ 13))) = (decide (¬ (e.e ≠ 13))) := by rw [h2, show decide ((y.p.kind = 4 ∨ y.p.kind = 6) ∧ e.e ≠ 13) = false from decide_eq_false (by omega), show (decide (¬ (e.e ≠ 13))) = true from (decide_eq_true (show ¬ (e.e ≠ 13) from fun q_ => q_ h13))]; rfl
            have en_ : nxt b y e = (⟨b.l, b.syn, (decide (¬ (e.e ≠ 13)))⟩ : BkP) := by unfold nxt; rw [if_neg he0, eh_]
            have ea_ : apH (⟨b.l, b.syn, (decide (¬ (e.e ≠ 13)))⟩ : BkP) = apL (⟨b.l, b.syn, (decide (¬ (e.e ≠ 13)))⟩ : BkP).l := if_pos (decide_eq_true (show ¬ (e.e ≠ 13) from fun q_ => q_ h13))
            have hnf_ : ¬ FitsB (⟨b.l, b.syn, (decide (¬ (e.e ≠ 13)))⟩ : BkP) e := fun q_ => by have h1_ : e.bat = (b.l.length : Int) := q_.1; have h2_ : e.syn = b.syn := q_.2.1; omega
            exact ⟨hB, _, rfl, .inr ⟨by decide, by decide, fits_no en_ hnf_, (⟨b.l, b.syn, (decide (¬ (e.e ≠ 13)))⟩ : BkP), lost, ⟨_, _, _, _, hb3, hR, (own_lo hX (Nat.le_refl _))⟩, (.inl rfl)⟩⟩
          · refine C_skip (N_then (C_seq (C_reg rfl ?_)))
            refine L_run (R_assign rfl) rfl ?_
            refine L_nil (N_then (C_seq (C_seq (C_reg rfl ?_))))
            refine L_run (R_move rfl) rfl ?_
            refine L_run (R_nilck rfl) rfl ?_
            refine L_run (R_field (r := 2) rfl fld92_2 rfl) rfl ?_
            refine L_run (R_load1 rfl scl4 (hb3.cell (i := 2) rfl)) rfl ?_
            refine L_nil (N_then (C_condT rfl (decide_eq_true (show ¬ (e.e ≠ 13) from fun q_ => q_ h13)) ?_))
            refine C_draw2 rfl mix ?_
            intro w8 hs8 hz6
            replace hB := gb_tr hB hs8
            replace hb3 := hb3.gb hs8
            replace hR := hR.gb hs8
            replace hX := own_gb hX hs8
            replace hOp := hOp.gb hs8
            replace hPr := hPr.gb hs8
            replace hDO := hDO.gb hs8
            replace hb1 := hb1.gb hs8
            replace hb2 := hb2.gb hs8
            refine ⟨fun W_ => Blk W_ gb 92 [.slice A b.l.length c, .int .i64 b.syn, .bool (decide (¬ (e.e ≠ 13))), .slice A2 lost.length c2] ∧ True, [0, 1, 2, 3, 4, 5, 6, 7, 8, 10], ?_⟩
            refine T_takeA (i := 0) rfl (by kernel_rfl) (by kernel_rfl) (by kernel_rfl) (by kernel_rfl) (Y_of (fun _ ⟨hb3, _⟩ => R_move rfl)) ⟨hb3, trivial⟩ rfl ?_
            refine T_takeA (i := 1) rfl (by kernel_rfl) (by kernel_rfl) (by kernel_rfl) (by kernel_rfl) (Y_of (fun _ ⟨hb3, _⟩ => R_nilck rfl)) ⟨hb3, trivial⟩ rfl ?_
            refine T_takeA (i := 2) rfl (by kernel_rfl) (by kernel_rfl) (by kernel_rfl) (by kernel_rfl) (Y_of (fun _ ⟨hb3, _⟩ => R_field (r := 0) rfl fld92_0 rfl)) ⟨hb3, trivial⟩ rfl ?_
            refine T_takeA (i := 3) rfl (by kernel_rfl) (by kernel_rfl) (by kernel_rfl) (by kernel_rfl) (Y_of (fun _ ⟨hb3, _⟩ => R_load1 rfl scl90 (hb3.cell (i := 0) rfl))) ⟨hb3, trivial⟩ rfl ?_
            refine T_takeA (i := 4) rfl (by kernel_rfl) (by kernel_rfl) (by kernel_rfl) (by kernel_rfl) (Y_of (fun _ ⟨hb3, _⟩ => R_move rfl)) ⟨hb3, trivial⟩ rfl ?_
            refine T_takeA (i := 5) rfl (by kernel_rfl) (by kernel_rfl) (by kernel_rfl) (by kernel_rfl) (Y_of (fun _ ⟨hb3, _⟩ => R_nilck rfl)) ⟨hb3, trivial⟩ rfl ?_
            refine T_takeA (i := 6) rfl (by kernel_rfl) (by kernel_rfl) (by kernel_rfl) (by kernel_rfl) (Y_of (fun _ ⟨hb3, _⟩ => R_field (r := 0) rfl fld92_0 rfl)) ⟨hb3, trivial⟩ rfl ?_
            refine T_takeA (i := 7) rfl (by kernel_rfl) (by kernel_rfl) (by kernel_rfl) (by kernel_rfl) (Y_of (fun _ ⟨hb3, _⟩ => R_load1 rfl scl90 (hb3.cell (i := 0) rfl))) ⟨hb3, trivial⟩ rfl ?_
            refine T_takeA (i := 8) rfl (by kernel_rfl) (by kernel_rfl) (by kernel_rfl) (by kernel_rfl) (Y_of (fun _ ⟨hb3, _⟩ => R_lenSl rfl slc90)) ⟨hb3, trivial⟩ rfl ?_
            refine T_all (rs := [9]) (by kernel_rfl) rfl (all1 (O_one rfl ?_))
            have ge3 : w.heap.size ≤ w8.heap.size := hB.size
            refine L_call rfl cb71 (fafter_ok (ls := b.l) hR.sli hDO.top hno hnl) rfl ?_
            rintro _ w9 ⟨hs9, A_1, c_1, rfl, ho1⟩
            replace hB := gb_tr hB hs9
            replace hb3 := hb3.gb hs9
            replace hR := hR.gb hs9
            replace hX := own_gb hX hs9
            replace hOp := hOp.gb hs9
            replace hPr := hPr.gb hs9
            replace hDO := hDO.gb hs9
            replace hb1 := hb1.gb hs9
            replace hb2 := hb2.gb hs9
            refine L_nil (N_then ⟨fun hN_ => ⟨hb3, trivial⟩, ?_⟩)
            refine T_takeA (i := 10) rfl (by kernel_rfl) (by kernel_rfl) (by kernel_rfl) (by kernel_rfl) (Y_of (fun _ ⟨hb3, _⟩ => R_assign rfl)) ⟨hb3, trivial⟩ rfl ?_
            refine T_done (by kernel_rfl) (CalmE.normal ?_)
            refine N_then (C_seq (C_seq (C_reg rfl ?_)))
            refine L_run (R_field (r := 4) rfl fld87_4 rfl) rfl ?_
            refine L_run (R_load1 rfl scl29 (hb2.cell (i := 4) rfl)) rfl ?_
            refine L_run (R_move rfl) rfl ?_
            refine L_call rfl cb72 (fequal_ok (a := e.prs) (b := (apL b.l)) hPr (own_of ho1).2.2 (by omega)) rfl ?_
            rintro _ w10 ⟨hs10, rfl⟩
            replace hB := gb_tr hB hs10
            replace hb3 := hb3.gb hs10
            replace hR := hR.gb hs10
            replace hX := own_gb hX hs10
            replace hOp := hOp.gb hs10
            replace hPr := hPr.gb hs10
            replace hDO := hDO.gb hs10
            replace hb1 := hb1.gb hs10
            replace hb2 := hb2.gb hs10
            replace ho1 := own_gb ho1 hs10
            refine L_run (R_notD rfl) rfl ?_
            refine L_nil (N_then ?_)
            refine C_ifN rfl (fun h6 => ?_) (fun h6 => ?_)
            · refine C_seq (C_reg rfl ?_)
              refine L_run (R_assign rfl) rfl ?_
              refine L_nil (N_then (C_ret (R_then ?_)))
              refine ret1 Try.results55 rfl ?_
              have eh_ : (b.has && !(decide ((y.p.kind = 4 ∨ y.p.kind = 6) ∧ e.e ≠ 13))) = (decide (¬ (e.e ≠ 13))) := by rw [h2, show decide ((y.p.kind = 4 ∨ y.p.kind = 6) ∧ e.e ≠ 13) = false from decide_eq_false (by omega), show (decide (¬ (e.e ≠ 13))) = true from (decide_eq_true (show ¬ (e.e ≠ 13) from fun q_ => q_ h13))]; rfl
              have en_ : nxt b y e = (⟨b.l, b.syn, (decide (¬ (e.e ≠ 13)))⟩ : BkP) := by unfold nxt; rw [if_neg he0, eh_]
              have ea_ : apH (⟨b.l, b.syn, (decide (¬ (e.e ≠ 13)))⟩ : BkP) = apL (⟨b.l, b.syn, (decide (¬ (e.e ≠ 13)))⟩ : BkP).l := if_pos (decide_eq_true (show ¬ (e.e ≠ 13) from fun q_ => q_ h13))
              have hnf_ : ¬ FitsB (⟨b.l, b.syn, (decide (¬ (e.e ≠ 13)))⟩ : BkP) e := fun q_ => h6 (by rw [q_.2.2, ea_])
              exact ⟨hB, _, rfl, .inr ⟨by decide, by decide, fits_no en_ hnf_, (⟨b.l, b.syn, (decide (¬ (e.e ≠ 13)))⟩ : BkP), lost, ⟨_, _, _, _, hb3, hR, (own_lo hX (Nat.le_refl _))⟩, (.inl rfl)⟩⟩
            · refine C_skip (N_then (C_seq (C_reg rfl ?_)))
              refine L_run (R_assign rfl) rfl ?_
              refine L_nil (N_then (C_ret ?_))
              refine ret1 Try.results55 rfl ?_
              have eh_ : (b.has && !(decide ((y.p.kind = 4 ∨ y.p.kind = 6) ∧ e.e ≠ 13))) = (decide (¬ (e.e ≠ 13))) := by rw [h2, show decide ((y.p.kind = 4 ∨ y.p.kind = 6) ∧ e.e ≠ 13) = false from decide_eq_false (by omega), show (decide (¬ (e.e ≠ 13))) = true from (decide_eq_true (show ¬ (e.e ≠ 13) from fun q_ => q_ h13))]; rfl
              have en_ : nxt b y e = (⟨b.l, b.syn, (decide (¬ (e.e ≠ 13)))⟩ : BkP) := by unfold nxt; rw [if_neg he0, eh_]
              have ea_ : apH (⟨b.l, b.syn, (decide (¬ (e.e ≠ 13)))⟩ : BkP) = apL (⟨b.l, b.syn, (decide (¬ (e.e ≠ 13)))⟩ : BkP).l := if_pos (decide_eq_true (show ¬ (e.e ≠ 13) from fun q_ => q_ h13))
              have ef_ : FitsB (⟨b.l, b.syn, (decide (¬ (e.e ≠ 13)))⟩ : BkP) e := (show e.bat = (b.l.length : Int) ∧ e.syn = b.syn ∧ e.prs = apH (⟨b.l, b.syn, (decide (¬ (e.e ≠ 13)))⟩ : BkP) from ⟨by omega, by omega, by rw [ea_]; exact h6⟩)
              have hok_ : okB b y e := ⟨by omega, ⟨fun q_ => by first | omega | exact absurd q_ hr, fun q_ => by first | exact hr | exact absurd h13 q_⟩, (fun q_ => absurd q_ he0), by rw [en_]; exact ef_⟩
              exact ⟨hB, _, rfl, .inl ⟨rfl, hok_, by rw [en_]; unfold lostN; rw [if_neg he0]; exact ⟨_, _, _, _, hb3, hR, (own_lo hX (Nat.le_refl _))⟩⟩⟩
      · refine L_no rfl rfl rfl (decide_eq_false h3) rfl ?_
        refine L_no rfl rfl rfl (decide_eq_false h3) rfl ?_
        refine L_no rfl rfl rfl (decide_eq_false h3) rfl ?_
        refine L_yes rfl rfl rfl h2 ?_
        refine L_run (R_pickF rfl (decide_eq_false h3) rfl) rfl ?_
        refine L_yes rfl rfl rfl h2 ?_
        refine L_run (R_not rfl) rfl ?_
        refine L_run (R_pickT rfl h2 rfl) rfl ?_
        refine L_run (R_nilck rfl) rfl ?_
        refine L_run (R_field (r := 2) rfl fld92_2 rfl) rfl ?_
        refine L_st1 rfl rfl rfl sz4 hbk rfl ?_
        intro w11 hb4 hs11 hz7
        replace hB := gb_trg hB hs11 gb0
        replace hR := hR.other hbk rfl hs11
        replace hX := own_other hX hbk rfl hs11
        replace hOp := hOp.old hs11 gb0
        replace hPr := hPr.old hs11 gb0
        replace hDO := hDO.old hs11 gb0
        replace hb1 := hb1.grown hs11 (ne_gt lt1)
        replace hb2 := hb2.grown hs11 (ne_gt lt2)
        refine L_nil (N_then (C_seq (C_seq ?_)))
        refine C_draw2 rfl mix ?_
        intro w12 hs12 hz8
        replace hB := gb_tr hB hs12
        replace hb4 := hb4.gb hs12
        replace hR := hR.gb hs12
        replace hX := own_gb hX hs12
        replace hOp := hOp.gb hs12
        replace hPr := hPr.gb hs12
        replace hDO := hDO.gb hs12
        replace hb1 := hb1.gb hs12
        replace hb2 := hb2.gb hs12
        refine ⟨fun W_ => Blk W_ gb 92 [.slice A b.l.length c, .int .i64 b.syn, .bool true, .slice A2 lost.length c2] ∧ Blk W_ g2 87 [.int .i64 e.kind, .int .i64 e.e, .int .i64 e.bat, .int .i64 e.syn, .slice e.pa e.prs.length e.pc] ∧ True, [0, 1, 2, 3, 4, 5, 6, 7, 8, 9, 10, 11, 12, 13, 14, 15, 16], ?_⟩
        refine T_takeA (i := 0) rfl (by kernel_rfl) (by kernel_rfl) (by kernel_rfl) (by kernel_rfl) (Y_of (fun _ ⟨hb4, hb2, _⟩ => R_field (r := 2) rfl fld87_2 rfl)) ⟨hb4, hb2, trivial⟩ rfl ?_
        refine T_takeA (i := 1) rfl (by kernel_rfl) (by kernel_rfl) (by kernel_rfl) (by kernel_rfl) (Y_of (fun _ ⟨hb4, hb2, _⟩ => R_load1 rfl scl3 (hb2.cell (i := 2) rfl))) ⟨hb4, hb2, trivial⟩ rfl ?_
        refine T_takeA (i := 2) rfl (by kernel_rfl) (by kernel_rfl) (by kernel_rfl) (by kernel_rfl) (Y_of (fun _ ⟨hb4, hb2, _⟩ => R_move rfl)) ⟨hb4, hb2, trivial⟩ rfl ?_
        refine T_takeA (i := 3) rfl (by kernel_rfl) (by kernel_rfl) (by kernel_rfl) (by kernel_rfl) (Y_of (fun _ ⟨hb4, hb2, _⟩ => R_nilck rfl)) ⟨hb4, hb2, trivial⟩ rfl ?_
        refine T_takeA (i := 4) rfl (by kernel_rfl) (by kernel_rfl) (by kernel_rfl) (by kernel_rfl) (Y_of (fun _ ⟨hb4, hb2, _⟩ => R_field (r := 0) rfl fld92_0 rfl)) ⟨hb4, hb2, trivial⟩ rfl ?_
        refine T_takeA (i := 5) rfl (by kernel_rfl) (by kernel_rfl) (by kernel_rfl) (by kernel_rfl) (Y_of (fun _ ⟨hb4, hb2, _⟩ => R_load1 rfl scl90 (hb4.cell (i := 0) rfl))) ⟨hb4, hb2, trivial⟩ rfl ?_
        refine T_takeA (i := 6) rfl (by kernel_rfl) (by kernel_rfl) (by kernel_rfl) (by kernel_rfl) (Y_of (fun _ ⟨hb4, hb2, _⟩ => R_lenSl rfl slc90)) ⟨hb4, hb2, trivial⟩ rfl ?_
        refine T_takeA (i := 7) rfl (by kernel_rfl) (by kernel_rfl) (by kernel_rfl) (by kernel_rfl) (Y_of (fun _ ⟨hb4, hb2, _⟩ => R_neq rfl rfl)) ⟨hb4, hb2, trivial⟩ rfl ?_
        refine T_takeA (i := 8) rfl (by kernel_rfl) (by kernel_rfl) (by kernel_rfl) (by kernel_rfl) (Y_of (fun _ ⟨hb4, hb2, _⟩ => R_move rfl)) ⟨hb4, hb2, trivial⟩ rfl ?_
        by_cases h7 : e.bat ≠ (b.l.length : Int)
        · refine T_takeA (i := 9) rfl (by kernel_rfl) (by kernel_rfl) (by kernel_rfl) (by kernel_rfl) (Y_no rfl rfl rfl (decide_eq_true h7)) ⟨hb4, hb2, trivial⟩ rfl ?_
          refine T_takeA (i := 10) rfl (by kernel_rfl) (by kernel_rfl) (by kernel_rfl) (by kernel_rfl) (Y_no rfl rfl rfl (decide_eq_true h7)) ⟨hb4, hb2, trivial⟩ rfl ?_
          refine T_takeA (i := 11) rfl (by kernel_rfl) (by kernel_rfl) (by kernel_rfl) (by kernel_rfl) (Y_no rfl rfl rfl (decide_eq_true h7)) ⟨hb4, hb2, trivial⟩ rfl ?_
          refine T_takeA (i := 12) rfl (by kernel_rfl) (by kernel_rfl) (by kernel_rfl) (by kernel_rfl) (Y_no rfl rfl rfl (decide_eq_true h7)) ⟨hb4, hb2, trivial⟩ rfl ?_
          refine T_takeA (i := 13) rfl (by kernel_rfl) (by kernel_rfl) (by kernel_rfl) (by kernel_rfl) (Y_no rfl rfl rfl (decide_eq_true h7)) ⟨hb4, hb2, trivial⟩ rfl ?_
          refine T_takeA (i := 14) rfl (by kernel_rfl) (by kernel_rfl) (by kernel_rfl) (by kernel_rfl) (Y_no rfl rfl rfl (decide_eq_true h7)) ⟨hb4, hb2, trivial⟩ rfl ?_
          refine T_takeA (i := 15) rfl (by kernel_rfl) (by kernel_rfl) (by kernel_rfl) (by kernel_rfl) (Y_no rfl rfl rfl (decide_eq_true h7)) ⟨hb4, hb2, trivial⟩ rfl ?_
          refine T_takeA (i := 16) rfl (by kernel_rfl) (by kernel_rfl) (by kernel_rfl) (by kernel_rfl) (Y_of (fun _ ⟨hb4, hb2, _⟩ => R_pickT rfl (decide_eq_true h7) rfl)) ⟨hb4, hb2, trivial⟩ rfl ?_
          refine T_done (by kernel_rfl) (CalmE.normal ?_)
          refine N_then (C_condT rfl rfl (C_seq (C_reg rfl ?_)))
          refine L_run (R_assign rfl) rfl ?_
          refine L_nil (N_then (C_ret (R_then ?_)))
          refine ret1 Try.results55 rfl ?_
          have eh_ : (b.has && !(decide ((y.p.kind = 4 ∨ y.p.kind = 6) ∧ e.e ≠ 13))) = true := by rw [h2, show decide ((y.p.kind = 4 ∨ y.p.kind = 6) ∧ e.e ≠ 13) = false from decide_eq_false (by omega)]; rfl
          have en_ : nxt b y e = (⟨b.l, b.syn, true⟩ : BkP) := by unfold nxt; rw [if_neg he0, eh_]
          have ea_ : apH (⟨b.l, b.syn, true⟩ : BkP) = apL (⟨b.l, b.syn, true⟩ : BkP).l := if_pos rfl
          have hnf_ : ¬ FitsB (⟨b.l, b.syn, true⟩ : BkP) e := fun q_ => by have h1_ : e.bat = (b.l.length : Int) := q_.1; have h2_ : e.syn = b.syn := q_.2.1; omega
          exact ⟨hB, _, rfl, .inr ⟨by decide, by decide, fits_no en_ hnf_, (⟨b.l, b.syn, true⟩ : BkP), lost, ⟨_, _, _, _, hb4, hR, (own_lo hX (Nat.le_refl _))⟩, (.inl rfl)⟩⟩
        · refine T_takeA (i := 9) rfl (by kernel_rfl) (by kernel_rfl) (by kernel_rfl) (by kernel_rfl) (Y_yes rfl rfl rfl (decide_eq_false h7) (fun _ ⟨hb4, hb2, _⟩ => R_field (r := 3) rfl fld87_3 rfl)) ⟨hb4, hb2, trivial⟩ rfl ?_
          refine T_takeA (i := 10) rfl (by kernel_rfl) (by kernel_rfl) (by kernel_rfl) (by kernel_rfl) (Y_yes rfl rfl rfl (decide_eq_false h7) (fun _ ⟨hb4, hb2, _⟩ => R_load1 rfl scl3 (hb2.cell (i := 3) rfl))) ⟨hb4, hb2, trivial⟩ rfl ?_
          refine T_takeA (i := 11) rfl (by kernel_rfl) (by kernel_rfl) (by kernel_rfl) (by kernel_rfl) (Y_yes rfl rfl rfl (decide_eq_false h7) (fun _ ⟨hb4, hb2, _⟩ => R_move rfl)) ⟨hb4, hb2, trivial⟩ rfl ?_
          refine T_takeA (i := 12) rfl (by kernel_rfl) (by kernel_rfl) (by kernel_rfl) (by kernel_rfl) (Y_yes rfl rfl rfl (decide_eq_false h7) (fun _ ⟨hb4, hb2, _⟩ => R_nilck rfl)) ⟨hb4, hb2, trivial⟩ rfl ?_
          refine T_takeA (i := 13) rfl (by kernel_rfl) (by kernel_rfl) (by kernel_rfl) (by kernel_rfl) (Y_yes rfl rfl rfl (decide_eq_false h7) (fun _ ⟨hb4, hb2, _⟩ => R_field (r := 1) rfl fld92_1 rfl)) ⟨hb4, hb2, trivial⟩ rfl ?_
          refine T_takeA (i := 14) rfl (by kernel_rfl) (by kernel_rfl) (by kernel_rfl) (by kernel_rfl) (Y_yes rfl rfl rfl (decide_eq_false h7) (fun _ ⟨hb4, hb2, _⟩ => R_load1 rfl scl3 (hb4.cell (i := 1) rfl))) ⟨hb4, hb2, trivial⟩ rfl ?_
          refine T_takeA (i := 15) rfl (by kernel_rfl) (by kernel_rfl) (by kernel_rfl) (by kernel_rfl) (Y_yes rfl rfl rfl (decide_eq_false h7) (fun _ ⟨hb4, hb2, _⟩ => R_neq rfl rfl)) ⟨hb4, hb2, trivial⟩ rfl ?_
          refine T_takeA (i := 16) rfl (by kernel_rfl) (by kernel_rfl) (by kernel_rfl) (by kernel_rfl) (Y_of (fun _ ⟨hb4, hb2, _⟩ => R_pickF rfl (decide_eq_false h7) rfl)) ⟨hb4, hb2, trivial⟩ rfl ?_
          refine T_done (by kernel_rfl) (CalmE.normal ?_)
          refine N_then ?_
          refine C_if rfl (fun h8 => ?_) (fun h8 => ?_)
          · refine C_seq (C_reg rfl ?_)
            refine L_run (R_assign rfl) rfl ?_
            refine L_nil (N_then (C_ret (R_then ?_)))
            refine ret1 Try.results55 rfl ?_
            have eh_ : (b.has && !(decide ((y.p.kind = 4 ∨ y.p.kind = 6) ∧ e.e ≠ 13))) = true := by rw [h2, show decide ((y.p.kind = 4 ∨ y.p.kind = 6) ∧ e.e ≠ 13) = false from decide_eq_false (by omega)]; rfl
            have en_ : nxt b y e = (⟨b.l, b.syn, true⟩ : BkP) := by unfold nxt; rw [if_neg he0, eh_]
            have ea_ : apH (⟨b.l, b.syn, true⟩ : BkP) = apL (⟨b.l, b.syn, true⟩ : BkP).l := if_pos rfl
            have hnf_ : ¬ FitsB (⟨b.l, b.syn, true⟩ : BkP) e := fun q_ => by have h1_ : e.bat = (b.l.length : Int) := q_.1; have h2_ : e.syn = b.syn := q_.2.1; omega
            exact ⟨hB, _, rfl, .inr ⟨by decide, by decide, fits_no en_ hnf_, (⟨b.l, b.syn, true⟩ : BkP), lost, ⟨_, _, _, _, hb4, hR, (own_lo hX (Nat.le_refl _))⟩, (.inl rfl)⟩⟩
          · refine C_skip (N_then (C_seq (C_reg rfl ?_)))
            refine L_run (R_assign rfl) rfl ?_
            refine L_nil (N_then (C_seq (C_seq (C_reg rfl ?_))))
            refine L_run (R_move rfl) rfl ?_
            refine L_run (R_nilck rfl) rfl ?_
            refine L_run (R_field (r := 2) rfl fld92_2 rfl) rfl ?_
            refine L_run (R_load1 rfl scl4 (hb4.cell (i := 2) rfl)) rfl ?_
            refine L_nil (N_then (C_condT rfl rfl ?_))
            refine C_draw2 rfl mix ?_
            intro w13 hs13 hz9
            replace hB := gb_tr hB hs13
            replace hb4 := hb4.gb hs13
            replace hR := hR.gb hs13
            replace hX := own_gb hX hs13
            replace hOp := hOp.gb hs13
            replace hPr := hPr.gb hs13
            replace hDO := hDO.gb hs13
            replace hb1 := hb1.gb hs13
            replace hb2 := hb2.gb hs13
            refine ⟨fun W_ => Blk W_ gb 92 [.slice A b.l.length c, .int .i64 b.syn, .bool true, .slice A2 lost.length c2] ∧ True, [0, 1, 2, 3, 4, 5, 6, 7, 8, 10], ?_⟩
            refine T_takeA (i := 0) rfl (by kernel_rfl) (by kernel_rfl) (by kernel_rfl) (by kernel_rfl) (Y_of (fun _ ⟨hb4, _⟩ => R_move rfl)) ⟨hb4, trivial⟩ rfl ?_
            refine T_takeA (i := 1) rfl (by kernel_rfl) (by kernel_rfl) (by kernel_rfl) (by kernel_rfl) (Y_of (fun _ ⟨hb4, _⟩ => R_nilck rfl)) ⟨hb4, trivial⟩ rfl ?_
            refine T_takeA (i := 2) rfl (by kernel_rfl) (by kernel_rfl) (by kernel_rfl) (by kernel_rfl) (Y_of (fun _ ⟨hb4, _⟩ => R_field (r := 0) rfl fld92_0 rfl)) ⟨hb4, trivial⟩ rfl ?_
            refine T_takeA (i := 3) rfl (by kernel_rfl) (by kernel_rfl) (by kernel_rfl) (by kernel_rfl) (Y_of (fun _ ⟨hb4, _⟩ => R_load1 rfl scl90 (hb4.cell (i := 0) rfl))) ⟨hb4, trivial⟩ rfl ?_
            refine T_takeA (i := 4) rfl (by kernel_rfl) (by kernel_rfl) (by kernel_rfl) (by kernel_rfl) (Y_of (fun _ ⟨hb4, _⟩ => R_move rfl)) ⟨hb4, trivial⟩ rfl ?_
            refine T_takeA (i := 5) rfl (by kernel_rfl) (by kernel_rfl) (by kernel_rfl) (by kernel_rfl) (Y_of (fun _ ⟨hb4, _⟩ => R_nilck rfl)) ⟨hb4, trivial⟩ rfl ?_
            refine T_takeA (i := 6) rfl (by kernel_rfl) (by kernel_rfl) (by kernel_rfl) (by kernel_rfl) (Y_of (fun _ ⟨hb4, _⟩ => R_field (r := 0) rfl fld92_0 rfl)) ⟨hb4, trivial⟩ rfl ?_
            refine T_takeA (i := 7) rfl (by kernel_rfl) (by kernel_rfl) (by kernel_rfl) (by kernel_rfl) (Y_of (fun _ ⟨hb4, _⟩ => R_load1 rfl scl90 (hb4.cell (i := 0) rfl))) ⟨hb4, trivial⟩ rfl ?_
            refine T_takeA (i := 8) rfl (by kernel_rfl) (by kernel_rfl) (by kernel_rfl) (by kernel_rfl) (Y_of (fun _ ⟨hb4, _⟩ => R_lenSl rfl slc90)) ⟨hb4, trivial⟩ rfl ?_
            refine T_all (rs := [9]) (by kernel_rfl) rfl (all1 (O_one rfl ?_))
            have ge4 : w.heap.size ≤ w13.heap.size := hB.size
            refine L_call rfl cb71 (fafter_ok (ls := b.l) hR.sli hDO.top hno hnl) rfl ?_
            rintro _ w14 ⟨hs14, A_2, c_2, rfl, ho2⟩
            replace hB := gb_tr hB hs14
            replace hb4 := hb4.gb hs14
            replace hR := hR.gb hs14
            replace hX := own_gb hX hs14
            replace hOp := hOp.gb hs14
            replace hPr := hPr.gb hs14
            replace hDO := hDO.gb hs14
            replace hb1 := hb1.gb hs14
            replace hb2 := hb2.gb hs14
            refine L_nil (N_then ⟨fun hN_ => ⟨hb4, trivial⟩, ?_⟩)
            refine T_takeA (i := 10) rfl (by kernel_rfl) (by kernel_rfl) (by kernel_rfl) (by kernel_rfl) (Y_of (fun _ ⟨hb4, _⟩ => R_assign rfl)) ⟨hb4, trivial⟩ rfl ?_
            refine T_done (by kernel_rfl) (CalmE.normal ?_)
            refine N_then (C_seq (C_seq (C_reg rfl ?_)))
            refine L_run (R_field (r := 4) rfl fld87_4 rfl) rfl ?_
            refine L_run (R_load1 rfl scl29 (hb2.cell (i := 4) rfl)) rfl ?_
            refine L_run (R_move rfl) rfl ?_
            refine L_call rfl cb72 (fequal_ok (a := e.prs) (b := (apL b.l)) hPr (own_of ho2).2.2 (by omega)) rfl ?_
            rintro _ w15 ⟨hs15, rfl⟩
            replace hB := gb_tr hB hs15
            replace hb4 := hb4.gb hs15
            replace hR := hR.gb hs15
            replace hX := own_gb hX hs15
            replace hOp := hOp.gb hs15
            replace hPr := hPr.gb hs15
            replace hDO := hDO.gb hs15
            replace hb1 := hb1.gb hs15
            replace hb2 := hb2.gb hs15
            replace ho2 := own_gb ho2 hs15
            refine L_run (R_notD rfl) rfl ?_
            refine L_nil (N_then ?_)
            refine C_ifN rfl (fun h9 => ?_) (fun h9 => ?_)
            · refine C_seq (C_reg rfl ?_)
              refine L_run (R_assign rfl) rfl ?_
              refine L_nil (N_then (C_ret (R_then ?_)))
              refine ret1 Try.results55 rfl ?_
              have eh_ : (b.has && !(decide ((y.p.kind = 4 ∨ y.p.kind = 6) ∧ e.e ≠ 13))) = true := by rw [h2, show decide ((y.p.kind = 4 ∨ y.p.kind = 6) ∧ e.e ≠ 13) = false from decide_eq_false (by omega)]; rfl
              have en_ : nxt b y e = (⟨b.l, b.syn, true⟩ : BkP) := by unfold nxt; rw [if_neg he0, eh_]
              have ea_ : apH (⟨b.l, b.syn, true⟩ : BkP) = apL (⟨b.l, b.syn, true⟩ : BkP).l := if_pos rfl
              have hnf_ : ¬ FitsB (⟨b.l, b.syn, true⟩ : BkP) e := fun q_ => h9 (by rw [q_.2.2, ea_])
              exact ⟨hB, _, rfl, .inr ⟨by decide, by decide, fits_no en_ hnf_, (⟨b.l, b.syn, true⟩ : BkP), lost, ⟨_, _, _, _, hb4, hR, (own_lo hX (Nat.le_refl _))⟩, (.inl rfl)⟩⟩
            · refine C_skip (N_then (C_seq (C_reg rfl ?_)))
              refine L_run (R_assign rfl) rfl ?_
              refine L_nil (N_then (C_ret ?_))
              refine ret1 Try.results55 rfl ?_
              have eh_ : (b.has && !(decide ((y.p.kind = 4 ∨ y.p.kind = 6) ∧ e.e ≠ 13))) = true := by rw [h2, show decide ((y.p.kind = 4 ∨ y.p.kind = 6) ∧ e.e ≠ 13) = false from decide_eq_false (by omega)]; rfl
              have en_ : nxt b y e = (⟨b.l, b.syn, true⟩ : BkP) := by unfold nxt; rw [if_neg he0, eh_]
              have ea_ : apH (⟨b.l, b.syn, true⟩ : BkP) = apL (⟨b.l, b.syn, true⟩ : BkP).l := if_pos rfl
              have ef_ : FitsB (⟨b.l, b.syn, true⟩ : BkP) e := (show e.bat = (b.l.length : Int) ∧ e.syn = b.syn ∧ e.prs = apH (⟨b.l, b.syn, true⟩ : BkP) from ⟨by omega, by omega, by rw [ea_]; exact h9⟩)
              have hok_ : okB b y e := ⟨by omega, ⟨fun q_ => by first | omega | exact absurd q_ hr, fun q_ => by first | exact hr | exact absurd h13 q_⟩, (fun q_ => absurd q_ he0), by rw [en_]; exact ef_⟩
              exact ⟨hB, _, rfl, .inl ⟨rfl, hok_, by rw [en_]; unfold lostN; rw [if_neg he0]; exact ⟨_, _, _, _, hb4, hR, (own_lo hX (Nat.le_refl _))⟩⟩⟩
    · refine L_no rfl rfl rfl h2 rfl ?_
      refine L_no rfl rfl rfl h2 rfl ?_
      refine L_no rfl rfl rfl h2 rfl ?_
      refine L_noU rfl rfl rfl rfl ?_
      refine L_noU rfl rfl rfl rfl ?_
      refine L_noU rfl rfl rfl rfl ?_
      refine L_no rfl rfl rfl h2 rfl ?_
      refine L_no rfl rfl rfl h2 rfl ?_
      refine L_run (R_pickF rfl h2 rfl) rfl ?_
      refine L_run (R_nilck rfl) rfl ?_
      refine L_run (R_field (r := 2) rfl fld92_2 rfl) rfl ?_
      refine L_st1 rfl rfl rfl sz4 hbk rfl ?_
      intro w16 hb5 hs16 hz10
      replace hB := gb_trg hB hs16 gb0
      replace hR := hR.other hbk rfl hs16
      replace hX := own_other hX hbk rfl hs16
      replace hOp := hOp.old hs16 gb0
      replace hPr := hPr.old hs16 gb0
      replace hDO := hDO.old hs16 gb0
      replace hb1 := hb1.grown hs16 (ne_gt lt1)
      replace hb2 := hb2.grown hs16 (ne_gt lt2)
      refine L_nil (N_then (C_seq (C_seq ?_)))
      refine C_draw2 rfl mix ?_
      intro w17 hs17 hz11
      replace hB := gb_tr hB hs17
      replace hb5 := hb5.gb hs17
      replace hR := hR.gb hs17
      replace hX := own_gb hX hs17
      replace hOp := hOp.gb hs17
      replace hPr := hPr.gb hs17
      replace hDO := hDO.gb hs17
      replace hb1 := hb1.gb hs17
      replace hb2 := hb2.gb hs17
      refine ⟨fun W_ => Blk W_ gb 92 [.slice A b.l.length c, .int .i64 b.syn, .bool false, .slice A2 lost.length c2] ∧ Blk W_ g2 87 [.int .i64 e.kind, .int .i64 e.e, .int .i64 e.bat, .int .i64 e.syn, .slice e.pa e.prs.length e.pc] ∧ True, [0, 1, 2, 3, 4, 5, 6, 7, 8, 9, 10, 11, 12, 13, 14, 15, 16], ?_⟩
      refine T_takeA (i := 0) rfl (by kernel_rfl) (by kernel_rfl) (by kernel_rfl) (by kernel_rfl) (Y_of (fun _ ⟨hb5, hb2, _⟩ => R_field (r := 2) rfl fld87_2 rfl)) ⟨hb5, hb2, trivial⟩ rfl ?_
      refine T_takeA (i := 1) rfl (by kernel_rfl) (by kernel_rfl) (by kernel_rfl) (by kernel_rfl) (Y_of (fun _ ⟨hb5, hb2, _⟩ => R_load1 rfl scl3 (hb2.cell (i := 2) rfl))) ⟨hb5, hb2, trivial⟩ rfl ?_
      refine T_takeA (i := 2) rfl (by kernel_rfl) (by kernel_rfl) (by kernel_rfl) (by kernel_rfl) (Y_of (fun _ ⟨hb5, hb2, _⟩ => R_move rfl)) ⟨hb5, hb2, trivial⟩ rfl ?_
      refine T_takeA (i := 3) rfl (by kernel_rfl) (by kernel_rfl) (by kernel_rfl) (by kernel_rfl) (Y_of (fun _ ⟨hb5, hb2, _⟩ => R_nilck rfl)) ⟨hb5, hb2, trivial⟩ rfl ?_
      refine T_takeA (i := 4) rfl (by kernel_rfl) (by kernel_rfl) (by kernel_rfl) (by kernel_rfl) (Y_of (fun _ ⟨hb5, hb2, _⟩ => R_field (r := 0) rfl fld92_0 rfl)) ⟨hb5, hb2, trivial⟩ rfl ?_
      refine T_takeA (i := 5) rfl (by kernel_rfl) (by kernel_rfl) (by kernel_rfl) (by kernel_rfl) (Y_of (fun _ ⟨hb5, hb2, _⟩ => R_load1 rfl scl90 (hb5.cell (i := 0) rfl))) ⟨hb5, hb2, trivial⟩ rfl ?_
      refine T_takeA (i := 6) rfl (by kernel_rfl) (by kernel_rfl) (by kernel_rfl) (by kernel_rfl) (Y_of (fun _ ⟨hb5, hb2, _⟩ => R_lenSl rfl slc90)) ⟨hb5, hb2, trivial⟩ rfl ?_
      refine T_takeA (i := 7) rfl (by kernel_rfl) (by kernel_rfl) (by kernel_rfl) (by kernel_rfl) (Y_of (fun _ ⟨hb5, hb2, _⟩ => R_neq rfl rfl)) ⟨hb5, hb2, trivial⟩ rfl ?_
      refine T_takeA (i := 8) rfl (by kernel_rfl) (by kernel_rfl) (by kernel_rfl) (by kernel_rfl) (Y_of (fun _ ⟨hb5, hb2, _⟩ => R_move rfl)) ⟨hb5, hb2, trivial⟩ rfl ?_
      by_cases h10 : e.bat ≠ (b.l.length : Int)
      · refine T_takeA (i := 9) rfl (by kernel_rfl) (by kernel_rfl) (by kernel_rfl) (by kernel_rfl) (Y_no rfl rfl rfl (decide_eq_true h10)) ⟨hb5, hb2, trivial⟩ rfl ?_
        refine T_takeA (i := 10) rfl (by kernel_rfl) (by kernel_rfl) (by kernel_rfl) (by kernel_rfl) (Y_no rfl rfl rfl (decide_eq_true h10)) ⟨hb5, hb2, trivial⟩ rfl ?_
        refine T_takeA (i := 11) rfl (by kernel_rfl) (by kernel_rfl) (by kernel_rfl) (by kernel_rfl) (Y_no rfl rfl rfl (decide_eq_true h10)) ⟨hb5, hb2, trivial⟩ rfl ?_
        refine T_takeA (i := 12) rfl (by kernel_rfl) (by kernel_rfl) (by kernel_rfl) (by kernel_rfl) (Y_no rfl rfl rfl (decide_eq_true h10)) ⟨hb5, hb2, trivial⟩ rfl ?_
        refine T_takeA (i := 13) rfl (by kernel_rfl) (by kernel_rfl) (by kernel_rfl) (by kernel_rfl) (Y_no rfl rfl rfl (decide_eq_true h10)) ⟨hb5, hb2, trivial⟩ rfl ?_
        refine T_takeA (i := 14) rfl (by kernel_rfl) (by kernel_rfl) (by kernel_rfl) (by kernel_rfl) (Y_no rfl rfl rfl (decide_eq_true h10)) ⟨hb5, hb2, trivial⟩ rfl ?_
        refine T_takeA (i := 15) rfl (by kernel_rfl) (by kernel_rfl) (by kernel_rfl) (by kernel_rfl) (Y_no rfl rfl rfl (decide_eq_true h10)) ⟨hb5, hb2, trivial⟩ rfl ?_
        refine T_takeA (i := 16) rfl (by kernel_rfl) (by kernel_rfl) (by kernel_rfl) (by kernel_rfl) (Y_of (fun _ ⟨hb5, hb2, _⟩ => R_pickT rfl (decide_eq_true h10) rfl)) ⟨hb5, hb2, trivial⟩ rfl ?_
        refine T_done (by kernel_rfl) (CalmE.normal ?_)
        refine N_then (C_condT rfl rfl (C_seq (C_reg rfl ?_)))
        refine L_run (R_assign rfl) rfl ?_
        refine L_nil (N_then (C_ret (R_then ?_)))
        refine ret1 Try.results55 rfl ?_
        have eh_ : (b.has && !(decide ((y.p.kind = 4 ∨ y.p.kind = 6) ∧ e.e ≠ 13))) = false := by rw [h2]; rfl
        have en_ : nxt b y e = (⟨b.l, b.syn, false⟩ : BkP) := by unfold nxt; rw [if_neg he0, eh_]
        have ea_ : apH (⟨b.l, b.syn, false⟩ : BkP) = [] := if_neg (by rw [show (⟨b.l, b.syn, false⟩ : BkP).has = false from rfl]; decide)
        have hnf_ : ¬ FitsB (⟨b.l, b.syn, false⟩ : BkP) e := fun q_ => by have h1_ : e.bat = (b.l.length : Int) := q_.1; have h2_ : e.syn = b.syn := q_.2.1; omega
        exact ⟨hB, _, rfl, .inr ⟨by decide, by decide, fits_no en_ hnf_, (⟨b.l, b.syn, false⟩ : BkP), lost, ⟨_, _, _, _, hb5, hR, (own_lo hX (Nat.le_refl _))⟩, (.inl rfl)⟩⟩
      · refine T_takeA (i := 9) rfl (by kernel_rfl) (by kernel_rfl) (by kernel_rfl) (by kernel_rfl) (Y_yes rfl rfl rfl (decide_eq_false h10) (fun _ ⟨hb5, hb2, _⟩ => R_field (r := 3) rfl fld87_3 rfl)) ⟨hb5, hb2, trivial⟩ rfl ?_
        refine T_takeA (i := 10) rfl (by kernel_rfl) (by kernel_rfl) (by kernel_rfl) (by kernel_rfl) (Y_yes rfl rfl rfl (decide_eq_false h10) (fun _ ⟨hb5, hb2, _⟩ => R_load1 rfl scl3 (hb2.cell (i := 3) rfl))) ⟨hb5, hb2, trivial⟩ rfl ?_
        refine T_takeA (i := 11) rfl (by kernel_rfl) (by kernel_rfl) (by kernel_rfl) (by kernel_rfl) (Y_yes rfl rfl rfl (decide_eq_false h10) (fun _ ⟨hb5, hb2, _⟩ => R_move rfl)) ⟨hb5, hb2, trivial⟩ rfl ?_
        refine T_takeA (i := 12) rfl (by kernel_rfl) (by kernel_rfl) (by kernel_rfl) (by kernel_rfl) (Y_yes rfl rfl rfl (decide_eq_false h10) (fun _ ⟨hb5, hb2, _⟩ => R_nilck rfl)) ⟨hb5, hb2, trivial⟩ rfl ?_
        refine T_takeA (i := 13) rfl (by kernel_rfl) (by kernel_rfl) (by kernel_rfl) (by kernel_rfl) (Y_yes rfl rfl rfl (decide_eq_false h10) (fun _ ⟨hb5, hb2, _⟩ => R_field (r := 1) rfl fld92_1 rfl)) ⟨hb5, hb2, trivial⟩ rfl ?_
        refine T_takeA (i := 14) rfl (by kernel_rfl) (by kernel_rfl) (by kernel_rfl) (by kernel_rfl) (Y_yes rfl rfl rfl (decide_eq_false h10) (fun _ ⟨hb5, hb2, _⟩ => R_load1 rfl scl3 (hb5.cell (i := 1) rfl))) ⟨hb5, hb2, trivial⟩ rfl ?_
        refine T_takeA (i := 15) rfl (by kernel_rfl) (by kernel_rfl) (by kernel_rfl) (by kernel_rfl) (Y_yes rfl rfl rfl (decide_eq_false h10) (fun _ ⟨hb5, hb2, _⟩ => R_neq rfl rfl)) ⟨hb5, hb2, trivial⟩ rfl ?_
        refine T_takeA (i := 16) rfl (by kernel_rfl) (by kernel_rfl) (by kernel_rfl) (by kernel_rfl) (Y_of (fun _ ⟨hb5, hb2, _⟩ => R_pickF rfl (decide_eq_false h10) rfl)) ⟨hb5, hb2, trivial⟩ rfl ?_
        refine T_done (by kernel_rfl) (CalmE.normal ?_)
        refine N_then ?_
        refine C_if rfl (fun h11 => ?_) (fun h11 => ?_)
        · refine C_seq (C_reg rfl ?_)
          refine L_run (R_assign rfl) rfl ?_
          refine L_nil (N_then (C_ret (R_then ?_)))
          refine ret1 Try.results55 rfl ?_
          have eh_ : (b.has && !(decide ((y.p.kind = 4 ∨ y.p.kind = 6) ∧ e.e ≠ 13))) = false := by rw [h2]; rfl
          have en_ : nxt b y e = (⟨b.l, b.syn, false⟩ : BkP) := by unfold nxt; rw [if_neg he0, eh_]
          have ea_ : apH (⟨b.l, b.syn, false⟩ : BkP) = [] := if_neg (by rw [show (⟨b.l, b.syn, false⟩ : BkP).has = false from rfl]; decide)
          have hnf_ : ¬ FitsB (⟨b.l, b.syn, false⟩ : BkP) e := fun q_ => by have h1_ : e.bat = (b.l.length : Int) := q_.1; have h2_ : e.syn = b.syn := q_.2.1; omega
          exact ⟨hB, _, rfl, .inr ⟨by decide, by decide, fits_no en_ hnf_, (⟨b.l, b.syn, false⟩ : BkP), lost, ⟨_, _, _, _, hb5, hR, (own_lo hX (Nat.le_refl _))⟩, (.inl rfl)⟩⟩
        · refine C_skip (N_then (C_seq (C_reg rfl ?_)))
          refine L_run (R_assign rfl) rfl ?_
          refine L_nil (N_then (C_seq (C_seq (C_reg rfl ?_))))
          refine L_run (R_move rfl) rfl ?_
          refine L_run (R_nilck rfl) rfl ?_
          refine L_run (R_field (r := 2) rfl fld92_2 rfl) rfl ?_
          refine L_run (R_load1 rfl scl4 (hb5.cell (i := 2) rfl)) rfl ?_
          refine L_nil (N_then (C_condF rfl rfl (C_skip (N_then (C_seq (C_seq (C_reg rfl ?_)))))))
          refine L_run (R_field (r := 4) rfl fld87_4 rfl) rfl ?_
          refine L_run (R_load1 rfl scl29 (hb2.cell (i := 4) rfl)) rfl ?_
          refine L_run (R_move rfl) rfl ?_
          refine L_call rfl cb72 (fequal_ok (a := e.prs) (b := []) hPr (Sli.nil (t := 0) (lo := 0) (hi := 0)) (by omega)) rfl ?_
          rintro _ w18 ⟨hs18, rfl⟩
          replace hB := gb_tr hB hs18
          replace hb5 := hb5.gb hs18
          replace hR := hR.gb hs18
          replace hX := own_gb hX hs18
          replace hOp := hOp.gb hs18
          replace hPr := hPr.gb hs18
          replace hDO := hDO.gb hs18
          replace hb1 := hb1.gb hs18
          replace hb2 := hb2.gb hs18
          refine L_run (R_notD rfl) rfl ?_
          refine L_nil (N_then ?_)
          refine C_ifN rfl (fun h12 => ?_) (fun h12 => ?_)
          · refine C_seq (C_reg rfl ?_)
            refine L_run (R_assign rfl) rfl ?_
            refine L_nil (N_then (C_ret (R_then ?_)))
            refine ret1 Try.results55 rfl ?_
            have eh_ : (b.has && !(decide ((y.p.kind = 4 ∨ y.p.kind = 6) ∧ e.e ≠ 13))) = false := by rw [h2]; rfl
            have en_ : nxt b y e = (⟨b.l, b.syn, false⟩ : BkP) := by unfold nxt; rw [if_neg he0, eh_]
            have ea_ : apH (⟨b.l, b.syn, false⟩ : BkP) = [] := if_neg (by rw [show (⟨b.l, b.syn, false⟩ : BkP).has = false from rfl]; decide)
            have hnf_ : ¬ FitsB (⟨b.l, b.syn, false⟩ : BkP) e := fun q_ => h12 (by rw [q_.2.2, ea_])
            exact ⟨hB, _, rfl, .inr ⟨by decide, by decide, fits_no en_ hnf_, (⟨b.l, b.syn, false⟩ : BkP), lost, ⟨_, _, _, _, hb5, hR, (own_lo hX (Nat.le_refl _))⟩, (.inl rfl)⟩⟩
          · refine C_skip (N_then (C_seq (C_reg rfl ?_)))
            refine L_run (R_assign rfl) rfl ?_
            refine L_nil (N_then (C_ret ?_))
            refine ret1 Try.results55 rfl ?_
            have eh_ : (b.has && !(decide ((y.p.kind = 4 ∨ y.p.kind = 6) ∧ e.e ≠ 13))) = false := by rw [h2]; rfl
            have en_ : nxt b y e = (⟨b.l, b.syn, false⟩ : BkP) := by unfold nxt; rw [if_neg he0, eh_]
            have ea_ : apH (⟨b.l, b.syn, false⟩ : BkP) = [] := if_neg (by rw [show (⟨b.l, b.syn, false⟩ : BkP).has = false from rfl]; decide)
            have ef_ : FitsB (⟨b.l, b.syn, false⟩ : BkP) e := (show e.bat = (b.l.length : Int) ∧ e.syn = b.syn ∧ e.prs = apH (⟨b.l, b.syn, false⟩ : BkP) from ⟨by omega, by omega, by rw [ea_]; exact h12⟩)
            have hok_ : okB b y e := ⟨by omega, ⟨fun q_ => by first | omega | exact absurd q_ hr, fun q_ => by first | exact hr | exact absurd h13 q_⟩, (fun q_ => absurd q_ he0), by rw [en_]; exact ef_⟩
            exact ⟨hB, _, rfl, .inl ⟨rfl, hok_, by rw [en_]; unfold lostN; rw [if_neg he0]; exact ⟨_, _, _, _, hb5, hR, (own_lo hX (Nat.le_refl _))⟩⟩⟩

theorem next_d {w wa : World} {gb n : Nat} {b : BkP} {lost : List Int} {y : StepD} {e : EvD} (hM : BkM w wa gb b lost) (hB : w.grownBy wa none) (gb0 : w.heap.size ≤ gb) (hg : GoodB n b) (hn : n ≤ 900) (hll : lost.length ≤ 900) (hOp0 : Sli 0 0 w.heap.size w y.oa (fl encOp y.p.ops)) (hPr0 : Sli 0 0 w.heap.size w e.pa (fl encK e.prs)) (hDO0 : DeepO w.heap.size w b.l) (hy30 : y.p.ops.length ≤ 30) (hp : e.prs.length ≤ 1000) (hr : sOk y.p) (h13 : ¬ e.e = 13) (he0 : ¬ e.e = 0) :
    Runs Try.prog 55 #[.pointer (some ⟨gb, 0, none⟩), .agg #[.int .i64 y.p.kind, .int .i64 y.p.n, .slice y.oa y.p.ops.length y.oc, .slice y.ka y.p.keep.length y.kc, .int .i64 y.p.torn, .int .i64 y.p.cut], .agg #[.int .i64 e.kind, .int .i64 e.e, .int .i64 e.bat, .int .i64 e.syn, .slice e.pa e.prs.length e.pc]] wa (fun v_ w' => w.grownBy w' none ∧ ∃ wr : Int, v_ = .int .i64 wr ∧ ((wr = 0 ∧ okB b y e ∧ BkM w w' gb (nxt b y e) (lostN b y e lost)) ∨ (wr ≠ 0 ∧ (1 ≤ wr ∧ wr ≤ 5) ∧ ¬ okB b y e ∧ ∃ b' lost', BkM w w' gb b' lost' ∧ LostOr y lost lost'))) := by
  obtain ⟨A, c, A2, c2, hbk, hR, hX⟩ := hM
  have hOp := hOp0.gb hB
  have hPr := hPr0.gb hB
  have hDO := hDO0.gb hB
  have hno := hg.ops (by omega)
  have hnl : b.l.length ≤ 1000000 := by have := hg.2.1; omega
  refine enter Try.func55 Try.ntmps55 rfl rfl ?_
  refine C_seq (C_reg rfl ?_)
  refine L_box (cs := [.int .i64 y.p.kind, .int .i64 y.p.n, .slice y.oa y.p.ops.length y.oc, .slice y.ka y.p.keep.length y.kc, .int .i64 y.p.torn, .int .i64 y.p.cut]) rfl rfl rfl ?_
  intro g1 w1 eg1 hb1 hs1 hz1
  have ge1 : w.heap.size ≤ g1 := eg_ge hB eg1
  have lt1 : gb < g1 := lt_of_eg hbk.lt eg1
  replace hB := gb_tr hB hs1
  replace hbk := hbk.gb hs1
  replace hR := hR.gb hs1
  replace hX := own_gb hX hs1
  replace hOp := hOp.gb hs1
  replace hPr := hPr.gb hs1
  replace hDO := hDO.gb hs1
  refine L_box (cs := [.int .i64 e.kind, .int .i64 e.e, .int .i64 e.bat, .int .i64 e.syn, .slice e.pa e.prs.length e.pc]) rfl rfl rfl ?_
  intro g2 w2 eg2 hb2 hs2 hz2
  have ge2 : w.heap.size ≤ g2 := eg_ge hB eg2
  have lt2 : gb < g2 := lt_of_eg hbk.lt eg2
  have lt3 : g1 < g2 := lt_of_eg hb1.lt eg2
  replace hB := gb_tr hB hs2
  replace hbk := hbk.gb hs2
  replace hR := hR.gb hs2
  replace hX := own_gb hX hs2
  replace hOp := hOp.gb hs2
  replace hPr := hPr.gb hs2
  replace hDO := hDO.gb hs2
  replace hb1 := hb1.gb hs2
  refine L_run (R_assign rfl) rfl ?_
  refine L_nil (N_then (C_seq (C_seq (C_reg rfl ?_))))
  refine L_run (R_field (r := 0) rfl fld87_0 rfl) rfl ?_
  refine L_run (R_load1 rfl scl3 (hb2.cell (i := 0) rfl)) rfl ?_
  refine L_run (R_field (r := 0) rfl fld86_0 rfl) rfl ?_
  refine L_run (R_load1 rfl scl3 (hb1.cell (i := 0) rfl)) rfl ?_
  refine L_run (R_neq rfl rfl) rfl ?_
  refine L_nil (N_then ?_)
  refine C_if rfl (fun h1 => ?_) (fun h1 => ?_)
  · refine C_seq (C_reg rfl ?_)
    refine L_run (R_assign rfl) rfl ?_
    refine L_nil (N_then (C_ret (R_then ?_)))
    refine ret1 Try.results55 rfl ?_
    exact ⟨hB, _, rfl, .inr ⟨by decide, by decide, (fun q_ => by have h_ := q_.1; omega), (⟨b.l, b.syn, b.has⟩ : BkP), lost, ⟨_, _, _, _, hbk, hR, (own_lo hX (Nat.le_refl _))⟩, (.inl rfl)⟩⟩
  · refine C_skip (N_then (C_seq (C_seq ?_)))
    refine C_draw2 rfl mix ?_
    intro w3 hs3 hz3
    replace hB := gb_tr hB hs3
    replace hbk := hbk.gb hs3
    replace hR := hR.gb hs3
    replace hX := own_gb hX hs3
    replace hOp := hOp.gb hs3
    replace hPr := hPr.gb hs3
    replace hDO := hDO.gb hs3
    replace hb1 := hb1.gb hs3
    replace hb2 := hb2.gb hs3
    refine ⟨fun W_ => Blk W_ g1 86 [.int .i64 y.p.kind, .int .i64 y.p.n, .slice y.oa y.p.ops.length y.oc, .slice y.ka y.p.keep.length y.kc, .int .i64 y.p.torn, .int .i64 y.p.cut] ∧ Blk W_ g2 87 [.int .i64 e.kind, .int .i64 e.e, .int .i64 e.bat, .int .i64 e.syn, .slice e.pa e.prs.length e.pc] ∧ True, [0, 2, 3, 4, 5], ?_⟩
    refine T_takeA (i := 0) rfl (by kernel_rfl) (by kernel_rfl) (by kernel_rfl) (by kernel_rfl) (Y_of (fun _ ⟨hb1, hb2, _⟩ => R_loadA (vs := [.int .i64 y.p.kind, .int .i64 y.p.n, .slice y.oa y.p.ops.length y.oc, .slice y.ka y.p.keep.length y.kc, .int .i64 y.p.torn, .int .i64 y.p.cut]) rfl agg86 (At.pre (hb1.at_ 0) rfl) rfl)) ⟨hb1, hb2, trivial⟩ rfl ?_
    refine T_takeA (i := 2) rfl (by kernel_rfl) (by kernel_rfl) (by kernel_rfl) (by kernel_rfl) (Y_of (fun _ ⟨hb1, hb2, _⟩ => R_field (r := 1) rfl fld87_1 rfl)) ⟨hb1, hb2, trivial⟩ rfl ?_
    refine T_takeA (i := 3) rfl (by kernel_rfl) (by kernel_rfl) (by kernel_rfl) (by kernel_rfl) (Y_of (fun _ ⟨hb1, hb2, _⟩ => R_load1 rfl scl42 (hb2.cell (i := 1) rfl))) ⟨hb1, hb2, trivial⟩ rfl ?_
    refine T_takeA (i := 4) rfl (by kernel_rfl) (by kernel_rfl) (by kernel_rfl) (by kernel_rfl) (Y_of (fun _ ⟨hb1, hb2, _⟩ => R_eql rfl rfl)) ⟨hb1, hb2, trivial⟩ rfl ?_
    refine T_all (rs := [1]) (by kernel_rfl) rfl (all1 (O_one rfl ?_))
    refine L_call rfl cb68 (script_Right (ops := y.p.ops) hOp (by omega)) rfl ?_
    rintro _ w4 ⟨hs4, rfl⟩
    replace hB := gb_tr hB hs4
    replace hbk := hbk.gb hs4
    replace hR := hR.gb hs4
    replace hX := own_gb hX hs4
    replace hOp := hOp.gb hs4
    replace hPr := hPr.gb hs4
    replace hDO := hDO.gb hs4
    replace hb1 := hb1.gb hs4
    replace hb2 := hb2.gb hs4
    refine L_nil (N_then ⟨fun hN_ => ⟨hb1, hb2, trivial⟩, ?_⟩)
    refine T_takeA (i := 5) rfl (by kernel_rfl) (by kernel_rfl) (by kernel_rfl) (by kernel_rfl) (Y_of (fun _ ⟨hb1, hb2, _⟩ => R_eqv (R_eqlB rfl rfl boo4) (v' := .bool false) (by rw [(decide_eq_true (show SOk y.p.kind y.p.n y.p.ops y.p.keep.length y.p.torn y.p.cut from hr)), (decide_eq_false (show e.e ≠ 13 from h13))]; rfl))) ⟨hb1, hb2, trivial⟩ rfl ?_
    refine T_done (by kernel_rfl) (CalmE.normal ?_)
    refine N_then (C_condF rfl rfl (C_skip (N_then (C_seq (C_seq (C_reg rfl ?_))))))
    refine L_run (R_field (r := 1) rfl fld87_1 rfl) rfl ?_
    refine L_run (R_load1 rfl scl42 (hb2.cell (i := 1) rfl)) rfl ?_
    refine L_run (R_neq rfl rfl) rfl ?_
    refine L_nil (N_then (C_condT rfl (decide_eq_true he0) (C_reg rfl ?_)))
    refine L_run (R_move rfl) rfl ?_
    refine L_run (R_move rfl) rfl ?_
    refine L_run (R_nilck rfl) rfl ?_
    refine L_run (R_field (r := 2) rfl fld92_2 rfl) rfl ?_
    refine L_run (R_load1 rfl scl4 (hbk.cell (i := 2) rfl)) rfl ?_
    refine L_run (R_move rfl) rfl ?_
    refine L_split b.has (fun h2 => ?_) (fun h2 => ?_)
    · refine L_yes rfl rfl rfl h2 ?_
      refine L_run (R_loadA (vs := [.int .i64 y.p.kind, .int .i64 y.p.n, .slice y.oa y.p.ops.length y.oc, .slice y.ka y.p.keep.length y.kc, .int .i64 y.p.torn, .int .i64 y.p.cut]) rfl agg86 (At.pre (hb1.at_ 0) rfl) rfl) rfl ?_
      refine L_yes rfl rfl rfl h2 ?_
      refine L_call rfl cb69 (opens_ok (y := y)) rfl ?_
      rintro _ w5 ⟨hs5, rfl⟩
      replace hB := gb_tr hB hs5
      replace hbk := hbk.gb hs5
      replace hR := hR.gb hs5
      replace hX := own_gb hX hs5
      replace hOp := hOp.gb hs5
      replace hPr := hPr.gb hs5
      replace hDO := hDO.gb hs5
      replace hb1 := hb1.gb hs5
      replace hb2 := hb2.gb hs5
      refine L_yes rfl rfl rfl h2 ?_
      refine L_run (R_move rfl) rfl ?_
      refine L_splitD (p := y.p.kind = 4 ∨ y.p.kind = 6) (fun h3 => ?_) (fun h3 => ?_)
      · refine L_yes rfl rfl rfl (decide_eq_true h3) ?_
        refine L_run (R_field (r := 1) rfl fld87_1 rfl) rfl ?_
        refine L_yes rfl rfl rfl (decide_eq_true h3) ?_
        refine L_run (R_load1 rfl scl42 (hb2.cell (i := 1) rfl)) rfl ?_
        refine L_yes rfl rfl rfl (decide_eq_true h3) ?_
        refine L_run (R_neq rfl rfl) rfl ?_
        refine L_yes rfl rfl rfl h2 ?_
        refine L_run (R_pickT rfl (decide_eq_true h3) rfl) rfl ?_
        refine L_yes rfl rfl rfl h2 ?_
        refine L_run (R_notD rfl) rfl ?_
        refine L_run (R_pickT rfl h2 rfl) rfl ?_
        refine L_run (R_nilck rfl) rfl ?_
        refine L_run (R_field (r := 2) rfl fld92_2 rfl) rfl ?_
        refine L_st1 rfl rfl rfl sz4 hbk rfl ?_
        intro w6 hb3 hs6 hz4
        replace hB := gb_trg hB hs6 gb0
        replace hR := hR.other hbk rfl hs6
        replace hX := own_other hX hbk rfl hs6
        replace hOp := hOp.old hs6 gb0
        replace hPr := hPr.old hs6 gb0
        replace hDO := hDO.old hs6 gb0
        replace hb1 := hb1.grown hs6 (ne_gt lt1)
        replace hb2 := hb2.grown hs6 (ne_gt lt2)
        refine L_nil (N_then (C_seq (C_seq ?_)))
        refine C_draw2 rfl mix ?_
        intro w7 hs7 hz5
        replace hB := gb_tr hB hs7
        replace hb3 := hb3.gb hs7
        replace hR := hR.gb hs7
        replace hX := own_gb hX hs7
        replace hOp := hOp.gb hs7
        replace hPr := hPr.gb hs7
        replace hDO := hDO.gb hs7
        replace hb1 := hb1.gb hs7
        replace hb2 := hb2.gb hs7
        refine ⟨fun W_ => Blk W_ gb 92 [.slice A b.l.length c, .int .i64 b.syn, .bool (decide (¬ (e.e ≠ 13))), .slice A2 lost.length c2] ∧ Blk W_ g2 87 [.int .i64 e.kind, .int .i64 e.e, .int .i64 e.bat, .int .i64 e.syn, .slice e.pa e.prs.length e.pc] ∧ True, [0, 1, 2, 3, 4, 5, 6, 7, 8, 9, 10, 11, 12, 13, 14, 15, 16], ?_⟩
        refine T_takeA (i := 0) rfl (by kernel_rfl) (by kernel_rfl) (by kernel_rfl) (by kernel_rfl) (Y_of (fun _ ⟨hb3, hb2, _⟩ => R_field (r := 2) rfl fld87_2 rfl)) ⟨hb3, hb2, trivial⟩ rfl ?_
        refine T_takeA (i := 1) rfl (by kernel_rfl) (by kernel_rfl) (by kernel_rfl) (by kernel_rfl) (Y_of (fun _ ⟨hb3, hb2, _⟩ => R_load1 rfl scl3 (hb2.cell (i := 2) rfl))) ⟨hb3, hb2, trivial⟩ rfl ?_
        refine T_takeA (i := 2) rfl (by kernel_rfl) (by kernel_rfl) (by kernel_rfl) (by kernel_rfl) (Y_of (fun _ ⟨hb3, hb2, _⟩ => R_move rfl)) ⟨hb3, hb2, trivial⟩ rfl ?_
        refine T_takeA (i := 3) rfl (by kernel_rfl) (by kernel_rfl) (by kernel_rfl) (by kernel_rfl) (Y_of (fun _ ⟨hb3, hb2, _⟩ => R_nilck rfl)) ⟨hb3, hb2, trivial⟩ rfl ?_
        refine T_takeA (i := 4) rfl (by kernel_rfl) (by kernel_rfl) (by kernel_rfl) (by kernel_rfl) (Y_of (fun _ ⟨hb3, hb2, _⟩ => R_field (r := 0) rfl fld92_0 rfl)) ⟨hb3, hb2, trivial⟩ rfl ?_
        refine T_takeA (i := 5) rfl (by kernel_rfl) (by kernel_rfl) (by kernel_rfl) (by kernel_rfl) (Y_of (fun _ ⟨hb3, hb2, _⟩ => R_load1 rfl scl90 (hb3.cell (i := 0) rfl))) ⟨hb3, hb2, trivial⟩ rfl ?_
        refine T_takeA (i := 6) rfl (by kernel_rfl) (by kernel_rfl) (by kernel_rfl) (by kernel_rfl) (Y_of (fun _ ⟨hb3, hb2, _⟩ => R_lenSl rfl slc90)) ⟨hb3, hb2, trivial⟩ rfl ?_
        refine T_takeA (i := 7) rfl (by kernel_rfl) (by kernel_rfl) (by kernel_rfl) (by kernel_rfl) (Y_of (fun _ ⟨hb3, hb2, _⟩ => R_neq rfl rfl)) ⟨hb3, hb2, trivial⟩ rfl ?_
        refine T_takeA (i := 8) rfl (by kernel_rfl) (by kernel_rfl) (by kernel_rfl) (by kernel_rfl) (Y_of (fun _ ⟨hb3, hb2, _⟩ => R_move rfl)) ⟨hb3, hb2, trivial⟩ rfl ?_
        by_cases h4 : e.bat ≠ (b.l.length : Int)
        · refine T_takeA (i := 9) rfl (by kernel_rfl) (by kernel_rfl) (by kernel_rfl) (by kernel_rfl) (Y_no rfl rfl rfl (decide_eq_true h4)) ⟨hb3, hb2, trivial⟩ rfl ?_
          refine T_takeA (i := 10) rfl (by kernel_rfl) (by kernel_rfl) (by kernel_rfl) (by kernel_rfl) (Y_no rfl rfl rfl (decide_eq_true h4)) ⟨hb3, hb2, trivial⟩ rfl ?_
          refine T_takeA (i := 11) rfl (by kernel_rfl) (by kernel_rfl) (by kernel_rfl) (by kernel_rfl) (Y_no rfl rfl rfl (decide_eq_true h4)) ⟨hb3, hb2, trivial⟩ rfl ?_
          refine T_takeA (i := 12) rfl (by kernel_rfl) (by kernel_rfl) (by kernel_rfl) (by kernel_rfl) (Y_no rfl rfl rfl (decide_eq_true h4)) ⟨hb3, hb2, trivial⟩ rfl ?_
          refine T_takeA (i := 13) rfl (by kernel_rfl) (by kernel_rfl) (by kernel_rfl) (by kernel_rfl) (Y_no rfl rfl rfl (decide_eq_true h4)) ⟨hb3, hb2, trivial⟩ rfl ?_
          refine T_takeA (i := 14) rfl (by kernel_rfl) (by kernel_rfl) (by kernel_rfl) (by kernel_rfl) (Y_no rfl rfl rfl (decide_eq_true h4)) ⟨hb3, hb2, trivial⟩ rfl ?_
          refine T_takeA (i := 15) rfl (by kernel_rfl) (by kernel_rfl) (by kernel_rfl) (by kernel_rfl) (Y_no rfl rfl rfl (decide_eq_true h4)) ⟨hb3, hb2, trivial⟩ rfl ?_
          refine T_takeA (i := 16) rfl (by kernel_rfl) (by kernel_rfl) (by kernel_rfl) (by kernel_rfl) (Y_of (fun _ ⟨hb3, hb2, _⟩ => R_pickT rfl (decide_eq_true h4) rfl)) ⟨hb3, hb2, trivial⟩ rfl ?_
          refine T_done (by kernel_rfl) (CalmE.normal ?_)
          refine N_then (C_condT rfl rfl (C_seq (C_reg rfl ?_)))
          refine L_run (R_assign rfl) rfl ?_
          refine L_nil (N_then (C_ret (R_then ?_)))
          refine ret1 Try.results55 rfl ?_
          have eh_ : (b.has && !(decide ((y.p.kind = 4 ∨ y.p.kind = 6) ∧ e.e ≠ 13))) = (decide (¬ (e.e ≠ 13))) := by rw [h2, show decide ((y.p.kind = 4 ∨ y.p.kind = 6) ∧ e.e ≠ 13) = true from decide_eq_true (by omega), show (decide (¬ (e.e ≠ 13))) = false from (decide_eq_false (fun hn => hn (show e.e ≠ 13 from h13)))]; rfl
          have en_ : nxt b y e = (⟨b.l, b.syn, (decide (¬ (e.e ≠ 13)))⟩ : BkP) := by unfold nxt; rw [if_neg he0, eh_]
          have ea_ : apH (⟨b.l, b.syn, (decide (¬ (e.e ≠ 13)))⟩ : BkP) = [] := if_neg (by rw [show (⟨b.l, b.syn, (decide (¬ (e.e ≠ 13)))⟩ : BkP).has = false from (decide_eq_false (fun hn => hn (show e.e ≠ 13 from h13)))]; decide)
          have hnf_ : ¬ FitsB (⟨b.l, b.syn, (decide (¬ (e.e ≠ 13)))⟩ : BkP) e := fun q_ => by have h1_ : e.bat = (b.l.length : Int) := q_.1; have h2_ : e.syn = b.syn := q_.2.1; omega
          exact ⟨hB, _, rfl, .inr ⟨by decide, by decide, fits_no en_ hnf_, (⟨b.l, b.syn, (decide (¬ (e.e ≠ 13)))⟩ : BkP), lost, ⟨_, _, _, _, hb3, hR, (own_lo hX (Nat.le_refl _))⟩, (.inl rfl)⟩⟩
        · refine T_takeA (i := 9) rfl (by kernel_rfl) (by kernel_rfl) (by kernel_rfl) (by kernel_rfl) (Y_yes rfl rfl rfl (decide_eq_false h4) (fun _ ⟨hb3, hb2, _⟩ => R_field (r := 3) rfl fld87_3 rfl)) ⟨hb3, hb2, trivial⟩ rfl ?_
          refine T_takeA (i := 10) rfl (by kernel_rfl) (by kernel_rfl) (by kernel_rfl) (by kernel_rfl) (Y_yes rfl rfl rfl (decide_eq_false h4) (fun _ ⟨hb3, hb2, _⟩ => R_load1 rfl scl3 (hb2.cell (i := 3) rfl))) ⟨hb3, hb2, trivial⟩ rfl ?_
          refine T_takeA (i := 11) rfl (by kernel_rfl) (by kernel_rfl) (by kernel_rfl) (by kernel_rfl) (Y_yes rfl rfl rfl (decide_eq_false h4) (fun _ ⟨hb3, hb2, _⟩ => R_move rfl)) ⟨hb3, hb2, trivial⟩ rfl ?_
          refine T_takeA (i := 12) rfl (by kernel_rfl) (by kernel_rfl) (by kernel_rfl) (by kernel_rfl) (Y_yes rfl rfl rfl (decide_eq_false h4) (fun _ ⟨hb3, hb2, _⟩ => R_nilck rfl)) ⟨hb3, hb2, trivial⟩ rfl ?_
          refine T_takeA (i := 13) rfl (by kernel_rfl) (by kernel_rfl) (by kernel_rfl) (by kernel_rfl) (Y_yes rfl rfl rfl (decide_eq_false h4) (fun _ ⟨hb3, hb2, _⟩ => R_field (r := 1) rfl fld92_1 rfl)) ⟨hb3, hb2, trivial⟩ rfl ?_
          refine T_takeA (i := 14) rfl (by kernel_rfl) (by kernel_rfl) (by kernel_rfl) (by kernel_rfl) (Y_yes rfl rfl rfl (decide_eq_false h4) (fun _ ⟨hb3, hb2, _⟩ => R_load1 rfl scl3 (hb3.cell (i := 1) rfl))) ⟨hb3, hb2, trivial⟩ rfl ?_
          refine T_takeA (i := 15) rfl (by kernel_rfl) (by kernel_rfl) (by kernel_rfl) (by kernel_rfl) (Y_yes rfl rfl rfl (decide_eq_false h4) (fun _ ⟨hb3, hb2, _⟩ => R_neq rfl rfl)) ⟨hb3, hb2, trivial⟩ rfl ?_
          refine T_takeA (i := 16) rfl (by kernel_rfl) (by kernel_rfl) (by kernel_rfl) (by kernel_rfl) (Y_of (fun _ ⟨hb3, hb2, _⟩ => R_pickF rfl (decide_eq_false h4) rfl)) ⟨hb3, hb2, trivial⟩ rfl ?_
          refine T_done (by kernel_rfl) (CalmE.normal ?_)
          refine N_then ?_
          refine C_if rfl (fun h5 => ?_) (fun h5 => ?_)
          · refine C_seq (C_reg rfl ?_)
            refine L_run (R_assign rfl) rfl ?_
            refine L_nil (N_then (C_ret (R_then ?_)))
            refine ret1 Try.results55 rfl ?_
            have eh_ : (b.has && !(decide ((y.p.kind = 4 ∨ y.p.kind = 6) ∧ e.e ≠ 13))) = (decide (¬ (e.e ≠ 13))) := by rw [h2, show decide ((y.p.kind = 4 ∨ y.p.kind = 6) ∧ e.e ≠ 13) = true from decide_eq_true (by omega), show (decide (¬ (e.e ≠ 13))) = false from (decide_eq_false (fun hn => hn (show e.e ≠ 13 from h13)))]; rfl
            have en_ : nxt b y e = (⟨b.l, b.syn, (decide (¬ (e.e ≠ 13)))⟩ : BkP) := by unfold nxt; rw [if_neg he0, eh_]
            have ea_ : apH (⟨b.l, b.syn, (decide (¬ (e.e ≠ 13)))⟩ : BkP) = [] := if_neg (by rw [show (⟨b.l, b.syn, (decide (¬ (e.e ≠ 13)))⟩ : BkP).has = false from (decide_eq_false (fun hn => hn (show e.e ≠ 13 from h13)))]; decide)
            have hnf_ : ¬ FitsB (⟨b.l, b.syn, (decide (¬ (e.e ≠ 13)))⟩ : BkP) e := fun q_ => by have h1_ : e.bat = (b.l.length : Int) := q_.1; have h2_ : e.syn = b.syn := q_.2.1; omega
            exact ⟨hB, _, rfl, .inr ⟨by decide, by decide, fits_no en_ hnf_, (⟨b.l, b.syn, (decide (¬ (e.e ≠ 13)))⟩ : BkP), lost, ⟨_, _, _, _, hb3, hR, (own_lo hX (Nat.le_refl _))⟩, (.inl rfl)⟩⟩
          · refine C_skip (N_then (C_seq (C_reg rfl ?_)))
            refine L_run (R_assign rfl) rfl ?_
            refine L_nil (N_then (C_seq (C_seq (C_reg rfl ?_))))
            refine L_run (R_move rfl) rfl ?_
            refine L_run (R_nilck rfl) rfl ?_
            refine L_run (R_field (r := 2) rfl fld92_2 rfl) rfl ?_
            refine L_run (R_load1 rfl scl4 (hb3.cell (i := 2) rfl)) rfl ?_
            refine L_nil (N_then (C_condF rfl (decide_eq_false (fun hn => hn (show e.e ≠ 13 from h13))) (C_skip (N_then (C_seq (C_seq (C_reg rfl ?_)))))))
            refine L_run (R_field (r := 4) rfl fld87_4 rfl) rfl ?_
            refine L_run (R_load1 rfl scl29 (hb2.cell (i := 4) rfl)) rfl ?_
            refine L_run (R_move rfl) rfl ?_
            refine L_call rfl cb72 (fequal_ok (a := e.prs) (b := []) hPr (Sli.nil (t := 0) (lo := 0) (hi := 0)) (by omega)) rfl ?_
            rintro _ w8 ⟨hs8, rfl⟩
            replace hB := gb_tr hB hs8
            replace hb3 := hb3.gb hs8
            replace hR := hR.gb hs8
            replace hX := own_gb hX hs8
            replace hOp := hOp.gb hs8
            replace hPr := hPr.gb hs8
            replace hDO := hDO.gb hs8
            replace hb1 := hb1.gb hs8
            replace hb2 := hb2.gb hs8
            refine L_run (R_notD rfl) rfl ?_
            refine L_nil (N_then ?_)
            refine C_ifN rfl (fun h6 => ?_) (fun h6 => ?_)
            · refine C_seq (C_reg rfl ?_)
              refine L_run (R_assign rfl) rfl ?_
              refine L_nil (N_then (C_ret (R_then ?_)))
              refine ret1 Try.results55 rfl ?_
              have eh_ : (b.has && !(decide ((y.p.kind = 4 ∨ y.p.kind = 6) ∧ e.e ≠ 13))) = (decide (¬ (e.e ≠ 13))) := by rw [h2, show decide ((y.p.kind = 4 ∨ y.p.kind = 6) ∧ e.e ≠ 13) = true from decide_eq_true (by omega), show (decide (¬ (e.e ≠ 13))) = false from (decide_eq_false (fun hn => hn (show e.e ≠ 13 from h13)))]; rfl
              have en_ : nxt b y e = (⟨b.l, b.syn, (decide (¬ (e.e ≠ 13)))⟩ : BkP) := by unfold nxt; rw [if_neg he0, eh_]
              have ea_ : apH (⟨b.l, b.syn, (decide (¬ (e.e ≠ 13)))⟩ : BkP) = [] := if_neg (by rw [show (⟨b.l, b.syn, (decide (¬ (e.e ≠ 13)))⟩ : BkP).has = false from (decide_eq_false (fun hn => hn (show e.e ≠ 13 from h13)))]; decide)
              have hnf_ : ¬ FitsB (⟨b.l, b.syn, (decide (¬ (e.e ≠ 13)))⟩ : BkP) e := fun q_ => h6 (by rw [q_.2.2, ea_])
              exact ⟨hB, _, rfl, .inr ⟨by decide, by decide, fits_no en_ hnf_, (⟨b.l, b.syn, (decide (¬ (e.e ≠ 13)))⟩ : BkP), lost, ⟨_, _, _, _, hb3, hR, (own_lo hX (Nat.le_refl _))⟩, (.inl rfl)⟩⟩
            · refine C_skip (N_then (C_seq (C_reg rfl ?_)))
              refine L_run (R_assign rfl) rfl ?_
              refine L_nil (N_then (C_ret ?_))
              refine ret1 Try.results55 rfl ?_
              have eh_ : (b.has && !(decide ((y.p.kind = 4 ∨ y.p.kind = 6) ∧ e.e ≠ 13))) = (decide (¬ (e.e ≠ 13))) := by rw [h2, show decide ((y.p.kind = 4 ∨ y.p.kind = 6) ∧ e.e ≠ 13) = true from decide_eq_true (by omega), show (decide (¬ (e.e ≠ 13))) = false from (decide_eq_false (fun hn => hn (show e.e ≠ 13 from h13)))]; rfl
              have en_ : nxt b y e = (⟨b.l, b.syn, (decide (¬ (e.e ≠ 13)))⟩ : BkP) := by unfold nxt; rw [if_neg he0, eh_]
              have ea_ : apH (⟨b.l, b.syn, (decide (¬ (e.e ≠ 13)))⟩ : BkP) = [] := if_neg (by rw [show (⟨b.l, b.syn, (decide (¬ (e.e ≠ 13)))⟩ : BkP).has = false from (decide_eq_false (fun hn => hn (show e.e ≠ 13 from h13)))]; decide)
              have ef_ : FitsB (⟨b.l, b.syn, (decide (¬ (e.e ≠ 13)))⟩ : BkP) e := (show e.bat = (b.l.length : Int) ∧ e.syn = b.syn ∧ e.prs = apH (⟨b.l, b.syn, (decide (¬ (e.e ≠ 13)))⟩ : BkP) from ⟨by omega, by omega, by rw [ea_]; exact h6⟩)
              have hok_ : okB b y e := ⟨by omega, ⟨fun q_ => by first | omega | exact absurd q_ hr, fun q_ => by first | exact hr | exact absurd h13 q_⟩, (fun q_ => absurd q_ he0), by rw [en_]; exact ef_⟩
              exact ⟨hB, _, rfl, .inl ⟨rfl, hok_, by rw [en_]; unfold lostN; rw [if_neg he0]; exact ⟨_, _, _, _, hb3, hR, (own_lo hX (Nat.le_refl _))⟩⟩⟩
      · refine L_no rfl rfl rfl (decide_eq_false h3) rfl ?_
        refine L_no rfl rfl rfl (decide_eq_false h3) rfl ?_
        refine L_no rfl rfl rfl (decide_eq_false h3) rfl ?_
        refine L_yes rfl rfl rfl h2 ?_
        refine L_run (R_pickF rfl (decide_eq_false h3) rfl) rfl ?_
        refine L_yes rfl rfl rfl h2 ?_
        refine L_run (R_not rfl) rfl ?_
        refine L_run (R_pickT rfl h2 rfl) rfl ?_
        refine L_run (R_nilck rfl) rfl ?_
        refine L_run (R_field (r := 2) rfl fld92_2 rfl) rfl ?_
        refine L_st1 rfl rfl rfl sz4 hbk rfl ?_
        intro w9 hb4 hs9 hz6
        replace hB := gb_trg hB hs9 gb0
        replace hR := hR.other hbk rfl hs9
        replace hX := own_other hX hbk rfl hs9
        replace hOp := hOp.old hs9 gb0
        replace hPr := hPr.old hs9 gb0
        replace hDO := hDO.old hs9 gb0
        replace hb1 := hb1.grown hs9 (ne_gt lt1)
        replace hb2 := hb2.grown hs9 (ne_gt lt2)
        refine L_nil (N_then (C_seq (C_seq ?_)))
        refine C_draw2 rfl mix ?_
        intro w10 hs10 hz7
        replace hB := gb_tr hB hs10
        replace hb4 := hb4.gb hs10
        replace hR := hR.gb hs10
        replace hX := own_gb hX hs10
        replace hOp := hOp.gb hs10
        replace hPr := hPr.gb hs10
        replace hDO := hDO.gb hs10
        replace hb1 := hb1.gb hs10
        replace hb2 := hb2.gb hs10
        refine ⟨fun W_ => Blk W_ gb 92 [.slice A b.l.length c, .int .i64 b.syn, .bool true, .slice A2 lost.length c2] ∧ Blk W_ g2 87 [.int .i64 e.kind, .int .i64 e.e, .int .i64 e.bat, .int .i64 e.syn, .slice e.pa e.prs.length e.pc] ∧ True, [0, 1, 2, 3, 4, 5, 6, 7, 8, 9, 10, 11, 12, 13, 14, 15, 16], ?_⟩
        refine T_takeA (i := 0) rfl (by kernel_rfl) (by kernel_rfl) (by kernel_rfl) (by kernel_rfl) (Y_of (fun _ ⟨hb4, hb2, _⟩ => R_field (r := 2) rfl fld87_2 rfl)) ⟨hb4, hb2, trivial⟩ rfl ?_
        refine T_takeA (i := 1) rfl (by kernel_rfl) (by kernel_rfl) (by kernel_rfl) (by kernel_rfl) (Y_of (fun _ ⟨hb4, hb2, _⟩ => R_load1 rfl scl3 (hb2.cell (i := 2) rfl))) ⟨hb4, hb2, trivial⟩ rfl ?_
        refine T_takeA (i := 2) rfl (by kernel_rfl) (by kernel_rfl) (by kernel_rfl) (by kernel_rfl) (Y_of (fun _ ⟨hb4, hb2, _⟩ => R_move rfl)) ⟨hb4, hb2, trivial⟩ rfl ?_
        refine T_takeA (i := 3) rfl (by kernel_rfl) (by kernel_rfl) (by kernel_rfl) (by kernel_rfl) (Y_of (fun _ ⟨hb4, hb2, _⟩ => R_nilck rfl)) ⟨hb4, hb2, trivial⟩ rfl ?_
        refine T_takeA (i := 4) rfl (by kernel_rfl) (by kernel_rfl) (by kernel_rfl) (by kernel_rfl) (Y_of (fun _ ⟨hb4, hb2, _⟩ => R_field (r := 0) rfl fld92_0 rfl)) ⟨hb4, hb2, trivial⟩ rfl ?_
        refine T_takeA (i := 5) rfl (by kernel_rfl) (by kernel_rfl) (by kernel_rfl) (by kernel_rfl) (Y_of (fun _ ⟨hb4, hb2, _⟩ => R_load1 rfl scl90 (hb4.cell (i := 0) rfl))) ⟨hb4, hb2, trivial⟩ rfl ?_
        refine T_takeA (i := 6) rfl (by kernel_rfl) (by kernel_rfl) (by kernel_rfl) (by kernel_rfl) (Y_of (fun _ ⟨hb4, hb2, _⟩ => R_lenSl rfl slc90)) ⟨hb4, hb2, trivial⟩ rfl ?_
        refine T_takeA (i := 7) rfl (by kernel_rfl) (by kernel_rfl) (by kernel_rfl) (by kernel_rfl) (Y_of (fun _ ⟨hb4, hb2, _⟩ => R_neq rfl rfl)) ⟨hb4, hb2, trivial⟩ rfl ?_
        refine T_takeA (i := 8) rfl (by kernel_rfl) (by kernel_rfl) (by kernel_rfl) (by kernel_rfl) (Y_of (fun _ ⟨hb4, hb2, _⟩ => R_move rfl)) ⟨hb4, hb2, trivial⟩ rfl ?_
        by_cases h7 : e.bat ≠ (b.l.length : Int)
        · refine T_takeA (i := 9) rfl (by kernel_rfl) (by kernel_rfl) (by kernel_rfl) (by kernel_rfl) (Y_no rfl rfl rfl (decide_eq_true h7)) ⟨hb4, hb2, trivial⟩ rfl ?_
          refine T_takeA (i := 10) rfl (by kernel_rfl) (by kernel_rfl) (by kernel_rfl) (by kernel_rfl) (Y_no rfl rfl rfl (decide_eq_true h7)) ⟨hb4, hb2, trivial⟩ rfl ?_
          refine T_takeA (i := 11) rfl (by kernel_rfl) (by kernel_rfl) (by kernel_rfl) (by kernel_rfl) (Y_no rfl rfl rfl (decide_eq_true h7)) ⟨hb4, hb2, trivial⟩ rfl ?_
          refine T_takeA (i := 12) rfl (by kernel_rfl) (by kernel_rfl) (by kernel_rfl) (by kernel_rfl) (Y_no rfl rfl rfl (decide_eq_true h7)) ⟨hb4, hb2, trivial⟩ rfl ?_
          refine T_takeA (i := 13) rfl (by kernel_rfl) (by kernel_rfl) (by kernel_rfl) (by kernel_rfl) (Y_no rfl rfl rfl (decide_eq_true h7)) ⟨hb4, hb2, trivial⟩ rfl ?_
          refine T_takeA (i := 14) rfl (by kernel_rfl) (by kernel_rfl) (by kernel_rfl) (by kernel_rfl) (Y_no rfl rfl rfl (decide_eq_true h7)) ⟨hb4, hb2, trivial⟩ rfl ?_
          refine T_takeA (i := 15) rfl (by kernel_rfl) (by kernel_rfl) (by kernel_rfl) (by kernel_rfl) (Y_no rfl rfl rfl (decide_eq_true h7)) ⟨hb4, hb2, trivial⟩ rfl ?_
          refine T_takeA (i := 16) rfl (by kernel_rfl) (by kernel_rfl) (by kernel_rfl) (by kernel_rfl) (Y_of (fun _ ⟨hb4, hb2, _⟩ => R_pickT rfl (decide_eq_true h7) rfl)) ⟨hb4, hb2, trivial⟩ rfl ?_
          refine T_done (by kernel_rfl) (CalmE.normal ?_)
          refine N_then (C_condT rfl rfl (C_seq (C_reg rfl ?_)))
          refine L_run (R_assign rfl) rfl ?_
          refine L_nil (N_then (C_ret (R_then ?_)))
          refine ret1 Try.results55 rfl ?_
          have eh_ : (b.has && !(decide ((y.p.kind = 4 ∨ y.p.kind = 6) ∧ e.e ≠ 13))) = true := by rw [h2, show decide ((y.p.kind = 4 ∨ y.p.kind = 6) ∧ e.e ≠ 13) = false from decide_eq_false (by omega)]; rfl
          have en_ : nxt b y e = (⟨b.l, b.syn, true⟩ : BkP) := by unfold nxt; rw [if_neg he0, eh_]
          have ea_ : apH (⟨b.l, b.syn, true⟩ : BkP) = apL (⟨b.l, b.syn, true⟩ : BkP).l := if_pos rfl
          have hnf_ : ¬ FitsB (⟨b.l, b.syn, true⟩ : BkP) e := fun q_ => by have h1_ : e.bat = (b.l.length : Int) := q_.1; have h2_ : e.syn = b.syn := q_.2.1; omega
          exact ⟨hB, _, rfl, .inr ⟨by decide, by decide, fits_no en_ hnf_, (⟨b.l, b.syn, true⟩ : BkP), lost, ⟨_, _, _, _, hb4, hR, (own_lo hX (Nat.le_refl _))⟩, (.inl rfl)⟩⟩
        · refine T_takeA (i := 9) rfl (by kernel_rfl) (by kernel_rfl) (by kernel_rfl) (by kernel_rfl) (Y_yes rfl rfl rfl (decide_eq_false h7) (fun _ ⟨hb4, hb2, _⟩ => R_field (r := 3) rfl fld87_3 rfl)) ⟨hb4, hb2, trivial⟩ rfl ?_
          refine T_takeA (i := 10) rfl (by kernel_rfl) (by kernel_rfl) (by kernel_rfl) (by kernel_rfl) (Y_yes rfl rfl rfl (decide_eq_false h7) (fun _ ⟨hb4, hb2, _⟩ => R_load1 rfl scl3 (hb2.cell (i := 3) rfl))) ⟨hb4, hb2, trivial⟩ rfl ?_
          refine T_takeA (i := 11) rfl (by kernel_rfl) (by kernel_rfl) (by kernel_rfl) (by kernel_rfl) (Y_yes rfl rfl rfl (decide_eq_false h7) (fun _ ⟨hb4, hb2, _⟩ => R_move rfl)) ⟨hb4, hb2, trivial⟩ rfl ?_
          refine T_takeA (i := 12) rfl (by kernel_rfl) (by kernel_rfl) (by kernel_rfl) (by kernel_rfl) (Y_yes rfl rfl rfl (decide_eq_false h7) (fun _ ⟨hb4, hb2, _⟩ => R_nilck rfl)) ⟨hb4, hb2, trivial⟩ rfl ?_
          refine T_takeA (i := 13) rfl (by kernel_rfl) (by kernel_rfl) (by kernel_rfl) (by kernel_rfl) (Y_yes rfl rfl rfl (decide_eq_false h7) (fun _ ⟨hb4, hb2, _⟩ => R_field (r := 1) rfl fld92_1 rfl)) ⟨hb4, hb2, trivial⟩ rfl ?_
          refine T_takeA (i := 14) rfl (by kernel_rfl) (by kernel_rfl) (by kernel_rfl) (by kernel_rfl) (Y_yes rfl rfl rfl (decide_eq_false h7) (fun _ ⟨hb4, hb2, _⟩ => R_load1 rfl scl3 (hb4.cell (i := 1) rfl))) ⟨hb4, hb2, trivial⟩ rfl ?_
          refine T_takeA (i := 15) rfl (by kernel_rfl) (by kernel_rfl) (by kernel_rfl) (by kernel_rfl) (Y_yes rfl rfl rfl (decide_eq_false h7) (fun _ ⟨hb4, hb2, _⟩ => R_neq rfl rfl)) ⟨hb4, hb2, trivial⟩ rfl ?_
          refine T_takeA (i := 16) rfl (by kernel_rfl) (by kernel_rfl) (by kernel_rfl) (by kernel_rfl) (Y_of (fun _ ⟨hb4, hb2, _⟩ => R_pickF rfl (decide_eq_false h7) rfl)) ⟨hb4, hb2, trivial⟩ rfl ?_
          refine T_done (by kernel_rfl) (CalmE.normal ?_)
          refine N_then ?_
          refine C_if rfl (fun h8 => ?_) (fun h8 => ?_)
          · refine C_seq (C_reg rfl ?_)
            refine L_run (R_assign rfl) rfl ?_
            refine L_nil (N_then (C_ret (R_then ?_)))
            refine ret1 Try.results55 rfl ?_
            have eh_ : (b.has && !(decide ((y.p.kind = 4 ∨ y.p.kind = 6) ∧ e.e ≠ 13))) = true := by rw [h2, show decide ((y.p.kind = 4 ∨ y.p.kind = 6) ∧ e.e ≠ 13) = false from decide_eq_false (by omega)]; rfl
            have en_ : nxt b y e = (⟨b.l, b.syn, true⟩ : BkP) := by unfold nxt; rw [if_neg he0, eh_]
            have ea_ : apH (⟨b.l, b.syn, true⟩ : BkP) = apL (⟨b.l, b.syn, true⟩ : BkP).l := if_pos rfl
            have hnf_ : ¬ FitsB (⟨b.l, b.syn, true⟩ : BkP) e := fun q_ => by have h1_ : e.bat = (b.l.length : Int) := q_.1; have h2_ : e.syn = b.syn := q_.2.1; omega
            exact ⟨hB, _, rfl, .inr ⟨by decide, by decide, fits_no en_ hnf_, (⟨b.l, b.syn, true⟩ : BkP), lost, ⟨_, _, _, _, hb4, hR, (own_lo hX (Nat.le_refl _))⟩, (.inl rfl)⟩⟩
          · refine C_skip (N_then (C_seq (C_reg rfl ?_)))
            refine L_run (R_assign rfl) rfl ?_
            refine L_nil (N_then (C_seq (C_seq (C_reg rfl ?_))))
            refine L_run (R_move rfl) rfl ?_
            refine L_run (R_nilck rfl) rfl ?_
            refine L_run (R_field (r := 2) rfl fld92_2 rfl) rfl ?_
            refine L_run (R_load1 rfl scl4 (hb4.cell (i := 2) rfl)) rfl ?_
            refine L_nil (N_then (C_condT rfl rfl ?_))
            refine C_draw2 rfl mix ?_
            intro w11 hs11 hz8
            replace hB := gb_tr hB hs11
            replace hb4 := hb4.gb hs11
            replace hR := hR.gb hs11
            replace hX := own_gb hX hs11
            replace hOp := hOp.gb hs11
            replace hPr := hPr.gb hs11
            replace hDO := hDO.gb hs11
            replace hb1 := hb1.gb hs11
            replace hb2 := hb2.gb hs11
            refine ⟨fun W_ => Blk W_ gb 92 [.slice A b.l.length c, .int .i64 b.syn, .bool true, .slice A2 lost.length c2] ∧ True, [0, 1, 2, 3, 4, 5, 6, 7, 8, 10], ?_⟩
            refine T_takeA (i := 0) rfl (by kernel_rfl) (by kernel_rfl) (by kernel_rfl) (by kernel_rfl) (Y_of (fun _ ⟨hb4, _⟩ => R_move rfl)) ⟨hb4, trivial⟩ rfl ?_
            refine T_takeA (i := 1) rfl (by kernel_rfl) (by kernel_rfl) (by kernel_rfl) (by kernel_rfl) (Y_of (fun _ ⟨hb4, _⟩ => R_nilck rfl)) ⟨hb4, trivial⟩ rfl ?_
            refine T_takeA (i := 2) rfl (by kernel_rfl) (by kernel_rfl) (by kernel_rfl) (by kernel_rfl) (Y_of (fun _ ⟨hb4, _⟩ => R_field (r := 0) rfl fld92_0 rfl)) ⟨hb4, trivial⟩ rfl ?_
            refine T_takeA (i := 3) rfl (by kernel_rfl) (by kernel_rfl) (by kernel_rfl) (by kernel_rfl) (Y_of (fun _ ⟨hb4, _⟩ => R_load1 rfl scl90 (hb4.cell (i := 0) rfl))) ⟨hb4, trivial⟩ rfl ?_
            refine T_takeA (i := 4) rfl (by kernel_rfl) (by kernel_rfl) (by kernel_rfl) (by kernel_rfl) (Y_of (fun _ ⟨hb4, _⟩ => R_move rfl)) ⟨hb4, trivial⟩ rfl ?_
            refine T_takeA (i := 5) rfl (by kernel_rfl) (by kernel_rfl) (by kernel_rfl) (by kernel_rfl) (Y_of (fun _ ⟨hb4, _⟩ => R_nilck rfl)) ⟨hb4, trivial⟩ rfl ?_
            refine T_takeA (i := 6) rfl (by kernel_rfl) (by kernel_rfl) (by kernel_rfl) (by kernel_rfl) (Y_of (fun _ ⟨hb4, _⟩ => R_field (r := 0) rfl fld92_0 rfl)) ⟨hb4, trivial⟩ rfl ?_
            refine T_takeA (i := 7) rfl (by kernel_rfl) (by kernel_rfl) (by kernel_rfl) (by kernel_rfl) (Y_of (fun _ ⟨hb4, _⟩ => R_load1 rfl scl90 (hb4.cell (i := 0) rfl))) ⟨hb4, trivial⟩ rfl ?_
            refine T_takeA (i := 8) rfl (by kernel_rfl) (by kernel_rfl) (by kernel_rfl) (by kernel_rfl) (Y_of (fun _ ⟨hb4, _⟩ => R_lenSl rfl slc90)) ⟨hb4, trivial⟩ rfl ?_
            refine T_all (rs := [9]) (by kernel_rfl) rfl (all1 (O_one rfl ?_))
            have ge3 : w.heap.size ≤ w11.heap.size := hB.size
            refine L_call rfl cb71 (fafter_ok (ls := b.l) hR.sli hDO.top hno hnl) rfl ?_
            rintro _ w12 ⟨hs12, A_1, c_1, rfl, ho1⟩
            replace hB := gb_tr hB hs12
            replace hb4 := hb4.gb hs12
            replace hR := hR.gb hs12
            replace hX := own_gb hX hs12
            replace hOp := hOp.gb hs12
            replace hPr := hPr.gb hs12
            replace hDO := hDO.gb hs12
            replace hb1 := hb1.gb hs12
            replace hb2 := hb2.gb hs12
            refine L_nil (N_then ⟨fun hN_ => ⟨hb4, trivial⟩, ?_⟩)
            refine T_takeA (i := 10) rfl (by kernel_rfl) (by kernel_rfl) (by kernel_rfl) (by kernel_rfl) (Y_of (fun _ ⟨hb4, _⟩ => R_assign rfl)) ⟨hb4, trivial⟩ rfl ?_
            refine T_done (by kernel_rfl) (CalmE.normal ?_)
            refine N_then (C_seq (C_seq (C_reg rfl ?_)))
            refine L_run (R_field (r := 4) rfl fld87_4 rfl) rfl ?_
            refine L_run (R_load1 rfl scl29 (hb2.cell (i := 4) rfl)) rfl ?_
            refine L_run (R_move rfl) rfl ?_
            refine L_call rfl cb72 (fequal_ok (a := e.prs) (b := (apL b.l)) hPr (own_of ho1).2.2 (by omega)) rfl ?_
            rintro _ w13 ⟨hs13, rfl⟩
            replace hB := gb_tr hB hs13
            replace hb4 := hb4.gb hs13
            replace hR := hR.gb hs13
            replace hX := own_gb hX hs13
            replace hOp := hOp.gb hs13
            replace hPr := hPr.gb hs13
            replace hDO := hDO.gb hs13
            replace hb1 := hb1.gb hs13
            replace hb2 := hb2.gb hs13
            replace ho1 := own_gb ho1 hs13
            refine L_run (R_notD rfl) rfl ?_
            refine L_nil (N_then ?_)
            refine C_ifN rfl (fun h9 => ?_) (fun h9 => ?_)
            · refine C_seq (C_reg rfl ?_)
              refine L_run (R_assign rfl) rfl ?_
              refine L_nil (N_then (C_ret (R_then ?_)))
              refine ret1 Try.results55 rfl ?_
              have eh_ : (b.has && !(decide ((y.p.kind = 4 ∨ y.p.kind = 6) ∧ e.e ≠ 13))) = true := by rw [h2, show decide ((y.p.kind = 4 ∨ y.p.kind = 6) ∧ e.e ≠ 13) = false from decide_eq_false (by omega)]; rfl
              have en_ : nxt b y e = (⟨b.l, b.syn, true⟩ : BkP) := by unfold nxt; rw [if_neg he0, eh_]
              have ea_ : apH (⟨b.l, b.syn, true⟩ : BkP) = apL (⟨b.l, b.syn, true⟩ : BkP).l := if_pos rfl
              have hnf_ : ¬ FitsB (⟨b.l, b.syn, true⟩ : BkP) e := fun q_ => h9 (by rw [q_.2.2, ea_])
              exact ⟨hB, _, rfl, .inr ⟨by decide, by decide, fits_no en_ hnf_, (⟨b.l, b.syn, true⟩ : BkP), lost, ⟨_, _, _, _, hb4, hR, (own_lo hX (Nat.le_refl _))⟩, (.inl rfl)⟩⟩
            · refine C_skip (N_then (C_seq (C_reg rfl ?_)))
              refine L_run (R_assign rfl) rfl ?_
              refine L_nil (N_then (C_ret ?_))
              refine ret1 Try.results55 rfl ?_
              have eh_ : (b.has && !(decide ((y.p.kind = 4 ∨ y.p.kind = 6) ∧ e.e ≠ 13))) = true := by rw [h2, show decide ((y.p.kind = 4 ∨ y.p.kind = 6) ∧ e.e ≠ 13) = false from decide_eq_false (by omega)]; rfl
              have en_ : nxt b y e = (⟨b.l, b.syn, true⟩ : BkP) := by unfold nxt; rw [if_neg he0, eh_]
              have ea_ : apH (⟨b.l, b.syn, true⟩ : BkP) = apL (⟨b.l, b.syn, true⟩ : BkP).l := if_pos rfl
              have ef_ : FitsB (⟨b.l, b.syn, true⟩ : BkP) e := (show e.bat = (b.l.length : Int) ∧ e.syn = b.syn ∧ e.prs = apH (⟨b.l, b.syn, true⟩ : BkP) from ⟨by omega, by omega, by rw [ea_]; exact h9⟩)
              have hok_ : okB b y e := ⟨by omega, ⟨fun q_ => by first | omega | exact absurd q_ hr, fun q_ => by first | exact hr | exact absurd h13 q_⟩, (fun q_ => absurd q_ he0), by rw [en_]; exact ef_⟩
              exact ⟨hB, _, rfl, .inl ⟨rfl, hok_, by rw [en_]; unfold lostN; rw [if_neg he0]; exact ⟨_, _, _, _, hb4, hR, (own_lo hX (Nat.le_refl _))⟩⟩⟩
    · refine L_no rfl rfl rfl h2 rfl ?_
      refine L_no rfl rfl rfl h2 rfl ?_
      refine L_no rfl rfl rfl h2 rfl ?_
      refine L_noU rfl rfl rfl rfl ?_
      refine L_noU rfl rfl rfl rfl ?_
      refine L_noU rfl rfl rfl rfl ?_
      refine L_no rfl rfl rfl h2 rfl ?_
      refine L_no rfl rfl rfl h2 rfl ?_
      refine L_run (R_pickF rfl h2 rfl) rfl ?_
      refine L_run (R_nilck rfl) rfl ?_
      refine L_run (R_field (r := 2) rfl fld92_2 rfl) rfl ?_
      refine L_st1 rfl rfl rfl sz4 hbk rfl ?_
      intro w14 hb5 hs14 hz9
      replace hB := gb_trg hB hs14 gb0
      replace hR := hR.other hbk rfl hs14
      replace hX := own_other hX hbk rfl hs14
      replace hOp := hOp.old hs14 gb0
      replace hPr := hPr.old hs14 gb0
      replace hDO := hDO.old hs14 gb0
      replace hb1 := hb1.grown hs14 (ne_gt lt1)
      replace hb2 := hb2.grown hs14 (ne_gt lt2)
      refine L_nil (N_then (C_seq (C_seq ?_)))
      refine C_draw2 rfl mix ?_
      intro w15 hs15 hz10
      replace hB := gb_tr hB hs15
      replace hb5 := hb5.gb hs15
      replace hR := hR.gb hs15
      replace hX := own_gb hX hs15
      replace hOp := hOp.gb hs15
      replace hPr := hPr.gb hs15
      replace hDO := hDO.gb hs15
      replace hb1 := hb1.gb hs15
      replace hb2 := hb2.gb hs15
      refine ⟨fun W_ => Blk W_ gb 92 [.slice A b.l.length c, .int .i64 b.syn, .bool false, .slice A2 lost.length c2] ∧ Blk W_ g2 87 [.int .i64 e.kind, .int .i64 e.e, .int .i64 e.bat, .int .i64 e.syn, .slice e.pa e.prs.length e.pc] ∧ True, [0, 1, 2, 3, 4, 5, 6, 7, 8, 9, 10, 11, 12, 13, 14, 15, 16], ?_⟩
      refine T_takeA (i := 0) rfl (by kernel_rfl) (by kernel_rfl) (by kernel_rfl) (by kernel_rfl) (Y_of (fun _ ⟨hb5, hb2, _⟩ => R_field (r := 2) rfl fld87_2 rfl)) ⟨hb5, hb2, trivial⟩ rfl ?_
      refine T_takeA (i := 1) rfl (by kernel_rfl) (by kernel_rfl) (by kernel_rfl) (by kernel_rfl) (Y_of (fun _ ⟨hb5, hb2, _⟩ => R_load1 rfl scl3 (hb2.cell (i := 2) rfl))) ⟨hb5, hb2, trivial⟩ rfl ?_
      refine T_takeA (i := 2) rfl (by kernel_rfl) (by kernel_rfl) (by kernel_rfl) (by kernel_rfl) (Y_of (fun _ ⟨hb5, hb2, _⟩ => R_move rfl)) ⟨hb5, hb2, trivial⟩ rfl ?_
      refine T_takeA (i := 3) rfl (by kernel_rfl) (by kernel_rfl) (by kernel_rfl) (by kernel_rfl) (Y_of (fun _ ⟨hb5, hb2, _⟩ => R_nilck rfl)) ⟨hb5, hb2, trivial⟩ rfl ?_
      refine T_takeA (i := 4) rfl (by kernel_rfl) (by kernel_rfl) (by kernel_rfl) (by kernel_rfl) (Y_of (fun _ ⟨hb5, hb2, _⟩ => R_field (r := 0) rfl fld92_0 rfl)) ⟨hb5, hb2, trivial⟩ rfl ?_
      refine T_takeA (i := 5) rfl (by kernel_rfl) (by kernel_rfl) (by kernel_rfl) (by kernel_rfl) (Y_of (fun _ ⟨hb5, hb2, _⟩ => R_load1 rfl scl90 (hb5.cell (i := 0) rfl))) ⟨hb5, hb2, trivial⟩ rfl ?_
      refine T_takeA (i := 6) rfl (by kernel_rfl) (by kernel_rfl) (by kernel_rfl) (by kernel_rfl) (Y_of (fun _ ⟨hb5, hb2, _⟩ => R_lenSl rfl slc90)) ⟨hb5, hb2, trivial⟩ rfl ?_
      refine T_takeA (i := 7) rfl (by kernel_rfl) (by kernel_rfl) (by kernel_rfl) (by kernel_rfl) (Y_of (fun _ ⟨hb5, hb2, _⟩ => R_neq rfl rfl)) ⟨hb5, hb2, trivial⟩ rfl ?_
      refine T_takeA (i := 8) rfl (by kernel_rfl) (by kernel_rfl) (by kernel_rfl) (by kernel_rfl) (Y_of (fun _ ⟨hb5, hb2, _⟩ => R_move rfl)) ⟨hb5, hb2, trivial⟩ rfl ?_
      by_cases h10 : e.bat ≠ (b.l.length : Int)
      · refine T_takeA (i := 9) rfl (by kernel_rfl) (by kernel_rfl) (by kernel_rfl) (by kernel_rfl) (Y_no rfl rfl rfl (decide_eq_true h10)) ⟨hb5, hb2, trivial⟩ rfl ?_
        refine T_takeA (i := 10) rfl (by kernel_rfl) (by kernel_rfl) (by kernel_rfl) (by kernel_rfl) (Y_no rfl rfl rfl (decide_eq_true h10)) ⟨hb5, hb2, trivial⟩ rfl ?_
        refine T_takeA (i := 11) rfl (by kernel_rfl) (by kernel_rfl) (by kernel_rfl) (by kernel_rfl) (Y_no rfl rfl rfl (decide_eq_true h10)) ⟨hb5, hb2, trivial⟩ rfl ?_
        refine T_takeA (i := 12) rfl (by kernel_rfl) (by kernel_rfl) (by kernel_rfl) (by kernel_rfl) (Y_no rfl rfl rfl (decide_eq_true h10)) ⟨hb5, hb2, trivial⟩ rfl ?_
        refine T_takeA (i := 13) rfl (by kernel_rfl) (by kernel_rfl) (by kernel_rfl) (by kernel_rfl) (Y_no rfl rfl rfl (decide_eq_true h10)) ⟨hb5, hb2, trivial⟩ rfl ?_
        refine T_takeA (i := 14) rfl (by kernel_rfl) (by kernel_rfl) (by kernel_rfl) (by kernel_rfl) (Y_no rfl rfl rfl (decide_eq_true h10)) ⟨hb5, hb2, trivial⟩ rfl ?_
        refine T_takeA (i := 15) rfl (by kernel_rfl) (by kernel_rfl) (by kernel_rfl) (by kernel_rfl) (Y_no rfl rfl rfl (decide_eq_true h10)) ⟨hb5, hb2, trivial⟩ rfl ?_
        refine T_takeA (i := 16) rfl (by kernel_rfl) (by kernel_rfl) (by kernel_rfl) (by kernel_rfl) (Y_of (fun _ ⟨hb5, hb2, _⟩ => R_pickT rfl (decide_eq_true h10) rfl)) ⟨hb5, hb2, trivial⟩ rfl ?_
        refine T_done (by kernel_rfl) (CalmE.normal ?_)
        refine N_then (C_condT rfl rfl (C_seq (C_reg rfl ?_)))
        refine L_run (R_assign rfl) rfl ?_
        refine L_nil (N_then (C_ret (R_then ?_)))
        refine ret1 Try.results55 rfl ?_
        have eh_ : (b.has && !(decide ((y.p.kind = 4 ∨ y.p.kind = 6) ∧ e.e ≠ 13))) = false := by rw [h2]; rfl
        have en_ : nxt b y e = (⟨b.l, b.syn, false⟩ : BkP) := by unfold nxt; rw [if_neg he0, eh_]
        have ea_ : apH (⟨b.l, b.syn, false⟩ : BkP) = [] := if_neg (by rw [show (⟨b.l, b.syn, false⟩ : BkP).has = false from rfl]; decide)
        have hnf_ : ¬ FitsB (⟨b.l, b.syn, false⟩ : BkP) e := fun q_ => by have h1_ : e.bat = (b.l.length : Int) := q_.1; have h2_ : e.syn = b.syn := q_.2.1; omega
        exact ⟨hB, _, rfl, .inr ⟨by decide, by decide, fits_no en_ hnf_, (⟨b.l, b.syn, false⟩ : BkP), lost, ⟨_, _, _, _, hb5, hR, (own_lo hX (Nat.le_refl _))⟩, (.inl rfl)⟩⟩
      · refine T_takeA (i := 9) rfl (by kernel_rfl) (by kernel_rfl) (by kernel_rfl) (by kernel_rfl) (Y_yes rfl rfl rfl (decide_eq_false h10) (fun _ ⟨hb5, hb2, _⟩ => R_field (r := 3) rfl fld87_3 rfl)) ⟨hb5, hb2, trivial⟩ rfl ?_
        refine T_takeA (i := 10) rfl (by kernel_rfl) (by kernel_rfl) (by kernel_rfl) (by kernel_rfl) (Y_yes rfl rfl rfl (decide_eq_false h10) (fun _ ⟨hb5, hb2, _⟩ => R_load1 rfl scl3 (hb2.cell (i := 3) rfl))) ⟨hb5, hb2, trivial⟩ rfl ?_
        refine T_takeA (i := 11) rfl (by kernel_rfl) (by kernel_rfl) (by kernel_rfl) (by kernel_rfl) (Y_yes rfl rfl rfl (decide_eq_false h10) (fun _ ⟨hb5, hb2, _⟩ => R_move rfl)) ⟨hb5, hb2, trivial⟩ rfl ?_
        refine T_takeA (i := 12) rfl (by kernel_rfl) (by kernel_rfl) (by kernel_rfl) (by kernel_rfl) (Y_yes rfl rfl rfl (decide_eq_false h10) (fun _ ⟨hb5, hb2, _⟩ => R_nilck rfl)) ⟨hb5, hb2, trivial⟩ rfl ?_
        refine T_takeA (i := 13) rfl (by kernel_rfl) (by kernel_rfl) (by kernel_rfl) (by kernel_rfl) (Y_yes rfl rfl rfl (decide_eq_false h10) (fun _ ⟨hb5, hb2, _⟩ => R_field (r := 1) rfl fld92_1 rfl)) ⟨hb5, hb2, trivial⟩ rfl ?_
        refine T_takeA (i := 14) rfl (by kernel_rfl) (by kernel_rfl) (by kernel_rfl) (by kernel_rfl) (Y_yes rfl rfl rfl (decide_eq_false h10) (fun _ ⟨hb5, hb2, _⟩ => R_load1 rfl scl3 (hb5.cell (i := 1) rfl))) ⟨hb5, hb2, trivial⟩ rfl ?_
        refine T_takeA (i := 15) rfl (by kernel_rfl) (by kernel_rfl) (by kernel_rfl) (by kernel_rfl) (Y_yes rfl rfl rfl (decide_eq_false h10) (fun _ ⟨hb5, hb2, _⟩ => R_neq rfl rfl)) ⟨hb5, hb2, trivial⟩ rfl ?_
        refine T_takeA (i := 16) rfl (by kernel_rfl) (by kernel_rfl) (by kernel_rfl) (by kernel_rfl) (Y_of (fun _ ⟨hb5, hb2, _⟩ => R_pickF rfl (decide_eq_false h10) rfl)) ⟨hb5, hb2, trivial⟩ rfl ?_
        refine T_done (by kernel_rfl) (CalmE.normal ?_)
        refine N_then ?_
        refine C_if rfl (fun h11 => ?_) (fun h11 => ?_)
        · refine C_seq (C_reg rfl ?_)
          refine L_run (R_assign rfl) rfl ?_
          refine L_nil (N_then (C_ret (R_then ?_)))
          refine ret1 Try.results55 rfl ?_
          have eh_ : (b.has && !(decide ((y.p.kind = 4 ∨ y.p.kind = 6) ∧ e.e ≠ 13))) = false := by rw [h2]; rfl
          have en_ : nxt b y e = (⟨b.l, b.syn, false⟩ : BkP) := by unfold nxt; rw [if_neg he0, eh_]
          have ea_ : apH (⟨b.l, b.syn, false⟩ : BkP) = [] := if_neg (by rw [show (⟨b.l, b.syn, false⟩ : BkP).has = false from rfl]; decide)
          have hnf_ : ¬ FitsB (⟨b.l, b.syn, false⟩ : BkP) e := fun q_ => by have h1_ : e.bat = (b.l.length : Int) := q_.1; have h2_ : e.syn = b.syn := q_.2.1; omega
          exact ⟨hB, _, rfl, .inr ⟨by decide, by decide, fits_no en_ hnf_, (⟨b.l, b.syn, false⟩ : BkP), lost, ⟨_, _, _, _, hb5, hR, (own_lo hX (Nat.le_refl _))⟩, (.inl rfl)⟩⟩
        · refine C_skip (N_then (C_seq (C_reg rfl ?_)))
          refine L_run (R_assign rfl) rfl ?_
          refine L_nil (N_then (C_seq (C_seq (C_reg rfl ?_))))
          refine L_run (R_move rfl) rfl ?_
          refine L_run (R_nilck rfl) rfl ?_
          refine L_run (R_field (r := 2) rfl fld92_2 rfl) rfl ?_
          refine L_run (R_load1 rfl scl4 (hb5.cell (i := 2) rfl)) rfl ?_
          refine L_nil (N_then (C_condF rfl rfl (C_skip (N_then (C_seq (C_seq (C_reg rfl ?_)))))))
          refine L_run (R_field (r := 4) rfl fld87_4 rfl) rfl ?_
          refine L_run (R_load1 rfl scl29 (hb2.cell (i := 4) rfl)) rfl ?_
          refine L_run (R_move rfl) rfl ?_
          refine L_call rfl cb72 (fequal_ok (a := e.prs) (b := []) hPr (Sli.nil (t := 0) (lo := 0) (hi := 0)) (by omega)) rfl ?_
          rintro _ w16 ⟨hs16, rfl⟩
          replace hB := gb_tr hB hs16
          replace hb5 := hb5.gb hs16
          replace hR := hR.gb hs16
          replace hX := own_gb hX hs16
          replace hOp := hOp.gb hs16
          replace hPr := hPr.gb hs16
          replace hDO := hDO.gb hs16
          replace hb1 := hb1.gb hs16
          replace hb2 := hb2.gb hs16
          refine L_run (R_notD rfl) rfl ?_
          refine L_nil (N_then ?_)
          refine C_ifN rfl (fun h12 => ?_) (fun h12 => ?_)
          · refine C_seq (C_reg rfl ?_)
            refine L_run (R_assign rfl) rfl ?_
            refine L_nil (N_then (C_ret (R_then ?_)))
            refine ret1 Try.results55 rfl ?_
            have eh_ : (b.has && !(decide ((y.p.kind = 4 ∨ y.p.kind = 6) ∧ e.e ≠ 13))) = false := by rw [h2]; rfl
            have en_ : nxt b y e = (⟨b.l, b.syn, false⟩ : BkP) := by unfold nxt; rw [if_neg he0, eh_]
            have ea_ : apH (⟨b.l, b.syn, false⟩ : BkP) = [] := if_neg (by rw [show (⟨b.l, b.syn, false⟩ : BkP).has = false from rfl]; decide)
            have hnf_ : ¬ FitsB (⟨b.l, b.syn, false⟩ : BkP) e := fun q_ => h12 (by rw [q_.2.2, ea_])
            exact ⟨hB, _, rfl, .inr ⟨by decide, by decide, fits_no en_ hnf_, (⟨b.l, b.syn, false⟩ : BkP), lost, ⟨_, _, _, _, hb5, hR, (own_lo hX (Nat.le_refl _))⟩, (.inl rfl)⟩⟩
          · refine C_skip (N_then (C_seq (C_reg rfl ?_)))
            refine L_run (R_assign rfl) rfl ?_
            refine L_nil (N_then (C_ret ?_))
            refine ret1 Try.results55 rfl ?_
            have eh_ : (b.has && !(decide ((y.p.kind = 4 ∨ y.p.kind = 6) ∧ e.e ≠ 13))) = false := by rw [h2]; rfl
            have en_ : nxt b y e = (⟨b.l, b.syn, false⟩ : BkP) := by unfold nxt; rw [if_neg he0, eh_]
            have ea_ : apH (⟨b.l, b.syn, false⟩ : BkP) = [] := if_neg (by rw [show (⟨b.l, b.syn, false⟩ : BkP).has = false from rfl]; decide)
            have ef_ : FitsB (⟨b.l, b.syn, false⟩ : BkP) e := (show e.bat = (b.l.length : Int) ∧ e.syn = b.syn ∧ e.prs = apH (⟨b.l, b.syn, false⟩ : BkP) from ⟨by omega, by omega, by rw [ea_]; exact h12⟩)
            have hok_ : okB b y e := ⟨by omega, ⟨fun q_ => by first | omega | exact absurd q_ hr, fun q_ => by first | exact hr | exact absurd h13 q_⟩, (fun q_ => absurd q_ he0), by rw [en_]; exact ef_⟩
            exact ⟨hB, _, rfl, .inl ⟨rfl, hok_, by rw [en_]; unfold lostN; rw [if_neg he0]; exact ⟨_, _, _, _, hb5, hR, (own_lo hX (Nat.le_refl _))⟩⟩⟩

theorem next_e {w wa : World} {gb n : Nat} {b : BkP} {lost : List Int} {y : StepD} {e : EvD} (hM : BkM w wa gb b lost) (hB : w.grownBy wa none) (gb0 : w.heap.size ≤ gb) (hg : GoodB n b) (hn : n ≤ 900) (hll : lost.length ≤ 900) (hOp0 : Sli 0 0 w.heap.size w y.oa (fl encOp y.p.ops)) (hPr0 : Sli 0 0 w.heap.size w e.pa (fl encK e.prs)) (hDO0 : DeepO w.heap.size w b.l) (hy30 : y.p.ops.length ≤ 30) (hp : e.prs.length ≤ 1000) (hr : sOk y.p) (he0 : e.e = 0) :
    Runs Try.prog 55 #[.pointer (some ⟨gb, 0, none⟩), .agg #[.int .i64 y.p.kind, .int .i64 y.p.n, .slice y.oa y.p.ops.length y.oc, .slice y.ka y.p.keep.length y.kc, .int .i64 y.p.torn, .int .i64 y.p.cut], .agg #[.int .i64 e.kind, .int .i64 e.e, .int .i64 e.bat, .int .i64 e.syn, .slice e.pa e.prs.length e.pc]] wa (fun v_ w' => w.grownBy w' none ∧ ∃ wr : Int, v_ = .int .i64 wr ∧ ((wr = 0 ∧ okB b y e ∧ BkM w w' gb (nxt b y e) (lostN b y e lost)) ∨ (wr ≠ 0 ∧ (1 ≤ wr ∧ wr ≤ 5) ∧ ¬ okB b y e ∧ ∃ b' lost', BkM w w' gb b' lost' ∧ LostOr y lost lost'))) := by
  obtain ⟨A, c, A2, c2, hbk, hR, hX⟩ := hM
  have hOp := hOp0.gb hB
  have hPr := hPr0.gb hB
  have hDO := hDO0.gb hB
  have hno := hg.ops (by omega)
  have hnl : b.l.length ≤ 1000000 := by have := hg.2.1; omega
  have h13 : ¬ e.e = 13 := by omega
  refine enter Try.func55 Try.ntmps55 rfl rfl ?_
  refine C_seq (C_reg rfl ?_)
  refine L_box (cs := [.int .i64 y.p.kind, .int .i64 y.p.n, .slice y.oa y.p.ops.length y.oc, .slice y.ka y.p.keep.length y.kc, .int .i64 y.p.torn, .int .i64 y.p.cut]) rfl rfl rfl ?_
  intro g1 w1 eg1 hb1 hs1 hz1
  have ge1 : w.heap.size ≤ g1 := eg_ge hB eg1
  have lt1 : gb < g1 := lt_of_eg hbk.lt eg1
  replace hB := gb_tr hB hs1
  replace hbk := hbk.gb hs1
  replace hR := hR.gb hs1
  replace hX := own_gb hX hs1
  replace hOp := hOp.gb hs1
  replace hPr := hPr.gb hs1
  replace hDO := hDO.gb hs1
  refine L_box (cs := [.int .i64 e.kind, .int .i64 e.e, .int .i64 e.bat, .int .i64 e.syn, .slice e.pa e.prs.length e.pc]) rfl rfl rfl ?_
  intro g2 w2 eg2 hb2 hs2 hz2
  have ge2 : w.heap.size ≤ g2 := eg_ge hB eg2
  have lt2 : gb < g2 := lt_of_eg hbk.lt eg2
  have lt3 : g1 < g2 := lt_of_eg hb1.lt eg2
  replace hB := gb_tr hB hs2
  replace hbk := hbk.gb hs2
  replace hR := hR.gb hs2
  replace hX := own_gb hX hs2
  replace hOp := hOp.gb hs2
  replace hPr := hPr.gb hs2
  replace hDO := hDO.gb hs2
  replace hb1 := hb1.gb hs2
  refine L_run (R_assign rfl) rfl ?_
  refine L_nil (N_then (C_seq (C_seq (C_reg rfl ?_))))
  refine L_run (R_field (r := 0) rfl fld87_0 rfl) rfl ?_
  refine L_run (R_load1 rfl scl3 (hb2.cell (i := 0) rfl)) rfl ?_
  refine L_run (R_field (r := 0) rfl fld86_0 rfl) rfl ?_
  refine L_run (R_load1 rfl scl3 (hb1.cell (i := 0) rfl)) rfl ?_
  refine L_run (R_neq rfl rfl) rfl ?_
  refine L_nil (N_then ?_)
  refine C_if rfl (fun h1 => ?_) (fun h1 => ?_)
  · refine C_seq (C_reg rfl ?_)
    refine L_run (R_assign rfl) rfl ?_
    refine L_nil (N_then (C_ret (R_then ?_)))
    refine ret1 Try.results55 rfl ?_
    exact ⟨hB, _, rfl, .inr ⟨by decide, by decide, (fun q_ => by have h_ := q_.1; omega), (⟨b.l, b.syn, b.has⟩ : BkP), lost, ⟨_, _, _, _, hbk, hR, (own_lo hX (Nat.le_refl _))⟩, (.inl rfl)⟩⟩
  · refine C_skip (N_then (C_seq (C_seq ?_)))
    refine C_draw2 rfl mix ?_
    intro w3 hs3 hz3
    replace hB := gb_tr hB hs3
    replace hbk := hbk.gb hs3
    replace hR := hR.gb hs3
    replace hX := own_gb hX hs3
    replace hOp := hOp.gb hs3
    replace hPr := hPr.gb hs3
    replace hDO := hDO.gb hs3
    replace hb1 := hb1.gb hs3
    replace hb2 := hb2.gb hs3
    refine ⟨fun W_ => Blk W_ g1 86 [.int .i64 y.p.kind, .int .i64 y.p.n, .slice y.oa y.p.ops.length y.oc, .slice y.ka y.p.keep.length y.kc, .int .i64 y.p.torn, .int .i64 y.p.cut] ∧ Blk W_ g2 87 [.int .i64 e.kind, .int .i64 e.e, .int .i64 e.bat, .int .i64 e.syn, .slice e.pa e.prs.length e.pc] ∧ True, [0, 2, 3, 4, 5], ?_⟩
    refine T_takeA (i := 0) rfl (by kernel_rfl) (by kernel_rfl) (by kernel_rfl) (by kernel_rfl) (Y_of (fun _ ⟨hb1, hb2, _⟩ => R_loadA (vs := [.int .i64 y.p.kind, .int .i64 y.p.n, .slice y.oa y.p.ops.length y.oc, .slice y.ka y.p.keep.length y.kc, .int .i64 y.p.torn, .int .i64 y.p.cut]) rfl agg86 (At.pre (hb1.at_ 0) rfl) rfl)) ⟨hb1, hb2, trivial⟩ rfl ?_
    refine T_takeA (i := 2) rfl (by kernel_rfl) (by kernel_rfl) (by kernel_rfl) (by kernel_rfl) (Y_of (fun _ ⟨hb1, hb2, _⟩ => R_field (r := 1) rfl fld87_1 rfl)) ⟨hb1, hb2, trivial⟩ rfl ?_
    refine T_takeA (i := 3) rfl (by kernel_rfl) (by kernel_rfl) (by kernel_rfl) (by kernel_rfl) (Y_of (fun _ ⟨hb1, hb2, _⟩ => R_load1 rfl scl42 (hb2.cell (i := 1) rfl))) ⟨hb1, hb2, trivial⟩ rfl ?_
    refine T_takeA (i := 4) rfl (by kernel_rfl) (by kernel_rfl) (by kernel_rfl) (by kernel_rfl) (Y_of (fun _ ⟨hb1, hb2, _⟩ => R_eql rfl rfl)) ⟨hb1, hb2, trivial⟩ rfl ?_
    refine T_all (rs := [1]) (by kernel_rfl) rfl (all1 (O_one rfl ?_))
    refine L_call rfl cb68 (script_Right (ops := y.p.ops) hOp (by omega)) rfl ?_
    rintro _ w4 ⟨hs4, rfl⟩
    replace hB := gb_tr hB hs4
    replace hbk := hbk.gb hs4
    replace hR := hR.gb hs4
    replace hX := own_gb hX hs4
    replace hOp := hOp.gb hs4
    replace hPr := hPr.gb hs4
    replace hDO := hDO.gb hs4
    replace hb1 := hb1.gb hs4
    replace hb2 := hb2.gb hs4
    refine L_nil (N_then ⟨fun hN_ => ⟨hb1, hb2, trivial⟩, ?_⟩)
    refine T_takeA (i := 5) rfl (by kernel_rfl) (by kernel_rfl) (by kernel_rfl) (by kernel_rfl) (Y_of (fun _ ⟨hb1, hb2, _⟩ => R_eqv (R_eqlB rfl rfl boo4) (v' := .bool false) (by rw [(decide_eq_true (show SOk y.p.kind y.p.n y.p.ops y.p.keep.length y.p.torn y.p.cut from hr)), (decide_eq_false (show e.e ≠ 13 from h13))]; rfl))) ⟨hb1, hb2, trivial⟩ rfl ?_
    refine T_done (by kernel_rfl) (CalmE.normal ?_)
    refine N_then (C_condF rfl rfl (C_skip (N_then (C_seq (C_seq (C_reg rfl ?_))))))
    refine L_run (R_field (r := 1) rfl fld87_1 rfl) rfl ?_
    refine L_run (R_load1 rfl scl42 (hb2.cell (i := 1) rfl)) rfl ?_
    refine L_run (R_neq rfl rfl) rfl ?_
    refine L_nil (N_then (C_condF rfl (decide_eq_false (fun hn => hn he0)) (C_seq (C_reg rfl ?_))))
    refine L_run (R_move rfl) rfl ?_
    refine L_run (R_loadA (vs := [.int .i64 y.p.kind, .int .i64 y.p.n, .slice y.oa y.p.ops.length y.oc, .slice y.ka y.p.keep.length y.kc, .int .i64 y.p.torn, .int .i64 y.p.cut]) rfl agg86 (At.pre (hb1.at_ 0) rfl) rfl) rfl ?_
    refine L_run (R_loadA (vs := [.int .i64 e.kind, .int .i64 e.e, .int .i64 e.bat, .int .i64 e.syn, .slice e.pa e.prs.length e.pc]) rfl agg87 (At.pre (hb2.at_ 0) rfl) rfl) rfl ?_
    by_cases h2 : okD b y e
    · have hBz_ := hB.size
      have lt4 := hb1.lt
      have lt5 := hb2.lt
      refine L_call rfl cb70 (done_y (J := (fun w_ => Sli 0 0 w.heap.size w_ y.oa (fl encOp y.p.ops) ∧ Sli 0 0 w.heap.size w_ e.pa (fl encK e.prs) ∧ DeepO w.heap.size w_ b.l ∧ Blk w_ g1 86 [.int .i64 y.p.kind, .int .i64 y.p.n, .slice y.oa y.p.ops.length y.oc, .slice y.ka y.p.keep.length y.kc, .int .i64 y.p.torn, .int .i64 y.p.cut] ∧ Blk w_ g2 87 [.int .i64 e.kind, .int .i64 e.e, .int .i64 e.bat, .int .i64 e.syn, .slice e.pa e.prs.length e.pc] ∧ True)) h2 ⟨_, _, _, _, hbk, hR, hX⟩ hB gb0 hg.1 (by have := hg.2.1; omega) (by omega) ⟨hOp, hPr, hDO, hb1, hb2, trivial⟩ (by rintro w_ w2_ ⟨hOp, hPr, hDO, hb1, hb2, _⟩ hs_; replace hOp := hOp.gb hs_; replace hPr := hPr.gb hs_; replace hDO := hDO.gb hs_; replace hb1 := hb1.gb hs_; replace hb2 := hb2.gb hs_; exact ⟨hOp, hPr, hDO, hb1, hb2, trivial⟩) (by rintro w_ w2_ g_ T_ cs_ ⟨hOp, hPr, hDO, hb1, hb2, _⟩ hb_ hg_ hs_; replace hOp := hOp.old hs_ (by omega); replace hPr := hPr.old hs_ (by omega); replace hDO := hDO.old hs_ (by omega); replace hb1 := hb1.grown hs_ (by intro e; injection e; omega); replace hb2 := hb2.grown hs_ (by intro e; injection e; omega); exact ⟨hOp, hPr, hDO, hb1, hb2, trivial⟩) (by rintro w_ w2_ cs_ ⟨hOp, hPr, hDO, hb1, hb2, _⟩ hb_ hs_; replace hOp := hOp.old hs_ gb0; replace hPr := hPr.old hs_ gb0; replace hDO := hDO.old hs_ gb0; replace hb1 := hb1.grown hs_ (ne_gt lt1); replace hb2 := hb2.grown hs_ (ne_gt lt2); exact ⟨hOp, hPr, hDO, hb1, hb2, trivial⟩) (by rintro w_ w2_ v_ n_ vs_ ⟨hOp, hPr, hDO, hb1, hb2, _⟩ ho_ hs_; replace hOp := hOp.grown hs_ (fun k hk => .inr (Nat.le_trans (Nat.le_refl _) (World.ownsRow.lt ho_ k hk).1)); replace hPr := hPr.grown hs_ (fun k hk => .inr (Nat.le_trans (Nat.le_refl _) (World.ownsRow.lt ho_ k hk).1)); replace hDO := hDO.own ho_ (Nat.le_refl _) hs_; replace hb1 := blk_own hb1 ho_ rfl hs_; replace hb2 := blk_own hb2 ho_ rfl hs_; exact ⟨hOp, hPr, hDO, hb1, hb2, trivial⟩) (by rintro w_ w2_ v_ n_ vs_ ⟨hOp, hPr, hDO, hb1, hb2, _⟩ ho_ hs_; replace hOp := hOp.grown hs_ (fun k hk => .inr (Nat.le_trans (Nat.le_refl _) (World.ownsRow.lt ho_ k hk).1)); replace hPr := hPr.grown hs_ (fun k hk => .inr (Nat.le_trans (Nat.le_refl _) (World.ownsRow.lt ho_ k hk).1)); replace hDO := hDO.own ho_ (Nat.le_refl _) hs_; replace hb1 := blk_own hb1 ho_ rfl hs_; replace hb2 := blk_own hb2 ho_ rfl hs_; exact ⟨hOp, hPr, hDO, hb1, hb2, trivial⟩)) rfl ?_
      rintro _ w5 ⟨hB, ⟨hOp, hPr, hDO, hb1, hb2, _⟩, rfl, A_1, c_1, A_2, c_2, hb3, hrl1, ho1⟩
      have hDO : DeepO w.heap.size w5 (doneB b y e).l := (doneB_deep hDO0 hOp0).gb hB
      have hgd := hg.done hy30 h2
      have hno := hgd.ops (by omega)
      have hnl : (doneB b y e).l.length ≤ 1000000 := by have := hgd.2.1; omega
      refine L_run (R_assign rfl) rfl ?_
      refine L_nil (N_then (C_seq (C_reg rfl ?_)))
      refine L_run (R_move rfl) rfl ?_
      refine L_run (R_eqv (R_neq rfl rfl) (v' := .bool false) rfl) rfl ?_
      refine L_nil (N_then (C_condF rfl rfl (C_skip (N_then (C_seq (C_seq ?_))))))
      refine C_draw2 rfl mix ?_
      intro w6 hs6 hz4
      replace hB := gb_tr hB hs6
      replace hOp := hOp.gb hs6
      replace hPr := hPr.gb hs6
      replace hb1 := hb1.gb hs6
      replace hb2 := hb2.gb hs6
      replace hb3 := hb3.gb hs6
      replace hrl1 := hrl1.gb hs6
      replace ho1 := own_gb ho1 hs6
      replace hDO := hDO.gb hs6
      refine ⟨fun W_ => Blk W_ g2 87 [.int .i64 e.kind, .int .i64 e.e, .int .i64 e.bat, .int .i64 e.syn, .slice e.pa e.prs.length e.pc] ∧ Blk W_ gb 92 [.slice A_1 ((doneB b y e).l.length) c_1, .int .i64 ((doneB b y e).syn), .bool ((doneB b y e).has), .slice A_2 ((lostD b y e lost).length) c_2] ∧ True, [0, 1, 2, 3, 4, 5, 6, 7, 8, 9, 10, 11, 12, 13, 14, 15, 16], ?_⟩
      refine T_takeA (i := 0) rfl (by kernel_rfl) (by kernel_rfl) (by kernel_rfl) (by kernel_rfl) (Y_of (fun _ ⟨hb2, hb3, _⟩ => R_field (r := 2) rfl fld87_2 rfl)) ⟨hb2, hb3, trivial⟩ rfl ?_
      refine T_takeA (i := 1) rfl (by kernel_rfl) (by kernel_rfl) (by kernel_rfl) (by kernel_rfl) (Y_of (fun _ ⟨hb2, hb3, _⟩ => R_load1 rfl scl3 (hb2.cell (i := 2) rfl))) ⟨hb2, hb3, trivial⟩ rfl ?_
      refine T_takeA (i := 2) rfl (by kernel_rfl) (by kernel_rfl) (by kernel_rfl) (by kernel_rfl) (Y_of (fun _ ⟨hb2, hb3, _⟩ => R_move rfl)) ⟨hb2, hb3, trivial⟩ rfl ?_
      refine T_takeA (i := 3) rfl (by kernel_rfl) (by kernel_rfl) (by kernel_rfl) (by kernel_rfl) (Y_of (fun _ ⟨hb2, hb3, _⟩ => R_nilck rfl)) ⟨hb2, hb3, trivial⟩ rfl ?_
      refine T_takeA (i := 4) rfl (by kernel_rfl) (by kernel_rfl) (by kernel_rfl) (by kernel_rfl) (Y_of (fun _ ⟨hb2, hb3, _⟩ => R_field (r := 0) rfl fld92_0 rfl)) ⟨hb2, hb3, trivial⟩ rfl ?_
      refine T_takeA (i := 5) rfl (by kernel_rfl) (by kernel_rfl) (by kernel_rfl) (by kernel_rfl) (Y_of (fun _ ⟨hb2, hb3, _⟩ => R_load1 rfl scl90 (hb3.cell (i := 0) rfl))) ⟨hb2, hb3, trivial⟩ rfl ?_
      refine T_takeA (i := 6) rfl (by kernel_rfl) (by kernel_rfl) (by kernel_rfl) (by kernel_rfl) (Y_of (fun _ ⟨hb2, hb3, _⟩ => R_lenSl rfl slc90)) ⟨hb2, hb3, trivial⟩ rfl ?_
      refine T_takeA (i := 7) rfl (by kernel_rfl) (by kernel_rfl) (by kernel_rfl) (by kernel_rfl) (Y_of (fun _ ⟨hb2, hb3, _⟩ => R_neq rfl rfl)) ⟨hb2, hb3, trivial⟩ rfl ?_
      refine T_takeA (i := 8) rfl (by kernel_rfl) (by kernel_rfl) (by kernel_rfl) (by kernel_rfl) (Y_of (fun _ ⟨hb2, hb3, _⟩ => R_move rfl)) ⟨hb2, hb3, trivial⟩ rfl ?_
      by_cases h3 : e.bat ≠ ((doneB b y e).l.length : Int)
      · refine T_takeA (i := 9) rfl (by kernel_rfl) (by kernel_rfl) (by kernel_rfl) (by kernel_rfl) (Y_no rfl rfl rfl (decide_eq_true h3)) ⟨hb2, hb3, trivial⟩ rfl ?_
        refine T_takeA (i := 10) rfl (by kernel_rfl) (by kernel_rfl) (by kernel_rfl) (by kernel_rfl) (Y_no rfl rfl rfl (decide_eq_true h3)) ⟨hb2, hb3, trivial⟩ rfl ?_
        refine T_takeA (i := 11) rfl (by kernel_rfl) (by kernel_rfl) (by kernel_rfl) (by kernel_rfl) (Y_no rfl rfl rfl (decide_eq_true h3)) ⟨hb2, hb3, trivial⟩ rfl ?_
        refine T_takeA (i := 12) rfl (by kernel_rfl) (by kernel_rfl) (by kernel_rfl) (by kernel_rfl) (Y_no rfl rfl rfl (decide_eq_true h3)) ⟨hb2, hb3, trivial⟩ rfl ?_
        refine T_takeA (i := 13) rfl (by kernel_rfl) (by kernel_rfl) (by kernel_rfl) (by kernel_rfl) (Y_no rfl rfl rfl (decide_eq_true h3)) ⟨hb2, hb3, trivial⟩ rfl ?_
        refine T_takeA (i := 14) rfl (by kernel_rfl) (by kernel_rfl) (by kernel_rfl) (by kernel_rfl) (Y_no rfl rfl rfl (decide_eq_true h3)) ⟨hb2, hb3, trivial⟩ rfl ?_
        refine T_takeA (i := 15) rfl (by kernel_rfl) (by kernel_rfl) (by kernel_rfl) (by kernel_rfl) (Y_no rfl rfl rfl (decide_eq_true h3)) ⟨hb2, hb3, trivial⟩ rfl ?_
        refine T_takeA (i := 16) rfl (by kernel_rfl) (by kernel_rfl) (by kernel_rfl) (by kernel_rfl) (Y_of (fun _ ⟨hb2, hb3, _⟩ => R_pickT rfl (decide_eq_true h3) rfl)) ⟨hb2, hb3, trivial⟩ rfl ?_
        refine T_done (by kernel_rfl) (CalmE.normal ?_)
        refine N_then (C_condT rfl rfl (C_seq (C_reg rfl ?_)))
        refine L_run (R_assign rfl) rfl ?_
        refine L_nil (N_then (C_ret (R_then ?_)))
        refine ret1 Try.results55 rfl ?_
        have en_ : nxt b y e = (doneB b y e) := by unfold nxt; rw [if_pos he0]
        have hnf_ : ¬ FitsB (doneB b y e) e := fun q_ => by have h1_ : e.bat = (((doneB b y e).l).length : Int) := q_.1; have h2_ : e.syn = (doneB b y e).syn := q_.2.1; omega
        exact ⟨hB, _, rfl, .inr ⟨by decide, by decide, fits_no en_ hnf_, (⟨(doneB b y e).l, (doneB b y e).syn, (doneB b y e).has⟩ : BkP), lostD b y e lost, ⟨_, _, _, _, hb3, hrl1, (own_lo ho1 (Nat.le_refl _))⟩, (lostD_or rfl)⟩⟩
      · refine T_takeA (i := 9) rfl (by kernel_rfl) (by kernel_rfl) (by kernel_rfl) (by kernel_rfl) (Y_yes rfl rfl rfl (decide_eq_false h3) (fun _ ⟨hb2, hb3, _⟩ => R_field (r := 3) rfl fld87_3 rfl)) ⟨hb2, hb3, trivial⟩ rfl ?_
        refine T_takeA (i := 10) rfl (by kernel_rfl) (by kernel_rfl) (by kernel_rfl) (by kernel_rfl) (Y_yes rfl rfl rfl (decide_eq_false h3) (fun _ ⟨hb2, hb3, _⟩ => R_load1 rfl scl3 (hb2.cell (i := 3) rfl))) ⟨hb2, hb3, trivial⟩ rfl ?_
        refine T_takeA (i := 11) rfl (by kernel_rfl) (by kernel_rfl) (by kernel_rfl) (by kernel_rfl) (Y_yes rfl rfl rfl (decide_eq_false h3) (fun _ ⟨hb2, hb3, _⟩ => R_move rfl)) ⟨hb2, hb3, trivial⟩ rfl ?_
        refine T_takeA (i := 12) rfl (by kernel_rfl) (by kernel_rfl) (by kernel_rfl) (by kernel_rfl) (Y_yes rfl rfl rfl (decide_eq_false h3) (fun _ ⟨hb2, hb3, _⟩ => R_nilck rfl)) ⟨hb2, hb3, trivial⟩ rfl ?_
        refine T_takeA (i := 13) rfl (by kernel_rfl) (by kernel_rfl) (by kernel_rfl) (by kernel_rfl) (Y_yes rfl rfl rfl (decide_eq_false h3) (fun _ ⟨hb2, hb3, _⟩ => R_field (r := 1) rfl fld92_1 rfl)) ⟨hb2, hb3, trivial⟩ rfl ?_
        refine T_takeA (i := 14) rfl (by kernel_rfl) (by kernel_rfl) (by kernel_rfl) (by kernel_rfl) (Y_yes rfl rfl rfl (decide_eq_false h3) (fun _ ⟨hb2, hb3, _⟩ => R_load1 rfl scl3 (hb3.cell (i := 1) rfl))) ⟨hb2, hb3, trivial⟩ rfl ?_
        refine T_takeA (i := 15) rfl (by kernel_rfl) (by kernel_rfl) (by kernel_rfl) (by kernel_rfl) (Y_yes rfl rfl rfl (decide_eq_false h3) (fun _ ⟨hb2, hb3, _⟩ => R_neq rfl rfl)) ⟨hb2, hb3, trivial⟩ rfl ?_
        refine T_takeA (i := 16) rfl (by kernel_rfl) (by kernel_rfl) (by kernel_rfl) (by kernel_rfl) (Y_of (fun _ ⟨hb2, hb3, _⟩ => R_pickF rfl (decide_eq_false h3) rfl)) ⟨hb2, hb3, trivial⟩ rfl ?_
        refine T_done (by kernel_rfl) (CalmE.normal ?_)
        refine N_then ?_
        refine C_if rfl (fun h4 => ?_) (fun h4 => ?_)
        · refine C_seq (C_reg rfl ?_)
          refine L_run (R_assign rfl) rfl ?_
          refine L_nil (N_then (C_ret (R_then ?_)))
          refine ret1 Try.results55 rfl ?_
          have en_ : nxt b y e = (doneB b y e) := by unfold nxt; rw [if_pos he0]
          have hnf_ : ¬ FitsB (doneB b y e) e := fun q_ => by have h1_ : e.bat = (((doneB b y e).l).length : Int) := q_.1; have h2_ : e.syn = (doneB b y e).syn := q_.2.1; omega
          exact ⟨hB, _, rfl, .inr ⟨by decide, by decide, fits_no en_ hnf_, (⟨(doneB b y e).l, (doneB b y e).syn, (doneB b y e).has⟩ : BkP), lostD b y e lost, ⟨_, _, _, _, hb3, hrl1, (own_lo ho1 (Nat.le_refl _))⟩, (lostD_or rfl)⟩⟩
        · refine C_skip (N_then (C_seq (C_reg rfl ?_)))
          refine L_run (R_assign rfl) rfl ?_
          refine L_nil (N_then (C_seq (C_seq (C_reg rfl ?_))))
          refine L_run (R_move rfl) rfl ?_
          refine L_run (R_nilck rfl) rfl ?_
          refine L_run (R_field (r := 2) rfl fld92_2 rfl) rfl ?_
          refine L_run (R_load1 rfl scl4 (hb3.cell (i := 2) rfl)) rfl ?_
          refine L_nil (N_then ?_)
          refine C_cond rfl (fun h5 => ?_) (fun h5 => ?_)
          · refine C_draw2 rfl mix ?_
            intro w7 hs7 hz5
            replace hB := gb_tr hB hs7
            replace hOp := hOp.gb hs7
            replace hPr := hPr.gb hs7
            replace hb1 := hb1.gb hs7
            replace hb2 := hb2.gb hs7
            replace hb3 := hb3.gb hs7
            replace hrl1 := hrl1.gb hs7
            replace ho1 := own_gb ho1 hs7
            replace hDO := hDO.gb hs7
            refine ⟨fun W_ => Blk W_ gb 92 [.slice A_1 ((doneB b y e).l.length) c_1, .int .i64 ((doneB b y e).syn), .bool ((doneB b y e).has), .slice A_2 ((lostD b y e lost).length) c_2] ∧ True, [0, 1, 2, 3, 4, 5, 6, 7, 8, 10], ?_⟩
            refine T_takeA (i := 0) rfl (by kernel_rfl) (by kernel_rfl) (by kernel_rfl) (by kernel_rfl) (Y_of (fun _ ⟨hb3, _⟩ => R_move rfl)) ⟨hb3, trivial⟩ rfl ?_
            refine T_takeA (i := 1) rfl (by kernel_rfl) (by kernel_rfl) (by kernel_rfl) (by kernel_rfl) (Y_of (fun _ ⟨hb3, _⟩ => R_nilck rfl)) ⟨hb3, trivial⟩ rfl ?_
            refine T_takeA (i := 2) rfl (by kernel_rfl) (by kernel_rfl) (by kernel_rfl) (by kernel_rfl) (Y_of (fun _ ⟨hb3, _⟩ => R_field (r := 0) rfl fld92_0 rfl)) ⟨hb3, trivial⟩ rfl ?_
            refine T_takeA (i := 3) rfl (by kernel_rfl) (by kernel_rfl) (by kernel_rfl) (by kernel_rfl) (Y_of (fun _ ⟨hb3, _⟩ => R_load1 rfl scl90 (hb3.cell (i := 0) rfl))) ⟨hb3, trivial⟩ rfl ?_
            refine T_takeA (i := 4) rfl (by kernel_rfl) (by kernel_rfl) (by kernel_rfl) (by kernel_rfl) (Y_of (fun _ ⟨hb3, _⟩ => R_move rfl)) ⟨hb3, trivial⟩ rfl ?_
            refine T_takeA (i := 5) rfl (by kernel_rfl) (by kernel_rfl) (by kernel_rfl) (by kernel_rfl) (Y_of (fun _ ⟨hb3, _⟩ => R_nilck rfl)) ⟨hb3, trivial⟩ rfl ?_
            refine T_takeA (i := 6) rfl (by kernel_rfl) (by kernel_rfl) (by kernel_rfl) (by kernel_rfl) (Y_of (fun _ ⟨hb3, _⟩ => R_field (r := 0) rfl fld92_0 rfl)) ⟨hb3, trivial⟩ rfl ?_
            refine T_takeA (i := 7) rfl (by kernel_rfl) (by kernel_rfl) (by kernel_rfl) (by kernel_rfl) (Y_of (fun _ ⟨hb3, _⟩ => R_load1 rfl scl90 (hb3.cell (i := 0) rfl))) ⟨hb3, trivial⟩ rfl ?_
            refine T_takeA (i := 8) rfl (by kernel_rfl) (by kernel_rfl) (by kernel_rfl) (by kernel_rfl) (Y_of (fun _ ⟨hb3, _⟩ => R_lenSl rfl slc90)) ⟨hb3, trivial⟩ rfl ?_
            refine T_all (rs := [9]) (by kernel_rfl) rfl (all1 (O_one rfl ?_))
            have ge3 : w.heap.size ≤ w7.heap.size := hB.size
            refine L_call rfl cb71 (fafter_ok (ls := (doneB b y e).l) hrl1.sli hDO.top hno hnl) rfl ?_
            rintro _ w8 ⟨hs8, A_3, c_3, rfl, ho2⟩
            replace hB := gb_tr hB hs8
            replace hOp := hOp.gb hs8
            replace hPr := hPr.gb hs8
            replace hb1 := hb1.gb hs8
            replace hb2 := hb2.gb hs8
            replace hb3 := hb3.gb hs8
            replace hrl1 := hrl1.gb hs8
            replace ho1 := own_gb ho1 hs8
            replace hDO := hDO.gb hs8
            refine L_nil (N_then ⟨fun hN_ => ⟨hb3, trivial⟩, ?_⟩)
            refine T_takeA (i := 10) rfl (by kernel_rfl) (by kernel_rfl) (by kernel_rfl) (by kernel_rfl) (Y_of (fun _ ⟨hb3, _⟩ => R_assign rfl)) ⟨hb3, trivial⟩ rfl ?_
            refine T_done (by kernel_rfl) (CalmE.normal ?_)
            refine N_then (C_seq (C_seq (C_reg rfl ?_)))
            refine L_run (R_field (r := 4) rfl fld87_4 rfl) rfl ?_
            refine L_run (R_load1 rfl scl29 (hb2.cell (i := 4) rfl)) rfl ?_
            refine L_run (R_move rfl) rfl ?_
            refine L_call rfl cb72 (fequal_ok (a := e.prs) (b := (apL ((doneB b y e).l))) hPr (own_of ho2).2.2 (by omega)) rfl ?_
            rintro _ w9 ⟨hs9, rfl⟩
            replace hB := gb_tr hB hs9
            replace hOp := hOp.gb hs9
            replace hPr := hPr.gb hs9
            replace hb1 := hb1.gb hs9
            replace hb2 := hb2.gb hs9
            replace hb3 := hb3.gb hs9
            replace hrl1 := hrl1.gb hs9
            replace ho1 := own_gb ho1 hs9
            replace hDO := hDO.gb hs9
            replace ho2 := own_gb ho2 hs9
            refine L_run (R_notD rfl) rfl ?_
            refine L_nil (N_then ?_)
            refine C_ifN rfl (fun h6 => ?_) (fun h6 => ?_)
            · refine C_seq (C_reg rfl ?_)
              refine L_run (R_assign rfl) rfl ?_
              refine L_nil (N_then (C_ret (R_then ?_)))
              refine ret1 Try.results55 rfl ?_
              have en_ : nxt b y e = (doneB b y e) := by unfold nxt; rw [if_pos he0]
              have ea_ : apH (doneB b y e) = apL (doneB b y e).l := if_pos h5
              have hnf_ : ¬ FitsB (doneB b y e) e := fun q_ => h6 (by rw [q_.2.2, ea_])
              exact ⟨hB, _, rfl, .inr ⟨by decide, by decide, fits_no en_ hnf_, (⟨(doneB b y e).l, (doneB b y e).syn, (doneB b y e).has⟩ : BkP), lostD b y e lost, ⟨_, _, _, _, hb3, hrl1, (own_lo ho1 (Nat.le_refl _))⟩, (lostD_or rfl)⟩⟩
            · refine C_skip (N_then (C_seq (C_reg rfl ?_)))
              refine L_run (R_assign rfl) rfl ?_
              refine L_nil (N_then (C_ret ?_))
              refine ret1 Try.results55 rfl ?_
              have en_ : nxt b y e = (doneB b y e) := by unfold nxt; rw [if_pos he0]
              have ea_ : apH (doneB b y e) = apL (doneB b y e).l := if_pos h5
              have ef_ : FitsB (doneB b y e) e := (show e.bat = (((doneB b y e).l).length : Int) ∧ e.syn = (doneB b y e).syn ∧ e.prs = apH (doneB b y e) from ⟨by omega, by omega, by rw [ea_]; exact h6⟩)
              have hok_ : okB b y e := ⟨by omega, ⟨fun q_ => by first | omega | exact absurd q_ hr, fun q_ => by first | exact hr | exact absurd h13 q_⟩, (fun _ => h2), by rw [en_]; exact ef_⟩
              exact ⟨hB, _, rfl, .inl ⟨rfl, hok_, by rw [en_]; unfold lostN; rw [if_pos he0]; exact ⟨_, _, _, _, hb3, hrl1, (own_lo ho1 (Nat.le_refl _))⟩⟩⟩
          · refine C_skip (N_then (C_seq (C_seq (C_reg rfl ?_))))
            refine L_run (R_field (r := 4) rfl fld87_4 rfl) rfl ?_
            refine L_run (R_load1 rfl scl29 (hb2.cell (i := 4) rfl)) rfl ?_
            refine L_run (R_move rfl) rfl ?_
            refine L_call rfl cb72 (fequal_ok (a := e.prs) (b := []) hPr (Sli.nil (t := 0) (lo := 0) (hi := 0)) (by omega)) rfl ?_
            rintro _ w10 ⟨hs10, rfl⟩
            replace hB := gb_tr hB hs10
            replace hOp := hOp.gb hs10
            replace hPr := hPr.gb hs10
            replace hb1 := hb1.gb hs10
            replace hb2 := hb2.gb hs10
            replace hb3 := hb3.gb hs10
            replace hrl1 := hrl1.gb hs10
            replace ho1 := own_gb ho1 hs10
            replace hDO := hDO.gb hs10
            refine L_run (R_notD rfl) rfl ?_
            refine L_nil (N_then ?_)
            refine C_ifN rfl (fun h7 => ?_) (fun h7 => ?_)
            · refine C_seq (C_reg rfl ?_)
              refine L_run (R_assign rfl) rfl ?_
              refine L_nil (N_then (C_ret (R_then ?_)))
              refine ret1 Try.results55 rfl ?_
              have en_ : nxt b y e = (doneB b y e) := by unfold nxt; rw [if_pos he0]
              have ea_ : apH (doneB b y e) = [] := if_neg (by rw [show (doneB b y e).has = false from h5]; decide)
              have hnf_ : ¬ FitsB (doneB b y e) e := fun q_ => h7 (by rw [q_.2.2, ea_])
              exact ⟨hB, _, rfl, .inr ⟨by decide, by decide, fits_no en_ hnf_, (⟨(doneB b y e).l, (doneB b y e).syn, (doneB b y e).has⟩ : BkP), lostD b y e lost, ⟨_, _, _, _, hb3, hrl1, (own_lo ho1 (Nat.le_refl _))⟩, (lostD_or rfl)⟩⟩
            · refine C_skip (N_then (C_seq (C_reg rfl ?_)))
              refine L_run (R_assign rfl) rfl ?_
              refine L_nil (N_then (C_ret ?_))
              refine ret1 Try.results55 rfl ?_
              have en_ : nxt b y e = (doneB b y e) := by unfold nxt; rw [if_pos he0]
              have ea_ : apH (doneB b y e) = [] := if_neg (by rw [show (doneB b y e).has = false from h5]; decide)
              have ef_ : FitsB (doneB b y e) e := (show e.bat = (((doneB b y e).l).length : Int) ∧ e.syn = (doneB b y e).syn ∧ e.prs = apH (doneB b y e) from ⟨by omega, by omega, by rw [ea_]; exact h7⟩)
              have hok_ : okB b y e := ⟨by omega, ⟨fun q_ => by first | omega | exact absurd q_ hr, fun q_ => by first | exact hr | exact absurd h13 q_⟩, (fun _ => h2), by rw [en_]; exact ef_⟩
              exact ⟨hB, _, rfl, .inl ⟨rfl, hok_, by rw [en_]; unfold lostN; rw [if_pos he0]; exact ⟨_, _, _, _, hb3, hrl1, (own_lo ho1 (Nat.le_refl _))⟩⟩⟩
    · have hBz_ := hB.size
      have lt6 := hb1.lt
      have lt7 := hb2.lt
      refine L_call rfl cb70 (done_n (J := (fun w_ => Sli 0 0 w.heap.size w_ y.oa (fl encOp y.p.ops) ∧ Sli 0 0 w.heap.size w_ e.pa (fl encK e.prs) ∧ DeepO w.heap.size w_ b.l ∧ Blk w_ g1 86 [.int .i64 y.p.kind, .int .i64 y.p.n, .slice y.oa y.p.ops.length y.oc, .slice y.ka y.p.keep.length y.kc, .int .i64 y.p.torn, .int .i64 y.p.cut] ∧ Blk w_ g2 87 [.int .i64 e.kind, .int .i64 e.e, .int .i64 e.bat, .int .i64 e.syn, .slice e.pa e.prs.length e.pc] ∧ True)) h2 ⟨_, _, _, _, hbk, hR, hX⟩ hB gb0 hg.1 (by have := hg.2.1; omega) (by omega) ⟨hOp, hPr, hDO, hb1, hb2, trivial⟩ (by rintro w_ w2_ ⟨hOp, hPr, hDO, hb1, hb2, _⟩ hs_; replace hOp := hOp.gb hs_; replace hPr := hPr.gb hs_; replace hDO := hDO.gb hs_; replace hb1 := hb1.gb hs_; replace hb2 := hb2.gb hs_; exact ⟨hOp, hPr, hDO, hb1, hb2, trivial⟩) (by rintro w_ w2_ g_ T_ cs_ ⟨hOp, hPr, hDO, hb1, hb2, _⟩ hb_ hg_ hs_; replace hOp := hOp.old hs_ (by omega); replace hPr := hPr.old hs_ (by omega); replace hDO := hDO.old hs_ (by omega); replace hb1 := hb1.grown hs_ (by intro e; injection e; omega); replace hb2 := hb2.grown hs_ (by intro e; injection e; omega); exact ⟨hOp, hPr, hDO, hb1, hb2, trivial⟩) (by rintro w_ w2_ cs_ ⟨hOp, hPr, hDO, hb1, hb2, _⟩ hb_ hs_; replace hOp := hOp.old hs_ gb0; replace hPr := hPr.old hs_ gb0; replace hDO := hDO.old hs_ gb0; replace hb1 := hb1.grown hs_ (ne_gt lt1); replace hb2 := hb2.grown hs_ (ne_gt lt2); exact ⟨hOp, hPr, hDO, hb1, hb2, trivial⟩) (by rintro w_ w2_ v_ n_ vs_ ⟨hOp, hPr, hDO, hb1, hb2, _⟩ ho_ hs_; replace hOp := hOp.grown hs_ (fun k hk => .inr (Nat.le_trans (Nat.le_refl _) (World.ownsRow.lt ho_ k hk).1)); replace hPr := hPr.grown hs_ (fun k hk => .inr (Nat.le_trans (Nat.le_refl _) (World.ownsRow.lt ho_ k hk).1)); replace hDO := hDO.own ho_ (Nat.le_refl _) hs_; replace hb1 := blk_own hb1 ho_ rfl hs_; replace hb2 := blk_own hb2 ho_ rfl hs_; exact ⟨hOp, hPr, hDO, hb1, hb2, trivial⟩) (by rintro w_ w2_ v_ n_ vs_ ⟨hOp, hPr, hDO, hb1, hb2, _⟩ ho_ hs_; replace hOp := hOp.grown hs_ (fun k hk => .inr (Nat.le_trans (Nat.le_refl _) (World.ownsRow.lt ho_ k hk).1)); replace hPr := hPr.grown hs_ (fun k hk => .inr (Nat.le_trans (Nat.le_refl _) (World.ownsRow.lt ho_ k hk).1)); replace hDO := hDO.own ho_ (Nat.le_refl _) hs_; replace hb1 := blk_own hb1 ho_ rfl hs_; replace hb2 := blk_own hb2 ho_ rfl hs_; exact ⟨hOp, hPr, hDO, hb1, hb2, trivial⟩)) rfl ?_
      rintro _ w11 ⟨hB, ⟨hOp, hPr, hDO, hb1, hb2, _⟩, wz, bz, lz, rfl, hz0, hz6, ⟨A_4, c_4, A_5, c_5, hb4, hrl2, ho3⟩, hLO⟩
      refine L_run (R_assign rfl) rfl ?_
      refine L_nil (N_then (C_seq (C_reg rfl ?_)))
      refine L_run (R_move rfl) rfl ?_
      refine L_run (R_neq rfl rfl) rfl ?_
      refine L_nil (N_then (C_condT rfl (decide_eq_true hz0) (C_seq (C_reg rfl ?_))))
      refine L_run (R_move rfl) rfl ?_
      refine L_run (R_assign rfl) rfl ?_
      refine L_nil (N_then (C_ret (R_then ?_)))
      refine ret1 Try.results55 rfl ?_
      exact ⟨hB, _, rfl, .inr ⟨hz0, hz6, (fun q_ => h2 (q_.2.2.1 he0)), (⟨bz.l, bz.syn, bz.has⟩ : BkP), lz, ⟨_, _, _, _, hb4, hrl2, (own_lo ho3 (Nat.le_refl _))⟩, hLO⟩⟩

end Go.Proofs.Ytbmohojdlgedpaa
