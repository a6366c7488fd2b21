/-
  Contracts of the reference 47: Of.
-/
import Derived.Test.YtbmohojdlgedpaaKg
namespace Go.Proofs.Ytbmohojdlgedpaa
open Go.RowKit Gw Pl
set_option linter.unusedVariables false
set_option linter.unusedSimpArgs false
theorem agg27 : aggB Try.prog 27 3 = true := by kernel_rfl
theorem cb41 : callB Try.prog 41 = true := by kernel_rfl
theorem cb42 : callB Try.prog 42 = true := by kernel_rfl
theorem fld27_2 : fldB Try.prog 27 2 2 = true := by kernel_rfl
theorem slc22 : slcB Try.prog 22 27 3 40 = true := by kernel_rfl
theorem sz27 : szB Try.prog 27 3 = true := by kernel_rfl
theorem zer27 : (Try.prog.info? 27).bind (·.zero) = some (.agg #[.int .i64 0, .int .i64 0, .slice none 0 0]) := by kernel_rfl
/-- Rows of changes that stand in a book, all below hi. -/
def FrzH (hi : Nat) (w : World) (E : List Ent) : Prop := ∀ y ∈ E, Sli 34 0 hi w y.la (fl encC y.ch)
section
variable {hi g T : Nat} {w w' : World} {E : List Ent} {cs : List Value}
theorem FrzH.gb (h : FrzH hi w E) (hg : w.grownBy w' none) : FrzH hi w' E := fun y hy => (h y hy).gb hg
theorem FrzH.other (h : FrzH hi w E) (hb : Blk w g T cs) (hT : Nat.beq 34 T = false) (hg : w.grownBy w' (some g)) : FrzH hi w' E := fun y hy => (h y hy).other hb rfl hT hg
theorem FrzH.old (h : FrzH hi w E) (hg : w.grownBy w' (some g)) (hr : hi ≤ g) : FrzH hi w' E := fun y hy => (h y hy).old hg hr
theorem FrzH.own {base t sz m : Nat} {v : Value} {us : List Value} (h : FrzH hi w E) (ho : w.ownsRow base t sz v m us) (hb : hi ≤ base) (hg : w.grownBy w' v.ownBlock) : FrzH hi w' E := fun y hy => (h y hy).grown hg (fun k hk => .inr (Nat.le_trans hb (World.ownsRow.lt ho k hk).1))
theorem FrzH.ownT {base t sz m : Nat} {v : Value} {us : List Value} (h : FrzH hi w E) (ho : w.ownsRow base t sz v m us) (hT : Nat.beq 34 t = false) (hg : w.grownBy w' v.ownBlock) : FrzH hi w' E := fun y hy => (h y hy).otherO ho rfl hT hg
theorem FrzH.top (h : FrzH hi w E) : FrzH w.heap.size w E := fun y hy => (h y hy).top
theorem FrzH.snoc {base sz c : Nat} {A : Option Addr} {xs : List Chg} {lsn ch : Int} (h : FrzH hi w E) (ho : w.ownsRow base 34 sz (.slice A xs.length c) xs.length (fl encC xs)) : FrzH w.heap.size w (E ++ [⟨lsn, ch, A, c, xs⟩]) :=
  fun y hy => (List.mem_append.1 hy).elim (fun hy => (h y hy).top) (fun hy => by rw [List.mem_singleton.1 hy]; exact (own_of ho).2.2.zero)
end
def chgG (l : List RecC) (c : Int) (p j : Nat) : List Chg := if j ≤ p then [] else chgR l c j
section
variable {l : List RecC} {c : Int} {p j : Nat}
theorem last_at : ∀ {i : Nat} (_ : i ≤ l.length) (_ : lastR l c i = (p : Int)), ∃ h : p < l.length, p < i ∧ (l[p]).chain = c ∧ endsK (l[p]).kind ∧ ∀ j (_ : p < j) (_ : j < i) (hj : j < l.length), ¬ ((l[j]).chain = c ∧ endsK (l[j]).kind)
  | 0, _, h => by have h2 : (-1 : Int) = (p : Int) := h; omega
  | i + 1, hi, h => by
    rw [lastR_s (by omega)] at h
    split at h
    · rename_i he
      obtain rfl : i = p := by omega
      exact ⟨by omega, by omega, he.1, he.2, fun j h1 h2 => by omega⟩
    · rename_i he
      obtain ⟨h1, h2, h3, h4, h5⟩ := last_at (i := i) (by omega) h
      refine ⟨h1, by omega, h3, h4, fun j q1 q2 hj => ?_⟩
      rcases Nat.lt_or_ge j i with q | q
      · exact h5 j q1 q hj
      · obtain rfl : j = i := by omega
        exact he
theorem chgG_go {i : Nat} (hi : i ≤ l.length) (h : lastR l c i = (p : Int)) (hp : p ≤ j) (hj : j < i) : chgG l c p (j + 1) = if (l[j]).chain = c ∧ ((l[j]).kind = 6 ∨ (l[j]).kind = 7) then chgG l c p j ++ [(dec (l[j]).data).1] else chgG l c p j := by
  obtain ⟨h1, h2, h3, h4, h5⟩ := last_at hi h
  have e1 : chgG l c p (j + 1) = chgR l c (j + 1) := if_neg (by omega)
  rcases Nat.lt_or_ge p j with q | q
  · rw [e1, chgR_s (by omega), if_neg (h5 j q hj (by omega)), show chgG l c p j = chgR l c j from if_neg (by omega)]
  · obtain rfl : p = j := by omega
    rw [e1, chgR_s (by omega), if_pos ⟨h3, h4⟩, if_neg (fun q => by have := q.2; unfold endsK at h4; omega), show chgG l c p p = [] from if_pos (Nat.le_refl _)]
theorem chgG_all {i : Nat} (hi : i ≤ l.length) (h : lastR l c i = (p : Int)) : chgG l c p i = chgR l c i := by
  obtain ⟨h1, h2, _⟩ := last_at hi h
  exact if_neg (by omega)
theorem chgG_0 : chgG l c p p = [] := if_pos (Nat.le_refl _)
theorem chgG_len : (chgG l c p j).length ≤ j := by
  unfold chgG
  split
  · exact Nat.zero_le _
  · exact chgR_len
theorem bookR_no {i : Nat} (h : i < l.length) (hk : (l[i]).kind ≠ 8 ∨ (l[i]).chain = 0) : bookR l (i + 1) = bookR l i := by rw [bookR_s h, if_neg (by omega)]
theorem bookR_co {i : Nat} {E : List Ent} {A : Option Addr} {k : Nat} (h : i < l.length) (hk : (l[i]).kind = 8) (hc : (l[i]).chain ≠ 0) (hE : E.map keyE = bookR l i) : (E ++ [(⟨(l[i]).lsn, (l[i]).chain, A, k, chgR l (l[i]).chain i⟩ : Ent)]).map keyE = bookR l (i + 1) := by
  rw [bookR_s h, if_pos ⟨hc, hk⟩, List.map_append, hE]; rfl
end
theorem rof_ok {w : World} {A : Option Addr} {c : Nat} {l : List RecC} (hS0 : Sli 0 0 w.heap.size w A (fl encRC l)) (hD0 : DeepRC w.heap.size w l) (hF : FewR l) :
    Runs Try.prog 22 #[.slice A l.length c] w (fun v_ w' => w.grownBy w' none ∧ ((okB l l.length = true ∧ ∃ Ao co E, v_ = .tuple #[.slice Ao (List.length E) co, .int .i64 0] ∧ World.ownsRow w' w.heap.size 27 3 (.slice Ao E.length co) E.length (fl encEn E) ∧ FrzE w' E ∧ E.map keyE = bookR l l.length) ∨ (¬ okB l l.length = true ∧ v_ = .tuple #[.slice none 0 0, .int .i64 12]))) := by
 have hB := gb_refl w none
 have hS := hS0
 have hD := hD0
 have hl100 := hF.2
 refine enter Try.func22 Try.ntmps22 rfl rfl ?_
 refine C_seq (C_reg rfl ?_)
 refine L_run (R_assign rfl) rfl ?_
 refine L_run (R_assign rfl) rfl ?_
 refine L_nil (N_then (C_seq (C_reg rfl ?_)))
 refine L_run (R_assign rfl) rfl ?_
 refine L_nil (N_then (C_seq (C_seq (C_reg rfl ?_))))
 refine L_run (R_assign rfl) rfl ?_
 refine L_nil (N_then (C_block ?_))
 have hhz0 : w.heap.size ≤ w.heap.size := Nat.le_refl _
 refine C_loop (fun m_ a_ w_ => ∃ (σ_ : Nat → Value) (i : Nat) (Aj : Option Addr) (cj : Nat) (E : List Ent) (hz : Nat), a_ = Ac 145 σ_ [] [(0, .slice A l.length c), (4, .slice Aj E.length cj), (5, .int .i64 (i : Int))] ∧ w.grownBy w_ none ∧ Sli 0 0 w.heap.size w_ A (fl encRC l) ∧ DeepRC w.heap.size w_ l ∧ World.ownsRow w_ w.heap.size 27 3 (.slice Aj E.length cj) E.length (fl encEn E) ∧ FrzH hz w_ E ∧ hz ≤ w_.heap.size ∧ (i ≤ l.length) ∧ (okB l i = true) ∧ (E.map keyE = bookR l i) ∧ (w.heap.size ≤ hz) ∧ l.length - i = m_) (l.length - 0) ?_ ?_
 ·exact ⟨_, 0, none, 0, [], w.heap.size, Ac_frg ⟨rfl, (agr rfl (by first | rfl | (congr 1; omega) | (congr 1 <;> omega))), (agr rfl (by first | rfl | (congr 1; omega) | (congr 1 <;> omega))), trivial⟩, hB, hS, hD, (own_nil _ _ _ _), (fun y hy => (by cases hy)), (Nat.le_refl _), (Nat.zero_le _), rfl, rfl, hB.size, rfl⟩
 ·clear hB
  clear hS hD
  rintro m_ a_ w1 ⟨σ_, i, Aj, cj, E, hz, rfl, hB, hS, hD, hoP, hFz, hhz, hi_, hok, hkE, hzw, rfl⟩
  refine C_seq (C_seq (C_reg rfl ?_))
  refine L_run (R_move rfl) rfl ?_
  refine L_run (R_move rfl) rfl ?_
  refine L_run (R_lenSl rfl slc56) rfl ?_
  refine L_run (R_lss rfl rfl) rfl ?_
  refine L_nil (N_then ?_)
  refine C_if rfl (fun h1 => ?_) (fun h1 => ?_)
  ·refine C_skip (N_then (C_seq (C_block (C_seq (C_reg rfl ?_)))))
   have hli : i < l.length := by omega
   have hd6 := hF.1 _ (List.getElem_mem hli)
   have hcap := hD0.cap hli
   refine L_run (R_move rfl) rfl ?_
   refine L_run (R_move rfl) rfl ?_
   have hl1 : i < l.length := by first | omega | (simp; omega)
   refine T_index (xs := l) (i := i) EncRC rfl rfl (by first | rfl | omega) slc56 hl1 hS rfl ?_
   intro g1 o1 ha1
   refine L_run (R_loadA (vs := [.int .i64 ((l[i]).kind), .int .i64 ((l[i]).chain), .int .i64 ((l[i]).lsn), .int .i64 ((l[i]).prev), .slice ((l[i]).da) ((l[i]).data.length) ((l[i]).dc)]) rfl agg65 (At.pre ha1 rfl) rfl) rfl ?_
   refine L_alloc (cs := [.int .i64 0, .int .i64 0, .int .i64 0, .int .i64 0, .slice none 0 0]) zer65 rfl rfl ?_
   intro g2 w2 eg1 hb1 hs1 hz1
   have ge1 : w.heap.size ≤ g2 := eg_ge hB eg1
   have lw1 : hz ≤ g2 := (Eq.symm eg1) ▸ hhz
   replace hB := gb_tr hB hs1
   replace hS := hS.gb hs1
   replace hD := hD.gb hs1
   replace hoP := own_gb hoP hs1
   replace hFz := hFz.gb hs1
   replace hhz := Nat.le_trans hhz hs1.size
   replace ha1 := At.gb ha1 hs1 (by simp)
   refine L_stA (vs := [.int .i64 ((l[i]).kind), .int .i64 ((l[i]).chain), .int .i64 ((l[i]).lsn), .int .i64 ((l[i]).prev), .slice ((l[i]).da) ((l[i]).data.length) ((l[i]).dc)]) rfl rfl rfl sz65 rfl hb1 rfl ?_
   intro w3 hb2 hs2 hz2
   replace hB := gb_trg hB hs2 ge1
   replace hS := hS.old hs2 ge1
   replace hD := hD.old hs2 ge1
   replace hoP := own_other hoP hb1 rfl hs2
   replace hFz := hFz.other hb1 rfl hs2
   replace hhz := Nat.le_trans hhz hs2.size
   refine L_nil (N_then (C_seq (C_seq (C_reg rfl ?_))))
   refine L_run (R_field (r := 1) rfl fld65_1 rfl) rfl ?_
   refine L_run (R_load1 rfl scl3 (hb2.cell (i := 1) rfl)) rfl ?_
   refine L_run (R_eql rfl rfl) rfl ?_
   refine L_run (R_move rfl) rfl ?_
   refine L_splitD (p := (l[i]).chain = 0) (fun h2 => ?_) (fun h2 => ?_)
   ·refine L_no rfl rfl rfl (decide_eq_true h2) rfl ?_
    refine L_no rfl rfl rfl (decide_eq_true h2) rfl ?_
    refine L_no rfl rfl rfl (decide_eq_true h2) rfl ?_
    refine L_run (R_pickT rfl (decide_eq_true h2) rfl) rfl ?_
    refine L_nil (N_then (C_condT rfl rfl (C_exit (X_then (X_hit (N_then (C_reg rfl ?_)))))))
    refine L_run (R_move rfl) rfl ?_
    refine L_run (R_add64 rfl rfl (by omega)) rfl ?_
    refine L_run (R_assign rfl) rfl ?_
    refine L_nil (N_then ?_)
    have hcn : ¬ ((l[i]).chain ≠ 0 ∧ (l[i]).kind ≠ 1) := by omega
    exact ⟨l.length - (i + 1), by omega, _, (i + 1), Aj, cj, E, w3.heap.size, Ac_frg ⟨rfl, rfl, (agr rfl (by first | rfl | (congr 1; omega) | (congr 1 <;> omega))), trivial⟩, hB, hS, hD, (own_lo hoP (Nat.le_refl _)), hFz.top, (Nat.le_refl _), (by omega), (okB_skip hli hcn hok), (by rw [bookR_no hli (by omega)]; exact hkE), hB.size, rfl⟩
   ·refine L_yes rfl rfl rfl (decide_eq_false h2) ?_
    refine L_run (R_field (r := 0) rfl fld65_0 rfl) rfl ?_
    refine L_yes rfl rfl rfl (decide_eq_false h2) ?_
    refine L_run (R_load1 rfl scl3 (hb2.cell (i := 0) rfl)) rfl ?_
    refine L_yes rfl rfl rfl (decide_eq_false h2) ?_
    refine L_run (R_eql rfl rfl) rfl ?_
    refine L_run (R_pickF rfl (decide_eq_false h2) rfl) rfl ?_
    refine L_nil (N_then ?_)
    refine C_if rfl (fun h3 => ?_) (fun h3 => ?_)
    ·refine C_exit (X_then (X_hit (N_then (C_reg rfl ?_))))
     refine L_run (R_move rfl) rfl ?_
     refine L_run (R_add64 rfl rfl (by omega)) rfl ?_
     refine L_run (R_assign rfl) rfl ?_
     refine L_nil (N_then ?_)
     have hcn : ¬ ((l[i]).chain ≠ 0 ∧ (l[i]).kind ≠ 1) := by omega
     exact ⟨l.length - (i + 1), by omega, _, (i + 1), Aj, cj, E, w3.heap.size, Ac_frg ⟨rfl, rfl, (agr rfl (by first | rfl | (congr 1; omega) | (congr 1 <;> omega))), trivial⟩, hB, hS, hD, (own_lo hoP (Nat.le_refl _)), hFz.top, (Nat.le_refl _), (by omega), (okB_skip hli hcn hok), (by rw [bookR_no hli (by omega)]; exact hkE), hB.size, rfl⟩
    ·refine C_skip (N_then (C_seq (C_seq ?_)))
     refine C_draw2 rfl mix ?_
     intro w4 hs3 hz3
     replace hB := gb_tr hB hs3
     replace hS := hS.gb hs3
     replace hD := hD.gb hs3
     replace hoP := own_gb hoP hs3
     replace hFz := hFz.gb hs3
     replace hhz := Nat.le_trans hhz hs3.size
     replace hb2 := hb2.gb hs3
     refine ⟨fun W_ => Blk W_ g2 65 [.int .i64 ((l[i]).kind), .int .i64 ((l[i]).chain), .int .i64 ((l[i]).lsn), .int .i64 ((l[i]).prev), .slice ((l[i]).da) ((l[i]).data.length) ((l[i]).dc)] ∧ True, [0, 1, 2, 3, 4, 5, 6, 7, 8, 9, 10, 11, 12, 13, 14, 15, 16, 17, 18, 19, 20, 21, 22, 23, 24, 25, 26, 27, 29, 30, 31, 32, 33], ?_⟩
     refine T_tk (i := 0) rfl (Y_of (fun _ _ => R_field (r := 1) rfl fld65_1 rfl)) ⟨hb2, trivial⟩ rfl ?_
     refine T_tk (i := 1) rfl (Y_of (fun _ ⟨hb2, _⟩ => R_load1 rfl scl3 (hb2.cell (i := 1) rfl))) ⟨hb2, trivial⟩ rfl ?_
     refine T_tk (i := 2) rfl (Y_of (fun _ _ => R_lss rfl rfl)) ⟨hb2, trivial⟩ rfl ?_
     refine T_tk (i := 3) rfl (Y_of (fun _ _ => R_move rfl)) ⟨hb2, trivial⟩ rfl ?_
     by_cases h4 : (l[i]).chain < 0
     ·refine T_tk (i := 4) rfl (Y_no rfl rfl rfl (decide_eq_true h4)) ⟨hb2, trivial⟩ rfl ?_
      refine T_tk (i := 5) rfl (Y_no rfl rfl rfl (decide_eq_true h4)) ⟨hb2, trivial⟩ rfl ?_
      refine T_tk (i := 6) rfl (Y_no rfl rfl rfl (decide_eq_true h4)) ⟨hb2, trivial⟩ rfl ?_
      refine T_tk (i := 7) rfl (Y_of (fun _ _ => R_pickT rfl (decide_eq_true h4) rfl)) ⟨hb2, trivial⟩ rfl ?_
      refine T_tk (i := 8) rfl (Y_of (fun _ _ => R_move rfl)) ⟨hb2, trivial⟩ rfl ?_
      refine T_tk (i := 9) rfl (Y_no rfl rfl rfl rfl) ⟨hb2, trivial⟩ rfl ?_
      refine T_tk (i := 10) rfl (Y_no rfl rfl rfl rfl) ⟨hb2, trivial⟩ rfl ?_
      refine T_tk (i := 11) rfl (Y_no rfl rfl rfl rfl) ⟨hb2, trivial⟩ rfl ?_
      refine T_tk (i := 12) rfl (Y_of (fun _ _ => R_pickT rfl rfl rfl)) ⟨hb2, trivial⟩ rfl ?_
      refine T_tk (i := 13) rfl (Y_of (fun _ _ => R_move rfl)) ⟨hb2, trivial⟩ rfl ?_
      refine T_tk (i := 14) rfl (Y_no rfl rfl rfl rfl) ⟨hb2, trivial⟩ rfl ?_
      refine T_tk (i := 15) rfl (Y_no rfl rfl rfl rfl) ⟨hb2, trivial⟩ rfl ?_
      refine T_tk (i := 16) rfl (Y_no rfl rfl rfl rfl) ⟨hb2, trivial⟩ rfl ?_
      refine T_tk (i := 17) rfl (Y_of (fun _ _ => R_pickT rfl rfl rfl)) ⟨hb2, trivial⟩ rfl ?_
      refine T_tk (i := 18) rfl (Y_of (fun _ _ => R_move rfl)) ⟨hb2, trivial⟩ rfl ?_
      refine T_tk (i := 19) rfl (Y_no rfl rfl rfl rfl) ⟨hb2, trivial⟩ rfl ?_
      refine T_tk (i := 20) rfl (Y_no rfl rfl rfl rfl) ⟨hb2, trivial⟩ rfl ?_
      refine T_tk (i := 21) rfl (Y_no rfl rfl rfl rfl) ⟨hb2, trivial⟩ rfl ?_
      refine T_tk (i := 22) rfl (Y_of (fun _ _ => R_pickT rfl rfl rfl)) ⟨hb2, trivial⟩ rfl ?_
      refine T_tk (i := 23) rfl (Y_of (fun _ _ => R_move rfl)) ⟨hb2, trivial⟩ rfl ?_
      refine T_tk (i := 24) rfl (Y_no rfl rfl rfl rfl) ⟨hb2, trivial⟩ rfl ?_
      refine T_tk (i := 25) rfl (Y_no rfl rfl rfl rfl) ⟨hb2, trivial⟩ rfl ?_
      refine T_tk (i := 26) rfl (Y_no rfl rfl rfl rfl) ⟨hb2, trivial⟩ rfl ?_
      refine T_tk (i := 27) rfl (Y_no rfl rfl rfl rfl) ⟨hb2, trivial⟩ rfl ?_
      refine T_tk (i := 29) rfl (Y_no rfl rfl rfl rfl) ⟨hb2, trivial⟩ rfl ?_
      refine T_tk (i := 30) rfl (Y_no rfl rfl rfl rfl) ⟨hb2, trivial⟩ rfl ?_
      refine T_tk (i := 31) rfl (Y_no rfl rfl rfl rfl) ⟨hb2, trivial⟩ rfl ?_
      refine T_all (rs := [28]) (by kernel_rfl) rfl (all1 (O_one rfl ?_))
      refine L_no rfl rfl rfl rfl rfl ?_
      refine L_nil (N_then ⟨fun hN_ => ⟨hb2, trivial⟩, ?_⟩)
      refine T_tk (i := 32) rfl (Y_no rfl rfl rfl rfl) ⟨hb2, trivial⟩ rfl ?_
      refine T_tk (i := 33) rfl (Y_of (fun _ _ => R_pickT rfl rfl rfl)) ⟨hb2, trivial⟩ rfl ?_
      refine T_done (by kernel_rfl) (CalmE.normal ?_)
      refine N_then (C_condT rfl rfl (C_seq (C_reg rfl ?_)))
      refine L_run (R_assign rfl) rfl ?_
      refine L_run (R_assign rfl) rfl ?_
      refine L_nil (N_then (C_ret (R_then (R_in (R_then (R_then (R_in (R_then ?_))))))))
      refine ret2 Try.results22 rfl rfl ?_
      have hno_ : ¬ okY (l[i]) (openR l (l[i]).chain i) := fun q_ => by
        obtain ⟨q1, q2, q3, q4, q5, q6, q7⟩ := q_
        first | omega | (have h7 := q7 (by omega); omega)
      exact ⟨hB, .inr ⟨by rw [okB_stop hli (by omega) hno_]; decide, rfl⟩⟩
     ·refine T_tk (i := 4) rfl (Y_yes rfl rfl rfl (decide_eq_false h4) (fun _ _ => R_field (r := 1) rfl fld65_1 rfl)) ⟨hb2, trivial⟩ rfl ?_
      refine T_tk (i := 5) rfl (Y_yes rfl rfl rfl (decide_eq_false h4) (fun _ ⟨hb2, _⟩ => R_load1 rfl scl3 (hb2.cell (i := 1) rfl))) ⟨hb2, trivial⟩ rfl ?_
      refine T_tk (i := 6) rfl (Y_yes rfl rfl rfl (decide_eq_false h4) (fun _ _ => R_gtr rfl rfl)) ⟨hb2, trivial⟩ rfl ?_
      refine T_tk (i := 7) rfl (Y_of (fun _ _ => R_pickF rfl (decide_eq_false h4) rfl)) ⟨hb2, trivial⟩ rfl ?_
      refine T_tk (i := 8) rfl (Y_of (fun _ _ => R_move rfl)) ⟨hb2, trivial⟩ rfl ?_
      by_cases h5 : 3 < (l[i]).chain
      ·refine T_tk (i := 9) rfl (Y_no rfl rfl rfl (decide_eq_true h5)) ⟨hb2, trivial⟩ rfl ?_
       refine T_tk (i := 10) rfl (Y_no rfl rfl rfl (decide_eq_true h5)) ⟨hb2, trivial⟩ rfl ?_
       refine T_tk (i := 11) rfl (Y_no rfl rfl rfl (decide_eq_true h5)) ⟨hb2, trivial⟩ rfl ?_
       refine T_tk (i := 12) rfl (Y_of (fun _ _ => R_pickT rfl (decide_eq_true h5) rfl)) ⟨hb2, trivial⟩ rfl ?_
       refine T_tk (i := 13) rfl (Y_of (fun _ _ => R_move rfl)) ⟨hb2, trivial⟩ rfl ?_
       refine T_tk (i := 14) rfl (Y_no rfl rfl rfl rfl) ⟨hb2, trivial⟩ rfl ?_
       refine T_tk (i := 15) rfl (Y_no rfl rfl rfl rfl) ⟨hb2, trivial⟩ rfl ?_
       refine T_tk (i := 16) rfl (Y_no rfl rfl rfl rfl) ⟨hb2, trivial⟩ rfl ?_
       refine T_tk (i := 17) rfl (Y_of (fun _ _ => R_pickT rfl rfl rfl)) ⟨hb2, trivial⟩ rfl ?_
       refine T_tk (i := 18) rfl (Y_of (fun _ _ => R_move rfl)) ⟨hb2, trivial⟩ rfl ?_
       refine T_tk (i := 19) rfl (Y_no rfl rfl rfl rfl) ⟨hb2, trivial⟩ rfl ?_
       refine T_tk (i := 20) rfl (Y_no rfl rfl rfl rfl) ⟨hb2, trivial⟩ rfl ?_
       refine T_tk (i := 21) rfl (Y_no rfl rfl rfl rfl) ⟨hb2, trivial⟩ rfl ?_
       refine T_tk (i := 22) rfl (Y_of (fun _ _ => R_pickT rfl rfl rfl)) ⟨hb2, trivial⟩ rfl ?_
       refine T_tk (i := 23) rfl (Y_of (fun _ _ => R_move rfl)) ⟨hb2, trivial⟩ rfl ?_
       refine T_tk (i := 24) rfl (Y_no rfl rfl rfl rfl) ⟨hb2, trivial⟩ rfl ?_
       refine T_tk (i := 25) rfl (Y_no rfl rfl rfl rfl) ⟨hb2, trivial⟩ rfl ?_
       refine T_tk (i := 26) rfl (Y_no rfl rfl rfl rfl) ⟨hb2, trivial⟩ rfl ?_
       refine T_tk (i := 27) rfl (Y_no rfl rfl rfl rfl) ⟨hb2, trivial⟩ rfl ?_
       refine T_tk (i := 29) rfl (Y_no rfl rfl rfl rfl) ⟨hb2, trivial⟩ rfl ?_
       refine T_tk (i := 30) rfl (Y_no rfl rfl rfl rfl) ⟨hb2, trivial⟩ rfl ?_
       refine T_tk (i := 31) rfl (Y_no rfl rfl rfl rfl) ⟨hb2, trivial⟩ rfl ?_
       refine T_all (rs := [28]) (by kernel_rfl) rfl (all1 (O_one rfl ?_))
       refine L_no rfl rfl rfl rfl rfl ?_
       refine L_nil (N_then ⟨fun hN_ => ⟨hb2, trivial⟩, ?_⟩)
       refine T_tk (i := 32) rfl (Y_no rfl rfl rfl rfl) ⟨hb2, trivial⟩ rfl ?_
       refine T_tk (i := 33) rfl (Y_of (fun _ _ => R_pickT rfl rfl rfl)) ⟨hb2, trivial⟩ rfl ?_
       refine T_done (by kernel_rfl) (CalmE.normal ?_)
       refine N_then (C_condT rfl rfl (C_seq (C_reg rfl ?_)))
       refine L_run (R_assign rfl) rfl ?_
       refine L_run (R_assign rfl) rfl ?_
       refine L_nil (N_then (C_ret (R_then (R_in (R_then (R_then (R_in (R_then ?_))))))))
       refine ret2 Try.results22 rfl rfl ?_
       have hno_ : ¬ okY (l[i]) (openR l (l[i]).chain i) := fun q_ => by
         obtain ⟨q1, q2, q3, q4, q5, q6, q7⟩ := q_
         first | omega | (have h7 := q7 (by omega); omega)
       exact ⟨hB, .inr ⟨by rw [okB_stop hli (by omega) hno_]; decide, rfl⟩⟩
      ·refine T_tk (i := 9) rfl (Y_yes rfl rfl rfl (decide_eq_false h5) (fun _ _ => R_field (r := 0) rfl fld65_0 rfl)) ⟨hb2, trivial⟩ rfl ?_
       refine T_tk (i := 10) rfl (Y_yes rfl rfl rfl (decide_eq_false h5) (fun _ ⟨hb2, _⟩ => R_load1 rfl scl3 (hb2.cell (i := 0) rfl))) ⟨hb2, trivial⟩ rfl ?_
       refine T_tk (i := 11) rfl (Y_yes rfl rfl rfl (decide_eq_false h5) (fun _ _ => R_lss rfl rfl)) ⟨hb2, trivial⟩ rfl ?_
       refine T_tk (i := 12) rfl (Y_of (fun _ _ => R_pickF rfl (decide_eq_false h5) rfl)) ⟨hb2, trivial⟩ rfl ?_
       refine T_tk (i := 13) rfl (Y_of (fun _ _ => R_move rfl)) ⟨hb2, trivial⟩ rfl ?_
       by_cases h6 : (l[i]).kind < 5
       ·refine T_tk (i := 14) rfl (Y_no rfl rfl rfl (decide_eq_true h6)) ⟨hb2, trivial⟩ rfl ?_
        refine T_tk (i := 15) rfl (Y_no rfl rfl rfl (decide_eq_true h6)) ⟨hb2, trivial⟩ rfl ?_
        refine T_tk (i := 16) rfl (Y_no rfl rfl rfl (decide_eq_true h6)) ⟨hb2, trivial⟩ rfl ?_
        refine T_tk (i := 17) rfl (Y_of (fun _ _ => R_pickT rfl (decide_eq_true h6) rfl)) ⟨hb2, trivial⟩ rfl ?_
        refine T_tk (i := 18) rfl (Y_of (fun _ _ => R_move rfl)) ⟨hb2, trivial⟩ rfl ?_
        refine T_tk (i := 19) rfl (Y_no rfl rfl rfl rfl) ⟨hb2, trivial⟩ rfl ?_
        refine T_tk (i := 20) rfl (Y_no rfl rfl rfl rfl) ⟨hb2, trivial⟩ rfl ?_
        refine T_tk (i := 21) rfl (Y_no rfl rfl rfl rfl) ⟨hb2, trivial⟩ rfl ?_
        refine T_tk (i := 22) rfl (Y_of (fun _ _ => R_pickT rfl rfl rfl)) ⟨hb2, trivial⟩ rfl ?_
        refine T_tk (i := 23) rfl (Y_of (fun _ _ => R_move rfl)) ⟨hb2, trivial⟩ rfl ?_
        refine T_tk (i := 24) rfl (Y_no rfl rfl rfl rfl) ⟨hb2, trivial⟩ rfl ?_
        refine T_tk (i := 25) rfl (Y_no rfl rfl rfl rfl) ⟨hb2, trivial⟩ rfl ?_
        refine T_tk (i := 26) rfl (Y_no rfl rfl rfl rfl) ⟨hb2, trivial⟩ rfl ?_
        refine T_tk (i := 27) rfl (Y_no rfl rfl rfl rfl) ⟨hb2, trivial⟩ rfl ?_
        refine T_tk (i := 29) rfl (Y_no rfl rfl rfl rfl) ⟨hb2, trivial⟩ rfl ?_
        refine T_tk (i := 30) rfl (Y_no rfl rfl rfl rfl) ⟨hb2, trivial⟩ rfl ?_
        refine T_tk (i := 31) rfl (Y_no rfl rfl rfl rfl) ⟨hb2, trivial⟩ rfl ?_
        refine T_all (rs := [28]) (by kernel_rfl) rfl (all1 (O_one rfl ?_))
        refine L_no rfl rfl rfl rfl rfl ?_
        refine L_nil (N_then ⟨fun hN_ => ⟨hb2, trivial⟩, ?_⟩)
        refine T_tk (i := 32) rfl (Y_no rfl rfl rfl rfl) ⟨hb2, trivial⟩ rfl ?_
        refine T_tk (i := 33) rfl (Y_of (fun _ _ => R_pickT rfl rfl rfl)) ⟨hb2, trivial⟩ rfl ?_
        refine T_done (by kernel_rfl) (CalmE.normal ?_)
        refine N_then (C_condT rfl rfl (C_seq (C_reg rfl ?_)))
        refine L_run (R_assign rfl) rfl ?_
        refine L_run (R_assign rfl) rfl ?_
        refine L_nil (N_then (C_ret (R_then (R_in (R_then (R_then (R_in (R_then ?_))))))))
        refine ret2 Try.results22 rfl rfl ?_
        have hno_ : ¬ okY (l[i]) (openR l (l[i]).chain i) := fun q_ => by
          obtain ⟨q1, q2, q3, q4, q5, q6, q7⟩ := q_
          first | omega | (have h7 := q7 (by omega); omega)
        exact ⟨hB, .inr ⟨by rw [okB_stop hli (by omega) hno_]; decide, rfl⟩⟩
       ·refine T_tk (i := 14) rfl (Y_yes rfl rfl rfl (decide_eq_false h6) (fun _ _ => R_field (r := 0) rfl fld65_0 rfl)) ⟨hb2, trivial⟩ rfl ?_
        refine T_tk (i := 15) rfl (Y_yes rfl rfl rfl (decide_eq_false h6) (fun _ ⟨hb2, _⟩ => R_load1 rfl scl3 (hb2.cell (i := 0) rfl))) ⟨hb2, trivial⟩ rfl ?_
        refine T_tk (i := 16) rfl (Y_yes rfl rfl rfl (decide_eq_false h6) (fun _ _ => R_gtr rfl rfl)) ⟨hb2, trivial⟩ rfl ?_
        refine T_tk (i := 17) rfl (Y_of (fun _ _ => R_pickF rfl (decide_eq_false h6) rfl)) ⟨hb2, trivial⟩ rfl ?_
        refine T_tk (i := 18) rfl (Y_of (fun _ _ => R_move rfl)) ⟨hb2, trivial⟩ rfl ?_
        by_cases h7 : 9 < (l[i]).kind
        ·refine T_tk (i := 19) rfl (Y_no rfl rfl rfl (decide_eq_true h7)) ⟨hb2, trivial⟩ rfl ?_
         refine T_tk (i := 20) rfl (Y_no rfl rfl rfl (decide_eq_true h7)) ⟨hb2, trivial⟩ rfl ?_
         refine T_tk (i := 21) rfl (Y_no rfl rfl rfl (decide_eq_true h7)) ⟨hb2, trivial⟩ rfl ?_
         refine T_tk (i := 22) rfl (Y_of (fun _ _ => R_pickT rfl (decide_eq_true h7) rfl)) ⟨hb2, trivial⟩ rfl ?_
         refine T_tk (i := 23) rfl (Y_of (fun _ _ => R_move rfl)) ⟨hb2, trivial⟩ rfl ?_
         refine T_tk (i := 24) rfl (Y_no rfl rfl rfl rfl) ⟨hb2, trivial⟩ rfl ?_
         refine T_tk (i := 25) rfl (Y_no rfl rfl rfl rfl) ⟨hb2, trivial⟩ rfl ?_
         refine T_tk (i := 26) rfl (Y_no rfl rfl rfl rfl) ⟨hb2, trivial⟩ rfl ?_
         refine T_tk (i := 27) rfl (Y_no rfl rfl rfl rfl) ⟨hb2, trivial⟩ rfl ?_
         refine T_tk (i := 29) rfl (Y_no rfl rfl rfl rfl) ⟨hb2, trivial⟩ rfl ?_
         refine T_tk (i := 30) rfl (Y_no rfl rfl rfl rfl) ⟨hb2, trivial⟩ rfl ?_
         refine T_tk (i := 31) rfl (Y_no rfl rfl rfl rfl) ⟨hb2, trivial⟩ rfl ?_
         refine T_all (rs := [28]) (by kernel_rfl) rfl (all1 (O_one rfl ?_))
         refine L_no rfl rfl rfl rfl rfl ?_
         refine L_nil (N_then ⟨fun hN_ => ⟨hb2, trivial⟩, ?_⟩)
         refine T_tk (i := 32) rfl (Y_no rfl rfl rfl rfl) ⟨hb2, trivial⟩ rfl ?_
         refine T_tk (i := 33) rfl (Y_of (fun _ _ => R_pickT rfl rfl rfl)) ⟨hb2, trivial⟩ rfl ?_
         refine T_done (by kernel_rfl) (CalmE.normal ?_)
         refine N_then (C_condT rfl rfl (C_seq (C_reg rfl ?_)))
         refine L_run (R_assign rfl) rfl ?_
         refine L_run (R_assign rfl) rfl ?_
         refine L_nil (N_then (C_ret (R_then (R_in (R_then (R_then (R_in (R_then ?_))))))))
         refine ret2 Try.results22 rfl rfl ?_
         have hno_ : ¬ okY (l[i]) (openR l (l[i]).chain i) := fun q_ => by
           obtain ⟨q1, q2, q3, q4, q5, q6, q7⟩ := q_
           first | omega | (have h7 := q7 (by omega); omega)
         exact ⟨hB, .inr ⟨by rw [okB_stop hli (by omega) hno_]; decide, rfl⟩⟩
        ·refine T_tk (i := 19) rfl (Y_yes rfl rfl rfl (decide_eq_false h7) (fun _ _ => R_field (r := 2) rfl fld65_2 rfl)) ⟨hb2, trivial⟩ rfl ?_
         refine T_tk (i := 20) rfl (Y_yes rfl rfl rfl (decide_eq_false h7) (fun _ ⟨hb2, _⟩ => R_load1 rfl scl3 (hb2.cell (i := 2) rfl))) ⟨hb2, trivial⟩ rfl ?_
         refine T_tk (i := 21) rfl (Y_yes rfl rfl rfl (decide_eq_false h7) (fun _ _ => R_lss rfl rfl)) ⟨hb2, trivial⟩ rfl ?_
         refine T_tk (i := 22) rfl (Y_of (fun _ _ => R_pickF rfl (decide_eq_false h7) rfl)) ⟨hb2, trivial⟩ rfl ?_
         refine T_tk (i := 23) rfl (Y_of (fun _ _ => R_move rfl)) ⟨hb2, trivial⟩ rfl ?_
         by_cases h8 : (l[i]).lsn < 1
         ·refine T_tk (i := 24) rfl (Y_no rfl rfl rfl (decide_eq_true h8)) ⟨hb2, trivial⟩ rfl ?_
          refine T_tk (i := 25) rfl (Y_no rfl rfl rfl (decide_eq_true h8)) ⟨hb2, trivial⟩ rfl ?_
          refine T_tk (i := 26) rfl (Y_no rfl rfl rfl (decide_eq_true h8)) ⟨hb2, trivial⟩ rfl ?_
          refine T_tk (i := 27) rfl (Y_no rfl rfl rfl (decide_eq_true h8)) ⟨hb2, trivial⟩ rfl ?_
          refine T_tk (i := 29) rfl (Y_no rfl rfl rfl (decide_eq_true h8)) ⟨hb2, trivial⟩ rfl ?_
          refine T_tk (i := 30) rfl (Y_no rfl rfl rfl (decide_eq_true h8)) ⟨hb2, trivial⟩ rfl ?_
          refine T_tk (i := 31) rfl (Y_no rfl rfl rfl (decide_eq_true h8)) ⟨hb2, trivial⟩ rfl ?_
          refine T_all (rs := [28]) (by kernel_rfl) rfl (all1 (O_one rfl ?_))
          refine L_no rfl rfl rfl (decide_eq_true h8) rfl ?_
          refine L_nil (N_then ⟨fun hN_ => ⟨hb2, trivial⟩, ?_⟩)
          refine T_tk (i := 32) rfl (Y_no rfl rfl rfl (decide_eq_true h8)) ⟨hb2, trivial⟩ rfl ?_
          refine T_tk (i := 33) rfl (Y_of (fun _ _ => R_pickT rfl (decide_eq_true h8) rfl)) ⟨hb2, trivial⟩ rfl ?_
          refine T_done (by kernel_rfl) (CalmE.normal ?_)
          refine N_then (C_condT rfl rfl (C_seq (C_reg rfl ?_)))
          refine L_run (R_assign rfl) rfl ?_
          refine L_run (R_assign rfl) rfl ?_
          refine L_nil (N_then (C_ret (R_then (R_in (R_then (R_then (R_in (R_then ?_))))))))
          refine ret2 Try.results22 rfl rfl ?_
          have hno_ : ¬ okY (l[i]) (openR l (l[i]).chain i) := fun q_ => by
            obtain ⟨q1, q2, q3, q4, q5, q6, q7⟩ := q_
            first | omega | (have h7 := q7 (by omega); omega)
          exact ⟨hB, .inr ⟨by rw [okB_stop hli (by omega) hno_]; decide, rfl⟩⟩
         ·refine T_tk (i := 24) rfl (Y_yes rfl rfl rfl (decide_eq_false h8) (fun _ _ => R_move rfl)) ⟨hb2, trivial⟩ rfl ?_
          refine T_tk (i := 25) rfl (Y_yes rfl rfl rfl (decide_eq_false h8) (fun _ _ => R_move rfl)) ⟨hb2, trivial⟩ rfl ?_
          refine T_tk (i := 26) rfl (Y_yes rfl rfl rfl (decide_eq_false h8) (fun _ _ => R_field (r := 1) rfl fld65_1 rfl)) ⟨hb2, trivial⟩ rfl ?_
          refine T_tk (i := 27) rfl (Y_yes rfl rfl rfl (decide_eq_false h8) (fun _ ⟨hb2, _⟩ => R_load1 rfl scl3 (hb2.cell (i := 1) rfl))) ⟨hb2, trivial⟩ rfl ?_
          refine T_tk (i := 29) rfl (Y_yes rfl rfl rfl (decide_eq_false h8) (fun _ _ => R_field (r := 0) rfl fld65_0 rfl)) ⟨hb2, trivial⟩ rfl ?_
          refine T_tk (i := 30) rfl (Y_yes rfl rfl rfl (decide_eq_false h8) (fun _ ⟨hb2, _⟩ => R_load1 rfl scl3 (hb2.cell (i := 0) rfl))) ⟨hb2, trivial⟩ rfl ?_
          refine T_tk (i := 31) rfl (Y_yes rfl rfl rfl (decide_eq_false h8) (fun _ _ => R_eql rfl rfl)) ⟨hb2, trivial⟩ rfl ?_
          refine T_all (rs := [28]) (by kernel_rfl) rfl (all1 (O_one rfl ?_))
          refine L_yes rfl rfl rfl (decide_eq_false h8) ?_
          refine L_call rfl cb41 (open_ok (l := l) (ch := (l[i]).chain) (a := i) hS (by omega) (by omega)) rfl ?_
          rintro _ w5 ⟨hs4, rfl⟩
          replace hB := gb_tr hB hs4
          replace hS := hS.gb hs4
          replace hD := hD.gb hs4
          replace hoP := own_gb hoP hs4
          replace hFz := hFz.gb hs4
          replace hhz := Nat.le_trans hhz hs4.size
          replace hb2 := hb2.gb hs4
          refine L_nil (N_then ⟨fun hN_ => ⟨hb2, trivial⟩, ?_⟩)
          refine T_tk (i := 32) rfl (Y_yes rfl rfl rfl (decide_eq_false h8) (fun _ _ => R_eqlB rfl rfl boo4)) ⟨hb2, trivial⟩ rfl ?_
          refine T_tk (i := 33) rfl (Y_of (fun _ _ => R_pickF rfl (decide_eq_false h8) rfl)) ⟨hb2, trivial⟩ rfl ?_
          refine T_done (by kernel_rfl) (CalmE.normal ?_)
          refine N_then ?_
          refine C_cond rfl (fun h9 => ?_) (fun h9 => ?_)
          ·refine C_seq (C_reg rfl ?_)
           refine L_run (R_assign rfl) rfl ?_
           refine L_run (R_assign rfl) rfl ?_
           refine L_nil (N_then (C_ret (R_then (R_in (R_then (R_then (R_in (R_then ?_))))))))
           refine ret2 Try.results22 rfl rfl ?_
           have hno_ : ¬ okY (l[i]) (openR l (l[i]).chain i) := fun q_ => by
             obtain ⟨q1, q2, q3, q4, q5, q6, q7⟩ := q_
             exact absurd q6 (by have h_ := h9; revert h_; cases openR l (l[i]).chain i <;> simp)
           exact ⟨hB, .inr ⟨by rw [okB_stop hli (by omega) hno_]; decide, rfl⟩⟩
          ·refine C_skip (N_then (C_seq (C_reg rfl ?_)))
           refine L_run (R_field (r := 4) rfl fld65_4 rfl) rfl ?_
           refine L_run (R_load1 rfl scl63 (hb2.cell (i := 4) rfl)) rfl ?_
           refine L_call rfl cb42 (refdec_ok (bs := (l[i]).data) (hD.getD (i := i) (by first | assumption | omega | (simp; omega))) (by omega) hcap) rfl ?_
           rintro _ w6 ⟨hs5, rfl⟩
           replace hB := gb_tr hB hs5
           replace hS := hS.gb hs5
           replace hD := hD.gb hs5
           replace hoP := own_gb hoP hs5
           replace hFz := hFz.gb hs5
           replace hhz := Nat.le_trans hhz hs5.size
           replace hb2 := hb2.gb hs5
           refine L_run (R_move rfl) rfl ?_
           refine L_run (R_extract rfl rfl) rfl ?_
           refine L_run (R_extract rfl rfl) rfl ?_
           refine L_alloc (cs := [.string (⟨#[]⟩), .bool false, .bool false, .string (⟨#[]⟩), .string (⟨#[]⟩), .int .i64 0]) zer34 rfl rfl ?_
           intro g3 w7 eg2 hb3 hs6 hz4
           have ge2 : w.heap.size ≤ g3 := eg_ge hB eg2
           have lw2 : hz ≤ g3 := (Eq.symm eg2) ▸ hhz
           have lt1 : g2 < g3 := lt_of_eg hb2.lt eg2
           replace hB := gb_tr hB hs6
           replace hS := hS.gb hs6
           replace hD := hD.gb hs6
           replace hoP := own_gb hoP hs6
           replace hFz := hFz.gb hs6
           replace hhz := Nat.le_trans hhz hs6.size
           replace hb2 := hb2.gb hs6
           refine L_stA (vs := [.string (((dec ((l[i]).data)).1).key), .bool (((dec ((l[i]).data)).1).was), .bool (((dec ((l[i]).data)).1).is), .string (((dec ((l[i]).data)).1).old), .string (((dec ((l[i]).data)).1).new), .int .i64 (((dec ((l[i]).data)).1).next)]) rfl rfl rfl sz34 rfl hb3 rfl ?_
           intro w8 hb4 hs7 hz5
           replace hB := gb_trg hB hs7 ge2
           replace hS := hS.old hs7 ge2
           replace hD := hD.old hs7 ge2
           replace hoP := own_other hoP hb3 rfl hs7
           replace hFz := hFz.old hs7 (by omega)
           replace hhz := Nat.le_trans hhz hs7.size
           replace hb2 := hb2.grown hs7 (ne_lt lt1)
           refine L_run (R_assign rfl) rfl ?_
           refine L_nil (N_then (C_seq (C_seq (C_reg rfl ?_))))
           refine L_run (R_move rfl) rfl ?_
           refine L_run (R_neq rfl rfl) rfl ?_
           refine L_run (R_move rfl) rfl ?_
           refine L_splitD (p := (dec ((l[i]).data)).2 ≠ 0) (fun h10 => ?_) (fun h10 => ?_)
           ·refine L_yes rfl rfl rfl (decide_eq_true h10) ?_
            refine L_run (R_field (r := 0) rfl fld65_0 rfl) rfl ?_
            refine L_yes rfl rfl rfl (decide_eq_true h10) ?_
            refine L_run (R_load1 rfl scl3 (hb2.cell (i := 0) rfl)) rfl ?_
            refine L_yes rfl rfl rfl (decide_eq_true h10) ?_
            refine L_run (R_eql rfl rfl) rfl ?_
            refine L_yes rfl rfl rfl (decide_eq_true h10) ?_
            refine L_run (R_move rfl) rfl ?_
            refine L_splitD (p := (l[i]).kind = 6) (fun h11 => ?_) (fun h11 => ?_)
            ·refine L_no rfl rfl rfl (decide_eq_true h11) rfl ?_
             refine L_no rfl rfl rfl (decide_eq_true h11) rfl ?_
             refine L_no rfl rfl rfl (decide_eq_true h11) rfl ?_
             refine L_yes rfl rfl rfl (decide_eq_true h10) ?_
             refine L_run (R_pickT rfl (decide_eq_true h11) rfl) rfl ?_
             refine L_run (R_pickT rfl (decide_eq_true h10) rfl) rfl ?_
             refine L_nil (N_then (C_condT rfl rfl (C_seq (C_reg rfl ?_))))
             refine L_run (R_assign rfl) rfl ?_
             refine L_run (R_assign rfl) rfl ?_
             refine L_nil (N_then (C_ret (R_then (R_in (R_then (R_then (R_in (R_then ?_))))))))
             refine ret2 Try.results22 rfl rfl ?_
             have hno_ : ¬ okY (l[i]) (openR l (l[i]).chain i) := fun q_ => by
               obtain ⟨q1, q2, q3, q4, q5, q6, q7⟩ := q_
               first | omega | (have h7 := q7 (by omega); omega)
             exact ⟨hB, .inr ⟨by rw [okB_stop hli (by omega) hno_]; decide, rfl⟩⟩
            ·refine L_yes rfl rfl rfl (decide_eq_false h11) ?_
             refine L_run (R_field (r := 0) rfl fld65_0 rfl) rfl ?_
             refine L_yes rfl rfl rfl (decide_eq_false h11) ?_
             refine L_run (R_load1 rfl scl3 (hb2.cell (i := 0) rfl)) rfl ?_
             refine L_yes rfl rfl rfl (decide_eq_false h11) ?_
             refine L_run (R_eql rfl rfl) rfl ?_
             refine L_yes rfl rfl rfl (decide_eq_true h10) ?_
             refine L_run (R_pickF rfl (decide_eq_false h11) rfl) rfl ?_
             refine L_run (R_pickT rfl (decide_eq_true h10) rfl) rfl ?_
             refine L_nil (N_then ?_)
             refine C_if rfl (fun h12 => ?_) (fun h12 => ?_)
             ·refine C_seq (C_reg rfl ?_)
              refine L_run (R_assign rfl) rfl ?_
              refine L_run (R_assign rfl) rfl ?_
              refine L_nil (N_then (C_ret (R_then (R_in (R_then (R_then (R_in (R_then ?_))))))))
              refine ret2 Try.results22 rfl rfl ?_
              have hno_ : ¬ okY (l[i]) (openR l (l[i]).chain i) := fun q_ => by
                obtain ⟨q1, q2, q3, q4, q5, q6, q7⟩ := q_
                first | omega | (have h7 := q7 (by omega); omega)
              exact ⟨hB, .inr ⟨by rw [okB_stop hli (by omega) hno_]; decide, rfl⟩⟩
             ·refine C_skip (N_then (C_seq (C_seq (C_reg rfl ?_))))
              have hop : openR l (l[i]).chain i = true ↔ (l[i]).kind ≠ 5 := by have h_ := h9; revert h_; cases openR l (l[i]).chain i <;> simp
              have hyy : okY (l[i]) (openR l (l[i]).chain i) := ⟨by omega, by omega, by omega, by omega, by omega, hop, fun q_ => by omega⟩
              refine L_run (R_field (r := 0) rfl fld65_0 rfl) rfl ?_
              refine L_run (R_load1 rfl scl3 (hb2.cell (i := 0) rfl)) rfl ?_
              refine L_run (R_neq rfl rfl) rfl ?_
              refine L_nil (N_then ?_)
              refine C_if rfl (fun h13 => ?_) (fun h13 => ?_)
              ·refine C_exit (X_then (X_hit (N_then (C_reg rfl ?_))))
               refine L_run (R_move rfl) rfl ?_
               refine L_run (R_add64 rfl rfl (by omega)) rfl ?_
               refine L_run (R_assign rfl) rfl ?_
               refine L_nil (N_then ?_)
               exact ⟨l.length - (i + 1), by omega, _, (i + 1), Aj, cj, E, w8.heap.size, Ac_frg ⟨rfl, rfl, (agr rfl (by first | rfl | (congr 1; omega) | (congr 1 <;> omega))), trivial⟩, hB, hS, hD, (own_lo hoP (Nat.le_refl _)), hFz.top, (Nat.le_refl _), (by omega), (okB_go hli hok hyy), (by rw [bookR_no hli (by omega)]; exact hkE), hB.size, rfl⟩
              ·refine C_skip (N_then (C_seq (C_reg rfl ?_)))
               refine L_run (R_field (r := 2) rfl fld65_2 rfl) rfl ?_
               refine L_run (R_load1 rfl scl3 (hb2.cell (i := 2) rfl)) rfl ?_
               refine L_run (R_field (r := 1) rfl fld65_1 rfl) rfl ?_
               refine L_run (R_load1 rfl scl3 (hb2.cell (i := 1) rfl)) rfl ?_
               refine L_run (R_build (pv := [(0, .int .i64 ((l[i]).lsn)), (1, .int .i64 ((l[i]).chain))]) (cs := [.int .i64 ((l[i]).lsn), .int .i64 ((l[i]).chain), .slice none 0 0]) rfl (by kernel_rfl)) rfl ?_
               refine L_alloc (cs := [.int .i64 0, .int .i64 0, .slice none 0 0]) zer27 rfl rfl ?_
               intro g4 w9 eg3 hb5 hs8 hz6
               have ge3 : w.heap.size ≤ g4 := eg_ge hB eg3
               have lw3 : hz ≤ g4 := (Eq.symm eg3) ▸ hhz
               have lt2 : g2 < g4 := lt_of_eg hb2.lt eg3
               have lt3 : g3 < g4 := lt_of_eg hb4.lt eg3
               have hap1 : ∀ k_, (Value.slice Aj E.length cj).ownBlock = some k_ → k_ ≠ g4 := fun k_ hk => by have h_ := (World.ownsRow.lt hoP k_ hk).2; omega
               replace hB := gb_tr hB hs8
               replace hS := hS.gb hs8
               replace hD := hD.gb hs8
               replace hoP := own_gb hoP hs8
               replace hFz := hFz.gb hs8
               replace hhz := Nat.le_trans hhz hs8.size
               replace hb2 := hb2.gb hs8
               replace hb4 := hb4.gb hs8
               refine L_stA (vs := [.int .i64 ((l[i]).lsn), .int .i64 ((l[i]).chain), .slice none 0 0]) rfl rfl rfl sz27 rfl hb5 rfl ?_
               intro w10 hb6 hs9 hz7
               replace hB := gb_trg hB hs9 ge3
               replace hS := hS.old hs9 ge3
               replace hD := hD.old hs9 ge3
               replace hoP := hoP.kept hs9 (.inr (fun e_ => hap1 _ e_ rfl))
               replace hFz := hFz.other hb5 rfl hs9
               replace hhz := Nat.le_trans hhz hs9.size
               replace hb2 := hb2.grown hs9 (ne_lt lt2)
               replace hb4 := hb4.grown hs9 (ne_lt lt3)
               refine L_nil (N_then (C_seq (C_seq (C_reg rfl ?_))))
               refine L_run (R_move rfl) rfl ?_
               refine L_run (R_move rfl) rfl ?_
               refine L_run (R_field (r := 1) rfl fld65_1 rfl) rfl ?_
               refine L_run (R_load1 rfl scl3 (hb2.cell (i := 1) rfl)) rfl ?_
               refine L_call rfl cb43 (last_ok (l := l) (ch := (l[i]).chain) (a := i) hS (by omega) (by omega)) rfl ?_
               rintro _ w11 ⟨hs10, rfl⟩
               replace hB := gb_tr hB hs10
               replace hS := hS.gb hs10
               replace hD := hD.gb hs10
               replace hoP := own_gb hoP hs10
               replace hFz := hFz.gb hs10
               replace hhz := Nat.le_trans hhz hs10.size
               replace hb2 := hb2.gb hs10
               replace hb4 := hb4.gb hs10
               replace hb6 := hb6.gb hs10
               refine L_run (R_assign rfl) rfl ?_
               refine L_nil (N_then (C_block ?_))
               have hk8 : (l[i]).kind = 8 := by omega
               have hc0 : (l[i]).chain ≠ 0 := by omega
               have hot : openR l (l[i]).chain i = true := hop.2 (by omega)
               obtain ⟨p, hp⟩ : ∃ p : Nat, lastR l (l[i]).chain i = (p : Int) := ⟨(lastR l (l[i]).chain i).toNat, by
                 have h_ := (last_open (l := l) (c := (l[i]).chain) (i := i) (by omega)).1
                 by_cases hn_ : lastR l (l[i]).chain i < 0
                 · rw [h_ hn_] at hot; cases hot
                 · omega⟩
               obtain ⟨hpl, hpi, -⟩ := last_at (by omega) hp
               refine C_loop (fun m_ a_ w_ => ∃ (σ_ : Nat → Value) (j : Nat) (Ax : Option Addr) (cx : Nat), a_ = Ac 145 σ_ [] [(0, .slice A l.length c), (4, .slice Aj E.length cj), (5, .int .i64 (i : Int)), (6, .pointer (some ⟨g2, 0, none⟩)), (9, .pointer (some ⟨g4, 0, none⟩)), (10, .int .i64 (j : Int))] ∧ w.grownBy w_ none ∧ Sli 0 0 w.heap.size w_ A (fl encRC l) ∧ DeepRC w.heap.size w_ l ∧ World.ownsRow w_ w.heap.size 27 3 (.slice Aj E.length cj) E.length (fl encEn E) ∧ FrzH hz w_ E ∧ hz ≤ w_.heap.size ∧ Blk w_ g2 65 [.int .i64 ((l[i]).kind), .int .i64 ((l[i]).chain), .int .i64 ((l[i]).lsn), .int .i64 ((l[i]).prev), .slice ((l[i]).da) ((l[i]).data.length) ((l[i]).dc)] ∧ Blk w_ g4 27 [.int .i64 ((l[i]).lsn), .int .i64 ((l[i]).chain), .slice Ax ((chgG l (l[i]).chain p j).length) cx] ∧ World.ownsRow w_ hz 34 6 (.slice Ax (chgG l (l[i]).chain p j).length cx) (chgG l (l[i]).chain p j).length (fl encC (chgG l (l[i]).chain p j)) ∧ (p ≤ j) ∧ (j ≤ i) ∧ i - j = m_) (i - p) ?_ ?_
               ·exact ⟨_, p, none, 0, Ac_frg ⟨rfl, rfl, rfl, rfl, rfl, (agr rfl (by first | rfl | (congr 1; omega) | (congr 1 <;> omega))), trivial⟩, hB, hS, hD, hoP, hFz, hhz, hb2, (by rw [show chgG l (l[i]).chain p p = [] from chgG_0]; exact hb6), (by rw [show chgG l (l[i]).chain p p = [] from chgG_0]; exact own_nil _ _ _ _), (Nat.le_refl _), (by omega), rfl⟩
               ·clear hB
                clear hS hD hoP hFz hhz hb2 hb4 hb6
                rintro m_ a_ w12 ⟨σ_, j, Ax, cx, rfl, hB, hS, hD, hoP, hFz, hhz, hb2, hbx, hoX, hpj, hjt, rfl⟩
                refine C_seq (C_seq (C_reg rfl ?_))
                refine L_run (R_move rfl) rfl ?_
                refine L_run (R_move rfl) rfl ?_
                refine L_run (R_lss rfl rfl) rfl ?_
                refine L_nil (N_then ?_)
                refine C_if rfl (fun h14 => ?_) (fun h14 => ?_)
                ·refine C_skip (N_then (C_seq (C_block (C_seq ?_))))
                 refine C_draw2 rfl mix ?_
                 intro w13 hs11 hz8
                 replace hB := gb_tr hB hs11
                 replace hS := hS.gb hs11
                 replace hD := hD.gb hs11
                 replace hoP := own_gb hoP hs11
                 replace hFz := hFz.gb hs11
                 replace hhz := Nat.le_trans hhz hs11.size
                 replace hb2 := hb2.gb hs11
                 replace hbx := hbx.gb hs11
                 replace hoX := own_gb hoX hs11
                 have hl2 : j < l.length := by first | omega | (simp; omega)
                 obtain ⟨g5, o2, r1, eA1, er1, ha2⟩ := Sli.place' (xs := l) (i := j) EncRC hS hl2 rfl
                 refine ⟨fun W_ => Blk W_ g2 65 [.int .i64 ((l[i]).kind), .int .i64 ((l[i]).chain), .int .i64 ((l[i]).lsn), .int .i64 ((l[i]).prev), .slice ((l[i]).da) ((l[i]).data.length) ((l[i]).dc)] ∧ At W_ g5 r1 [.int .i64 ((l[j]).kind), .int .i64 ((l[j]).chain), .int .i64 ((l[j]).lsn), .int .i64 ((l[j]).prev), .slice ((l[j]).da) ((l[j]).data.length) ((l[j]).dc)] ∧ True, [0, 1, 2, 3, 4, 5, 6, 7, 8, 9, 10, 11, 12, 13, 14, 15, 16, 17, 18, 19, 20, 21, 22, 23], ?_⟩
                 refine T_tk (i := 0) rfl (Y_of (fun _ _ => R_move rfl)) ⟨hb2, ha2, trivial⟩ rfl ?_
                 refine T_tk (i := 1) rfl (Y_of (fun _ _ => R_move rfl)) ⟨hb2, ha2, trivial⟩ rfl ?_
                 refine T_tk (i := 2) rfl (Y_of (fun _ _ => R_indexE rfl rfl (by first | rfl | omega) slc56 hl2 eA1 er1)) ⟨hb2, ha2, trivial⟩ rfl ?_
                 refine T_tk (i := 3) rfl (Y_of (fun _ _ => R_field rfl fld65_1 rfl)) ⟨hb2, ha2, trivial⟩ rfl ?_
                 refine T_tk (i := 4) rfl (Y_of (fun _ ⟨hb2, ha2, _⟩ => R_load1 rfl scl3 (ha2 1 _ rfl))) ⟨hb2, ha2, trivial⟩ rfl ?_
                 refine T_tk (i := 5) rfl (Y_of (fun _ _ => R_field (r := 1) rfl fld65_1 rfl)) ⟨hb2, ha2, trivial⟩ rfl ?_
                 refine T_tk (i := 6) rfl (Y_of (fun _ ⟨hb2, ha2, _⟩ => R_load1 rfl scl3 (hb2.cell (i := 1) rfl))) ⟨hb2, ha2, trivial⟩ rfl ?_
                 refine T_tk (i := 7) rfl (Y_of (fun _ _ => R_eql rfl rfl)) ⟨hb2, ha2, trivial⟩ rfl ?_
                 refine T_tk (i := 8) rfl (Y_of (fun _ _ => R_move rfl)) ⟨hb2, ha2, trivial⟩ rfl ?_
                 by_cases h15 : (l[j]).chain = (l[i]).chain
                 ·refine T_tk (i := 9) rfl (Y_yes rfl rfl rfl (decide_eq_true h15) (fun _ _ => R_move rfl)) ⟨hb2, ha2, trivial⟩ rfl ?_
                  refine T_tk (i := 10) rfl (Y_yes rfl rfl rfl (decide_eq_true h15) (fun _ _ => R_move rfl)) ⟨hb2, ha2, trivial⟩ rfl ?_
                  refine T_tk (i := 11) rfl (Y_yes rfl rfl rfl (decide_eq_true h15) (fun _ _ => R_indexE rfl rfl (by first | rfl | omega) slc56 hl2 eA1 er1)) ⟨hb2, ha2, trivial⟩ rfl ?_
                  refine T_tk (i := 12) rfl (Y_yes rfl rfl rfl (decide_eq_true h15) (fun _ _ => R_field rfl fld65_0 rfl)) ⟨hb2, ha2, trivial⟩ rfl ?_
                  refine T_tk (i := 13) rfl (Y_yes rfl rfl rfl (decide_eq_true h15) (fun _ ⟨hb2, ha2, _⟩ => R_load1 rfl scl3 (ha2 0 _ rfl))) ⟨hb2, ha2, trivial⟩ rfl ?_
                  refine T_tk (i := 14) rfl (Y_yes rfl rfl rfl (decide_eq_true h15) (fun _ _ => R_eql rfl rfl)) ⟨hb2, ha2, trivial⟩ rfl ?_
                  refine T_tk (i := 15) rfl (Y_yes rfl rfl rfl (decide_eq_true h15) (fun _ _ => R_move rfl)) ⟨hb2, ha2, trivial⟩ rfl ?_
                  by_cases h16 : (l[j]).kind = 6
                  ·refine T_tk (i := 16) rfl (Y_no rfl rfl rfl (decide_eq_true h16)) ⟨hb2, ha2, trivial⟩ rfl ?_
                   refine T_tk (i := 17) rfl (Y_no rfl rfl rfl (decide_eq_true h16)) ⟨hb2, ha2, trivial⟩ rfl ?_
                   refine T_tk (i := 18) rfl (Y_no rfl rfl rfl (decide_eq_true h16)) ⟨hb2, ha2, trivial⟩ rfl ?_
                   refine T_tk (i := 19) rfl (Y_no rfl rfl rfl (decide_eq_true h16)) ⟨hb2, ha2, trivial⟩ rfl ?_
                   refine T_tk (i := 20) rfl (Y_no rfl rfl rfl (decide_eq_true h16)) ⟨hb2, ha2, trivial⟩ rfl ?_
                   refine T_tk (i := 21) rfl (Y_no rfl rfl rfl (decide_eq_true h16)) ⟨hb2, ha2, trivial⟩ rfl ?_
                   refine T_tk (i := 22) rfl (Y_yes rfl rfl rfl (decide_eq_true h15) (fun _ _ => R_pickT rfl (decide_eq_true h16) rfl)) ⟨hb2, ha2, trivial⟩ rfl ?_
                   refine T_tk (i := 23) rfl (Y_of (fun _ _ => R_pickT rfl (decide_eq_true h15) rfl)) ⟨hb2, ha2, trivial⟩ rfl ?_
                   refine T_done (by kernel_rfl) (CalmE.normal ?_)
                   refine N_then (C_condT rfl rfl (C_seq (C_reg rfl ?_)))
                   have hji : j < i := by omega
                   have hlj : j < l.length := by omega
                   have hgl := chgG_len (l := l) (c := (l[i]).chain) (p := p) (j := j)
                   have hd6 := hF.1 _ (List.getElem_mem hlj)
                   have hcap := hD0.cap hlj
                   refine L_run (R_move rfl) rfl ?_
                   refine L_run (R_move rfl) rfl ?_
                   have hl3 : j < l.length := by first | omega | (simp; omega)
                   refine T_index (xs := l) (i := j) EncRC rfl rfl (by first | rfl | omega) slc56 hl3 hS rfl ?_
                   intro g6 o3 ha3
                   refine L_run (R_field rfl fld65_4 rfl) rfl ?_
                   refine L_run (R_load1 rfl scl63 (ha3 4 _ rfl)) rfl ?_
                   refine L_call rfl cb42 (refdec_ok (bs := (l[j]).data) (hD.getD (i := j) (by first | assumption | omega | (simp; omega))) (by omega) hcap) rfl ?_
                   rintro _ w14 ⟨hs12, rfl⟩
                   replace hB := gb_tr hB hs12
                   replace hS := hS.gb hs12
                   replace hD := hD.gb hs12
                   replace hoP := own_gb hoP hs12
                   replace hFz := hFz.gb hs12
                   replace hhz := Nat.le_trans hhz hs12.size
                   replace hb2 := hb2.gb hs12
                   replace hbx := hbx.gb hs12
                   replace hoX := own_gb hoX hs12
                   replace ha2 := At.gb ha2 hs12 (by simp)
                   replace ha3 := At.gb ha3 hs12 (by simp)
                   refine L_run (R_move rfl) rfl ?_
                   refine L_run (R_extract rfl rfl) rfl ?_
                   refine L_run (R_extract rfl rfl) rfl ?_
                   refine L_alloc (cs := [.string (⟨#[]⟩), .bool false, .bool false, .string (⟨#[]⟩), .string (⟨#[]⟩), .int .i64 0]) zer34 rfl rfl ?_
                   intro g7 w15 eg4 hb7 hs13 hz9
                   have ge4 : w.heap.size ≤ g7 := eg_ge hB eg4
                   have lw4 : hz ≤ g7 := (Eq.symm eg4) ▸ hhz
                   have lt4 : g2 < g7 := lt_of_eg hb2.lt eg4
                   have lt5 : g4 < g7 := lt_of_eg hbx.lt eg4
                   have hap2 : ∀ k_, (Value.slice Ax (chgG l (l[i]).chain p j).length cx).ownBlock = some k_ → k_ ≠ g7 := fun k_ hk => by have h_ := (World.ownsRow.lt hoX k_ hk).2; omega
                   replace hB := gb_tr hB hs13
                   replace hS := hS.gb hs13
                   replace hD := hD.gb hs13
                   replace hoP := own_gb hoP hs13
                   replace hFz := hFz.gb hs13
                   replace hhz := Nat.le_trans hhz hs13.size
                   replace hb2 := hb2.gb hs13
                   replace hbx := hbx.gb hs13
                   replace hoX := own_gb hoX hs13
                   replace ha2 := At.gb ha2 hs13 (by simp)
                   replace ha3 := At.gb ha3 hs13 (by simp)
                   refine L_stA (vs := [.string (((dec ((l[j]).data)).1).key), .bool (((dec ((l[j]).data)).1).was), .bool (((dec ((l[j]).data)).1).is), .string (((dec ((l[j]).data)).1).old), .string (((dec ((l[j]).data)).1).new), .int .i64 (((dec ((l[j]).data)).1).next)]) rfl rfl rfl sz34 rfl hb7 rfl ?_
                   intro w16 hb8 hs14 hz10
                   replace hB := gb_trg hB hs14 ge4
                   replace hS := hS.old hs14 ge4
                   replace hD := hD.old hs14 ge4
                   replace hoP := own_other hoP hb7 rfl hs14
                   replace hFz := hFz.old hs14 (by omega)
                   replace hhz := Nat.le_trans hhz hs14.size
                   replace hb2 := hb2.grown hs14 (ne_lt lt4)
                   replace hbx := hbx.grown hs14 (ne_lt lt5)
                   replace hoX := hoX.kept hs14 (.inr (fun e_ => hap2 _ e_ rfl))
                   refine L_run (R_assign rfl) rfl ?_
                   refine L_nil (N_then (C_reg rfl ?_))
                   refine L_run (R_field (r := 2) rfl fld27_2 rfl) rfl ?_
                   refine L_run (R_load1 rfl scl25 (hbx.cell (i := 2) rfl)) rfl ?_
                   refine L_run (R_loadA (vs := [.string (((dec ((l[j]).data)).1).key), .bool (((dec ((l[j]).data)).1).was), .bool (((dec ((l[j]).data)).1).is), .string (((dec ((l[j]).data)).1).old), .string (((dec ((l[j]).data)).1).new), .int .i64 (((dec ((l[j]).data)).1).next)]) rfl agg34 (At.pre (hb8.at_ 0) rfl) rfl) rfl ?_
                   refine L_buildSlice (pv := [(0, .agg #[.string (((dec ((l[j]).data)).1).key), .bool (((dec ((l[j]).data)).1).was), .bool (((dec ((l[j]).data)).1).is), .string (((dec ((l[j]).data)).1).old), .string (((dec ((l[j]).data)).1).new), .int .i64 (((dec ((l[j]).data)).1).next)])]) (cs := [.string (((dec ((l[j]).data)).1).key), .bool (((dec ((l[j]).data)).1).was), .bool (((dec ((l[j]).data)).1).is), .string (((dec ((l[j]).data)).1).old), .string (((dec ((l[j]).data)).1).new), .int .i64 (((dec ((l[j]).data)).1).next)]) slc25 zer34 rfl rfl (by kernel_rfl) rfl ?_
                   intro g8 w17 eg5 hb9 hs15 hz11
                   have ge5 : w.heap.size ≤ g8 := eg_ge hB eg5
                   have lw5 : hz ≤ g8 := (Eq.symm eg5) ▸ hhz
                   have lt6 : g2 < g8 := lt_of_eg hb2.lt eg5
                   have lt7 : g4 < g8 := lt_of_eg hbx.lt eg5
                   have lt8 : g7 < g8 := lt_of_eg hb8.lt eg5
                   have hap3 : ∀ k_, (Value.slice Ax (chgG l (l[i]).chain p j).length cx).ownBlock = some k_ → k_ ≠ g8 := fun k_ hk => by have h_ := (World.ownsRow.lt hoX k_ hk).2; omega
                   replace hB := gb_tr hB hs15
                   replace hS := hS.gb hs15
                   replace hD := hD.gb hs15
                   replace hoP := own_gb hoP hs15
                   replace hFz := hFz.gb hs15
                   replace hhz := Nat.le_trans hhz hs15.size
                   replace hb2 := hb2.gb hs15
                   replace hbx := hbx.gb hs15
                   replace hoX := own_gb hoX hs15
                   replace hb8 := hb8.gb hs15
                   refine T_append (xs := (chgG l (l[i]).chain p j)) (ys := [(⟨((dec ((l[j]).data)).1).key, ((dec ((l[j]).data)).1).was, ((dec ((l[j]).data)).1).is, ((dec ((l[j]).data)).1).old, ((dec ((l[j]).data)).1).new, ((dec ((l[j]).data)).1).next⟩ : Chg)]) EncC slc25 rfl rfl hoX (Blk.sli (m := 0) hb9) (by simp; omega) hhz rfl ?_
                   intro A_1 c_1 w18 ho1 hs16 hat1
                   have lt9 := hb8.lt
                   replace hB := gb_tro hB hoX hs16 hzw
                   replace hS := hS.grown hs16 (fun k hk => .inr (Nat.le_trans hzw (World.ownsRow.lt hoX k hk).1))
                   replace hD := hD.own hoX hzw hs16
                   replace hoP := hoP.kept hs16 (own_type_ne' hoP hoX rfl)
                   replace hFz := hFz.own hoX (by omega) hs16
                   replace hhz := Nat.le_trans hhz hs16.size
                   replace hb2 := blk_own hb2 hoX rfl hs16
                   replace hbx := blk_own hbx hoX rfl hs16
                   replace hb8 := hb8.grown hs16 (fun e_ => hap2 _ e_.symm rfl)
                   have hap4 : ∀ k_, (Value.slice A_1 ((chgG l (l[i]).chain p j) ++ ([(⟨((dec ((l[j]).data)).1).key, ((dec ((l[j]).data)).1).was, ((dec ((l[j]).data)).1).is, ((dec ((l[j]).data)).1).old, ((dec ((l[j]).data)).1).new, ((dec ((l[j]).data)).1).next⟩ : Chg)])).length c_1).ownBlock = some k_ → k_ ≠ g7 := fun k_ hk => by rcases hat1 with h_ | h_ <;> rw [h_] at hk <;> first | exact hap2 k_ hk | (injection hk with hk; omega)
                   refine L_run (R_field (r := 2) rfl fld27_2 rfl) rfl ?_
                   refine L_st1 rfl rfl rfl sz25 hbx rfl ?_
                   intro w19 hb10 hs17 hz12
                   replace hB := gb_trg hB hs17 ge3
                   replace hS := hS.old hs17 ge3
                   replace hD := hD.old hs17 ge3
                   replace hoP := hoP.kept hs17 (.inr (fun e_ => hap1 _ e_ rfl))
                   replace hFz := hFz.other hbx rfl hs17
                   replace hhz := Nat.le_trans hhz hs17.size
                   replace hb2 := hb2.grown hs17 (ne_lt lt2)
                   replace hb8 := hb8.grown hs17 (ne_gt lt5)
                   replace ho1 := own_other ho1 hbx rfl hs17
                   refine L_nil (N_in (N_then (C_reg rfl ?_)))
                   refine L_run (R_move rfl) rfl ?_
                   refine L_run (R_add64 rfl rfl (by omega)) rfl ?_
                   refine L_run (R_assign rfl) rfl ?_
                   refine L_nil (N_then ?_)
                   have hji : j < i := by omega
                   have eG := chgG_go (c := (l[i]).chain) (by omega) hp hpj hji
                   rw [if_pos ⟨by omega, by omega⟩] at eG
                   exact ⟨i - (j + 1), by omega, _, (j + 1), A_1, c_1, Ac_frg ⟨rfl, rfl, rfl, rfl, rfl, (agr rfl (by first | rfl | (congr 1; omega) | (congr 1 <;> omega))), trivial⟩, hB, hS, hD, hoP, hFz, hhz, hb2, (by rw [eG]; exact hb10), (by rw [eG]; exact ho1), (by omega), (by omega), rfl⟩
                  ·refine T_tk (i := 16) rfl (Y_yes rfl rfl rfl (decide_eq_false h16) (fun _ _ => R_move rfl)) ⟨hb2, ha2, trivial⟩ rfl ?_
                   refine T_tk (i := 17) rfl (Y_yes rfl rfl rfl (decide_eq_false h16) (fun _ _ => R_move rfl)) ⟨hb2, ha2, trivial⟩ rfl ?_
                   refine T_tk (i := 18) rfl (Y_yes rfl rfl rfl (decide_eq_false h16) (fun _ _ => R_indexE rfl rfl (by first | rfl | omega) slc56 hl2 eA1 er1)) ⟨hb2, ha2, trivial⟩ rfl ?_
                   refine T_tk (i := 19) rfl (Y_yes rfl rfl rfl (decide_eq_false h16) (fun _ _ => R_field rfl fld65_0 rfl)) ⟨hb2, ha2, trivial⟩ rfl ?_
                   refine T_tk (i := 20) rfl (Y_yes rfl rfl rfl (decide_eq_false h16) (fun _ ⟨hb2, ha2, _⟩ => R_load1 rfl scl3 (ha2 0 _ rfl))) ⟨hb2, ha2, trivial⟩ rfl ?_
                   refine T_tk (i := 21) rfl (Y_yes rfl rfl rfl (decide_eq_false h16) (fun _ _ => R_eql rfl rfl)) ⟨hb2, ha2, trivial⟩ rfl ?_
                   refine T_tk (i := 22) rfl (Y_yes rfl rfl rfl (decide_eq_true h15) (fun _ _ => R_pickF rfl (decide_eq_false h16) rfl)) ⟨hb2, ha2, trivial⟩ rfl ?_
                   refine T_tk (i := 23) rfl (Y_of (fun _ _ => R_pickT rfl (decide_eq_true h15) rfl)) ⟨hb2, ha2, trivial⟩ rfl ?_
                   refine T_done (by kernel_rfl) (CalmE.normal ?_)
                   refine N_then ?_
                   refine C_if rfl (fun h17 => ?_) (fun h17 => ?_)
                   ·refine C_seq (C_reg rfl ?_)
                    have hji : j < i := by omega
                    have hlj : j < l.length := by omega
                    have hgl := chgG_len (l := l) (c := (l[i]).chain) (p := p) (j := j)
                    have hd6 := hF.1 _ (List.getElem_mem hlj)
                    have hcap := hD0.cap hlj
                    refine L_run (R_move rfl) rfl ?_
                    refine L_run (R_move rfl) rfl ?_
                    have hl4 : j < l.length := by first | omega | (simp; omega)
                    refine T_index (xs := l) (i := j) EncRC rfl rfl (by first | rfl | omega) slc56 hl4 hS rfl ?_
                    intro g9 o4 ha4
                    refine L_run (R_field rfl fld65_4 rfl) rfl ?_
                    refine L_run (R_load1 rfl scl63 (ha4 4 _ rfl)) rfl ?_
                    refine L_call rfl cb42 (refdec_ok (bs := (l[j]).data) (hD.getD (i := j) (by first | assumption | omega | (simp; omega))) (by omega) hcap) rfl ?_
                    rintro _ w20 ⟨hs18, rfl⟩
                    replace hB := gb_tr hB hs18
                    replace hS := hS.gb hs18
                    replace hD := hD.gb hs18
                    replace hoP := own_gb hoP hs18
                    replace hFz := hFz.gb hs18
                    replace hhz := Nat.le_trans hhz hs18.size
                    replace hb2 := hb2.gb hs18
                    replace hbx := hbx.gb hs18
                    replace hoX := own_gb hoX hs18
                    replace ha2 := At.gb ha2 hs18 (by simp)
                    replace ha4 := At.gb ha4 hs18 (by simp)
                    refine L_run (R_move rfl) rfl ?_
                    refine L_run (R_extract rfl rfl) rfl ?_
                    refine L_run (R_extract rfl rfl) rfl ?_
                    refine L_alloc (cs := [.string (⟨#[]⟩), .bool false, .bool false, .string (⟨#[]⟩), .string (⟨#[]⟩), .int .i64 0]) zer34 rfl rfl ?_
                    intro g10 w21 eg6 hb11 hs19 hz13
                    have ge6 : w.heap.size ≤ g10 := eg_ge hB eg6
                    have lw6 : hz ≤ g10 := (Eq.symm eg6) ▸ hhz
                    have lt10 : g2 < g10 := lt_of_eg hb2.lt eg6
                    have lt11 : g4 < g10 := lt_of_eg hbx.lt eg6
                    have hap5 : ∀ k_, (Value.slice Ax (chgG l (l[i]).chain p j).length cx).ownBlock = some k_ → k_ ≠ g10 := fun k_ hk => by have h_ := (World.ownsRow.lt hoX k_ hk).2; omega
                    replace hB := gb_tr hB hs19
                    replace hS := hS.gb hs19
                    replace hD := hD.gb hs19
                    replace hoP := own_gb hoP hs19
                    replace hFz := hFz.gb hs19
                    replace hhz := Nat.le_trans hhz hs19.size
                    replace hb2 := hb2.gb hs19
                    replace hbx := hbx.gb hs19
                    replace hoX := own_gb hoX hs19
                    replace ha2 := At.gb ha2 hs19 (by simp)
                    replace ha4 := At.gb ha4 hs19 (by simp)
                    refine L_stA (vs := [.string (((dec ((l[j]).data)).1).key), .bool (((dec ((l[j]).data)).1).was), .bool (((dec ((l[j]).data)).1).is), .string (((dec ((l[j]).data)).1).old), .string (((dec ((l[j]).data)).1).new), .int .i64 (((dec ((l[j]).data)).1).next)]) rfl rfl rfl sz34 rfl hb11 rfl ?_
                    intro w22 hb12 hs20 hz14
                    replace hB := gb_trg hB hs20 ge6
                    replace hS := hS.old hs20 ge6
                    replace hD := hD.old hs20 ge6
                    replace hoP := own_other hoP hb11 rfl hs20
                    replace hFz := hFz.old hs20 (by omega)
                    replace hhz := Nat.le_trans hhz hs20.size
                    replace hb2 := hb2.grown hs20 (ne_lt lt10)
                    replace hbx := hbx.grown hs20 (ne_lt lt11)
                    replace hoX := hoX.kept hs20 (.inr (fun e_ => hap5 _ e_ rfl))
                    refine L_run (R_assign rfl) rfl ?_
                    refine L_nil (N_then (C_reg rfl ?_))
                    refine L_run (R_field (r := 2) rfl fld27_2 rfl) rfl ?_
                    refine L_run (R_load1 rfl scl25 (hbx.cell (i := 2) rfl)) rfl ?_
                    refine L_run (R_loadA (vs := [.string (((dec ((l[j]).data)).1).key), .bool (((dec ((l[j]).data)).1).was), .bool (((dec ((l[j]).data)).1).is), .string (((dec ((l[j]).data)).1).old), .string (((dec ((l[j]).data)).1).new), .int .i64 (((dec ((l[j]).data)).1).next)]) rfl agg34 (At.pre (hb12.at_ 0) rfl) rfl) rfl ?_
                    refine L_buildSlice (pv := [(0, .agg #[.string (((dec ((l[j]).data)).1).key), .bool (((dec ((l[j]).data)).1).was), .bool (((dec ((l[j]).data)).1).is), .string (((dec ((l[j]).data)).1).old), .string (((dec ((l[j]).data)).1).new), .int .i64 (((dec ((l[j]).data)).1).next)])]) (cs := [.string (((dec ((l[j]).data)).1).key), .bool (((dec ((l[j]).data)).1).was), .bool (((dec ((l[j]).data)).1).is), .string (((dec ((l[j]).data)).1).old), .string (((dec ((l[j]).data)).1).new), .int .i64 (((dec ((l[j]).data)).1).next)]) slc25 zer34 rfl rfl (by kernel_rfl) rfl ?_
                    intro g11 w23 eg7 hb13 hs21 hz15
                    have ge7 : w.heap.size ≤ g11 := eg_ge hB eg7
                    have lw7 : hz ≤ g11 := (Eq.symm eg7) ▸ hhz
                    have lt12 : g2 < g11 := lt_of_eg hb2.lt eg7
                    have lt13 : g4 < g11 := lt_of_eg hbx.lt eg7
                    have lt14 : g10 < g11 := lt_of_eg hb12.lt eg7
                    have hap6 : ∀ k_, (Value.slice Ax (chgG l (l[i]).chain p j).length cx).ownBlock = some k_ → k_ ≠ g11 := fun k_ hk => by have h_ := (World.ownsRow.lt hoX k_ hk).2; omega
                    replace hB := gb_tr hB hs21
                    replace hS := hS.gb hs21
                    replace hD := hD.gb hs21
                    replace hoP := own_gb hoP hs21
                    replace hFz := hFz.gb hs21
                    replace hhz := Nat.le_trans hhz hs21.size
                    replace hb2 := hb2.gb hs21
                    replace hbx := hbx.gb hs21
                    replace hoX := own_gb hoX hs21
                    replace hb12 := hb12.gb hs21
                    refine T_append (xs := (chgG l (l[i]).chain p j)) (ys := [(⟨((dec ((l[j]).data)).1).key, ((dec ((l[j]).data)).1).was, ((dec ((l[j]).data)).1).is, ((dec ((l[j]).data)).1).old, ((dec ((l[j]).data)).1).new, ((dec ((l[j]).data)).1).next⟩ : Chg)]) EncC slc25 rfl rfl hoX (Blk.sli (m := 0) hb13) (by simp; omega) hhz rfl ?_
                    intro A_2 c_2 w24 ho2 hs22 hat2
                    have lt15 := hb12.lt
                    replace hB := gb_tro hB hoX hs22 hzw
                    replace hS := hS.grown hs22 (fun k hk => .inr (Nat.le_trans hzw (World.ownsRow.lt hoX k hk).1))
                    replace hD := hD.own hoX hzw hs22
                    replace hoP := hoP.kept hs22 (own_type_ne' hoP hoX rfl)
                    replace hFz := hFz.own hoX (by omega) hs22
                    replace hhz := Nat.le_trans hhz hs22.size
                    replace hb2 := blk_own hb2 hoX rfl hs22
                    replace hbx := blk_own hbx hoX rfl hs22
                    replace hb12 := hb12.grown hs22 (fun e_ => hap5 _ e_.symm rfl)
                    have hap7 : ∀ k_, (Value.slice A_2 ((chgG l (l[i]).chain p j) ++ ([(⟨((dec ((l[j]).data)).1).key, ((dec ((l[j]).data)).1).was, ((dec ((l[j]).data)).1).is, ((dec ((l[j]).data)).1).old, ((dec ((l[j]).data)).1).new, ((dec ((l[j]).data)).1).next⟩ : Chg)])).length c_2).ownBlock = some k_ → k_ ≠ g10 := fun k_ hk => by rcases hat2 with h_ | h_ <;> rw [h_] at hk <;> first | exact hap5 k_ hk | (injection hk with hk; omega)
                    refine L_run (R_field (r := 2) rfl fld27_2 rfl) rfl ?_
                    refine L_st1 rfl rfl rfl sz25 hbx rfl ?_
                    intro w25 hb14 hs23 hz16
                    replace hB := gb_trg hB hs23 ge3
                    replace hS := hS.old hs23 ge3
                    replace hD := hD.old hs23 ge3
                    replace hoP := hoP.kept hs23 (.inr (fun e_ => hap1 _ e_ rfl))
                    replace hFz := hFz.other hbx rfl hs23
                    replace hhz := Nat.le_trans hhz hs23.size
                    replace hb2 := hb2.grown hs23 (ne_lt lt2)
                    replace hb12 := hb12.grown hs23 (ne_gt lt11)
                    replace ho2 := own_other ho2 hbx rfl hs23
                    refine L_nil (N_in (N_then (C_reg rfl ?_)))
                    refine L_run (R_move rfl) rfl ?_
                    refine L_run (R_add64 rfl rfl (by omega)) rfl ?_
                    refine L_run (R_assign rfl) rfl ?_
                    refine L_nil (N_then ?_)
                    have hji : j < i := by omega
                    have eG := chgG_go (c := (l[i]).chain) (by omega) hp hpj hji
                    rw [if_pos ⟨by omega, by omega⟩] at eG
                    exact ⟨i - (j + 1), by omega, _, (j + 1), A_2, c_2, Ac_frg ⟨rfl, rfl, rfl, rfl, rfl, (agr rfl (by first | rfl | (congr 1; omega) | (congr 1 <;> omega))), trivial⟩, hB, hS, hD, hoP, hFz, hhz, hb2, (by rw [eG]; exact hb14), (by rw [eG]; exact ho2), (by omega), (by omega), rfl⟩
                   ·refine C_skip (N_in (N_then (C_reg rfl ?_)))
                    refine L_run (R_move rfl) rfl ?_
                    refine L_run (R_add64 rfl rfl (by omega)) rfl ?_
                    refine L_run (R_assign rfl) rfl ?_
                    refine L_nil (N_then ?_)
                    have hji : j < i := by omega
                    have eG := chgG_go (c := (l[i]).chain) (by omega) hp hpj hji
                    rw [if_neg (by omega)] at eG
                    exact ⟨i - (j + 1), by omega, _, (j + 1), Ax, cx, Ac_frg ⟨rfl, rfl, rfl, rfl, rfl, (agr rfl (by first | rfl | (congr 1; omega) | (congr 1 <;> omega))), trivial⟩, hB, hS, hD, hoP, hFz, hhz, hb2, (by rw [eG]; exact hbx), (by rw [eG]; exact hoX), (by omega), (by omega), rfl⟩
                 ·refine T_tk (i := 9) rfl (Y_no rfl rfl rfl (decide_eq_false h15)) ⟨hb2, ha2, trivial⟩ rfl ?_
                  refine T_tk (i := 10) rfl (Y_no rfl rfl rfl (decide_eq_false h15)) ⟨hb2, ha2, trivial⟩ rfl ?_
                  refine T_tk (i := 11) rfl (Y_no rfl rfl rfl (decide_eq_false h15)) ⟨hb2, ha2, trivial⟩ rfl ?_
                  refine T_tk (i := 12) rfl (Y_no rfl rfl rfl (decide_eq_false h15)) ⟨hb2, ha2, trivial⟩ rfl ?_
                  refine T_tk (i := 13) rfl (Y_no rfl rfl rfl (decide_eq_false h15)) ⟨hb2, ha2, trivial⟩ rfl ?_
                  refine T_tk (i := 14) rfl (Y_no rfl rfl rfl (decide_eq_false h15)) ⟨hb2, ha2, trivial⟩ rfl ?_
                  refine T_tk (i := 15) rfl (Y_no rfl rfl rfl (decide_eq_false h15)) ⟨hb2, ha2, trivial⟩ rfl ?_
                  refine T_tk (i := 16) rfl (Y_noU rfl rfl rfl) ⟨hb2, ha2, trivial⟩ rfl ?_
                  refine T_tk (i := 17) rfl (Y_noU rfl rfl rfl) ⟨hb2, ha2, trivial⟩ rfl ?_
                  refine T_tk (i := 18) rfl (Y_noU rfl rfl rfl) ⟨hb2, ha2, trivial⟩ rfl ?_
                  refine T_tk (i := 19) rfl (Y_noU rfl rfl rfl) ⟨hb2, ha2, trivial⟩ rfl ?_
                  refine T_tk (i := 20) rfl (Y_noU rfl rfl rfl) ⟨hb2, ha2, trivial⟩ rfl ?_
                  refine T_tk (i := 21) rfl (Y_noU rfl rfl rfl) ⟨hb2, ha2, trivial⟩ rfl ?_
                  refine T_tk (i := 22) rfl (Y_no rfl rfl rfl (decide_eq_false h15)) ⟨hb2, ha2, trivial⟩ rfl ?_
                  refine T_tk (i := 23) rfl (Y_of (fun _ _ => R_pickF rfl (decide_eq_false h15) rfl)) ⟨hb2, ha2, trivial⟩ rfl ?_
                  refine T_done (by kernel_rfl) (CalmE.normal ?_)
                  refine N_then (C_condF rfl rfl (C_skip (N_in (N_then (C_reg rfl ?_)))))
                  refine L_run (R_move rfl) rfl ?_
                  refine L_run (R_add64 rfl rfl (by omega)) rfl ?_
                  refine L_run (R_assign rfl) rfl ?_
                  refine L_nil (N_then ?_)
                  have hji : j < i := by omega
                  have eG := chgG_go (c := (l[i]).chain) (by omega) hp hpj hji
                  rw [if_neg (by omega)] at eG
                  exact ⟨i - (j + 1), by omega, _, (j + 1), Ax, cx, Ac_frg ⟨rfl, rfl, rfl, rfl, rfl, (agr rfl (by first | rfl | (congr 1; omega) | (congr 1 <;> omega))), trivial⟩, hB, hS, hD, hoP, hFz, hhz, hb2, (by rw [eG]; exact hbx), (by rw [eG]; exact hoX), (by omega), (by omega), rfl⟩
                ·refine C_exit (X_then (X_then (X_hit (N_then (C_reg rfl ?_)))))
                 have eG : chgG l (l[i]).chain p j = chgR l (l[i]).chain i := by rw [show j = i by omega]; exact chgG_all (by omega) hp
                 rw [eG] at hoX hbx
                 have hEl : E.length ≤ i := by have h_ := congrArg List.length hkE; rw [List.length_map] at h_; have h2_ := bookR_len (l := l) (i := i); omega
                 refine L_run (R_move rfl) rfl ?_
                 refine L_run (R_loadA (vs := [.int .i64 ((l[i]).lsn), .int .i64 ((l[i]).chain), .slice Ax ((chgR l (l[i]).chain i).length) cx]) rfl agg27 (At.pre (hbx.at_ 0) rfl) rfl) rfl ?_
                 refine L_buildSlice (pv := [(0, .agg #[.int .i64 ((l[i]).lsn), .int .i64 ((l[i]).chain), .slice Ax ((chgR l (l[i]).chain i).length) cx])]) (cs := [.int .i64 ((l[i]).lsn), .int .i64 ((l[i]).chain), .slice Ax ((chgR l (l[i]).chain i).length) cx]) slc22 zer27 rfl rfl (by kernel_rfl) rfl ?_
                 intro g12 w26 eg8 hb15 hs24 hz17
                 have ge8 : w.heap.size ≤ g12 := eg_ge hB eg8
                 have lw8 : hz ≤ g12 := (Eq.symm eg8) ▸ hhz
                 have lt16 : g2 < g12 := lt_of_eg hb2.lt eg8
                 have lt17 : g4 < g12 := lt_of_eg hbx.lt eg8
                 have hap8 : ∀ k_, (Value.slice Aj E.length cj).ownBlock = some k_ → k_ ≠ g12 := fun k_ hk => by have h_ := (World.ownsRow.lt hoP k_ hk).2; omega
                 replace hB := gb_tr hB hs24
                 replace hS := hS.gb hs24
                 replace hD := hD.gb hs24
                 replace hoP := own_gb hoP hs24
                 replace hFz := hFz.gb hs24
                 replace hhz := Nat.le_trans hhz hs24.size
                 replace hb2 := hb2.gb hs24
                 replace hbx := hbx.gb hs24
                 replace hoX := own_gb hoX hs24
                 refine T_append (xs := E) (ys := [(⟨(l[i]).lsn, (l[i]).chain, Ax, cx, chgR l (l[i]).chain i⟩ : Ent)]) EncEn slc22 rfl rfl hoP (Blk.sli (m := 0) hb15) (by simp; omega) (by have := hB.size; omega) rfl ?_
                 intro A_3 c_3 w27 ho3 hs25 hat3
                 have lt18 := hbx.lt
                 replace hB := gb_tro hB hoP hs25 (Nat.le_refl _)
                 replace hS := hS.grown hs25 (fun k hk => .inr (Nat.le_trans (Nat.le_refl _) (World.ownsRow.lt hoP k hk).1))
                 replace hD := hD.own hoP (Nat.le_refl _) hs25
                 replace hFz := hFz.ownT hoP rfl hs25
                 replace hhz := Nat.le_trans hhz hs25.size
                 replace hb2 := blk_own hb2 hoP rfl hs25
                 replace hbx := hbx.grown hs25 (fun e_ => hap1 _ e_.symm rfl)
                 replace hoX := hoX.kept hs25 (own_type_ne' hoX hoP rfl)
                 have hap9 : ∀ k_, (Value.slice A_3 (E ++ ([(⟨(l[i]).lsn, (l[i]).chain, Ax, cx, chgR l (l[i]).chain i⟩ : Ent)])).length c_3).ownBlock = some k_ → k_ ≠ g4 := fun k_ hk => by rcases hat3 with h_ | h_ <;> rw [h_] at hk <;> first | exact hap1 k_ hk | (injection hk with hk; omega)
                 refine L_run (R_assign rfl) rfl ?_
                 refine L_nil (N_in (N_then (C_reg rfl ?_)))
                 refine L_run (R_move rfl) rfl ?_
                 refine L_run (R_add64 rfl rfl (by omega)) rfl ?_
                 refine L_run (R_assign rfl) rfl ?_
                 refine L_nil (N_then ?_)
                 have hkn := bookR_co (A := Ax) (k := cx) hli hk8 hc0 hkE
                 exact ⟨l.length - (i + 1), by omega, _, (i + 1), A_3, c_3, E ++ ([(⟨(l[i]).lsn, (l[i]).chain, Ax, cx, chgR l (l[i]).chain i⟩ : Ent)]), w27.heap.size, Ac_frg ⟨rfl, rfl, (agr rfl (by first | rfl | (congr 1; omega) | (congr 1 <;> omega))), trivial⟩, hB, hS, hD, (own_lo ho3 (Nat.le_refl _)), (hFz.snoc hoX), (Nat.le_refl _), (by omega), (okB_go hli hok hyy), hkn, hB.size, rfl⟩
           ·refine L_no rfl rfl rfl (decide_eq_false h10) rfl ?_
            refine L_no rfl rfl rfl (decide_eq_false h10) rfl ?_
            refine L_no rfl rfl rfl (decide_eq_false h10) rfl ?_
            refine L_no rfl rfl rfl (decide_eq_false h10) rfl ?_
            refine L_noU rfl rfl rfl rfl ?_
            refine L_noU rfl rfl rfl rfl ?_
            refine L_noU rfl rfl rfl rfl ?_
            refine L_no rfl rfl rfl (decide_eq_false h10) rfl ?_
            refine L_run (R_pickF rfl (decide_eq_false h10) rfl) rfl ?_
            refine L_nil (N_then (C_condF rfl rfl (C_skip (N_then (C_seq (C_seq (C_reg rfl ?_)))))))
            have hop : openR l (l[i]).chain i = true ↔ (l[i]).kind ≠ 5 := by have h_ := h9; revert h_; cases openR l (l[i]).chain i <;> simp
            have hyy : okY (l[i]) (openR l (l[i]).chain i) := ⟨by omega, by omega, by omega, by omega, by omega, hop, fun q_ => by omega⟩
            refine L_run (R_field (r := 0) rfl fld65_0 rfl) rfl ?_
            refine L_run (R_load1 rfl scl3 (hb2.cell (i := 0) rfl)) rfl ?_
            refine L_run (R_neq rfl rfl) rfl ?_
            refine L_nil (N_then ?_)
            refine C_if rfl (fun h18 => ?_) (fun h18 => ?_)
            ·refine C_exit (X_then (X_hit (N_then (C_reg rfl ?_))))
             refine L_run (R_move rfl) rfl ?_
             refine L_run (R_add64 rfl rfl (by omega)) rfl ?_
             refine L_run (R_assign rfl) rfl ?_
             refine L_nil (N_then ?_)
             exact ⟨l.length - (i + 1), by omega, _, (i + 1), Aj, cj, E, w8.heap.size, Ac_frg ⟨rfl, rfl, (agr rfl (by first | rfl | (congr 1; omega) | (congr 1 <;> omega))), trivial⟩, hB, hS, hD, (own_lo hoP (Nat.le_refl _)), hFz.top, (Nat.le_refl _), (by omega), (okB_go hli hok hyy), (by rw [bookR_no hli (by omega)]; exact hkE), hB.size, rfl⟩
            ·refine C_skip (N_then (C_seq (C_reg rfl ?_)))
             refine L_run (R_field (r := 2) rfl fld65_2 rfl) rfl ?_
             refine L_run (R_load1 rfl scl3 (hb2.cell (i := 2) rfl)) rfl ?_
             refine L_run (R_field (r := 1) rfl fld65_1 rfl) rfl ?_
             refine L_run (R_load1 rfl scl3 (hb2.cell (i := 1) rfl)) rfl ?_
             refine L_run (R_build (pv := [(0, .int .i64 ((l[i]).lsn)), (1, .int .i64 ((l[i]).chain))]) (cs := [.int .i64 ((l[i]).lsn), .int .i64 ((l[i]).chain), .slice none 0 0]) rfl (by kernel_rfl)) rfl ?_
             refine L_alloc (cs := [.int .i64 0, .int .i64 0, .slice none 0 0]) zer27 rfl rfl ?_
             intro g13 w28 eg9 hb16 hs26 hz18
             have ge9 : w.heap.size ≤ g13 := eg_ge hB eg9
             have lw9 : hz ≤ g13 := (Eq.symm eg9) ▸ hhz
             have lt19 : g2 < g13 := lt_of_eg hb2.lt eg9
             have lt20 : g3 < g13 := lt_of_eg hb4.lt eg9
             have hap10 : ∀ k_, (Value.slice Aj E.length cj).ownBlock = some k_ → k_ ≠ g13 := fun k_ hk => by have h_ := (World.ownsRow.lt hoP k_ hk).2; omega
             replace hB := gb_tr hB hs26
             replace hS := hS.gb hs26
             replace hD := hD.gb hs26
             replace hoP := own_gb hoP hs26
             replace hFz := hFz.gb hs26
             replace hhz := Nat.le_trans hhz hs26.size
             replace hb2 := hb2.gb hs26
             replace hb4 := hb4.gb hs26
             refine L_stA (vs := [.int .i64 ((l[i]).lsn), .int .i64 ((l[i]).chain), .slice none 0 0]) rfl rfl rfl sz27 rfl hb16 rfl ?_
             intro w29 hb17 hs27 hz19
             replace hB := gb_trg hB hs27 ge9
             replace hS := hS.old hs27 ge9
             replace hD := hD.old hs27 ge9
             replace hoP := hoP.kept hs27 (.inr (fun e_ => hap10 _ e_ rfl))
             replace hFz := hFz.other hb16 rfl hs27
             replace hhz := Nat.le_trans hhz hs27.size
             replace hb2 := hb2.grown hs27 (ne_lt lt19)
             replace hb4 := hb4.grown hs27 (ne_lt lt20)
             refine L_nil (N_then (C_seq (C_seq (C_reg rfl ?_))))
             refine L_run (R_move rfl) rfl ?_
             refine L_run (R_move rfl) rfl ?_
             refine L_run (R_field (r := 1) rfl fld65_1 rfl) rfl ?_
             refine L_run (R_load1 rfl scl3 (hb2.cell (i := 1) rfl)) rfl ?_
             refine L_call rfl cb43 (last_ok (l := l) (ch := (l[i]).chain) (a := i) hS (by omega) (by omega)) rfl ?_
             rintro _ w30 ⟨hs28, rfl⟩
             replace hB := gb_tr hB hs28
             replace hS := hS.gb hs28
             replace hD := hD.gb hs28
             replace hoP := own_gb hoP hs28
             replace hFz := hFz.gb hs28
             replace hhz := Nat.le_trans hhz hs28.size
             replace hb2 := hb2.gb hs28
             replace hb4 := hb4.gb hs28
             replace hb17 := hb17.gb hs28
             refine L_run (R_assign rfl) rfl ?_
             refine L_nil (N_then (C_block ?_))
             have hk8 : (l[i]).kind = 8 := by omega
             have hc0 : (l[i]).chain ≠ 0 := by omega
             have hot : openR l (l[i]).chain i = true := hop.2 (by omega)
             obtain ⟨p, hp⟩ : ∃ p : Nat, lastR l (l[i]).chain i = (p : Int) := ⟨(lastR l (l[i]).chain i).toNat, by
               have h_ := (last_open (l := l) (c := (l[i]).chain) (i := i) (by omega)).1
               by_cases hn_ : lastR l (l[i]).chain i < 0
               · rw [h_ hn_] at hot; cases hot
               · omega⟩
             obtain ⟨hpl, hpi, -⟩ := last_at (by omega) hp
             refine C_loop (fun m_ a_ w_ => ∃ (σ_ : Nat → Value) (j : Nat) (Ax : Option Addr) (cx : Nat), a_ = Ac 145 σ_ [] [(0, .slice A l.length c), (4, .slice Aj E.length cj), (5, .int .i64 (i : Int)), (6, .pointer (some ⟨g2, 0, none⟩)), (9, .pointer (some ⟨g13, 0, none⟩)), (10, .int .i64 (j : Int))] ∧ w.grownBy w_ none ∧ Sli 0 0 w.heap.size w_ A (fl encRC l) ∧ DeepRC w.heap.size w_ l ∧ World.ownsRow w_ w.heap.size 27 3 (.slice Aj E.length cj) E.length (fl encEn E) ∧ FrzH hz w_ E ∧ hz ≤ w_.heap.size ∧ Blk w_ g2 65 [.int .i64 ((l[i]).kind), .int .i64 ((l[i]).chain), .int .i64 ((l[i]).lsn), .int .i64 ((l[i]).prev), .slice ((l[i]).da) ((l[i]).data.length) ((l[i]).dc)] ∧ Blk w_ g13 27 [.int .i64 ((l[i]).lsn), .int .i64 ((l[i]).chain), .slice Ax ((chgG l (l[i]).chain p j).length) cx] ∧ World.ownsRow w_ hz 34 6 (.slice Ax (chgG l (l[i]).chain p j).length cx) (chgG l (l[i]).chain p j).length (fl encC (chgG l (l[i]).chain p j)) ∧ (p ≤ j) ∧ (j ≤ i) ∧ i - j = m_) (i - p) ?_ ?_
             ·exact ⟨_, p, none, 0, Ac_frg ⟨rfl, rfl, rfl, rfl, rfl, (agr rfl (by first | rfl | (congr 1; omega) | (congr 1 <;> omega))), trivial⟩, hB, hS, hD, hoP, hFz, hhz, hb2, (by rw [show chgG l (l[i]).chain p p = [] from chgG_0]; exact hb17), (by rw [show chgG l (l[i]).chain p p = [] from chgG_0]; exact own_nil _ _ _ _), (Nat.le_refl _), (by omega), rfl⟩
             ·clear hB
              clear hS hD hoP hFz hhz hb2 hb4 hb17
              rintro m_ a_ w31 ⟨σ_, j, Ax, cx, rfl, hB, hS, hD, hoP, hFz, hhz, hb2, hbx, hoX, hpj, hjt, rfl⟩
              refine C_seq (C_seq (C_reg rfl ?_))
              refine L_run (R_move rfl) rfl ?_
              refine L_run (R_move rfl) rfl ?_
              refine L_run (R_lss rfl rfl) rfl ?_
              refine L_nil (N_then ?_)
              refine C_if rfl (fun h19 => ?_) (fun h19 => ?_)
              ·refine C_skip (N_then (C_seq (C_block (C_seq ?_))))
               refine C_draw2 rfl mix ?_
               intro w32 hs29 hz20
               replace hB := gb_tr hB hs29
               replace hS := hS.gb hs29
               replace hD := hD.gb hs29
               replace hoP := own_gb hoP hs29
               replace hFz := hFz.gb hs29
               replace hhz := Nat.le_trans hhz hs29.size
               replace hb2 := hb2.gb hs29
               replace hbx := hbx.gb hs29
               replace hoX := own_gb hoX hs29
               have hl5 : j < l.length := by first | omega | (simp; omega)
               obtain ⟨g14, o5, r2, eA2, er2, ha5⟩ := Sli.place' (xs := l) (i := j) EncRC hS hl5 rfl
               refine ⟨fun W_ => Blk W_ g2 65 [.int .i64 ((l[i]).kind), .int .i64 ((l[i]).chain), .int .i64 ((l[i]).lsn), .int .i64 ((l[i]).prev), .slice ((l[i]).da) ((l[i]).data.length) ((l[i]).dc)] ∧ At W_ g14 r2 [.int .i64 ((l[j]).kind), .int .i64 ((l[j]).chain), .int .i64 ((l[j]).lsn), .int .i64 ((l[j]).prev), .slice ((l[j]).da) ((l[j]).data.length) ((l[j]).dc)] ∧ True, [0, 1, 2, 3, 4, 5, 6, 7, 8, 9, 10, 11, 12, 13, 14, 15, 16, 17, 18, 19, 20, 21, 22, 23], ?_⟩
               refine T_tk (i := 0) rfl (Y_of (fun _ _ => R_move rfl)) ⟨hb2, ha5, trivial⟩ rfl ?_
               refine T_tk (i := 1) rfl (Y_of (fun _ _ => R_move rfl)) ⟨hb2, ha5, trivial⟩ rfl ?_
               refine T_tk (i := 2) rfl (Y_of (fun _ _ => R_indexE rfl rfl (by first | rfl | omega) slc56 hl5 eA2 er2)) ⟨hb2, ha5, trivial⟩ rfl ?_
               refine T_tk (i := 3) rfl (Y_of (fun _ _ => R_field rfl fld65_1 rfl)) ⟨hb2, ha5, trivial⟩ rfl ?_
               refine T_tk (i := 4) rfl (Y_of (fun _ ⟨hb2, ha5, _⟩ => R_load1 rfl scl3 (ha5 1 _ rfl))) ⟨hb2, ha5, trivial⟩ rfl ?_
               refine T_tk (i := 5) rfl (Y_of (fun _ _ => R_field (r := 1) rfl fld65_1 rfl)) ⟨hb2, ha5, trivial⟩ rfl ?_
               refine T_tk (i := 6) rfl (Y_of (fun _ ⟨hb2, ha5, _⟩ => R_load1 rfl scl3 (hb2.cell (i := 1) rfl))) ⟨hb2, ha5, trivial⟩ rfl ?_
               refine T_tk (i := 7) rfl (Y_of (fun _ _ => R_eql rfl rfl)) ⟨hb2, ha5, trivial⟩ rfl ?_
               refine T_tk (i := 8) rfl (Y_of (fun _ _ => R_move rfl)) ⟨hb2, ha5, trivial⟩ rfl ?_
               by_cases h20 : (l[j]).chain = (l[i]).chain
               ·refine T_tk (i := 9) rfl (Y_yes rfl rfl rfl (decide_eq_true h20) (fun _ _ => R_move rfl)) ⟨hb2, ha5, trivial⟩ rfl ?_
                refine T_tk (i := 10) rfl (Y_yes rfl rfl rfl (decide_eq_true h20) (fun _ _ => R_move rfl)) ⟨hb2, ha5, trivial⟩ rfl ?_
                refine T_tk (i := 11) rfl (Y_yes rfl rfl rfl (decide_eq_true h20) (fun _ _ => R_indexE rfl rfl (by first | rfl | omega) slc56 hl5 eA2 er2)) ⟨hb2, ha5, trivial⟩ rfl ?_
                refine T_tk (i := 12) rfl (Y_yes rfl rfl rfl (decide_eq_true h20) (fun _ _ => R_field rfl fld65_0 rfl)) ⟨hb2, ha5, trivial⟩ rfl ?_
                refine T_tk (i := 13) rfl (Y_yes rfl rfl rfl (decide_eq_true h20) (fun _ ⟨hb2, ha5, _⟩ => R_load1 rfl scl3 (ha5 0 _ rfl))) ⟨hb2, ha5, trivial⟩ rfl ?_
                refine T_tk (i := 14) rfl (Y_yes rfl rfl rfl (decide_eq_true h20) (fun _ _ => R_eql rfl rfl)) ⟨hb2, ha5, trivial⟩ rfl ?_
                refine T_tk (i := 15) rfl (Y_yes rfl rfl rfl (decide_eq_true h20) (fun _ _ => R_move rfl)) ⟨hb2, ha5, trivial⟩ rfl ?_
                by_cases h21 : (l[j]).kind = 6
                ·refine T_tk (i := 16) rfl (Y_no rfl rfl rfl (decide_eq_true h21)) ⟨hb2, ha5, trivial⟩ rfl ?_
                 refine T_tk (i := 17) rfl (Y_no rfl rfl rfl (decide_eq_true h21)) ⟨hb2, ha5, trivial⟩ rfl ?_
                 refine T_tk (i := 18) rfl (Y_no rfl rfl rfl (decide_eq_true h21)) ⟨hb2, ha5, trivial⟩ rfl ?_
                 refine T_tk (i := 19) rfl (Y_no rfl rfl rfl (decide_eq_true h21)) ⟨hb2, ha5, trivial⟩ rfl ?_
                 refine T_tk (i := 20) rfl (Y_no rfl rfl rfl (decide_eq_true h21)) ⟨hb2, ha5, trivial⟩ rfl ?_
                 refine T_tk (i := 21) rfl (Y_no rfl rfl rfl (decide_eq_true h21)) ⟨hb2, ha5, trivial⟩ rfl ?_
                 refine T_tk (i := 22) rfl (Y_yes rfl rfl rfl (decide_eq_true h20) (fun _ _ => R_pickT rfl (decide_eq_true h21) rfl)) ⟨hb2, ha5, trivial⟩ rfl ?_
                 refine T_tk (i := 23) rfl (Y_of (fun _ _ => R_pickT rfl (decide_eq_true h20) rfl)) ⟨hb2, ha5, trivial⟩ rfl ?_
                 refine T_done (by kernel_rfl) (CalmE.normal ?_)
                 refine N_then (C_condT rfl rfl (C_seq (C_reg rfl ?_)))
                 have hji : j < i := by omega
                 have hlj : j < l.length := by omega
                 have hgl := chgG_len (l := l) (c := (l[i]).chain) (p := p) (j := j)
                 have hd6 := hF.1 _ (List.getElem_mem hlj)
                 have hcap := hD0.cap hlj
                 refine L_run (R_move rfl) rfl ?_
                 refine L_run (R_move rfl) rfl ?_
                 have hl6 : j < l.length := by first | omega | (simp; omega)
                 refine T_index (xs := l) (i := j) EncRC rfl rfl (by first | rfl | omega) slc56 hl6 hS rfl ?_
                 intro g15 o6 ha6
                 refine L_run (R_field rfl fld65_4 rfl) rfl ?_
                 refine L_run (R_load1 rfl scl63 (ha6 4 _ rfl)) rfl ?_
                 refine L_call rfl cb42 (refdec_ok (bs := (l[j]).data) (hD.getD (i := j) (by first | assumption | omega | (simp; omega))) (by omega) hcap) rfl ?_
                 rintro _ w33 ⟨hs30, rfl⟩
                 replace hB := gb_tr hB hs30
                 replace hS := hS.gb hs30
                 replace hD := hD.gb hs30
                 replace hoP := own_gb hoP hs30
                 replace hFz := hFz.gb hs30
                 replace hhz := Nat.le_trans hhz hs30.size
                 replace hb2 := hb2.gb hs30
                 replace hbx := hbx.gb hs30
                 replace hoX := own_gb hoX hs30
                 replace ha5 := At.gb ha5 hs30 (by simp)
                 replace ha6 := At.gb ha6 hs30 (by simp)
                 refine L_run (R_move rfl) rfl ?_
                 refine L_run (R_extract rfl rfl) rfl ?_
                 refine L_run (R_extract rfl rfl) rfl ?_
                 refine L_alloc (cs := [.string (⟨#[]⟩), .bool false, .bool false, .string (⟨#[]⟩), .string (⟨#[]⟩), .int .i64 0]) zer34 rfl rfl ?_
                 intro g16 w34 eg10 hb18 hs31 hz21
                 have ge10 : w.heap.size ≤ g16 := eg_ge hB eg10
                 have lw10 : hz ≤ g16 := (Eq.symm eg10) ▸ hhz
                 have lt21 : g2 < g16 := lt_of_eg hb2.lt eg10
                 have lt22 : g13 < g16 := lt_of_eg hbx.lt eg10
                 have hap11 : ∀ k_, (Value.slice Ax (chgG l (l[i]).chain p j).length cx).ownBlock = some k_ → k_ ≠ g16 := fun k_ hk => by have h_ := (World.ownsRow.lt hoX k_ hk).2; omega
                 replace hB := gb_tr hB hs31
                 replace hS := hS.gb hs31
                 replace hD := hD.gb hs31
                 replace hoP := own_gb hoP hs31
                 replace hFz := hFz.gb hs31
                 replace hhz := Nat.le_trans hhz hs31.size
                 replace hb2 := hb2.gb hs31
                 replace hbx := hbx.gb hs31
                 replace hoX := own_gb hoX hs31
                 replace ha5 := At.gb ha5 hs31 (by simp)
                 replace ha6 := At.gb ha6 hs31 (by simp)
                 refine L_stA (vs := [.string (((dec ((l[j]).data)).1).key), .bool (((dec ((l[j]).data)).1).was), .bool (((dec ((l[j]).data)).1).is), .string (((dec ((l[j]).data)).1).old), .string (((dec ((l[j]).data)).1).new), .int .i64 (((dec ((l[j]).data)).1).next)]) rfl rfl rfl sz34 rfl hb18 rfl ?_
                 intro w35 hb19 hs32 hz22
                 replace hB := gb_trg hB hs32 ge10
                 replace hS := hS.old hs32 ge10
                 replace hD := hD.old hs32 ge10
                 replace hoP := own_other hoP hb18 rfl hs32
                 replace hFz := hFz.old hs32 (by omega)
                 replace hhz := Nat.le_trans hhz hs32.size
                 replace hb2 := hb2.grown hs32 (ne_lt lt21)
                 replace hbx := hbx.grown hs32 (ne_lt lt22)
                 replace hoX := hoX.kept hs32 (.inr (fun e_ => hap11 _ e_ rfl))
                 refine L_run (R_assign rfl) rfl ?_
                 refine L_nil (N_then (C_reg rfl ?_))
                 refine L_run (R_field (r := 2) rfl fld27_2 rfl) rfl ?_
                 refine L_run (R_load1 rfl scl25 (hbx.cell (i := 2) rfl)) rfl ?_
                 refine L_run (R_loadA (vs := [.string (((dec ((l[j]).data)).1).key), .bool (((dec ((l[j]).data)).1).was), .bool (((dec ((l[j]).data)).1).is), .string (((dec ((l[j]).data)).1).old), .string (((dec ((l[j]).data)).1).new), .int .i64 (((dec ((l[j]).data)).1).next)]) rfl agg34 (At.pre (hb19.at_ 0) rfl) rfl) rfl ?_
                 refine L_buildSlice (pv := [(0, .agg #[.string (((dec ((l[j]).data)).1).key), .bool (((dec ((l[j]).data)).1).was), .bool (((dec ((l[j]).data)).1).is), .string (((dec ((l[j]).data)).1).old), .string (((dec ((l[j]).data)).1).new), .int .i64 (((dec ((l[j]).data)).1).next)])]) (cs := [.string (((dec ((l[j]).data)).1).key), .bool (((dec ((l[j]).data)).1).was), .bool (((dec ((l[j]).data)).1).is), .string (((dec ((l[j]).data)).1).old), .string (((dec ((l[j]).data)).1).new), .int .i64 (((dec ((l[j]).data)).1).next)]) slc25 zer34 rfl rfl (by kernel_rfl) rfl ?_
                 intro g17 w36 eg11 hb20 hs33 hz23
                 have ge11 : w.heap.size ≤ g17 := eg_ge hB eg11
                 have lw11 : hz ≤ g17 := (Eq.symm eg11) ▸ hhz
                 have lt23 : g2 < g17 := lt_of_eg hb2.lt eg11
                 have lt24 : g13 < g17 := lt_of_eg hbx.lt eg11
                 have lt25 : g16 < g17 := lt_of_eg hb19.lt eg11
                 have hap12 : ∀ k_, (Value.slice Ax (chgG l (l[i]).chain p j).length cx).ownBlock = some k_ → k_ ≠ g17 := fun k_ hk => by have h_ := (World.ownsRow.lt hoX k_ hk).2; omega
                 replace hB := gb_tr hB hs33
                 replace hS := hS.gb hs33
                 replace hD := hD.gb hs33
                 replace hoP := own_gb hoP hs33
                 replace hFz := hFz.gb hs33
                 replace hhz := Nat.le_trans hhz hs33.size
                 replace hb2 := hb2.gb hs33
                 replace hbx := hbx.gb hs33
                 replace hoX := own_gb hoX hs33
                 replace hb19 := hb19.gb hs33
                 refine T_append (xs := (chgG l (l[i]).chain p j)) (ys := [(⟨((dec ((l[j]).data)).1).key, ((dec ((l[j]).data)).1).was, ((dec ((l[j]).data)).1).is, ((dec ((l[j]).data)).1).old, ((dec ((l[j]).data)).1).new, ((dec ((l[j]).data)).1).next⟩ : Chg)]) EncC slc25 rfl rfl hoX (Blk.sli (m := 0) hb20) (by simp; omega) hhz rfl ?_
                 intro A_4 c_4 w37 ho4 hs34 hat4
                 have lt26 := hb19.lt
                 replace hB := gb_tro hB hoX hs34 hzw
                 replace hS := hS.grown hs34 (fun k hk => .inr (Nat.le_trans hzw (World.ownsRow.lt hoX k hk).1))
                 replace hD := hD.own hoX hzw hs34
                 replace hoP := hoP.kept hs34 (own_type_ne' hoP hoX rfl)
                 replace hFz := hFz.own hoX (by omega) hs34
                 replace hhz := Nat.le_trans hhz hs34.size
                 replace hb2 := blk_own hb2 hoX rfl hs34
                 replace hbx := blk_own hbx hoX rfl hs34
                 replace hb19 := hb19.grown hs34 (fun e_ => hap11 _ e_.symm rfl)
                 have hap13 : ∀ k_, (Value.slice A_4 ((chgG l (l[i]).chain p j) ++ ([(⟨((dec ((l[j]).data)).1).key, ((dec ((l[j]).data)).1).was, ((dec ((l[j]).data)).1).is, ((dec ((l[j]).data)).1).old, ((dec ((l[j]).data)).1).new, ((dec ((l[j]).data)).1).next⟩ : Chg)])).length c_4).ownBlock = some k_ → k_ ≠ g16 := fun k_ hk => by rcases hat4 with h_ | h_ <;> rw [h_] at hk <;> first | exact hap11 k_ hk | (injection hk with hk; omega)
                 refine L_run (R_field (r := 2) rfl fld27_2 rfl) rfl ?_
                 refine L_st1 rfl rfl rfl sz25 hbx rfl ?_
                 intro w38 hb21 hs35 hz24
                 replace hB := gb_trg hB hs35 ge9
                 replace hS := hS.old hs35 ge9
                 replace hD := hD.old hs35 ge9
                 replace hoP := hoP.kept hs35 (.inr (fun e_ => hap10 _ e_ rfl))
                 replace hFz := hFz.other hbx rfl hs35
                 replace hhz := Nat.le_trans hhz hs35.size
                 replace hb2 := hb2.grown hs35 (ne_lt lt19)
                 replace hb19 := hb19.grown hs35 (ne_gt lt22)
                 replace ho4 := own_other ho4 hbx rfl hs35
                 refine L_nil (N_in (N_then (C_reg rfl ?_)))
                 refine L_run (R_move rfl) rfl ?_
                 refine L_run (R_add64 rfl rfl (by omega)) rfl ?_
                 refine L_run (R_assign rfl) rfl ?_
                 refine L_nil (N_then ?_)
                 have hji : j < i := by omega
                 have eG := chgG_go (c := (l[i]).chain) (by omega) hp hpj hji
                 rw [if_pos ⟨by omega, by omega⟩] at eG
                 exact ⟨i - (j + 1), by omega, _, (j + 1), A_4, c_4, Ac_frg ⟨rfl, rfl, rfl, rfl, rfl, (agr rfl (by first | rfl | (congr 1; omega) | (congr 1 <;> omega))), trivial⟩, hB, hS, hD, hoP, hFz, hhz, hb2, (by rw [eG]; exact hb21), (by rw [eG]; exact ho4), (by omega), (by omega), rfl⟩
                ·refine T_tk (i := 16) rfl (Y_yes rfl rfl rfl (decide_eq_false h21) (fun _ _ => R_move rfl)) ⟨hb2, ha5, trivial⟩ rfl ?_
                 refine T_tk (i := 17) rfl (Y_yes rfl rfl rfl (decide_eq_false h21) (fun _ _ => R_move rfl)) ⟨hb2, ha5, trivial⟩ rfl ?_
                 refine T_tk (i := 18) rfl (Y_yes rfl rfl rfl (decide_eq_false h21) (fun _ _ => R_indexE rfl rfl (by first | rfl | omega) slc56 hl5 eA2 er2)) ⟨hb2, ha5, trivial⟩ rfl ?_
                 refine T_tk (i := 19) rfl (Y_yes rfl rfl rfl (decide_eq_false h21) (fun _ _ => R_field rfl fld65_0 rfl)) ⟨hb2, ha5, trivial⟩ rfl ?_
                 refine T_tk (i := 20) rfl (Y_yes rfl rfl rfl (decide_eq_false h21) (fun _ ⟨hb2, ha5, _⟩ => R_load1 rfl scl3 (ha5 0 _ rfl))) ⟨hb2, ha5, trivial⟩ rfl ?_
                 refine T_tk (i := 21) rfl (Y_yes rfl rfl rfl (decide_eq_false h21) (fun _ _ => R_eql rfl rfl)) ⟨hb2, ha5, trivial⟩ rfl ?_
                 refine T_tk (i := 22) rfl (Y_yes rfl rfl rfl (decide_eq_true h20) (fun _ _ => R_pickF rfl (decide_eq_false h21) rfl)) ⟨hb2, ha5, trivial⟩ rfl ?_
                 refine T_tk (i := 23) rfl (Y_of (fun _ _ => R_pickT rfl (decide_eq_true h20) rfl)) ⟨hb2, ha5, trivial⟩ rfl ?_
                 refine T_done (by kernel_rfl) (CalmE.normal ?_)
                 refine N_then ?_
                 refine C_if rfl (fun h22 => ?_) (fun h22 => ?_)
                 ·refine C_seq (C_reg rfl ?_)
                  have hji : j < i := by omega
                  have hlj : j < l.length := by omega
                  have hgl := chgG_len (l := l) (c := (l[i]).chain) (p := p) (j := j)
                  have hd6 := hF.1 _ (List.getElem_mem hlj)
                  have hcap := hD0.cap hlj
                  refine L_run (R_move rfl) rfl ?_
                  refine L_run (R_move rfl) rfl ?_
                  have hl7 : j < l.length := by first | omega | (simp; omega)
                  refine T_index (xs := l) (i := j) EncRC rfl rfl (by first | rfl | omega) slc56 hl7 hS rfl ?_
                  intro g18 o7 ha7
                  refine L_run (R_field rfl fld65_4 rfl) rfl ?_
                  refine L_run (R_load1 rfl scl63 (ha7 4 _ rfl)) rfl ?_
                  refine L_call rfl cb42 (refdec_ok (bs := (l[j]).data) (hD.getD (i := j) (by first | assumption | omega | (simp; omega))) (by omega) hcap) rfl ?_
                  rintro _ w39 ⟨hs36, rfl⟩
                  replace hB := gb_tr hB hs36
                  replace hS := hS.gb hs36
                  replace hD := hD.gb hs36
                  replace hoP := own_gb hoP hs36
                  replace hFz := hFz.gb hs36
                  replace hhz := Nat.le_trans hhz hs36.size
                  replace hb2 := hb2.gb hs36
                  replace hbx := hbx.gb hs36
                  replace hoX := own_gb hoX hs36
                  replace ha5 := At.gb ha5 hs36 (by simp)
                  replace ha7 := At.gb ha7 hs36 (by simp)
                  refine L_run (R_move rfl) rfl ?_
                  refine L_run (R_extract rfl rfl) rfl ?_
                  refine L_run (R_extract rfl rfl) rfl ?_
                  refine L_alloc (cs := [.string (⟨#[]⟩), .bool false, .bool false, .string (⟨#[]⟩), .string (⟨#[]⟩), .int .i64 0]) zer34 rfl rfl ?_
                  intro g19 w40 eg12 hb22 hs37 hz25
                  have ge12 : w.heap.size ≤ g19 := eg_ge hB eg12
                  have lw12 : hz ≤ g19 := (Eq.symm eg12) ▸ hhz
                  have lt27 : g2 < g19 := lt_of_eg hb2.lt eg12
                  have lt28 : g13 < g19 := lt_of_eg hbx.lt eg12
                  have hap14 : ∀ k_, (Value.slice Ax (chgG l (l[i]).chain p j).length cx).ownBlock = some k_ → k_ ≠ g19 := fun k_ hk => by have h_ := (World.ownsRow.lt hoX k_ hk).2; omega
                  replace hB := gb_tr hB hs37
                  replace hS := hS.gb hs37
                  replace hD := hD.gb hs37
                  replace hoP := own_gb hoP hs37
                  replace hFz := hFz.gb hs37
                  replace hhz := Nat.le_trans hhz hs37.size
                  replace hb2 := hb2.gb hs37
                  replace hbx := hbx.gb hs37
                  replace hoX := own_gb hoX hs37
                  replace ha5 := At.gb ha5 hs37 (by simp)
                  replace ha7 := At.gb ha7 hs37 (by simp)
                  refine L_stA (vs := [.string (((dec ((l[j]).data)).1).key), .bool (((dec ((l[j]).data)).1).was), .bool (((dec ((l[j]).data)).1).is), .string (((dec ((l[j]).data)).1).old), .string (((dec ((l[j]).data)).1).new), .int .i64 (((dec ((l[j]).data)).1).next)]) rfl rfl rfl sz34 rfl hb22 rfl ?_
                  intro w41 hb23 hs38 hz26
                  replace hB := gb_trg hB hs38 ge12
                  replace hS := hS.old hs38 ge12
                  replace hD := hD.old hs38 ge12
                  replace hoP := own_other hoP hb22 rfl hs38
                  replace hFz := hFz.old hs38 (by omega)
                  replace hhz := Nat.le_trans hhz hs38.size
                  replace hb2 := hb2.grown hs38 (ne_lt lt27)
                  replace hbx := hbx.grown hs38 (ne_lt lt28)
                  replace hoX := hoX.kept hs38 (.inr (fun e_ => hap14 _ e_ rfl))
                  refine L_run (R_assign rfl) rfl ?_
                  refine L_nil (N_then (C_reg rfl ?_))
                  refine L_run (R_field (r := 2) rfl fld27_2 rfl) rfl ?_
                  refine L_run (R_load1 rfl scl25 (hbx.cell (i := 2) rfl)) rfl ?_
                  refine L_run (R_loadA (vs := [.string (((dec ((l[j]).data)).1).key), .bool (((dec ((l[j]).data)).1).was), .bool (((dec ((l[j]).data)).1).is), .string (((dec ((l[j]).data)).1).old), .string (((dec ((l[j]).data)).1).new), .int .i64 (((dec ((l[j]).data)).1).next)]) rfl agg34 (At.pre (hb23.at_ 0) rfl) rfl) rfl ?_
                  refine L_buildSlice (pv := [(0, .agg #[.string (((dec ((l[j]).data)).1).key), .bool (((dec ((l[j]).data)).1).was), .bool (((dec ((l[j]).data)).1).is), .string (((dec ((l[j]).data)).1).old), .string (((dec ((l[j]).data)).1).new), .int .i64 (((dec ((l[j]).data)).1).next)])]) (cs := [.string (((dec ((l[j]).data)).1).key), .bool (((dec ((l[j]).data)).1).was), .bool (((dec ((l[j]).data)).1).is), .string (((dec ((l[j]).data)).1).old), .string (((dec ((l[j]).data)).1).new), .int .i64 (((dec ((l[j]).data)).1).next)]) slc25 zer34 rfl rfl (by kernel_rfl) rfl ?_
                  intro g20 w42 eg13 hb24 hs39 hz27
                  have ge13 : w.heap.size ≤ g20 := eg_ge hB eg13
                  have lw13 : hz ≤ g20 := (Eq.symm eg13) ▸ hhz
                  have lt29 : g2 < g20 := lt_of_eg hb2.lt eg13
                  have lt30 : g13 < g20 := lt_of_eg hbx.lt eg13
                  have lt31 : g19 < g20 := lt_of_eg hb23.lt eg13
                  have hap15 : ∀ k_, (Value.slice Ax (chgG l (l[i]).chain p j).length cx).ownBlock = some k_ → k_ ≠ g20 := fun k_ hk => by have h_ := (World.ownsRow.lt hoX k_ hk).2; omega
                  replace hB := gb_tr hB hs39
                  replace hS := hS.gb hs39
                  replace hD := hD.gb hs39
                  replace hoP := own_gb hoP hs39
                  replace hFz := hFz.gb hs39
                  replace hhz := Nat.le_trans hhz hs39.size
                  replace hb2 := hb2.gb hs39
                  replace hbx := hbx.gb hs39
                  replace hoX := own_gb hoX hs39
                  replace hb23 := hb23.gb hs39
                  refine T_append (xs := (chgG l (l[i]).chain p j)) (ys := [(⟨((dec ((l[j]).data)).1).key, ((dec ((l[j]).data)).1).was, ((dec ((l[j]).data)).1).is, ((dec ((l[j]).data)).1).old, ((dec ((l[j]).data)).1).new, ((dec ((l[j]).data)).1).next⟩ : Chg)]) EncC slc25 rfl rfl hoX (Blk.sli (m := 0) hb24) (by simp; omega) hhz rfl ?_
                  intro A_5 c_5 w43 ho5 hs40 hat5
                  have lt32 := hb23.lt
                  replace hB := gb_tro hB hoX hs40 hzw
                  replace hS := hS.grown hs40 (fun k hk => .inr (Nat.le_trans hzw (World.ownsRow.lt hoX k hk).1))
                  replace hD := hD.own hoX hzw hs40
                  replace hoP := hoP.kept hs40 (own_type_ne' hoP hoX rfl)
                  replace hFz := hFz.own hoX (by omega) hs40
                  replace hhz := Nat.le_trans hhz hs40.size
                  replace hb2 := blk_own hb2 hoX rfl hs40
                  replace hbx := blk_own hbx hoX rfl hs40
                  replace hb23 := hb23.grown hs40 (fun e_ => hap14 _ e_.symm rfl)
                  have hap16 : ∀ k_, (Value.slice A_5 ((chgG l (l[i]).chain p j) ++ ([(⟨((dec ((l[j]).data)).1).key, ((dec ((l[j]).data)).1).was, ((dec ((l[j]).data)).1).is, ((dec ((l[j]).data)).1).old, ((dec ((l[j]).data)).1).new, ((dec ((l[j]).data)).1).next⟩ : Chg)])).length c_5).ownBlock = some k_ → k_ ≠ g19 := fun k_ hk => by rcases hat5 with h_ | h_ <;> rw [h_] at hk <;> first | exact hap14 k_ hk | (injection hk with hk; omega)
                  refine L_run (R_field (r := 2) rfl fld27_2 rfl) rfl ?_
                  refine L_st1 rfl rfl rfl sz25 hbx rfl ?_
                  intro w44 hb25 hs41 hz28
                  replace hB := gb_trg hB hs41 ge9
                  replace hS := hS.old hs41 ge9
                  replace hD := hD.old hs41 ge9
                  replace hoP := hoP.kept hs41 (.inr (fun e_ => hap10 _ e_ rfl))
                  replace hFz := hFz.other hbx rfl hs41
                  replace hhz := Nat.le_trans hhz hs41.size
                  replace hb2 := hb2.grown hs41 (ne_lt lt19)
                  replace hb23 := hb23.grown hs41 (ne_gt lt28)
                  replace ho5 := own_other ho5 hbx rfl hs41
                  refine L_nil (N_in (N_then (C_reg rfl ?_)))
                  refine L_run (R_move rfl) rfl ?_
                  refine L_run (R_add64 rfl rfl (by omega)) rfl ?_
                  refine L_run (R_assign rfl) rfl ?_
                  refine L_nil (N_then ?_)
                  have hji : j < i := by omega
                  have eG := chgG_go (c := (l[i]).chain) (by omega) hp hpj hji
                  rw [if_pos ⟨by omega, by omega⟩] at eG
                  exact ⟨i - (j + 1), by omega, _, (j + 1), A_5, c_5, Ac_frg ⟨rfl, rfl, rfl, rfl, rfl, (agr rfl (by first | rfl | (congr 1; omega) | (congr 1 <;> omega))), trivial⟩, hB, hS, hD, hoP, hFz, hhz, hb2, (by rw [eG]; exact hb25), (by rw [eG]; exact ho5), (by omega), (by omega), rfl⟩
                 ·refine C_skip (N_in (N_then (C_reg rfl ?_)))
                  refine L_run (R_move rfl) rfl ?_
                  refine L_run (R_add64 rfl rfl (by omega)) rfl ?_
                  refine L_run (R_assign rfl) rfl ?_
                  refine L_nil (N_then ?_)
                  have hji : j < i := by omega
                  have eG := chgG_go (c := (l[i]).chain) (by omega) hp hpj hji
                  rw [if_neg (by omega)] at eG
                  exact ⟨i - (j + 1), by omega, _, (j + 1), Ax, cx, Ac_frg ⟨rfl, rfl, rfl, rfl, rfl, (agr rfl (by first | rfl | (congr 1; omega) | (congr 1 <;> omega))), trivial⟩, hB, hS, hD, hoP, hFz, hhz, hb2, (by rw [eG]; exact hbx), (by rw [eG]; exact hoX), (by omega), (by omega), rfl⟩
               ·refine T_tk (i := 9) rfl (Y_no rfl rfl rfl (decide_eq_false h20)) ⟨hb2, ha5, trivial⟩ rfl ?_
                refine T_tk (i := 10) rfl (Y_no rfl rfl rfl (decide_eq_false h20)) ⟨hb2, ha5, trivial⟩ rfl ?_
                refine T_tk (i := 11) rfl (Y_no rfl rfl rfl (decide_eq_false h20)) ⟨hb2, ha5, trivial⟩ rfl ?_
                refine T_tk (i := 12) rfl (Y_no rfl rfl rfl (decide_eq_false h20)) ⟨hb2, ha5, trivial⟩ rfl ?_
                refine T_tk (i := 13) rfl (Y_no rfl rfl rfl (decide_eq_false h20)) ⟨hb2, ha5, trivial⟩ rfl ?_
                refine T_tk (i := 14) rfl (Y_no rfl rfl rfl (decide_eq_false h20)) ⟨hb2, ha5, trivial⟩ rfl ?_
                refine T_tk (i := 15) rfl (Y_no rfl rfl rfl (decide_eq_false h20)) ⟨hb2, ha5, trivial⟩ rfl ?_
                refine T_tk (i := 16) rfl (Y_noU rfl rfl rfl) ⟨hb2, ha5, trivial⟩ rfl ?_
                refine T_tk (i := 17) rfl (Y_noU rfl rfl rfl) ⟨hb2, ha5, trivial⟩ rfl ?_
                refine T_tk (i := 18) rfl (Y_noU rfl rfl rfl) ⟨hb2, ha5, trivial⟩ rfl ?_
                refine T_tk (i := 19) rfl (Y_noU rfl rfl rfl) ⟨hb2, ha5, trivial⟩ rfl ?_
                refine T_tk (i := 20) rfl (Y_noU rfl rfl rfl) ⟨hb2, ha5, trivial⟩ rfl ?_
                refine T_tk (i := 21) rfl (Y_noU rfl rfl rfl) ⟨hb2, ha5, trivial⟩ rfl ?_
                refine T_tk (i := 22) rfl (Y_no rfl rfl rfl (decide_eq_false h20)) ⟨hb2, ha5, trivial⟩ rfl ?_
                refine T_tk (i := 23) rfl (Y_of (fun _ _ => R_pickF rfl (decide_eq_false h20) rfl)) ⟨hb2, ha5, trivial⟩ rfl ?_
                refine T_done (by kernel_rfl) (CalmE.normal ?_)
                refine N_then (C_condF rfl rfl (C_skip (N_in (N_then (C_reg rfl ?_)))))
                refine L_run (R_move rfl) rfl ?_
                refine L_run (R_add64 rfl rfl (by omega)) rfl ?_
                refine L_run (R_assign rfl) rfl ?_
                refine L_nil (N_then ?_)
                have hji : j < i := by omega
                have eG := chgG_go (c := (l[i]).chain) (by omega) hp hpj hji
                rw [if_neg (by omega)] at eG
                exact ⟨i - (j + 1), by omega, _, (j + 1), Ax, cx, Ac_frg ⟨rfl, rfl, rfl, rfl, rfl, (agr rfl (by first | rfl | (congr 1; omega) | (congr 1 <;> omega))), trivial⟩, hB, hS, hD, hoP, hFz, hhz, hb2, (by rw [eG]; exact hbx), (by rw [eG]; exact hoX), (by omega), (by omega), rfl⟩
              ·refine C_exit (X_then (X_then (X_hit (N_then (C_reg rfl ?_)))))
               have eG : chgG l (l[i]).chain p j = chgR l (l[i]).chain i := by rw [show j = i by omega]; exact chgG_all (by omega) hp
               rw [eG] at hoX hbx
               have hEl : E.length ≤ i := by have h_ := congrArg List.length hkE; rw [List.length_map] at h_; have h2_ := bookR_len (l := l) (i := i); omega
               refine L_run (R_move rfl) rfl ?_
               refine L_run (R_loadA (vs := [.int .i64 ((l[i]).lsn), .int .i64 ((l[i]).chain), .slice Ax ((chgR l (l[i]).chain i).length) cx]) rfl agg27 (At.pre (hbx.at_ 0) rfl) rfl) rfl ?_
               refine L_buildSlice (pv := [(0, .agg #[.int .i64 ((l[i]).lsn), .int .i64 ((l[i]).chain), .slice Ax ((chgR l (l[i]).chain i).length) cx])]) (cs := [.int .i64 ((l[i]).lsn), .int .i64 ((l[i]).chain), .slice Ax ((chgR l (l[i]).chain i).length) cx]) slc22 zer27 rfl rfl (by kernel_rfl) rfl ?_
               intro g21 w45 eg14 hb26 hs42 hz29
               have ge14 : w.heap.size ≤ g21 := eg_ge hB eg14
               have lw14 : hz ≤ g21 := (Eq.symm eg14) ▸ hhz
               have lt33 : g2 < g21 := lt_of_eg hb2.lt eg14
               have lt34 : g13 < g21 := lt_of_eg hbx.lt eg14
               have hap17 : ∀ k_, (Value.slice Aj E.length cj).ownBlock = some k_ → k_ ≠ g21 := fun k_ hk => by have h_ := (World.ownsRow.lt hoP k_ hk).2; omega
               replace hB := gb_tr hB hs42
               replace hS := hS.gb hs42
               replace hD := hD.gb hs42
               replace hoP := own_gb hoP hs42
               replace hFz := hFz.gb hs42
               replace hhz := Nat.le_trans hhz hs42.size
               replace hb2 := hb2.gb hs42
               replace hbx := hbx.gb hs42
               replace hoX := own_gb hoX hs42
               refine T_append (xs := E) (ys := [(⟨(l[i]).lsn, (l[i]).chain, Ax, cx, chgR l (l[i]).chain i⟩ : Ent)]) EncEn slc22 rfl rfl hoP (Blk.sli (m := 0) hb26) (by simp; omega) (by have := hB.size; omega) rfl ?_
               intro A_6 c_6 w46 ho6 hs43 hat6
               have lt35 := hbx.lt
               replace hB := gb_tro hB hoP hs43 (Nat.le_refl _)
               replace hS := hS.grown hs43 (fun k hk => .inr (Nat.le_trans (Nat.le_refl _) (World.ownsRow.lt hoP k hk).1))
               replace hD := hD.own hoP (Nat.le_refl _) hs43
               replace hFz := hFz.ownT hoP rfl hs43
               replace hhz := Nat.le_trans hhz hs43.size
               replace hb2 := blk_own hb2 hoP rfl hs43
               replace hbx := hbx.grown hs43 (fun e_ => hap10 _ e_.symm rfl)
               replace hoX := hoX.kept hs43 (own_type_ne' hoX hoP rfl)
               have hap18 : ∀ k_, (Value.slice A_6 (E ++ ([(⟨(l[i]).lsn, (l[i]).chain, Ax, cx, chgR l (l[i]).chain i⟩ : Ent)])).length c_6).ownBlock = some k_ → k_ ≠ g13 := fun k_ hk => by rcases hat6 with h_ | h_ <;> rw [h_] at hk <;> first | exact hap10 k_ hk | (injection hk with hk; omega)
               refine L_run (R_assign rfl) rfl ?_
               refine L_nil (N_in (N_then (C_reg rfl ?_)))
               refine L_run (R_move rfl) rfl ?_
               refine L_run (R_add64 rfl rfl (by omega)) rfl ?_
               refine L_run (R_assign rfl) rfl ?_
               refine L_nil (N_then ?_)
               have hkn := bookR_co (A := Ax) (k := cx) hli hk8 hc0 hkE
               exact ⟨l.length - (i + 1), by omega, _, (i + 1), A_6, c_6, E ++ ([(⟨(l[i]).lsn, (l[i]).chain, Ax, cx, chgR l (l[i]).chain i⟩ : Ent)]), w46.heap.size, Ac_frg ⟨rfl, rfl, (agr rfl (by first | rfl | (congr 1; omega) | (congr 1 <;> omega))), trivial⟩, hB, hS, hD, (own_lo ho6 (Nat.le_refl _)), (hFz.snoc hoX), (Nat.le_refl _), (by omega), (okB_go hli hok hyy), hkn, hB.size, rfl⟩
  ·refine C_exit (X_then (X_then (X_hit (N_then (C_seq (C_reg rfl ?_))))))
   refine L_run (R_move rfl) rfl ?_
   refine L_run (R_assign rfl) rfl ?_
   refine L_run (R_assign rfl) rfl ?_
   refine L_nil (N_then (C_ret ?_))
   refine ret2 Try.results22 rfl rfl ?_
   rw [show i = l.length by omega] at hok hkE
   exact ⟨hB, .inl ⟨hok, _, _, _, rfl, (own_lo hoP (Nat.le_refl _)), hFz.top, hkE⟩⟩

theorem rof_y {w : World} {A : Option Addr} {c : Nat} {l : List RecC} (hS0 : Sli 0 0 w.heap.size w A (fl encRC l)) (hD0 : DeepRC w.heap.size w l) (hF : FewR l) (ho : okB l l.length = true) : Runs Try.prog 22 #[.slice A l.length c] w (fun v_ w' => w.grownBy w' none ∧ ∃ Ao co E, v_ = .tuple #[.slice Ao (List.length E) co, .int .i64 0] ∧ World.ownsRow w' w.heap.size 27 3 (.slice Ao E.length co) E.length (fl encEn E) ∧ FrzE w' E ∧ E.map keyE = bookR l l.length) :=
  (rof_ok hS0 hD0 hF).mono fun v_ w' h => ⟨h.1, h.2.elim (fun q => q.2) (fun q => absurd ho q.1)⟩
theorem rof_n {w : World} {A : Option Addr} {c : Nat} {l : List RecC} (hS0 : Sli 0 0 w.heap.size w A (fl encRC l)) (hD0 : DeepRC w.heap.size w l) (hF : FewR l) (ho : ¬ okB l l.length = true) : Runs Try.prog 22 #[.slice A l.length c] w (fun v_ w' => w.grownBy w' none ∧ v_ = .tuple #[.slice none 0 0, .int .i64 12]) :=
  (rof_ok hS0 hD0 hF).mono fun v_ w' h => ⟨h.1, h.2.elim (fun q => absurd q.1 ho) (fun q => q.2)⟩
end Go.Proofs.Ytbmohojdlgedpaa
