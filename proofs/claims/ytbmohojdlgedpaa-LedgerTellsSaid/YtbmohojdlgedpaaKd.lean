/-
  Records as data; contracts of Few, counts, last, open.
-/
import Derived.Test.YtbmohojdlgedpaaKc
namespace Go.Proofs.Ytbmohojdlgedpaa
open Go.RowKit Gw Pl
set_option linter.unusedVariables false
set_option linter.unusedSimpArgs false
theorem cb43 : callB Try.prog 43 = true := by kernel_rfl
theorem fld65_0 : fldB Try.prog 65 0 0 = true := by kernel_rfl
theorem fld65_1 : fldB Try.prog 65 1 1 = true := by kernel_rfl
theorem fld65_4 : fldB Try.prog 65 4 4 = true := by kernel_rfl
theorem slc56 : slcB Try.prog 56 65 5 56 = true := by kernel_rfl
structure RecC where
  kind : Int
  chain : Int
  lsn : Int
  prev : Int
  da : Option Addr
  dc : Nat
  data : List UInt8
def encRC (x : RecC) : List Value := [.int .i64 x.kind, .int .i64 x.chain, .int .i64 x.lsn, .int .i64 x.prev, .slice x.da x.data.length x.dc]
theorem EncRC : Enc encRC 5 := ⟨fun _ => rfl, fun _ => rfl⟩
def DeepRC (hi : Nat) (w : World) (l : List RecC) : Prop := ∀ y ∈ l, Sli 0 0 hi w y.da (fl encB y.data) ∧ y.data.length ≤ y.dc
section
variable {hi : Nat} {w w' : World} {l : List RecC}
theorem DeepRC.gb (h : DeepRC hi w l) (hg : w.grownBy w' none) : DeepRC hi w' l := fun y hy => ⟨(h y hy).1.gb hg, (h y hy).2⟩
theorem DeepRC.old {g : Nat} (h : DeepRC hi w l) (hg : w.grownBy w' (some g)) (hr : hi ≤ g) : DeepRC hi w' l := fun y hy => ⟨(h y hy).1.old hg hr, (h y hy).2⟩
theorem DeepRC.own {base t sz m : Nat} {v : Value} {us : List Value} (h : DeepRC hi w l) (ho : w.ownsRow base t sz v m us) (hb : hi ≤ base) (hg : w.grownBy w' v.ownBlock) : DeepRC hi w' l := fun y hy => ⟨(h y hy).1.grown hg (fun k hk => .inr (Nat.le_trans hb (World.ownsRow.lt ho k hk).1)), (h y hy).2⟩
theorem DeepRC.getD (h : DeepRC hi w l) {i : Nat} (hi' : i < l.length) : Sli 0 0 hi w l[i].da (fl encB l[i].data) := (h _ (List.getElem_mem _)).1
theorem DeepRC.cap (h : DeepRC hi w l) {i : Nat} (hi' : i < l.length) : (l[i]).data.length ≤ (l[i]).dc := (h _ (List.getElem_mem _)).2
theorem DeepRC.top (h : DeepRC hi w l) : DeepRC w.heap.size w l := fun y hy => ⟨(h y hy).1.top, (h y hy).2⟩
end
def GoodRC (W : World) (y : RecC) : Prop := Sli 0 0 W.heap.size W y.da (fl encB y.data) ∧ y.data.length ≤ y.dc
def FewR (l : List RecC) : Prop := (∀ y ∈ l, y.data.length ≤ 600) ∧ l.length ≤ 100
instance (l : List RecC) : Decidable (FewR l) := by unfold FewR; infer_instance
def endsK (k : Int) : Prop := k = 5 ∨ (8 ≤ k ∧ k ≤ 9)
instance (k : Int) : Decidable (endsK k) := by unfold endsK; infer_instance
def lastR (l : List RecC) (c : Int) : Nat → Int
  | 0 => -1
  | i + 1 => match l[i]? with
    | some r => if r.chain = c ∧ endsK r.kind then (i : Int) else lastR l c i
    | none => lastR l c i
def openR (l : List RecC) (c : Int) : Nat → Bool
  | 0 => false
  | i + 1 => match l[i]? with
    | some r => if r.chain = c ∧ endsK r.kind then decide (r.kind = 5) else openR l c i
    | none => openR l c i
def chgR (l : List RecC) (c : Int) : Nat → List Chg
  | 0 => []
  | i + 1 => match l[i]? with
    | some r => if r.chain = c ∧ endsK r.kind then [] else if r.chain = c ∧ (r.kind = 6 ∨ r.kind = 7) then chgR l c i ++ [(dec r.data).1] else chgR l c i
    | none => chgR l c i
section
variable {l : List RecC} {c : Int} {i : Nat}
theorem lastR_s (h : i < l.length) : lastR l c (i + 1) = if (l[i]).chain = c ∧ endsK (l[i]).kind then (i : Int) else lastR l c i := by
  show (match l[i]? with | some r => _ | none => _) = _
  rw [List.getElem?_eq_getElem h]
theorem openR_s (h : i < l.length) : openR l c (i + 1) = if (l[i]).chain = c ∧ endsK (l[i]).kind then decide ((l[i]).kind = 5) else openR l c i := by
  show (match l[i]? with | some r => _ | none => _) = _
  rw [List.getElem?_eq_getElem h]
theorem chgR_s (h : i < l.length) : chgR l c (i + 1) = if (l[i]).chain = c ∧ endsK (l[i]).kind then [] else if (l[i]).chain = c ∧ ((l[i]).kind = 6 ∨ (l[i]).kind = 7) then chgR l c i ++ [(dec (l[i]).data).1] else chgR l c i := by
  show (match l[i]? with | some r => _ | none => _) = _
  rw [List.getElem?_eq_getElem h]
theorem lastR_lt : ∀ {i : Nat}, -1 ≤ lastR l c i ∧ lastR l c i < (i : Int)
  | 0 => ⟨Int.le_refl _, by show (-1 : Int) < 0; decide⟩
  | i + 1 => by
    have := lastR_lt (i := i)
    unfold lastR
    split
    · split <;> omega
    · omega
theorem last_open : ∀ {i : Nat} (_ : i ≤ l.length), (lastR l c i < 0 → openR l c i = false) ∧ ∀ p : Nat, lastR l c i = (p : Int) → ∃ h : p < l.length, openR l c i = decide ((l[p]).kind = 5)
  | 0, _ => ⟨fun _ => rfl, fun p h => by have h2 : (-1 : Int) = (p : Int) := h; omega⟩
  | i + 1, hi => by
    have ih := last_open (i := i) (by omega)
    rw [lastR_s (by omega), openR_s (by omega)]
    split
    · refine ⟨fun h => by omega, fun p h => ?_⟩
      obtain rfl : i = p := by omega
      exact ⟨by omega, rfl⟩
    · exact ih
theorem chgR_len : ∀ {i : Nat}, (chgR l c i).length ≤ i
  | 0 => Nat.le_refl _
  | i + 1 => by
    have := chgR_len (i := i)
    unfold chgR
    split
    · split
      · exact Nat.zero_le _
      · split
        · rw [List.length_append, List.length_cons, List.length_nil]; omega
        · omega
    · omega
end
theorem few45_ok {w : World} {t1 lo hi : Nat} {A : Option Addr} {c : Nat} {l : List RecC} (hS : Sli t1 lo hi w A (fl encRC l)) (hb : l.length ≤ 140737488351232) :
    Runs Try.prog 20 #[.slice A l.length c] w (fun v w' => w.grownBy w' none ∧ v = .bool (decide (FewR l))) := by
 have hB := gb_refl w none
 replace hS := hS.top
 refine enter Try.func20 Try.ntmps20 rfl rfl ?_
 refine C_seq (C_reg rfl ?_)
 refine L_run (R_assign rfl) rfl ?_
 refine L_nil (N_then (C_seq (C_seq (C_reg rfl ?_))))
 refine L_run (R_assign rfl) rfl ?_
 refine L_nil (N_then (C_block ?_))
 refine C_loop (fun m_ a_ w_ => ∃ (σ_ : Nat → Value) (i : Nat), a_ = Ac 20 σ_ [] [(0, .slice A l.length c), (2, .bool false), (3, .int .i64 (i : Int))] ∧ w.grownBy w_ none ∧ Sli t1 lo w.heap.size w_ A (fl encRC l) ∧ (i ≤ l.length) ∧ (∀ y ∈ l.take i, y.data.length ≤ 600) ∧ l.length - i = m_) (l.length - 0) ?_ ?_
 ·exact ⟨_, 0, Ac_frg ⟨rfl, rfl, (agr rfl (by first | rfl | (congr 1; omega) | (congr 1 <;> omega))), trivial⟩, hB, hS, (Nat.zero_le _), (by intro y hy; cases hy), rfl⟩
 ·clear hB
  clear hS
  rintro m_ a_ w1 ⟨σ_, i, rfl, hB, hS, hi_, hall, rfl⟩
  refine C_seq (C_seq (C_reg rfl ?_))
  refine L_run (R_move rfl) rfl ?_
  refine L_run (R_move rfl) rfl ?_
  refine L_run (R_lenSl rfl slc56) rfl ?_
  refine L_run (R_lss rfl rfl) rfl ?_
  refine L_nil (N_then ?_)
  refine C_if rfl (fun h1 => ?_) (fun h1 => ?_)
  ·refine C_skip (N_then (C_seq (C_block (C_seq (C_reg rfl ?_)))))
   have hli : i < l.length := by omega
   refine L_run (R_move rfl) rfl ?_
   refine L_run (R_move rfl) rfl ?_
   have hl1 : i < l.length := by first | omega | (simp; omega)
   refine T_index (xs := l) (i := i) EncRC rfl rfl (by first | rfl | omega) slc56 hl1 hS rfl ?_
   intro g1 o1 ha1
   refine L_run (R_field rfl fld65_4 rfl) rfl ?_
   refine L_run (R_load1 rfl scl63 (ha1 4 _ rfl)) rfl ?_
   refine L_run (R_lenSl rfl slc63) rfl ?_
   refine L_run (R_gtr rfl rfl) rfl ?_
   refine L_nil (N_then ?_)
   refine C_if rfl (fun h2 => ?_) (fun h2 => ?_)
   ·refine C_seq (C_reg rfl ?_)
    refine L_run (R_assign rfl) rfl ?_
    refine L_nil (N_then (C_ret (R_in (R_then (R_then (R_in (R_then ?_)))))))
    refine ret1 Try.results20 rfl ?_
    exact ⟨hB, bF (fun q_ => by have h1_ := q_.1 (l[i]) (List.getElem_mem hli); omega)⟩
   ·refine C_skip (N_in (N_then (C_reg rfl ?_)))
    refine L_run (R_move rfl) rfl ?_
    refine L_run (R_add64 rfl rfl (by omega)) rfl ?_
    refine L_run (R_assign rfl) rfl ?_
    refine L_nil (N_then ?_)
    exact ⟨l.length - (i + 1), by omega, _, (i + 1), Ac_frg ⟨rfl, rfl, (agr rfl (by first | rfl | (congr 1; omega) | (congr 1 <;> omega))), trivial⟩, hB, hS, (by omega), (by intro y hy; rw [List.take_succ_eq_append_getElem hli] at hy; rcases List.mem_append.1 hy with hy | hy <;> first | exact hall y hy | (rw [List.mem_singleton.1 hy]; omega)), rfl⟩
  ·refine C_exit (X_then (X_then (X_hit (N_then (C_seq (C_reg rfl ?_))))))
   refine L_run (R_move rfl) rfl ?_
   refine L_run (R_lenSl rfl slc56) rfl ?_
   refine L_run (R_leq rfl rfl) rfl ?_
   refine L_run (R_assign rfl) rfl ?_
   refine L_nil (N_then (C_ret ?_))
   refine ret1 Try.results20 rfl ?_
   rw [List.take_of_length_le (by omega)] at hall; exact ⟨hB, bD ⟨fun q_ => ⟨hall, by omega⟩, fun q_ => by have := q_.2; omega⟩⟩

theorem counts_ok {w : World} {r : RecC} :
    Runs Try.prog 39 #[.agg #[.int .i64 r.kind, .int .i64 r.chain, .int .i64 r.lsn, .int .i64 r.prev, .slice r.da r.data.length r.dc]] w (fun v w' => w.grownBy w' none ∧ v = .bool (decide (r.chain ≠ 0 ∧ r.kind ≠ 1))) := by
 have hB := gb_refl w none
 refine enter Try.func39 Try.ntmps39 rfl rfl ?_
 refine C_seq (C_reg rfl ?_)
 refine L_box (cs := [.int .i64 r.kind, .int .i64 r.chain, .int .i64 r.lsn, .int .i64 r.prev, .slice r.da r.data.length r.dc]) rfl rfl rfl ?_
 intro g1 w1 eg1 hb1 hs1 hz1
 have ge1 : w.heap.size ≤ g1 := eg_ge hB eg1
 replace hB := gb_tr hB hs1
 refine L_run (R_assign rfl) rfl ?_
 refine L_nil (N_then (C_seq (C_reg rfl ?_)))
 refine L_run (R_field (r := 1) rfl fld65_1 rfl) rfl ?_
 refine L_run (R_load1 rfl scl3 (hb1.cell (i := 1) rfl)) rfl ?_
 refine L_run (R_neq rfl rfl) rfl ?_
 refine L_run (R_move rfl) rfl ?_
 refine L_splitD (p := r.chain ≠ 0) (fun h1 => ?_) (fun h1 => ?_)
 ·refine L_yes rfl rfl rfl (decide_eq_true h1) ?_
  refine L_run (R_field (r := 0) rfl fld65_0 rfl) rfl ?_
  refine L_yes rfl rfl rfl (decide_eq_true h1) ?_
  refine L_run (R_load1 rfl scl3 (hb1.cell (i := 0) rfl)) rfl ?_
  refine L_yes rfl rfl rfl (decide_eq_true h1) ?_
  refine L_run (R_neq rfl rfl) rfl ?_
  refine L_run (R_pickT rfl (decide_eq_true h1) rfl) rfl ?_
  refine L_run (R_assign rfl) rfl ?_
  refine L_nil (N_then (C_ret ?_))
  refine ret1 Try.results39 rfl ?_
  exact ⟨hB, bD (by omega)⟩
 ·refine L_no rfl rfl rfl (decide_eq_false h1) rfl ?_
  refine L_no rfl rfl rfl (decide_eq_false h1) rfl ?_
  refine L_no rfl rfl rfl (decide_eq_false h1) rfl ?_
  refine L_run (R_pickF rfl (decide_eq_false h1) rfl) rfl ?_
  refine L_run (R_assign rfl) rfl ?_
  refine L_nil (N_then (C_ret ?_))
  refine ret1 Try.results39 rfl ?_
  exact ⟨hB, bF (by omega)⟩

theorem last_ok {w : World} {t1 lo hi : Nat} {A : Option Addr} {c : Nat} {l : List RecC} (hS : Sli t1 lo hi w A (fl encRC l)) {ch : Int} {a : Nat} (ha : a ≤ l.length) (hb : l.length ≤ 1000000) :
    Runs Try.prog 43 #[.slice A l.length c, .int .i64 (a : Int), .int .i64 ch] w (fun v w' => w.grownBy w' none ∧ v = .int .i64 (lastR l ch a)) := by
 have hB := gb_refl w none
 replace hS := hS.top
 refine enter Try.func43 Try.ntmps43 rfl rfl ?_
 refine C_seq (C_reg rfl ?_)
 refine L_run (R_assign rfl) rfl ?_
 refine L_nil (N_then (C_seq (C_seq (C_reg rfl ?_))))
 refine L_run (R_move rfl) rfl ?_
 refine L_run (R_sub64 rfl rfl (by omega)) rfl ?_
 refine L_run (R_assign rfl) rfl ?_
 refine L_nil (N_then (C_block ?_))
 refine C_loop (fun m_ a_ w_ => ∃ (σ_ : Nat → Value) (n : Nat), a_ = Ac 46 σ_ [] [(0, .slice A l.length c), (2, .int .i64 ch), (6, .int .i64 0), (7, .int .i64 ((n : Int) - 1))] ∧ w.grownBy w_ none ∧ Sli t1 lo w.heap.size w_ A (fl encRC l) ∧ (lastR l ch n = lastR l ch a) ∧ (n ≤ l.length) ∧ n = m_) (a) ?_ ?_
 ·exact ⟨_, a, Ac_frg ⟨rfl, rfl, rfl, rfl, trivial⟩, hB, hS, rfl, ha, rfl⟩
 ·clear hB
  clear hS
  rintro m_ a_ w1 ⟨σ_, n, rfl, hB, hS, hla, hn_, rfl⟩
  refine C_seq (C_seq (C_reg rfl ?_))
  refine L_run (R_move rfl) rfl ?_
  refine L_run (R_geq rfl rfl) rfl ?_
  refine L_nil (N_then ?_)
  refine C_if rfl (fun h1 => ?_) (fun h1 => ?_)
  ·refine C_skip (N_then (C_seq (C_block (C_seq (C_reg rfl ?_)))))
   obtain ⟨n', rfl⟩ : ∃ n', n = n' + 1 := ⟨n - 1, by omega⟩
   have hnl : n' < l.length := by omega
   refine L_run (R_move rfl) rfl ?_
   refine L_run (R_move rfl) rfl ?_
   have hl1 : n' < l.length := by first | omega | (simp; omega)
   refine T_index (xs := l) (i := n') EncRC rfl rfl (by first | rfl | omega) slc56 hl1 hS rfl ?_
   intro g1 o1 ha1
   refine L_run (R_field rfl fld65_1 rfl) rfl ?_
   refine L_run (R_load1 rfl scl3 (ha1 1 _ rfl)) rfl ?_
   refine L_run (R_move rfl) rfl ?_
   refine L_run (R_eql rfl rfl) rfl ?_
   refine L_run (R_move rfl) rfl ?_
   refine L_splitD (p := (l[n']).chain = ch) (fun h2 => ?_) (fun h2 => ?_)
   ·refine L_yes rfl rfl rfl (decide_eq_true h2) ?_
    refine L_run (R_move rfl) rfl ?_
    refine L_yes rfl rfl rfl (decide_eq_true h2) ?_
    refine L_run (R_move rfl) rfl ?_
    refine L_yes rfl rfl rfl (decide_eq_true h2) ?_
    have hl2 : n' < l.length := by first | omega | (simp; omega)
    refine T_index (xs := l) (i := n') EncRC rfl rfl (by first | rfl | omega) slc56 hl2 hS rfl ?_
    intro g2 o2 ha2
    refine L_yes rfl rfl rfl (decide_eq_true h2) ?_
    refine L_run (R_field rfl fld65_0 rfl) rfl ?_
    refine L_yes rfl rfl rfl (decide_eq_true h2) ?_
    refine L_run (R_load1 rfl scl3 (ha2 0 _ rfl)) rfl ?_
    refine L_yes rfl rfl rfl (decide_eq_true h2) ?_
    refine L_run (R_eql rfl rfl) rfl ?_
    refine L_yes rfl rfl rfl (decide_eq_true h2) ?_
    refine L_run (R_move rfl) rfl ?_
    refine L_splitD (p := (l[n']).kind = 5) (fun h3 => ?_) (fun h3 => ?_)
    ·refine L_no rfl rfl rfl (decide_eq_true h3) rfl ?_
     refine L_no rfl rfl rfl (decide_eq_true h3) rfl ?_
     refine L_no rfl rfl rfl (decide_eq_true h3) rfl ?_
     refine L_no rfl rfl rfl (decide_eq_true h3) rfl ?_
     refine L_no rfl rfl rfl (decide_eq_true h3) rfl ?_
     refine L_no rfl rfl rfl (decide_eq_true h3) rfl ?_
     refine L_no rfl rfl rfl (decide_eq_true h3) rfl ?_
     refine L_noU rfl rfl rfl rfl ?_
     refine L_noU rfl rfl rfl rfl ?_
     refine L_noU rfl rfl rfl rfl ?_
     refine L_noU rfl rfl rfl rfl ?_
     refine L_noU rfl rfl rfl rfl ?_
     refine L_noU rfl rfl rfl rfl ?_
     refine L_no rfl rfl rfl (decide_eq_true h3) rfl ?_
     refine L_yes rfl rfl rfl (decide_eq_true h2) ?_
     refine L_run (R_pickT rfl (decide_eq_true h3) rfl) rfl ?_
     refine L_run (R_pickT rfl (decide_eq_true h2) rfl) rfl ?_
     refine L_nil (N_then (C_condT rfl rfl (C_seq (C_reg rfl ?_))))
     refine L_run (R_move rfl) rfl ?_
     refine L_run (R_assign rfl) rfl ?_
     refine L_nil (N_then (C_ret (R_in (R_then (R_then (R_in (R_then ?_)))))))
     refine ret1 Try.results43 rfl ?_
     have hs_ := lastR_s (c := ch) hnl
     rw [if_pos ⟨by omega, by unfold endsK; omega⟩] at hs_
     exact ⟨hB, by rw [← hla, hs_]; congr 1; omega⟩
    ·refine L_yes rfl rfl rfl (decide_eq_false h3) ?_
     refine L_run (R_move rfl) rfl ?_
     refine L_yes rfl rfl rfl (decide_eq_false h3) ?_
     refine L_run (R_move rfl) rfl ?_
     refine L_yes rfl rfl rfl (decide_eq_false h3) ?_
     have hl3 : n' < l.length := by first | omega | (simp; omega)
     refine T_index (xs := l) (i := n') EncRC rfl rfl (by first | rfl | omega) slc56 hl3 hS rfl ?_
     intro g3 o3 ha3
     refine L_yes rfl rfl rfl (decide_eq_false h3) ?_
     refine L_run (R_field rfl fld65_0 rfl) rfl ?_
     refine L_yes rfl rfl rfl (decide_eq_false h3) ?_
     refine L_run (R_load1 rfl scl3 (ha3 0 _ rfl)) rfl ?_
     refine L_yes rfl rfl rfl (decide_eq_false h3) ?_
     refine L_run (R_geq rfl rfl) rfl ?_
     refine L_yes rfl rfl rfl (decide_eq_false h3) ?_
     refine L_run (R_move rfl) rfl ?_
     refine L_splitD (p := 8 ≤ (l[n']).kind) (fun h4 => ?_) (fun h4 => ?_)
     ·refine L_yes rfl rfl rfl (decide_eq_true h4) ?_
      refine L_run (R_move rfl) rfl ?_
      refine L_yes rfl rfl rfl (decide_eq_true h4) ?_
      refine L_run (R_move rfl) rfl ?_
      refine L_yes rfl rfl rfl (decide_eq_true h4) ?_
      have hl4 : n' < l.length := by first | omega | (simp; omega)
      refine T_index (xs := l) (i := n') EncRC rfl rfl (by first | rfl | omega) slc56 hl4 hS rfl ?_
      intro g4 o4 ha4
      refine L_yes rfl rfl rfl (decide_eq_true h4) ?_
      refine L_run (R_field rfl fld65_0 rfl) rfl ?_
      refine L_yes rfl rfl rfl (decide_eq_true h4) ?_
      refine L_run (R_load1 rfl scl3 (ha4 0 _ rfl)) rfl ?_
      refine L_yes rfl rfl rfl (decide_eq_true h4) ?_
      refine L_run (R_leq rfl rfl) rfl ?_
      refine L_yes rfl rfl rfl (decide_eq_false h3) ?_
      refine L_run (R_pickT rfl (decide_eq_true h4) rfl) rfl ?_
      refine L_yes rfl rfl rfl (decide_eq_true h2) ?_
      refine L_run (R_pickF rfl (decide_eq_false h3) rfl) rfl ?_
      refine L_run (R_pickT rfl (decide_eq_true h2) rfl) rfl ?_
      refine L_nil (N_then ?_)
      refine C_if rfl (fun h5 => ?_) (fun h5 => ?_)
      ·refine C_seq (C_reg rfl ?_)
       refine L_run (R_move rfl) rfl ?_
       refine L_run (R_assign rfl) rfl ?_
       refine L_nil (N_then (C_ret (R_in (R_then (R_then (R_in (R_then ?_)))))))
       refine ret1 Try.results43 rfl ?_
       have hs_ := lastR_s (c := ch) hnl
       rw [if_pos ⟨by omega, by unfold endsK; omega⟩] at hs_
       exact ⟨hB, by rw [← hla, hs_]; congr 1; omega⟩
      ·refine C_skip (N_in (N_then (C_reg rfl ?_)))
       refine L_run (R_move rfl) rfl ?_
       refine L_run (R_sub64 rfl rfl (by omega)) rfl ?_
       refine L_run (R_assign rfl) rfl ?_
       refine L_nil (N_then ?_)
       have hs_ := lastR_s (c := ch) hnl
       rw [if_neg (fun q_ => by have h1_ := q_.1; have h2_ := q_.2; unfold endsK at h2_; omega)] at hs_
       exact ⟨n', by omega, _, n', Ac_frg ⟨rfl, rfl, rfl, (agr rfl (by first | rfl | (congr 1; omega) | (congr 1 <;> omega))), trivial⟩, hB, hS, (by rw [← hla, ← hs_]), (by omega), rfl⟩
     ·refine L_no rfl rfl rfl (decide_eq_false h4) rfl ?_
      refine L_no rfl rfl rfl (decide_eq_false h4) rfl ?_
      refine L_no rfl rfl rfl (decide_eq_false h4) rfl ?_
      refine L_no rfl rfl rfl (decide_eq_false h4) rfl ?_
      refine L_no rfl rfl rfl (decide_eq_false h4) rfl ?_
      refine L_no rfl rfl rfl (decide_eq_false h4) rfl ?_
      refine L_yes rfl rfl rfl (decide_eq_false h3) ?_
      refine L_run (R_pickF rfl (decide_eq_false h4) rfl) rfl ?_
      refine L_yes rfl rfl rfl (decide_eq_true h2) ?_
      refine L_run (R_pickF rfl (decide_eq_false h3) rfl) rfl ?_
      refine L_run (R_pickT rfl (decide_eq_true h2) rfl) rfl ?_
      refine L_nil (N_then (C_condF rfl rfl (C_skip (N_in (N_then (C_reg rfl ?_))))))
      refine L_run (R_move rfl) rfl ?_
      refine L_run (R_sub64 rfl rfl (by omega)) rfl ?_
      refine L_run (R_assign rfl) rfl ?_
      refine L_nil (N_then ?_)
      have hs_ := lastR_s (c := ch) hnl
      rw [if_neg (fun q_ => by have h1_ := q_.1; have h2_ := q_.2; unfold endsK at h2_; omega)] at hs_
      exact ⟨n', by omega, _, n', Ac_frg ⟨rfl, rfl, rfl, (agr rfl (by first | rfl | (congr 1; omega) | (congr 1 <;> omega))), trivial⟩, hB, hS, (by rw [← hla, ← hs_]), (by omega), rfl⟩
   ·refine L_no rfl rfl rfl (decide_eq_false h2) rfl ?_
    refine L_no rfl rfl rfl (decide_eq_false h2) rfl ?_
    refine L_no rfl rfl rfl (decide_eq_false h2) rfl ?_
    refine L_no rfl rfl rfl (decide_eq_false h2) rfl ?_
    refine L_no rfl rfl rfl (decide_eq_false h2) rfl ?_
    refine L_no rfl rfl rfl (decide_eq_false h2) rfl ?_
    refine L_no rfl rfl rfl (decide_eq_false h2) rfl ?_
    refine L_noU rfl rfl rfl rfl ?_
    refine L_noU rfl rfl rfl rfl ?_
    refine L_noU rfl rfl rfl rfl ?_
    refine L_noU rfl rfl rfl rfl ?_
    refine L_noU rfl rfl rfl rfl ?_
    refine L_noU rfl rfl rfl rfl ?_
    refine L_noU rfl rfl rfl rfl ?_
    refine L_noU rfl rfl rfl rfl ?_
    refine L_noU rfl rfl rfl rfl ?_
    refine L_noU rfl rfl rfl rfl ?_
    refine L_noU rfl rfl rfl rfl ?_
    refine L_noU rfl rfl rfl rfl ?_
    refine L_noU rfl rfl rfl rfl ?_
    refine L_noU rfl rfl rfl rfl ?_
    refine L_no rfl rfl rfl (decide_eq_false h2) rfl ?_
    refine L_run (R_pickF rfl (decide_eq_false h2) rfl) rfl ?_
    refine L_nil (N_then (C_condF rfl rfl (C_skip (N_in (N_then (C_reg rfl ?_))))))
    refine L_run (R_move rfl) rfl ?_
    refine L_run (R_sub64 rfl rfl (by omega)) rfl ?_
    refine L_run (R_assign rfl) rfl ?_
    refine L_nil (N_then ?_)
    have hs_ := lastR_s (c := ch) hnl
    rw [if_neg (fun q_ => by have h1_ := q_.1; have h2_ := q_.2; unfold endsK at h2_; omega)] at hs_
    exact ⟨n', by omega, _, n', Ac_frg ⟨rfl, rfl, rfl, (agr rfl (by first | rfl | (congr 1; omega) | (congr 1 <;> omega))), trivial⟩, hB, hS, (by rw [← hla, ← hs_]), (by omega), rfl⟩
  ·refine C_exit (X_then (X_then (X_hit (N_then (C_seq (C_reg rfl ?_))))))
   refine L_run (R_assign rfl) rfl ?_
   refine L_nil (N_then (C_ret ?_))
   refine ret1 Try.results43 rfl ?_
   obtain rfl : n = 0 := by omega
   exact ⟨hB, by rw [← hla]; rfl⟩

theorem open_ok {w : World} {t1 lo hi : Nat} {A : Option Addr} {c : Nat} {l : List RecC} (hS : Sli t1 lo hi w A (fl encRC l)) {ch : Int} {a : Nat} (ha : a ≤ l.length) (hb : l.length ≤ 1000000) :
    Runs Try.prog 41 #[.slice A l.length c, .int .i64 (a : Int), .int .i64 ch] w (fun v w' => w.grownBy w' none ∧ v = .bool (openR l ch a)) := by
 have hB := gb_refl w none
 replace hS := hS.top
 refine enter Try.func41 Try.ntmps41 rfl rfl ?_
 refine C_seq (C_reg rfl ?_)
 refine L_run (R_assign rfl) rfl ?_
 refine L_nil (N_then (C_seq (C_reg rfl ?_)))
 refine L_run (R_move rfl) rfl ?_
 refine L_run (R_move rfl) rfl ?_
 refine L_run (R_move rfl) rfl ?_
 refine L_call rfl cb43 (last_ok (l := l) (ch := ch) (a := a) hS (by omega) (by omega)) rfl ?_
 rintro _ w1 ⟨hs1, rfl⟩
 replace hB := gb_tr hB hs1
 replace hS := hS.gb hs1
 refine L_run (R_assign rfl) rfl ?_
 refine L_nil (N_then (C_seq (C_reg rfl ?_)))
 refine L_run (R_move rfl) rfl ?_
 refine L_run (R_geq rfl rfl) rfl ?_
 refine L_run (R_move rfl) rfl ?_
 refine L_splitD (p := 0 ≤ lastR l ch a) (fun h1 => ?_) (fun h1 => ?_)
 ·refine L_yes rfl rfl rfl (decide_eq_true h1) ?_
  obtain ⟨p, hpe⟩ : ∃ p : Nat, lastR l ch a = (p : Int) := ⟨(lastR l ch a).toNat, by omega⟩
  have hpl : p < l.length := ((last_open (l := l) (c := ch) ha).2 p hpe).1
  refine L_run (R_move rfl) rfl ?_
  refine L_yes rfl rfl rfl (decide_eq_true h1) ?_
  refine L_run (R_move rfl) rfl ?_
  refine L_yes rfl rfl rfl (decide_eq_true h1) ?_
  have hl1 : p < l.length := by first | omega | (simp; omega)
  refine T_index (xs := l) (i := p) EncRC rfl rfl (by first | rfl | omega) slc56 hl1 hS rfl ?_
  intro g1 o1 ha1
  refine L_yes rfl rfl rfl (decide_eq_true h1) ?_
  refine L_run (R_field rfl fld65_0 rfl) rfl ?_
  refine L_yes rfl rfl rfl (decide_eq_true h1) ?_
  refine L_run (R_load1 rfl scl3 (ha1 0 _ rfl)) rfl ?_
  refine L_yes rfl rfl rfl (decide_eq_true h1) ?_
  refine L_run (R_eql rfl rfl) rfl ?_
  refine L_run (R_pickT rfl (decide_eq_true h1) rfl) rfl ?_
  refine L_run (R_assign rfl) rfl ?_
  refine L_nil (N_then (C_ret ?_))
  refine ret1 Try.results41 rfl ?_
  obtain ⟨hn_, hp_⟩ := last_open (l := l) (c := ch) ha
  obtain ⟨_, ho_⟩ := hp_ p hpe; exact ⟨hB, by rw [ho_]⟩
 ·refine L_no rfl rfl rfl (decide_eq_false h1) rfl ?_
  refine L_no rfl rfl rfl (decide_eq_false h1) rfl ?_
  refine L_no rfl rfl rfl (decide_eq_false h1) rfl ?_
  refine L_no rfl rfl rfl (decide_eq_false h1) rfl ?_
  refine L_no rfl rfl rfl (decide_eq_false h1) rfl ?_
  refine L_no rfl rfl rfl (decide_eq_false h1) rfl ?_
  refine L_run (R_pickF rfl (decide_eq_false h1) rfl) rfl ?_
  refine L_run (R_assign rfl) rfl ?_
  refine L_nil (N_then (C_ret ?_))
  refine ret1 Try.results41 rfl ?_
  obtain ⟨hn_, hp_⟩ := last_open (l := l) (c := ch) ha
  exact ⟨hB, by rw [hn_ (by omega)]⟩

end Go.Proofs.Ytbmohojdlgedpaa
