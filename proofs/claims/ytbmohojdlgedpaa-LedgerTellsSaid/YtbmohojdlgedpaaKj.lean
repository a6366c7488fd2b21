/-
  Contracts of ledger.Clashes.
-/
import Derived.Test.YtbmohojdlgedpaaKi
import Derived.Test.YtbmohojdlgedpaaGg
namespace Go.Proofs.Ytbmohojdlgedpaa
open Go.RowKit Gw Pl
set_option linter.unusedVariables false
set_option linter.unusedSimpArgs false
theorem agg112 : aggB Try.prog 112 2 = true := by kernel_rfl
theorem fld112_0 : fldB Try.prog 112 0 0 = true := by kernel_rfl
theorem sih112 : Try.prog.stoodInHeld 112 = false := by kernel_rfl
theorem sz112 : szB Try.prog 112 2 = true := by kernel_rfl
theorem und112 : Try.prog.underlying 112 = some (.struct #[⟨ "chain", 3, 0, false, "", "strandline/ledger", 0⟩, ⟨ "key", 9, 1, false, "", "strandline/ledger", 8⟩]) := by kernel_rfl
theorem zer101 : (Try.prog.info? 101).bind (·.zero) = some (.agg #[.bool false, .bool false, .bool false, .bool false]) := by kernel_rfl
theorem zer112 : (Try.prog.info? 112).bind (·.zero) = some (.agg #[.int .i64 0, .string (⟨#[]⟩)]) := by kernel_rfl
abbrev By := Int × ByteArray
def encBy (k : By) : Value := .agg #[.int .i64 k.1, .string k.2]
def natI (n : Nat) : Value := .int .i64 (n : Int)
theorem hzrI : ∀ w, (zeroValue 3).run Try.prog w = .ok (natI 0) w := fun w => by kernel_rfl
theorem ByOk : KeyOk Try.prog 112 encBy where
  inj := fun a b h => by unfold encBy at h; simp at h; exact Prod.ext h.1 h.2
  chk := fun e k w => by kernel_rfl
  eq := fun a b w => by
    have h : (Op.equal 112 (encBy a) (encBy b)).run Try.prog w = .ok (decide (a.1 = b.1 ∧ a.2 = b.2 ∧ True)) w := (eqs_struct und112 sih112 (eqf_cons (by decide) scl3 rfl rfl (eqs_int int3) (eqf_cons (by decide) scl9 rfl rfl (eqs_str str9) eqf_nil)))
    rw [h]
    exact congrArg (fun x => Result.ok x w) (decide_eq_decide.2 ⟨fun q => Prod.ext q.1 q.2.1, fun q => by rw [q]; exact ⟨rfl, rfl, trivial⟩⟩)
  ask := fun k es w => run_findKey_eq w (by kernel_rfl) _ _
  bits := fun k => by
    unfold encBy
    simp [Instr.sameBits]
    exact (Go.MapKept.bytes_beq _ _).2 rfl
/-- The map of the changes: how often each open chain changed a key. -/
def CM (l : List RecC) (i : Nat) (m : List (By × Nat)) : Prop := ∀ (o : Int) (key : ByteArray), 1 ≤ o → o ≤ 3 → lkS m (o, key) 0 = cntK l o key i
section
variable {l : List RecC} {o : Int} {key : ByteArray} {i : Nat} {m m' : List (By × Nat)}
theorem CM_0 : CM l 0 [] := fun _ _ _ _ => rfl
theorem CM_same (h : CM l i m) (hi : i < l.length) (hx : (l[i]).chain < 1 ∨ 3 < (l[i]).chain ∨ (¬ endsK (l[i]).kind ∧ ((l[i]).kind ≠ 6 ∨ (dec (l[i]).data).2 ≠ 0))) : CM l (i + 1) m := fun o key h1 h2 => by
  rw [h o key h1 h2, cntK_s hi]
  by_cases hc : (l[i]).chain = o
  · rcases hx with hx | hx | hx
    · omega
    · omega
    · rw [if_neg (fun q => hx.1 q.2), if_neg (fun q => by have a := q.2.1; have b := q.2.2.1; omega)]
  · rw [if_neg (fun q => hc q.1), if_neg (fun q => hc q.1)]
theorem CM_end (h : CM l i m) (hi : i < l.length) (he : endsK (l[i]).kind) (h1 : ∀ (o : Int) (key : ByteArray), o ≠ (l[i]).chain → lkS m' (o, key) 0 = lkS m (o, key) 0) (h2 : ∀ key, lkS m' ((l[i]).chain, key) 0 = 0) : CM l (i + 1) m' := fun o key a b => by
  rw [cntK_s hi]
  by_cases hc : (l[i]).chain = o
  · rw [if_pos ⟨hc, he⟩, ← hc, h2]
  · rw [if_neg (fun q => hc q.1), if_neg (fun q => hc q.1), h1 o key (fun q => hc q.symm), h o key a b]
theorem CM_hit (h : CM l i m) (hi : i < l.length) (hk : (l[i]).kind = 6) (hd : (dec (l[i]).data).2 = 0) {v : Nat} (hc1 : 1 ≤ (l[i]).chain) (hc3 : (l[i]).chain ≤ 3) (hv : v = lkS m ((l[i]).chain, (dec (l[i]).data).1.key) 0 + 1) : CM l (i + 1) (aput m ((l[i]).chain, (dec (l[i]).data).1.key) v) := fun o key a b => by
  have hn : ¬ endsK (l[i]).kind := fun q => by unfold endsK at q; omega
  rw [cntK_s hi, if_neg (fun q => hn q.2)]
  unfold lkS
  rw [alook_aput]
  by_cases hq : o = (l[i]).chain ∧ key = (dec (l[i]).data).1.key
  · obtain ⟨rfl, rfl⟩ := hq
    rw [if_pos rfl, if_pos ⟨rfl, hk, hd, rfl⟩, ← h _ _ hc1 hc3, hv]; rfl
  · rw [if_neg (fun q => hq ⟨congrArg Prod.fst q, congrArg Prod.snd q⟩), if_neg (fun q => hq ⟨q.1.symm, q.2.2.2.symm⟩), ← h o key a b]; rfl
theorem CM_le (h : CM l i m) (h1 : 1 ≤ o) (h3 : o ≤ 3) : lkS m (o, key) 0 ≤ i := by rw [h o key h1 h3]; exact cntK_le
theorem gone {c : Int} (h : ∀ q ∈ m, q.1.1 = c → q ∈ ([] : List (By × Nat))) : lkS m (c, key) 0 = 0 := by
  unfold lkS
  cases hc : alook m (c, key) with
  | none => rfl
  | some v => have := h _ (alook_mem hc) rfl; cases this
theorem lkS_adel {p : By} (h : (o, key) ≠ p) : lkS (adel m p) (o, key) 0 = lkS m (o, key) 0 := by unfold lkS; rw [alook_adel, if_neg h]
end
/-- What the rounds over the chains come to. -/
def clP (l : List RecC) (i : Nat) (ch : Int) (key : ByteArray) (q : Nat) : Bool := (decide (2 ≤ q) && decide (pO l i ch key 1)) || (decide (3 ≤ q) && decide (pO l i ch key 2)) || (decide (4 ≤ q) && decide (pO l i ch key 3))
theorem clP_0 {l : List RecC} {i : Nat} {ch : Int} {key : ByteArray} : clP l i ch key 0 = false := by simp [clP]
theorem clP_4 {l : List RecC} {i : Nat} {ch : Int} {key : ByteArray} : clP l i ch key 4 = clB l i ch key := by
  unfold clP clB
  by_cases h1 : pO l i ch key 1 <;> by_cases h2 : pO l i ch key 2 <;> by_cases h3 : pO l i ch key 3 <;> simp [h1, h2, h3]
theorem q05 {q : Nat} (h : q ≤ 4) (h2 : (q : Int) < 4) : q = 0 ∨ q = 1 ∨ q = 2 ∨ q = 3 := by omega
theorem clP_s1 {l : List RecC} {i : Nat} {ch : Int} {key : ByteArray} : clP l i ch key 2 = (clP l i ch key 1 || decide (pO l i ch key 1)) := by simp [clP, Bool.or_assoc]
theorem clP_s2 {l : List RecC} {i : Nat} {ch : Int} {key : ByteArray} : clP l i ch key 3 = (clP l i ch key 2 || decide (pO l i ch key 2)) := by simp [clP, Bool.or_assoc]
theorem clP_s3 {l : List RecC} {i : Nat} {ch : Int} {key : ByteArray} : clP l i ch key 4 = (clP l i ch key 3 || decide (pO l i ch key 3)) := by simp [clP, Bool.or_assoc]
theorem clP_1 {l : List RecC} {i : Nat} {ch : Int} {key : ByteArray} : clP l i ch key 1 = false := by simp [clP]
theorem i04 {q : Nat} (h : q ≤ 4) : q = 0 ∨ q = 1 ∨ q = 2 ∨ q = 3 ∨ q = 4 := by omega
theorem openR_nk {l : List RecC} {c : Int} {i : Nat} (h : i < l.length) (hc : ¬ endsK (l[i]).kind) : openR l c (i + 1) = openR l c i := by rw [openR_s h, if_neg (fun q => hc q.2)]
theorem openR_nn {l : List RecC} {c : Int} {i : Nat} (h : i < l.length) (hc : (l[i]).chain ≠ c ∨ ((l[i]).kind ≠ 5 ∧ ((l[i]).kind < 8 ∨ 9 < (l[i]).kind))) : openR l c (i + 1) = openR l c i := by rw [openR_s h, if_neg (fun q => by have q2 := q.2; have q1 := q.1; unfold endsK at q2; omega)]
theorem CM_nn {l : List RecC} {i : Nat} {m : List (By × Nat)} (h : CM l i m) (hi : i < l.length) (hx : (l[i]).chain < 1 ∨ 3 < (l[i]).chain ∨ ((l[i]).kind ≠ 5 ∧ ((l[i]).kind < 8 ∨ 9 < (l[i]).kind) ∧ ((l[i]).kind ≠ 6 ∨ (dec (l[i]).data).2 ≠ 0))) : CM l (i + 1) m := CM_same h hi (hx.imp id (Or.imp id (fun q => ⟨fun q2 => by unfold endsK at q2; omega, q.2.2⟩)))
theorem lcl_ok {w : World} {A : Option Addr} {c : Nat} {l : List RecC} (hS0 : Sli 0 0 w.heap.size w A (fl encRC l)) (hD0 : DeepRC w.heap.size w l) (hF : FewR l) :
    Runs Try.prog 23 #[.slice A l.length c] w (fun v_ w' => w.grownBy w' none ∧ ∃ A' c', v_ = .slice A' (clR l l.length).length c' ∧ World.ownsRow w' w.heap.size 3 1 (.slice A' (clR l l.length).length c') (clR l l.length).length (fl encZ (clR l l.length))) := by
 have hB := gb_refl w none
 have hS := hS0
 have hD := hD0
 have hl100 := hF.2
 refine enter Try.func23 Try.ntmps23 rfl rfl ?_
 refine C_seq (C_reg rfl ?_)
 refine L_run (R_assign rfl) rfl ?_
 refine L_nil (N_then (C_seq (C_reg rfl ?_)))
 refine L_makeMapS encBy natI rfl ?_
 intro g1 w1 eg1 hm1 hs1 hz1
 have ge1 : w.heap.size ≤ g1 := eg_ge hB eg1
 replace hB := gb_tr hB hs1
 replace hS := hS.gb hs1
 replace hD := hD.gb hs1
 refine L_run (R_assign rfl) rfl ?_
 refine L_nil (N_then (C_seq (C_reg rfl ?_)))
 refine L_alloc (cs := [.bool false, .bool false, .bool false, .bool false]) zer101 rfl rfl ?_
 intro g2 w2 eg2 hb1 hs2 hz2
 have ge2 : w.heap.size ≤ g2 := eg_ge hB eg2
 replace hB := gb_tr hB hs2
 replace hS := hS.gb hs2
 replace hD := hD.gb hs2
 replace hm1 := hm1.gb hs2
 refine L_nil (N_then (C_seq (C_reg rfl ?_)))
 refine L_run (R_assign rfl) rfl ?_
 refine L_nil (N_then (C_seq (C_seq (C_reg rfl ?_))))
 refine L_run (R_move rfl) rfl ?_
 refine L_run (R_lenSl rfl slc56) rfl ?_
 refine L_run (R_move rfl) rfl ?_
 refine L_nil (N_then (C_block ?_))
 refine C_loop (fun m_ a_ w_ => ∃ (σ_ : Nat → Value) (i : Nat) (Aj : Option Addr) (cj : Nat) (m : List (By × Nat)), a_ = Ac 106 σ_ [] [(0, .slice A l.length c), (3, .map (some g1)), (4, .pointer (some ⟨g2, 0, none⟩)), (5, .slice Aj ((clR l i).length) cj), (14, .slice A l.length c), (15, .int .i64 (l.length : Int)), (16, .int .i64 (i : Int))] ∧ w.grownBy w_ none ∧ Sli 0 0 w.heap.size w_ A (fl encRC l) ∧ DeepRC w.heap.size w_ l ∧ World.ownsRow w_ w.heap.size 3 1 (.slice Aj (clR l i).length cj) (clR l i).length (fl encZ (clR l i)) ∧ Blk w_ g2 101 [.bool false, .bool (openR l 1 i), .bool (openR l 2 i), .bool (openR l 3 i)] ∧ MapS w_ g1 encBy natI m ∧ (i ≤ l.length) ∧ (CM l i m) ∧ l.length - i = m_) (l.length - 0) ?_ ?_
 ·exact ⟨_, 0, none, 0, [], Ac_frg ⟨rfl, rfl, rfl, (agr rfl (by first | rfl | (congr 1; omega) | (congr 1 <;> omega))), rfl, rfl, (agr rfl (by first | rfl | (congr 1; omega) | (congr 1 <;> omega))), trivial⟩, hB, hS, hD, (own_nil _ _ _ _), hb1, hm1, (Nat.zero_le _), CM_0, rfl⟩
 ·clear hB
  clear hS hD hm1 hb1
  rintro m_ a_ w3 ⟨σ_, i, Aj, cj, m, rfl, hB, hS, hD, hoP, hbo, hmp, hi_, hcm, rfl⟩
  refine C_seq (C_reg rfl ?_)
  refine L_run (R_lss rfl rfl) rfl ?_
  refine L_nil (N_then (C_seq ?_))
  refine C_if rfl (fun h1 => ?_) (fun h1 => ?_)
  ·refine C_skip (N_then (C_seq (C_block (C_seq (C_reg rfl ?_)))))
   have hli : i < l.length := by omega
   have hd6 := hF.1 _ (List.getElem_mem hli)
   have hcap := hD0.cap hli
   have hcl := clR_len (l := l) (i := i)
   have hl1 : i < l.length := by first | omega | (simp; omega)
   refine T_index (xs := l) (i := i) EncRC rfl rfl (by first | rfl | omega) slc56 hl1 hS rfl ?_
   intro g3 o1 ha1
   refine L_run (R_loadA (vs := [.int .i64 ((l[i]).kind), .int .i64 ((l[i]).chain), .int .i64 ((l[i]).lsn), .int .i64 ((l[i]).prev), .slice ((l[i]).da) ((l[i]).data.length) ((l[i]).dc)]) rfl agg65 (At.pre ha1 rfl) rfl) rfl ?_
   refine L_alloc (cs := [.int .i64 0, .int .i64 0, .int .i64 0, .int .i64 0, .slice none 0 0]) zer65 rfl rfl ?_
   intro g4 w4 eg3 hb2 hs3 hz3
   have ge3 : w.heap.size ≤ g4 := eg_ge hB eg3
   have lt1 : g2 < g4 := lt_of_eg hbo.lt eg3
   replace hB := gb_tr hB hs3
   replace hS := hS.gb hs3
   replace hD := hD.gb hs3
   replace hoP := own_gb hoP hs3
   replace hbo := hbo.gb hs3
   replace hmp := hmp.gb hs3
   replace ha1 := At.gb ha1 hs3 (by simp)
   refine L_stA (vs := [.int .i64 ((l[i]).kind), .int .i64 ((l[i]).chain), .int .i64 ((l[i]).lsn), .int .i64 ((l[i]).prev), .slice ((l[i]).da) ((l[i]).data.length) ((l[i]).dc)]) rfl rfl rfl sz65 rfl hb2 rfl ?_
   intro w5 hb3 hs4 hz4
   replace hB := gb_trg hB hs4 ge3
   replace hS := hS.old hs4 ge3
   replace hD := hD.old hs4 ge3
   replace hoP := own_other hoP hb2 rfl hs4
   replace hbo := hbo.grown hs4 (ne_lt lt1)
   replace hmp := hmp.blk hb2 hs4
   refine L_nil (N_then (C_seq (C_seq (C_reg rfl ?_))))
   refine L_run (R_field (r := 1) rfl fld65_1 rfl) rfl ?_
   refine L_run (R_load1 rfl scl3 (hb3.cell (i := 1) rfl)) rfl ?_
   refine L_run (R_lss rfl rfl) rfl ?_
   refine L_run (R_move rfl) rfl ?_
   refine L_splitD (p := (l[i]).chain < 1) (fun h2 => ?_) (fun h2 => ?_)
   ·refine L_no rfl rfl rfl (decide_eq_true h2) rfl ?_
    refine L_no rfl rfl rfl (decide_eq_true h2) rfl ?_
    refine L_no rfl rfl rfl (decide_eq_true h2) rfl ?_
    refine L_run (R_pickT rfl (decide_eq_true h2) rfl) rfl ?_
    refine L_nil (N_then (C_condT rfl rfl (C_exit (X_then (X_hit (N_then (C_reg rfl ?_)))))))
    refine L_run (R_add64 rfl rfl (by omega)) rfl ?_
    refine L_run (R_move rfl) rfl ?_
    refine L_nil (N_then ?_)
    have eR := clR_s hli
    rw [if_neg (fun q_ => by omega)] at eR
    have e1 := openR_nn (c := 1) hli (by omega)
    have e2 := openR_nn (c := 2) hli (by omega)
    have e3 := openR_nn (c := 3) hli (by omega)
    exact ⟨l.length - (i + 1), by omega, _, (i + 1), Aj, cj, m, Ac_frg ⟨rfl, rfl, rfl, (agr rfl (by rw [eR])), rfl, rfl, (agr rfl (by first | rfl | (congr 1; omega) | (congr 1 <;> omega))), trivial⟩, hB, hS, hD, (by rw [eR]; exact (own_lo hoP (Nat.le_refl _))), (by rw [e1, e2, e3]; exact hbo), hmp, (by omega), (CM_nn hcm hli (by omega)), rfl⟩
   ·refine L_yes rfl rfl rfl (decide_eq_false h2) ?_
    refine L_run (R_field (r := 1) rfl fld65_1 rfl) rfl ?_
    refine L_yes rfl rfl rfl (decide_eq_false h2) ?_
    refine L_run (R_load1 rfl scl3 (hb3.cell (i := 1) rfl)) rfl ?_
    refine L_yes rfl rfl rfl (decide_eq_false h2) ?_
    refine L_run (R_gtr rfl rfl) rfl ?_
    refine L_run (R_pickF rfl (decide_eq_false h2) rfl) rfl ?_
    refine L_nil (N_then ?_)
    refine C_if rfl (fun h3 => ?_) (fun h3 => ?_)
    ·refine C_exit (X_then (X_hit (N_then (C_reg rfl ?_))))
     refine L_run (R_add64 rfl rfl (by omega)) rfl ?_
     refine L_run (R_move rfl) rfl ?_
     refine L_nil (N_then ?_)
     have eR := clR_s hli
     rw [if_neg (fun q_ => by omega)] at eR
     have e1 := openR_nn (c := 1) hli (by omega)
     have e2 := openR_nn (c := 2) hli (by omega)
     have e3 := openR_nn (c := 3) hli (by omega)
     exact ⟨l.length - (i + 1), by omega, _, (i + 1), Aj, cj, m, Ac_frg ⟨rfl, rfl, rfl, (agr rfl (by rw [eR])), rfl, rfl, (agr rfl (by first | rfl | (congr 1; omega) | (congr 1 <;> omega))), trivial⟩, hB, hS, hD, (by rw [eR]; exact (own_lo hoP (Nat.le_refl _))), (by rw [e1, e2, e3]; exact hbo), hmp, (by omega), (CM_nn hcm hli (by omega)), rfl⟩
    ·refine C_skip (N_then (C_seq (C_reg rfl ?_)))
     refine L_run (R_field (r := 0) rfl fld65_0 rfl) rfl ?_
     refine L_run (R_load1 rfl scl3 (hb3.cell (i := 0) rfl)) rfl ?_
     refine L_nil (N_then (C_block (C_seq (C_seq (C_reg rfl ?_)))))
     refine L_run (R_eql rfl rfl) rfl ?_
     refine L_run (R_assign rfl) rfl ?_
     refine L_nil (N_then ?_)
     refine C_if rfl (fun h4 => ?_) (fun h4 => ?_)
     ·refine C_skip (N_then (C_condT rfl (decide_eq_true h4) (C_seq (C_reg rfl ?_))))
      rcases (by omega : (l[i]).chain = 1 ∨ (l[i]).chain = 2 ∨ (l[i]).chain = 3) with hch | hch | hch
      ·refine L_run (R_field (r := 1) rfl fld65_1 rfl) rfl ?_
       refine L_run (R_eqv (R_load1 rfl scl3 (hb3.cell (i := 1) rfl)) (v' := .int .i64 1) (congrArg _ hch)) rfl ?_
       refine L_run (R_field (r := 0) rfl fld65_0 rfl) rfl ?_
       refine L_run (R_load1 rfl scl3 (hb3.cell (i := 0) rfl)) rfl ?_
       refine L_run (R_eql rfl rfl) rfl ?_
       refine L_run (R_indexArr (sz := 1) (i := 1) (r := 1) rfl rfl (by first | rfl | omega) arr101 (by omega) (by omega)) rfl ?_
       refine L_st1 rfl rfl rfl sz4 hbo rfl ?_
       intro w6 hb4 hs5 hz5
       replace hB := gb_trg hB hs5 ge2
       replace hS := hS.old hs5 ge2
       replace hD := hD.old hs5 ge2
       replace hoP := own_other hoP hbo rfl hs5
       replace hmp := hmp.blk hbo hs5
       replace hb3 := hb3.grown hs5 (ne_gt lt1)
       refine L_nil (N_then (C_seq (C_reg rfl ?_)))
       refine L_run (R_move rfl) rfl ?_
       refine L_rangeS rfl Try.underlying110 hmp rfl ?_
       intro g5 w7 eg4 hi1 hs6 hz6
       have ge4 : w.heap.size ≤ g5 := eg_ge hB eg4
       replace hB := gb_tr hB hs6
       replace hS := hS.gb hs6
       replace hD := hD.gb hs6
       replace hoP := own_gb hoP hs6
       replace hb4 := hb4.gb hs6
       replace hb3 := hb3.gb hs6
       refine L_nil (N_then (C_block ?_))
       refine C_loop (fun m_ a_ w_ => ∃ (σ_ : Nat → Value) (m2 : List (By × Nat)) (left : List (By × Nat)), a_ = Ac 106 σ_ [] [(0, .slice A l.length c), (3, .map (some g1)), (4, .pointer (some ⟨g2, 0, none⟩)), (5, .slice Aj ((clR l i).length) cj), (7, .pointer (some ⟨g4, 0, none⟩)), (14, .slice A l.length c), (15, .int .i64 (l.length : Int)), (16, .int .i64 (i : Int)), (41, .pointer (some ⟨g5, 0, none⟩))] ∧ w.grownBy w_ none ∧ Sli 0 0 w.heap.size w_ A (fl encRC l) ∧ DeepRC w.heap.size w_ l ∧ World.ownsRow w_ w.heap.size 3 1 (.slice Aj (clR l i).length cj) (clR l i).length (fl encZ (clR l i)) ∧ Blk w_ g2 101 [.bool false, .bool (decide ((l[i]).kind = 5)), .bool (openR l 2 i), .bool (openR l 3 i)] ∧ Blk w_ g4 65 [.int .i64 ((l[i]).kind), .int .i64 ((l[i]).chain), .int .i64 ((l[i]).lsn), .int .i64 ((l[i]).prev), .slice ((l[i]).da) ((l[i]).data.length) ((l[i]).dc)] ∧ IterS w_ g5 g1 encBy natI m2 left ∧ (∀ (o : Int) (key : ByteArray), o ≠ (l[i]).chain → lkS m2 (o, key) 0 = lkS m (o, key) 0) ∧ (∀ q ∈ m2, q.1.1 = (l[i]).chain → q ∈ left) ∧ left.length = m_) (m.length) ?_ ?_
       ·exact ⟨_, m, m, Ac_frg ⟨rfl, rfl, rfl, rfl, rfl, rfl, rfl, rfl, rfl, trivial⟩, hB, hS, hD, hoP, hb4, hb3, hi1, (fun _ _ _ => rfl), (fun q_ hq_ _ => hq_), rfl⟩
       ·clear hB
        clear hS hD hoP hb4 hb3 hi1
        rintro m_ a_ w8 ⟨σ_, m2, left, rfl, hB, hS, hD, hoP, hb4, hb3, hit, hA, hL, rfl⟩
        refine C_seq (C_reg rfl ?_)
        refine L_nextS rfl hit rfl ?_ ?_
        ·intro hleft1
         refine L_run (R_extract rfl rfl) rfl ?_
         refine L_nil (N_then (C_seq (C_condF rfl rfl (C_exit (X_then (X_then (X_hit (N_in (N_in (N_then (C_reg rfl ?_)))))))))))
         refine L_run (R_add64 rfl rfl (by omega)) rfl ?_
         refine L_run (R_move rfl) rfl ?_
         refine L_nil (N_then ?_)
         have eR := clR_s hli
         rw [if_neg (fun q_ => by omega)] at eR
         have hends : endsK (l[i]).kind := by unfold endsK; omega
         have e1 : openR l 1 (i + 1) = decide ((l[i]).kind = 5) := by rw [openR_s hli, if_pos ⟨hch, hends⟩]
         have e2 : openR l 2 (i + 1) = openR l 2 i := openR_ne hli (by omega)
         have e3 : openR l 3 (i + 1) = openR l 3 i := openR_ne hli (by omega)
         have hcm2 : CM l (i + 1) m2 := by rw [hleft1] at hL; exact CM_end hcm hli hends hA (fun _ => gone hL)
         exact ⟨l.length - (i + 1), by omega, _, (i + 1), Aj, cj, m2, Ac_frg ⟨rfl, rfl, rfl, (agr rfl (by rw [eR])), rfl, rfl, (agr rfl (by first | rfl | (congr 1; omega) | (congr 1 <;> omega))), trivial⟩, hB, hS, hD, (by rw [eR]; exact (own_lo hoP (Nat.le_refl _))), (by rw [e1, e2, e3]; exact hb4), hit.map, (by omega), hcm2, rfl⟩
        ·intro ml1 pe1 mr1 w9 hleft2 hi2 hs7 hz7
         replace hB := gb_trg hB hs7 ge4
         replace hS := hS.oth hit.oth hs7
         replace hD := hD.old hs7 ge4
         replace hoP := own_oth hoP hit.oth hs7
         replace hb4 := hb4.oth hit.oth hs7
         replace hb3 := hb3.oth hit.oth hs7
         refine L_run (R_extract rfl rfl) rfl ?_
         refine L_nil (N_then (C_seq (C_condT rfl rfl (C_skip (N_then (C_block (C_seq (C_reg rfl ?_))))))))
         refine L_run (R_entryS rfl hi2) rfl ?_
         refine L_run (R_extract rfl rfl) rfl ?_
         refine L_alloc (cs := [.int .i64 0, .string (⟨#[]⟩)]) zer112 rfl rfl ?_
         intro g6 w10 eg5 hb5 hs8 hz8
         have ge5 : w.heap.size ≤ g6 := eg_ge hB eg5
         have lt2 : g2 < g6 := lt_of_eg hb4.lt eg5
         have lt3 : g4 < g6 := lt_of_eg hb3.lt eg5
         replace hB := gb_tr hB hs8
         replace hS := hS.gb hs8
         replace hD := hD.gb hs8
         replace hoP := own_gb hoP hs8
         replace hb4 := hb4.gb hs8
         replace hb3 := hb3.gb hs8
         replace hi2 := hi2.gb hs8
         refine L_stA (vs := [.int .i64 pe1.1.1, .string pe1.1.2]) rfl rfl rfl sz112 rfl hb5 rfl ?_
         intro w11 hb6 hs9 hz9
         replace hB := gb_trg hB hs9 ge5
         replace hS := hS.old hs9 ge5
         replace hD := hD.old hs9 ge5
         replace hoP := own_other hoP hb5 rfl hs9
         replace hb4 := hb4.grown hs9 (ne_lt lt2)
         replace hb3 := hb3.grown hs9 (ne_lt lt3)
         replace hi2 := hi2.blk hb5 hs9
         refine L_nil (N_then (C_seq (C_reg rfl ?_)))
         refine L_run (R_field (r := 0) rfl fld112_0 rfl) rfl ?_
         refine L_run (R_load1 rfl scl3 (hb6.cell (i := 0) rfl)) rfl ?_
         refine L_run (R_field (r := 1) rfl fld65_1 rfl) rfl ?_
         refine L_run (R_load1 rfl scl3 (hb3.cell (i := 1) rfl)) rfl ?_
         refine L_run (R_eql rfl rfl) rfl ?_
         refine L_nil (N_then ?_)
         refine C_if rfl (fun h5 => ?_) (fun h5 => ?_)
         ·refine C_reg rfl ?_
          refine L_run (R_move rfl) rfl ?_
          refine L_run (R_loadA (vs := [.int .i64 pe1.1.1, .string pe1.1.2]) rfl agg112 (At.pre (hb6.at_ 0) rfl) rfl) rfl ?_
          refine L_deleteS (p := pe1) ByOk rfl rfl Try.underlying110 hi2 ?_
          intro w12 hi3 hs10 hz10
          replace hB := gb_trg hB hs10 ge1
          replace hS := hS.oth hi2.oth hs10
          replace hD := hD.old hs10 ge1
          replace hoP := own_oth hoP hi2.oth hs10
          replace hb4 := hb4.oth hi2.oth hs10
          replace hb3 := hb3.oth hi2.oth hs10
          replace hb6 := hb6.oth hi2.oth hs10
          refine L_nil (N_in (N_then ?_))
          have hlt_ : (ml1 ++ mr1).length < left.length := by rw [hleft2]; simp
          exact ⟨(ml1 ++ mr1).length, by omega, _, adel m2 pe1.1, (ml1 ++ mr1), Ac_frg ⟨rfl, rfl, rfl, rfl, rfl, rfl, rfl, rfl, rfl, trivial⟩, hB, hS, hD, hoP, hb4, hb3, hi3, (fun o key ho => (lkS_adel (fun e_ => ho ((congrArg Prod.fst e_).trans h5))).trans (hA o key ho)), (fun q_ hq_ hc_ => by
            obtain ⟨h1_, h2_⟩ := adel_sub q_ hq_
            have h_ := hL q_ h1_ hc_
            rw [hleft2] at h_
            rcases List.mem_append.1 h_ with h_ | h_
            · exact List.mem_append_left _ h_
            · rcases List.mem_cons.1 h_ with rfl | h_
              · exact absurd rfl h2_
              · exact List.mem_append_right _ h_), rfl⟩
         ·refine C_skip (N_in (N_then ?_))
          have hlt_ : (ml1 ++ mr1).length < left.length := by rw [hleft2]; simp
          exact ⟨(ml1 ++ mr1).length, by omega, _, m2, (ml1 ++ mr1), Ac_frg ⟨rfl, rfl, rfl, rfl, rfl, rfl, rfl, rfl, rfl, trivial⟩, hB, hS, hD, hoP, hb4, hb3, hi2.iter, hA, (fun q_ hq_ hc_ => by
            have h_ := hL q_ hq_ hc_
            rw [hleft2] at h_
            rcases List.mem_append.1 h_ with h_ | h_
            · exact List.mem_append_left _ h_
            · rcases List.mem_cons.1 h_ with rfl | h_
              · exact absurd hc_ h5
              · exact List.mem_append_right _ h_), rfl⟩
      ·refine L_run (R_field (r := 1) rfl fld65_1 rfl) rfl ?_
       refine L_run (R_eqv (R_load1 rfl scl3 (hb3.cell (i := 1) rfl)) (v' := .int .i64 2) (congrArg _ hch)) rfl ?_
       refine L_run (R_field (r := 0) rfl fld65_0 rfl) rfl ?_
       refine L_run (R_load1 rfl scl3 (hb3.cell (i := 0) rfl)) rfl ?_
       refine L_run (R_eql rfl rfl) rfl ?_
       refine L_run (R_indexArr (sz := 1) (i := 2) (r := 2) rfl rfl (by first | rfl | omega) arr101 (by omega) (by omega)) rfl ?_
       refine L_st1 rfl rfl rfl sz4 hbo rfl ?_
       intro w13 hb7 hs11 hz11
       replace hB := gb_trg hB hs11 ge2
       replace hS := hS.old hs11 ge2
       replace hD := hD.old hs11 ge2
       replace hoP := own_other hoP hbo rfl hs11
       replace hmp := hmp.blk hbo hs11
       replace hb3 := hb3.grown hs11 (ne_gt lt1)
       refine L_nil (N_then (C_seq (C_reg rfl ?_)))
       refine L_run (R_move rfl) rfl ?_
       refine L_rangeS rfl Try.underlying110 hmp rfl ?_
       intro g7 w14 eg6 hi4 hs12 hz12
       have ge6 : w.heap.size ≤ g7 := eg_ge hB eg6
       replace hB := gb_tr hB hs12
       replace hS := hS.gb hs12
       replace hD := hD.gb hs12
       replace hoP := own_gb hoP hs12
       replace hb7 := hb7.gb hs12
       replace hb3 := hb3.gb hs12
       refine L_nil (N_then (C_block ?_))
       refine C_loop (fun m_ a_ w_ => ∃ (σ_ : Nat → Value) (m2 : List (By × Nat)) (left : List (By × Nat)), a_ = Ac 106 σ_ [] [(0, .slice A l.length c), (3, .map (some g1)), (4, .pointer (some ⟨g2, 0, none⟩)), (5, .slice Aj ((clR l i).length) cj), (7, .pointer (some ⟨g4, 0, none⟩)), (14, .slice A l.length c), (15, .int .i64 (l.length : Int)), (16, .int .i64 (i : Int)), (41, .pointer (some ⟨g7, 0, none⟩))] ∧ w.grownBy w_ none ∧ Sli 0 0 w.heap.size w_ A (fl encRC l) ∧ DeepRC w.heap.size w_ l ∧ World.ownsRow w_ w.heap.size 3 1 (.slice Aj (clR l i).length cj) (clR l i).length (fl encZ (clR l i)) ∧ Blk w_ g2 101 [.bool false, .bool (openR l 1 i), .bool (decide ((l[i]).kind = 5)), .bool (openR l 3 i)] ∧ Blk w_ g4 65 [.int .i64 ((l[i]).kind), .int .i64 ((l[i]).chain), .int .i64 ((l[i]).lsn), .int .i64 ((l[i]).prev), .slice ((l[i]).da) ((l[i]).data.length) ((l[i]).dc)] ∧ IterS w_ g7 g1 encBy natI m2 left ∧ (∀ (o : Int) (key : ByteArray), o ≠ (l[i]).chain → lkS m2 (o, key) 0 = lkS m (o, key) 0) ∧ (∀ q ∈ m2, q.1.1 = (l[i]).chain → q ∈ left) ∧ left.length = m_) (m.length) ?_ ?_
       ·exact ⟨_, m, m, Ac_frg ⟨rfl, rfl, rfl, rfl, rfl, rfl, rfl, rfl, rfl, trivial⟩, hB, hS, hD, hoP, hb7, hb3, hi4, (fun _ _ _ => rfl), (fun q_ hq_ _ => hq_), rfl⟩
       ·clear hB
        clear hS hD hoP hb7 hb3 hi4
        rintro m_ a_ w15 ⟨σ_, m2, left, rfl, hB, hS, hD, hoP, hb7, hb3, hit, hA, hL, rfl⟩
        refine C_seq (C_reg rfl ?_)
        refine L_nextS rfl hit rfl ?_ ?_
        ·intro hleft3
         refine L_run (R_extract rfl rfl) rfl ?_
         refine L_nil (N_then (C_seq (C_condF rfl rfl (C_exit (X_then (X_then (X_hit (N_in (N_in (N_then (C_reg rfl ?_)))))))))))
         refine L_run (R_add64 rfl rfl (by omega)) rfl ?_
         refine L_run (R_move rfl) rfl ?_
         refine L_nil (N_then ?_)
         have eR := clR_s hli
         rw [if_neg (fun q_ => by omega)] at eR
         have hends : endsK (l[i]).kind := by unfold endsK; omega
         have e2 : openR l 2 (i + 1) = decide ((l[i]).kind = 5) := by rw [openR_s hli, if_pos ⟨hch, hends⟩]
         have e1 : openR l 1 (i + 1) = openR l 1 i := openR_ne hli (by omega)
         have e3 : openR l 3 (i + 1) = openR l 3 i := openR_ne hli (by omega)
         have hcm2 : CM l (i + 1) m2 := by rw [hleft3] at hL; exact CM_end hcm hli hends hA (fun _ => gone hL)
         exact ⟨l.length - (i + 1), by omega, _, (i + 1), Aj, cj, m2, Ac_frg ⟨rfl, rfl, rfl, (agr rfl (by rw [eR])), rfl, rfl, (agr rfl (by first | rfl | (congr 1; omega) | (congr 1 <;> omega))), trivial⟩, hB, hS, hD, (by rw [eR]; exact (own_lo hoP (Nat.le_refl _))), (by rw [e1, e2, e3]; exact hb7), hit.map, (by omega), hcm2, rfl⟩
        ·intro ml2 pe2 mr2 w16 hleft4 hi5 hs13 hz13
         replace hB := gb_trg hB hs13 ge6
         replace hS := hS.oth hit.oth hs13
         replace hD := hD.old hs13 ge6
         replace hoP := own_oth hoP hit.oth hs13
         replace hb7 := hb7.oth hit.oth hs13
         replace hb3 := hb3.oth hit.oth hs13
         refine L_run (R_extract rfl rfl) rfl ?_
         refine L_nil (N_then (C_seq (C_condT rfl rfl (C_skip (N_then (C_block (C_seq (C_reg rfl ?_))))))))
         refine L_run (R_entryS rfl hi5) rfl ?_
         refine L_run (R_extract rfl rfl) rfl ?_
         refine L_alloc (cs := [.int .i64 0, .string (⟨#[]⟩)]) zer112 rfl rfl ?_
         intro g8 w17 eg7 hb8 hs14 hz14
         have ge7 : w.heap.size ≤ g8 := eg_ge hB eg7
         have lt4 : g2 < g8 := lt_of_eg hb7.lt eg7
         have lt5 : g4 < g8 := lt_of_eg hb3.lt eg7
         replace hB := gb_tr hB hs14
         replace hS := hS.gb hs14
         replace hD := hD.gb hs14
         replace hoP := own_gb hoP hs14
         replace hb7 := hb7.gb hs14
         replace hb3 := hb3.gb hs14
         replace hi5 := hi5.gb hs14
         refine L_stA (vs := [.int .i64 pe2.1.1, .string pe2.1.2]) rfl rfl rfl sz112 rfl hb8 rfl ?_
         intro w18 hb9 hs15 hz15
         replace hB := gb_trg hB hs15 ge7
         replace hS := hS.old hs15 ge7
         replace hD := hD.old hs15 ge7
         replace hoP := own_other hoP hb8 rfl hs15
         replace hb7 := hb7.grown hs15 (ne_lt lt4)
         replace hb3 := hb3.grown hs15 (ne_lt lt5)
         replace hi5 := hi5.blk hb8 hs15
         refine L_nil (N_then (C_seq (C_reg rfl ?_)))
         refine L_run (R_field (r := 0) rfl fld112_0 rfl) rfl ?_
         refine L_run (R_load1 rfl scl3 (hb9.cell (i := 0) rfl)) rfl ?_
         refine L_run (R_field (r := 1) rfl fld65_1 rfl) rfl ?_
         refine L_run (R_load1 rfl scl3 (hb3.cell (i := 1) rfl)) rfl ?_
         refine L_run (R_eql rfl rfl) rfl ?_
         refine L_nil (N_then ?_)
         refine C_if rfl (fun h6 => ?_) (fun h6 => ?_)
         ·refine C_reg rfl ?_
          refine L_run (R_move rfl) rfl ?_
          refine L_run (R_loadA (vs := [.int .i64 pe2.1.1, .string pe2.1.2]) rfl agg112 (At.pre (hb9.at_ 0) rfl) rfl) rfl ?_
          refine L_deleteS (p := pe2) ByOk rfl rfl Try.underlying110 hi5 ?_
          intro w19 hi6 hs16 hz16
          replace hB := gb_trg hB hs16 ge1
          replace hS := hS.oth hi5.oth hs16
          replace hD := hD.old hs16 ge1
          replace hoP := own_oth hoP hi5.oth hs16
          replace hb7 := hb7.oth hi5.oth hs16
          replace hb3 := hb3.oth hi5.oth hs16
          replace hb9 := hb9.oth hi5.oth hs16
          refine L_nil (N_in (N_then ?_))
          have hlt_ : (ml2 ++ mr2).length < left.length := by rw [hleft4]; simp
          exact ⟨(ml2 ++ mr2).length, by omega, _, adel m2 pe2.1, (ml2 ++ mr2), Ac_frg ⟨rfl, rfl, rfl, rfl, rfl, rfl, rfl, rfl, rfl, trivial⟩, hB, hS, hD, hoP, hb7, hb3, hi6, (fun o key ho => (lkS_adel (fun e_ => ho ((congrArg Prod.fst e_).trans h6))).trans (hA o key ho)), (fun q_ hq_ hc_ => by
            obtain ⟨h1_, h2_⟩ := adel_sub q_ hq_
            have h_ := hL q_ h1_ hc_
            rw [hleft4] at h_
            rcases List.mem_append.1 h_ with h_ | h_
            · exact List.mem_append_left _ h_
            · rcases List.mem_cons.1 h_ with rfl | h_
              · exact absurd rfl h2_
              · exact List.mem_append_right _ h_), rfl⟩
         ·refine C_skip (N_in (N_then ?_))
          have hlt_ : (ml2 ++ mr2).length < left.length := by rw [hleft4]; simp
          exact ⟨(ml2 ++ mr2).length, by omega, _, m2, (ml2 ++ mr2), Ac_frg ⟨rfl, rfl, rfl, rfl, rfl, rfl, rfl, rfl, rfl, trivial⟩, hB, hS, hD, hoP, hb7, hb3, hi5.iter, hA, (fun q_ hq_ hc_ => by
            have h_ := hL q_ hq_ hc_
            rw [hleft4] at h_
            rcases List.mem_append.1 h_ with h_ | h_
            · exact List.mem_append_left _ h_
            · rcases List.mem_cons.1 h_ with rfl | h_
              · exact absurd hc_ h6
              · exact List.mem_append_right _ h_), rfl⟩
      ·refine L_run (R_field (r := 1) rfl fld65_1 rfl) rfl ?_
       refine L_run (R_eqv (R_load1 rfl scl3 (hb3.cell (i := 1) rfl)) (v' := .int .i64 3) (congrArg _ hch)) rfl ?_
       refine L_run (R_field (r := 0) rfl fld65_0 rfl) rfl ?_
       refine L_run (R_load1 rfl scl3 (hb3.cell (i := 0) rfl)) rfl ?_
       refine L_run (R_eql rfl rfl) rfl ?_
       refine L_run (R_indexArr (sz := 1) (i := 3) (r := 3) rfl rfl (by first | rfl | omega) arr101 (by omega) (by omega)) rfl ?_
       refine L_st1 rfl rfl rfl sz4 hbo rfl ?_
       intro w20 hb10 hs17 hz17
       replace hB := gb_trg hB hs17 ge2
       replace hS := hS.old hs17 ge2
       replace hD := hD.old hs17 ge2
       replace hoP := own_other hoP hbo rfl hs17
       replace hmp := hmp.blk hbo hs17
       replace hb3 := hb3.grown hs17 (ne_gt lt1)
       refine L_nil (N_then (C_seq (C_reg rfl ?_)))
       refine L_run (R_move rfl) rfl ?_
       refine L_rangeS rfl Try.underlying110 hmp rfl ?_
       intro g9 w21 eg8 hi7 hs18 hz18
       have ge8 : w.heap.size ≤ g9 := eg_ge hB eg8
       replace hB := gb_tr hB hs18
       replace hS := hS.gb hs18
       replace hD := hD.gb hs18
       replace hoP := own_gb hoP hs18
       replace hb10 := hb10.gb hs18
       replace hb3 := hb3.gb hs18
       refine L_nil (N_then (C_block ?_))
       refine C_loop (fun m_ a_ w_ => ∃ (σ_ : Nat → Value) (m2 : List (By × Nat)) (left : List (By × Nat)), a_ = Ac 106 σ_ [] [(0, .slice A l.length c), (3, .map (some g1)), (4, .pointer (some ⟨g2, 0, none⟩)), (5, .slice Aj ((clR l i).length) cj), (7, .pointer (some ⟨g4, 0, none⟩)), (14, .slice A l.length c), (15, .int .i64 (l.length : Int)), (16, .int .i64 (i : Int)), (41, .pointer (some ⟨g9, 0, none⟩))] ∧ w.grownBy w_ none ∧ Sli 0 0 w.heap.size w_ A (fl encRC l) ∧ DeepRC w.heap.size w_ l ∧ World.ownsRow w_ w.heap.size 3 1 (.slice Aj (clR l i).length cj) (clR l i).length (fl encZ (clR l i)) ∧ Blk w_ g2 101 [.bool false, .bool (openR l 1 i), .bool (openR l 2 i), .bool (decide ((l[i]).kind = 5))] ∧ Blk w_ g4 65 [.int .i64 ((l[i]).kind), .int .i64 ((l[i]).chain), .int .i64 ((l[i]).lsn), .int .i64 ((l[i]).prev), .slice ((l[i]).da) ((l[i]).data.length) ((l[i]).dc)] ∧ IterS w_ g9 g1 encBy natI m2 left ∧ (∀ (o : Int) (key : ByteArray), o ≠ (l[i]).chain → lkS m2 (o, key) 0 = lkS m (o, key) 0) ∧ (∀ q ∈ m2, q.1.1 = (l[i]).chain → q ∈ left) ∧ left.length = m_) (m.length) ?_ ?_
       ·exact ⟨_, m, m, Ac_frg ⟨rfl, rfl, rfl, rfl, rfl, rfl, rfl, rfl, rfl, trivial⟩, hB, hS, hD, hoP, hb10, hb3, hi7, (fun _ _ _ => rfl), (fun q_ hq_ _ => hq_), rfl⟩
       ·clear hB
        clear hS hD hoP hb10 hb3 hi7
        rintro m_ a_ w22 ⟨σ_, m2, left, rfl, hB, hS, hD, hoP, hb10, hb3, hit, hA, hL, rfl⟩
        refine C_seq (C_reg rfl ?_)
        refine L_nextS rfl hit rfl ?_ ?_
        ·intro hleft5
         refine L_run (R_extract rfl rfl) rfl ?_
         refine L_nil (N_then (C_seq (C_condF rfl rfl (C_exit (X_then (X_then (X_hit (N_in (N_in (N_then (C_reg rfl ?_)))))))))))
         refine L_run (R_add64 rfl rfl (by omega)) rfl ?_
         refine L_run (R_move rfl) rfl ?_
         refine L_nil (N_then ?_)
         have eR := clR_s hli
         rw [if_neg (fun q_ => by omega)] at eR
         have hends : endsK (l[i]).kind := by unfold endsK; omega
         have e3 : openR l 3 (i + 1) = decide ((l[i]).kind = 5) := by rw [openR_s hli, if_pos ⟨hch, hends⟩]
         have e1 : openR l 1 (i + 1) = openR l 1 i := openR_ne hli (by omega)
         have e2 : openR l 2 (i + 1) = openR l 2 i := openR_ne hli (by omega)
         have hcm2 : CM l (i + 1) m2 := by rw [hleft5] at hL; exact CM_end hcm hli hends hA (fun _ => gone hL)
         exact ⟨l.length - (i + 1), by omega, _, (i + 1), Aj, cj, m2, Ac_frg ⟨rfl, rfl, rfl, (agr rfl (by rw [eR])), rfl, rfl, (agr rfl (by first | rfl | (congr 1; omega) | (congr 1 <;> omega))), trivial⟩, hB, hS, hD, (by rw [eR]; exact (own_lo hoP (Nat.le_refl _))), (by rw [e1, e2, e3]; exact hb10), hit.map, (by omega), hcm2, rfl⟩
        ·intro ml3 pe3 mr3 w23 hleft6 hi8 hs19 hz19
         replace hB := gb_trg hB hs19 ge8
         replace hS := hS.oth hit.oth hs19
         replace hD := hD.old hs19 ge8
         replace hoP := own_oth hoP hit.oth hs19
         replace hb10 := hb10.oth hit.oth hs19
         replace hb3 := hb3.oth hit.oth hs19
         refine L_run (R_extract rfl rfl) rfl ?_
         refine L_nil (N_then (C_seq (C_condT rfl rfl (C_skip (N_then (C_block (C_seq (C_reg rfl ?_))))))))
         refine L_run (R_entryS rfl hi8) rfl ?_
         refine L_run (R_extract rfl rfl) rfl ?_
         refine L_alloc (cs := [.int .i64 0, .string (⟨#[]⟩)]) zer112 rfl rfl ?_
         intro g10 w24 eg9 hb11 hs20 hz20
         have ge9 : w.heap.size ≤ g10 := eg_ge hB eg9
         have lt6 : g2 < g10 := lt_of_eg hb10.lt eg9
         have lt7 : g4 < g10 := lt_of_eg hb3.lt eg9
         replace hB := gb_tr hB hs20
         replace hS := hS.gb hs20
         replace hD := hD.gb hs20
         replace hoP := own_gb hoP hs20
         replace hb10 := hb10.gb hs20
         replace hb3 := hb3.gb hs20
         replace hi8 := hi8.gb hs20
         refine L_stA (vs := [.int .i64 pe3.1.1, .string pe3.1.2]) rfl rfl rfl sz112 rfl hb11 rfl ?_
         intro w25 hb12 hs21 hz21
         replace hB := gb_trg hB hs21 ge9
         replace hS := hS.old hs21 ge9
         replace hD := hD.old hs21 ge9
         replace hoP := own_other hoP hb11 rfl hs21
         replace hb10 := hb10.grown hs21 (ne_lt lt6)
         replace hb3 := hb3.grown hs21 (ne_lt lt7)
         replace hi8 := hi8.blk hb11 hs21
         refine L_nil (N_then (C_seq (C_reg rfl ?_)))
         refine L_run (R_field (r := 0) rfl fld112_0 rfl) rfl ?_
         refine L_run (R_load1 rfl scl3 (hb12.cell (i := 0) rfl)) rfl ?_
         refine L_run (R_field (r := 1) rfl fld65_1 rfl) rfl ?_
         refine L_run (R_load1 rfl scl3 (hb3.cell (i := 1) rfl)) rfl ?_
         refine L_run (R_eql rfl rfl) rfl ?_
         refine L_nil (N_then ?_)
         refine C_if rfl (fun h7 => ?_) (fun h7 => ?_)
         ·refine C_reg rfl ?_
          refine L_run (R_move rfl) rfl ?_
          refine L_run (R_loadA (vs := [.int .i64 pe3.1.1, .string pe3.1.2]) rfl agg112 (At.pre (hb12.at_ 0) rfl) rfl) rfl ?_
          refine L_deleteS (p := pe3) ByOk rfl rfl Try.underlying110 hi8 ?_
          intro w26 hi9 hs22 hz22
          replace hB := gb_trg hB hs22 ge1
          replace hS := hS.oth hi8.oth hs22
          replace hD := hD.old hs22 ge1
          replace hoP := own_oth hoP hi8.oth hs22
          replace hb10 := hb10.oth hi8.oth hs22
          replace hb3 := hb3.oth hi8.oth hs22
          replace hb12 := hb12.oth hi8.oth hs22
          refine L_nil (N_in (N_then ?_))
          have hlt_ : (ml3 ++ mr3).length < left.length := by rw [hleft6]; simp
          exact ⟨(ml3 ++ mr3).length, by omega, _, adel m2 pe3.1, (ml3 ++ mr3), Ac_frg ⟨rfl, rfl, rfl, rfl, rfl, rfl, rfl, rfl, rfl, trivial⟩, hB, hS, hD, hoP, hb10, hb3, hi9, (fun o key ho => (lkS_adel (fun e_ => ho ((congrArg Prod.fst e_).trans h7))).trans (hA o key ho)), (fun q_ hq_ hc_ => by
            obtain ⟨h1_, h2_⟩ := adel_sub q_ hq_
            have h_ := hL q_ h1_ hc_
            rw [hleft6] at h_
            rcases List.mem_append.1 h_ with h_ | h_
            · exact List.mem_append_left _ h_
            · rcases List.mem_cons.1 h_ with rfl | h_
              · exact absurd rfl h2_
              · exact List.mem_append_right _ h_), rfl⟩
         ·refine C_skip (N_in (N_then ?_))
          have hlt_ : (ml3 ++ mr3).length < left.length := by rw [hleft6]; simp
          exact ⟨(ml3 ++ mr3).length, by omega, _, m2, (ml3 ++ mr3), Ac_frg ⟨rfl, rfl, rfl, rfl, rfl, rfl, rfl, rfl, rfl, trivial⟩, hB, hS, hD, hoP, hb10, hb3, hi8.iter, hA, (fun q_ hq_ hc_ => by
            have h_ := hL q_ hq_ hc_
            rw [hleft6] at h_
            rcases List.mem_append.1 h_ with h_ | h_
            · exact List.mem_append_left _ h_
            · rcases List.mem_cons.1 h_ with rfl | h_
              · exact absurd hc_ h7
              · exact List.mem_append_right _ h_), rfl⟩
     ·refine C_seq (C_reg rfl ?_)
      refine L_run (R_eql rfl rfl) rfl ?_
      refine L_run (R_assign rfl) rfl ?_
      refine L_nil (N_then ?_)
      refine C_if rfl (fun h8 => ?_) (fun h8 => ?_)
      ·refine C_skip (N_then (C_condT rfl (decide_eq_true h8) (C_seq (C_reg rfl ?_))))
       rcases (by omega : (l[i]).chain = 1 ∨ (l[i]).chain = 2 ∨ (l[i]).chain = 3) with hch | hch | hch
       ·refine L_run (R_field (r := 1) rfl fld65_1 rfl) rfl ?_
        refine L_run (R_eqv (R_load1 rfl scl3 (hb3.cell (i := 1) rfl)) (v' := .int .i64 1) (congrArg _ hch)) rfl ?_
        refine L_run (R_field (r := 0) rfl fld65_0 rfl) rfl ?_
        refine L_run (R_load1 rfl scl3 (hb3.cell (i := 0) rfl)) rfl ?_
        refine L_run (R_eql rfl rfl) rfl ?_
        refine L_run (R_indexArr (sz := 1) (i := 1) (r := 1) rfl rfl (by first | rfl | omega) arr101 (by omega) (by omega)) rfl ?_
        refine L_st1 rfl rfl rfl sz4 hbo rfl ?_
        intro w27 hb13 hs23 hz23
        replace hB := gb_trg hB hs23 ge2
        replace hS := hS.old hs23 ge2
        replace hD := hD.old hs23 ge2
        replace hoP := own_other hoP hbo rfl hs23
        replace hmp := hmp.blk hbo hs23
        replace hb3 := hb3.grown hs23 (ne_gt lt1)
        refine L_nil (N_then (C_seq (C_reg rfl ?_)))
        refine L_run (R_move rfl) rfl ?_
        refine L_rangeS rfl Try.underlying110 hmp rfl ?_
        intro g11 w28 eg10 hi10 hs24 hz24
        have ge10 : w.heap.size ≤ g11 := eg_ge hB eg10
        replace hB := gb_tr hB hs24
        replace hS := hS.gb hs24
        replace hD := hD.gb hs24
        replace hoP := own_gb hoP hs24
        replace hb13 := hb13.gb hs24
        replace hb3 := hb3.gb hs24
        refine L_nil (N_then (C_block ?_))
        refine C_loop (fun m_ a_ w_ => ∃ (σ_ : Nat → Value) (m2 : List (By × Nat)) (left : List (By × Nat)), a_ = Ac 106 σ_ [] [(0, .slice A l.length c), (3, .map (some g1)), (4, .pointer (some ⟨g2, 0, none⟩)), (5, .slice Aj ((clR l i).length) cj), (7, .pointer (some ⟨g4, 0, none⟩)), (14, .slice A l.length c), (15, .int .i64 (l.length : Int)), (16, .int .i64 (i : Int)), (41, .pointer (some ⟨g11, 0, none⟩))] ∧ w.grownBy w_ none ∧ Sli 0 0 w.heap.size w_ A (fl encRC l) ∧ DeepRC w.heap.size w_ l ∧ World.ownsRow w_ w.heap.size 3 1 (.slice Aj (clR l i).length cj) (clR l i).length (fl encZ (clR l i)) ∧ Blk w_ g2 101 [.bool false, .bool (decide ((l[i]).kind = 5)), .bool (openR l 2 i), .bool (openR l 3 i)] ∧ Blk w_ g4 65 [.int .i64 ((l[i]).kind), .int .i64 ((l[i]).chain), .int .i64 ((l[i]).lsn), .int .i64 ((l[i]).prev), .slice ((l[i]).da) ((l[i]).data.length) ((l[i]).dc)] ∧ IterS w_ g11 g1 encBy natI m2 left ∧ (∀ (o : Int) (key : ByteArray), o ≠ (l[i]).chain → lkS m2 (o, key) 0 = lkS m (o, key) 0) ∧ (∀ q ∈ m2, q.1.1 = (l[i]).chain → q ∈ left) ∧ left.length = m_) (m.length) ?_ ?_
        ·exact ⟨_, m, m, Ac_frg ⟨rfl, rfl, rfl, rfl, rfl, rfl, rfl, rfl, rfl, trivial⟩, hB, hS, hD, hoP, hb13, hb3, hi10, (fun _ _ _ => rfl), (fun q_ hq_ _ => hq_), rfl⟩
        ·clear hB
         clear hS hD hoP hb13 hb3 hi10
         rintro m_ a_ w29 ⟨σ_, m2, left, rfl, hB, hS, hD, hoP, hb13, hb3, hit, hA, hL, rfl⟩
         refine C_seq (C_reg rfl ?_)
         refine L_nextS rfl hit rfl ?_ ?_
         ·intro hleft7
          refine L_run (R_extract rfl rfl) rfl ?_
          refine L_nil (N_then (C_seq (C_condF rfl rfl (C_exit (X_then (X_then (X_hit (N_in (N_in (N_then (C_reg rfl ?_)))))))))))
          refine L_run (R_add64 rfl rfl (by omega)) rfl ?_
          refine L_run (R_move rfl) rfl ?_
          refine L_nil (N_then ?_)
          have eR := clR_s hli
          rw [if_neg (fun q_ => by omega)] at eR
          have hends : endsK (l[i]).kind := by unfold endsK; omega
          have e1 : openR l 1 (i + 1) = decide ((l[i]).kind = 5) := by rw [openR_s hli, if_pos ⟨hch, hends⟩]
          have e2 : openR l 2 (i + 1) = openR l 2 i := openR_ne hli (by omega)
          have e3 : openR l 3 (i + 1) = openR l 3 i := openR_ne hli (by omega)
          have hcm2 : CM l (i + 1) m2 := by rw [hleft7] at hL; exact CM_end hcm hli hends hA (fun _ => gone hL)
          exact ⟨l.length - (i + 1), by omega, _, (i + 1), Aj, cj, m2, Ac_frg ⟨rfl, rfl, rfl, (agr rfl (by rw [eR])), rfl, rfl, (agr rfl (by first | rfl | (congr 1; omega) | (congr 1 <;> omega))), trivial⟩, hB, hS, hD, (by rw [eR]; exact (own_lo hoP (Nat.le_refl _))), (by rw [e1, e2, e3]; exact hb13), hit.map, (by omega), hcm2, rfl⟩
         ·intro ml4 pe4 mr4 w30 hleft8 hi11 hs25 hz25
          replace hB := gb_trg hB hs25 ge10
          replace hS := hS.oth hit.oth hs25
          replace hD := hD.old hs25 ge10
          replace hoP := own_oth hoP hit.oth hs25
          replace hb13 := hb13.oth hit.oth hs25
          replace hb3 := hb3.oth hit.oth hs25
          refine L_run (R_extract rfl rfl) rfl ?_
          refine L_nil (N_then (C_seq (C_condT rfl rfl (C_skip (N_then (C_block (C_seq (C_reg rfl ?_))))))))
          refine L_run (R_entryS rfl hi11) rfl ?_
          refine L_run (R_extract rfl rfl) rfl ?_
          refine L_alloc (cs := [.int .i64 0, .string (⟨#[]⟩)]) zer112 rfl rfl ?_
          intro g12 w31 eg11 hb14 hs26 hz26
          have ge11 : w.heap.size ≤ g12 := eg_ge hB eg11
          have lt8 : g2 < g12 := lt_of_eg hb13.lt eg11
          have lt9 : g4 < g12 := lt_of_eg hb3.lt eg11
          replace hB := gb_tr hB hs26
          replace hS := hS.gb hs26
          replace hD := hD.gb hs26
          replace hoP := own_gb hoP hs26
          replace hb13 := hb13.gb hs26
          replace hb3 := hb3.gb hs26
          replace hi11 := hi11.gb hs26
          refine L_stA (vs := [.int .i64 pe4.1.1, .string pe4.1.2]) rfl rfl rfl sz112 rfl hb14 rfl ?_
          intro w32 hb15 hs27 hz27
          replace hB := gb_trg hB hs27 ge11
          replace hS := hS.old hs27 ge11
          replace hD := hD.old hs27 ge11
          replace hoP := own_other hoP hb14 rfl hs27
          replace hb13 := hb13.grown hs27 (ne_lt lt8)
          replace hb3 := hb3.grown hs27 (ne_lt lt9)
          replace hi11 := hi11.blk hb14 hs27
          refine L_nil (N_then (C_seq (C_reg rfl ?_)))
          refine L_run (R_field (r := 0) rfl fld112_0 rfl) rfl ?_
          refine L_run (R_load1 rfl scl3 (hb15.cell (i := 0) rfl)) rfl ?_
          refine L_run (R_field (r := 1) rfl fld65_1 rfl) rfl ?_
          refine L_run (R_load1 rfl scl3 (hb3.cell (i := 1) rfl)) rfl ?_
          refine L_run (R_eql rfl rfl) rfl ?_
          refine L_nil (N_then ?_)
          refine C_if rfl (fun h9 => ?_) (fun h9 => ?_)
          ·refine C_reg rfl ?_
           refine L_run (R_move rfl) rfl ?_
           refine L_run (R_loadA (vs := [.int .i64 pe4.1.1, .string pe4.1.2]) rfl agg112 (At.pre (hb15.at_ 0) rfl) rfl) rfl ?_
           refine L_deleteS (p := pe4) ByOk rfl rfl Try.underlying110 hi11 ?_
           intro w33 hi12 hs28 hz28
           replace hB := gb_trg hB hs28 ge1
           replace hS := hS.oth hi11.oth hs28
           replace hD := hD.old hs28 ge1
           replace hoP := own_oth hoP hi11.oth hs28
           replace hb13 := hb13.oth hi11.oth hs28
           replace hb3 := hb3.oth hi11.oth hs28
           replace hb15 := hb15.oth hi11.oth hs28
           refine L_nil (N_in (N_then ?_))
           have hlt_ : (ml4 ++ mr4).length < left.length := by rw [hleft8]; simp
           exact ⟨(ml4 ++ mr4).length, by omega, _, adel m2 pe4.1, (ml4 ++ mr4), Ac_frg ⟨rfl, rfl, rfl, rfl, rfl, rfl, rfl, rfl, rfl, trivial⟩, hB, hS, hD, hoP, hb13, hb3, hi12, (fun o key ho => (lkS_adel (fun e_ => ho ((congrArg Prod.fst e_).trans h9))).trans (hA o key ho)), (fun q_ hq_ hc_ => by
             obtain ⟨h1_, h2_⟩ := adel_sub q_ hq_
             have h_ := hL q_ h1_ hc_
             rw [hleft8] at h_
             rcases List.mem_append.1 h_ with h_ | h_
             · exact List.mem_append_left _ h_
             · rcases List.mem_cons.1 h_ with rfl | h_
               · exact absurd rfl h2_
               · exact List.mem_append_right _ h_), rfl⟩
          ·refine C_skip (N_in (N_then ?_))
           have hlt_ : (ml4 ++ mr4).length < left.length := by rw [hleft8]; simp
           exact ⟨(ml4 ++ mr4).length, by omega, _, m2, (ml4 ++ mr4), Ac_frg ⟨rfl, rfl, rfl, rfl, rfl, rfl, rfl, rfl, rfl, trivial⟩, hB, hS, hD, hoP, hb13, hb3, hi11.iter, hA, (fun q_ hq_ hc_ => by
             have h_ := hL q_ hq_ hc_
             rw [hleft8] at h_
             rcases List.mem_append.1 h_ with h_ | h_
             · exact List.mem_append_left _ h_
             · rcases List.mem_cons.1 h_ with rfl | h_
               · exact absurd hc_ h9
               · exact List.mem_append_right _ h_), rfl⟩
       ·refine L_run (R_field (r := 1) rfl fld65_1 rfl) rfl ?_
        refine L_run (R_eqv (R_load1 rfl scl3 (hb3.cell (i := 1) rfl)) (v' := .int .i64 2) (congrArg _ hch)) rfl ?_
        refine L_run (R_field (r := 0) rfl fld65_0 rfl) rfl ?_
        refine L_run (R_load1 rfl scl3 (hb3.cell (i := 0) rfl)) rfl ?_
        refine L_run (R_eql rfl rfl) rfl ?_
        refine L_run (R_indexArr (sz := 1) (i := 2) (r := 2) rfl rfl (by first | rfl | omega) arr101 (by omega) (by omega)) rfl ?_
        refine L_st1 rfl rfl rfl sz4 hbo rfl ?_
        intro w34 hb16 hs29 hz29
        replace hB := gb_trg hB hs29 ge2
        replace hS := hS.old hs29 ge2
        replace hD := hD.old hs29 ge2
        replace hoP := own_other hoP hbo rfl hs29
        replace hmp := hmp.blk hbo hs29
        replace hb3 := hb3.grown hs29 (ne_gt lt1)
        refine L_nil (N_then (C_seq (C_reg rfl ?_)))
        refine L_run (R_move rfl) rfl ?_
        refine L_rangeS rfl Try.underlying110 hmp rfl ?_
        intro g13 w35 eg12 hi13 hs30 hz30
        have ge12 : w.heap.size ≤ g13 := eg_ge hB eg12
        replace hB := gb_tr hB hs30
        replace hS := hS.gb hs30
        replace hD := hD.gb hs30
        replace hoP := own_gb hoP hs30
        replace hb16 := hb16.gb hs30
        replace hb3 := hb3.gb hs30
        refine L_nil (N_then (C_block ?_))
        refine C_loop (fun m_ a_ w_ => ∃ (σ_ : Nat → Value) (m2 : List (By × Nat)) (left : List (By × Nat)), a_ = Ac 106 σ_ [] [(0, .slice A l.length c), (3, .map (some g1)), (4, .pointer (some ⟨g2, 0, none⟩)), (5, .slice Aj ((clR l i).length) cj), (7, .pointer (some ⟨g4, 0, none⟩)), (14, .slice A l.length c), (15, .int .i64 (l.length : Int)), (16, .int .i64 (i : Int)), (41, .pointer (some ⟨g13, 0, none⟩))] ∧ w.grownBy w_ none ∧ Sli 0 0 w.heap.size w_ A (fl encRC l) ∧ DeepRC w.heap.size w_ l ∧ World.ownsRow w_ w.heap.size 3 1 (.slice Aj (clR l i).length cj) (clR l i).length (fl encZ (clR l i)) ∧ Blk w_ g2 101 [.bool false, .bool (openR l 1 i), .bool (decide ((l[i]).kind = 5)), .bool (openR l 3 i)] ∧ Blk w_ g4 65 [.int .i64 ((l[i]).kind), .int .i64 ((l[i]).chain), .int .i64 ((l[i]).lsn), .int .i64 ((l[i]).prev), .slice ((l[i]).da) ((l[i]).data.length) ((l[i]).dc)] ∧ IterS w_ g13 g1 encBy natI m2 left ∧ (∀ (o : Int) (key : ByteArray), o ≠ (l[i]).chain → lkS m2 (o, key) 0 = lkS m (o, key) 0) ∧ (∀ q ∈ m2, q.1.1 = (l[i]).chain → q ∈ left) ∧ left.length = m_) (m.length) ?_ ?_
        ·exact ⟨_, m, m, Ac_frg ⟨rfl, rfl, rfl, rfl, rfl, rfl, rfl, rfl, rfl, trivial⟩, hB, hS, hD, hoP, hb16, hb3, hi13, (fun _ _ _ => rfl), (fun q_ hq_ _ => hq_), rfl⟩
        ·clear hB
         clear hS hD hoP hb16 hb3 hi13
         rintro m_ a_ w36 ⟨σ_, m2, left, rfl, hB, hS, hD, hoP, hb16, hb3, hit, hA, hL, rfl⟩
         refine C_seq (C_reg rfl ?_)
         refine L_nextS rfl hit rfl ?_ ?_
         ·intro hleft9
          refine L_run (R_extract rfl rfl) rfl ?_
          refine L_nil (N_then (C_seq (C_condF rfl rfl (C_exit (X_then (X_then (X_hit (N_in (N_in (N_then (C_reg rfl ?_)))))))))))
          refine L_run (R_add64 rfl rfl (by omega)) rfl ?_
          refine L_run (R_move rfl) rfl ?_
          refine L_nil (N_then ?_)
          have eR := clR_s hli
          rw [if_neg (fun q_ => by omega)] at eR
          have hends : endsK (l[i]).kind := by unfold endsK; omega
          have e2 : openR l 2 (i + 1) = decide ((l[i]).kind = 5) := by rw [openR_s hli, if_pos ⟨hch, hends⟩]
          have e1 : openR l 1 (i + 1) = openR l 1 i := openR_ne hli (by omega)
          have e3 : openR l 3 (i + 1) = openR l 3 i := openR_ne hli (by omega)
          have hcm2 : CM l (i + 1) m2 := by rw [hleft9] at hL; exact CM_end hcm hli hends hA (fun _ => gone hL)
          exact ⟨l.length - (i + 1), by omega, _, (i + 1), Aj, cj, m2, Ac_frg ⟨rfl, rfl, rfl, (agr rfl (by rw [eR])), rfl, rfl, (agr rfl (by first | rfl | (congr 1; omega) | (congr 1 <;> omega))), trivial⟩, hB, hS, hD, (by rw [eR]; exact (own_lo hoP (Nat.le_refl _))), (by rw [e1, e2, e3]; exact hb16), hit.map, (by omega), hcm2, rfl⟩
         ·intro ml5 pe5 mr5 w37 hleft10 hi14 hs31 hz31
          replace hB := gb_trg hB hs31 ge12
          replace hS := hS.oth hit.oth hs31
          replace hD := hD.old hs31 ge12
          replace hoP := own_oth hoP hit.oth hs31
          replace hb16 := hb16.oth hit.oth hs31
          replace hb3 := hb3.oth hit.oth hs31
          refine L_run (R_extract rfl rfl) rfl ?_
          refine L_nil (N_then (C_seq (C_condT rfl rfl (C_skip (N_then (C_block (C_seq (C_reg rfl ?_))))))))
          refine L_run (R_entryS rfl hi14) rfl ?_
          refine L_run (R_extract rfl rfl) rfl ?_
          refine L_alloc (cs := [.int .i64 0, .string (⟨#[]⟩)]) zer112 rfl rfl ?_
          intro g14 w38 eg13 hb17 hs32 hz32
          have ge13 : w.heap.size ≤ g14 := eg_ge hB eg13
          have lt10 : g2 < g14 := lt_of_eg hb16.lt eg13
          have lt11 : g4 < g14 := lt_of_eg hb3.lt eg13
          replace hB := gb_tr hB hs32
          replace hS := hS.gb hs32
          replace hD := hD.gb hs32
          replace hoP := own_gb hoP hs32
          replace hb16 := hb16.gb hs32
          replace hb3 := hb3.gb hs32
          replace hi14 := hi14.gb hs32
          refine L_stA (vs := [.int .i64 pe5.1.1, .string pe5.1.2]) rfl rfl rfl sz112 rfl hb17 rfl ?_
          intro w39 hb18 hs33 hz33
          replace hB := gb_trg hB hs33 ge13
          replace hS := hS.old hs33 ge13
          replace hD := hD.old hs33 ge13
          replace hoP := own_other hoP hb17 rfl hs33
          replace hb16 := hb16.grown hs33 (ne_lt lt10)
          replace hb3 := hb3.grown hs33 (ne_lt lt11)
          replace hi14 := hi14.blk hb17 hs33
          refine L_nil (N_then (C_seq (C_reg rfl ?_)))
          refine L_run (R_field (r := 0) rfl fld112_0 rfl) rfl ?_
          refine L_run (R_load1 rfl scl3 (hb18.cell (i := 0) rfl)) rfl ?_
          refine L_run (R_field (r := 1) rfl fld65_1 rfl) rfl ?_
          refine L_run (R_load1 rfl scl3 (hb3.cell (i := 1) rfl)) rfl ?_
          refine L_run (R_eql rfl rfl) rfl ?_
          refine L_nil (N_then ?_)
          refine C_if rfl (fun h10 => ?_) (fun h10 => ?_)
          ·refine C_reg rfl ?_
           refine L_run (R_move rfl) rfl ?_
           refine L_run (R_loadA (vs := [.int .i64 pe5.1.1, .string pe5.1.2]) rfl agg112 (At.pre (hb18.at_ 0) rfl) rfl) rfl ?_
           refine L_deleteS (p := pe5) ByOk rfl rfl Try.underlying110 hi14 ?_
           intro w40 hi15 hs34 hz34
           replace hB := gb_trg hB hs34 ge1
           replace hS := hS.oth hi14.oth hs34
           replace hD := hD.old hs34 ge1
           replace hoP := own_oth hoP hi14.oth hs34
           replace hb16 := hb16.oth hi14.oth hs34
           replace hb3 := hb3.oth hi14.oth hs34
           replace hb18 := hb18.oth hi14.oth hs34
           refine L_nil (N_in (N_then ?_))
           have hlt_ : (ml5 ++ mr5).length < left.length := by rw [hleft10]; simp
           exact ⟨(ml5 ++ mr5).length, by omega, _, adel m2 pe5.1, (ml5 ++ mr5), Ac_frg ⟨rfl, rfl, rfl, rfl, rfl, rfl, rfl, rfl, rfl, trivial⟩, hB, hS, hD, hoP, hb16, hb3, hi15, (fun o key ho => (lkS_adel (fun e_ => ho ((congrArg Prod.fst e_).trans h10))).trans (hA o key ho)), (fun q_ hq_ hc_ => by
             obtain ⟨h1_, h2_⟩ := adel_sub q_ hq_
             have h_ := hL q_ h1_ hc_
             rw [hleft10] at h_
             rcases List.mem_append.1 h_ with h_ | h_
             · exact List.mem_append_left _ h_
             · rcases List.mem_cons.1 h_ with rfl | h_
               · exact absurd rfl h2_
               · exact List.mem_append_right _ h_), rfl⟩
          ·refine C_skip (N_in (N_then ?_))
           have hlt_ : (ml5 ++ mr5).length < left.length := by rw [hleft10]; simp
           exact ⟨(ml5 ++ mr5).length, by omega, _, m2, (ml5 ++ mr5), Ac_frg ⟨rfl, rfl, rfl, rfl, rfl, rfl, rfl, rfl, rfl, trivial⟩, hB, hS, hD, hoP, hb16, hb3, hi14.iter, hA, (fun q_ hq_ hc_ => by
             have h_ := hL q_ hq_ hc_
             rw [hleft10] at h_
             rcases List.mem_append.1 h_ with h_ | h_
             · exact List.mem_append_left _ h_
             · rcases List.mem_cons.1 h_ with rfl | h_
               · exact absurd hc_ h10
               · exact List.mem_append_right _ h_), rfl⟩
       ·refine L_run (R_field (r := 1) rfl fld65_1 rfl) rfl ?_
        refine L_run (R_eqv (R_load1 rfl scl3 (hb3.cell (i := 1) rfl)) (v' := .int .i64 3) (congrArg _ hch)) rfl ?_
        refine L_run (R_field (r := 0) rfl fld65_0 rfl) rfl ?_
        refine L_run (R_load1 rfl scl3 (hb3.cell (i := 0) rfl)) rfl ?_
        refine L_run (R_eql rfl rfl) rfl ?_
        refine L_run (R_indexArr (sz := 1) (i := 3) (r := 3) rfl rfl (by first | rfl | omega) arr101 (by omega) (by omega)) rfl ?_
        refine L_st1 rfl rfl rfl sz4 hbo rfl ?_
        intro w41 hb19 hs35 hz35
        replace hB := gb_trg hB hs35 ge2
        replace hS := hS.old hs35 ge2
        replace hD := hD.old hs35 ge2
        replace hoP := own_other hoP hbo rfl hs35
        replace hmp := hmp.blk hbo hs35
        replace hb3 := hb3.grown hs35 (ne_gt lt1)
        refine L_nil (N_then (C_seq (C_reg rfl ?_)))
        refine L_run (R_move rfl) rfl ?_
        refine L_rangeS rfl Try.underlying110 hmp rfl ?_
        intro g15 w42 eg14 hi16 hs36 hz36
        have ge14 : w.heap.size ≤ g15 := eg_ge hB eg14
        replace hB := gb_tr hB hs36
        replace hS := hS.gb hs36
        replace hD := hD.gb hs36
        replace hoP := own_gb hoP hs36
        replace hb19 := hb19.gb hs36
        replace hb3 := hb3.gb hs36
        refine L_nil (N_then (C_block ?_))
        refine C_loop (fun m_ a_ w_ => ∃ (σ_ : Nat → Value) (m2 : List (By × Nat)) (left : List (By × Nat)), a_ = Ac 106 σ_ [] [(0, .slice A l.length c), (3, .map (some g1)), (4, .pointer (some ⟨g2, 0, none⟩)), (5, .slice Aj ((clR l i).length) cj), (7, .pointer (some ⟨g4, 0, none⟩)), (14, .slice A l.length c), (15, .int .i64 (l.length : Int)), (16, .int .i64 (i : Int)), (41, .pointer (some ⟨g15, 0, none⟩))] ∧ w.grownBy w_ none ∧ Sli 0 0 w.heap.size w_ A (fl encRC l) ∧ DeepRC w.heap.size w_ l ∧ World.ownsRow w_ w.heap.size 3 1 (.slice Aj (clR l i).length cj) (clR l i).length (fl encZ (clR l i)) ∧ Blk w_ g2 101 [.bool false, .bool (openR l 1 i), .bool (openR l 2 i), .bool (decide ((l[i]).kind = 5))] ∧ Blk w_ g4 65 [.int .i64 ((l[i]).kind), .int .i64 ((l[i]).chain), .int .i64 ((l[i]).lsn), .int .i64 ((l[i]).prev), .slice ((l[i]).da) ((l[i]).data.length) ((l[i]).dc)] ∧ IterS w_ g15 g1 encBy natI m2 left ∧ (∀ (o : Int) (key : ByteArray), o ≠ (l[i]).chain → lkS m2 (o, key) 0 = lkS m (o, key) 0) ∧ (∀ q ∈ m2, q.1.1 = (l[i]).chain → q ∈ left) ∧ left.length = m_) (m.length) ?_ ?_
        ·exact ⟨_, m, m, Ac_frg ⟨rfl, rfl, rfl, rfl, rfl, rfl, rfl, rfl, rfl, trivial⟩, hB, hS, hD, hoP, hb19, hb3, hi16, (fun _ _ _ => rfl), (fun q_ hq_ _ => hq_), rfl⟩
        ·clear hB
         clear hS hD hoP hb19 hb3 hi16
         rintro m_ a_ w43 ⟨σ_, m2, left, rfl, hB, hS, hD, hoP, hb19, hb3, hit, hA, hL, rfl⟩
         refine C_seq (C_reg rfl ?_)
         refine L_nextS rfl hit rfl ?_ ?_
         ·intro hleft11
          refine L_run (R_extract rfl rfl) rfl ?_
          refine L_nil (N_then (C_seq (C_condF rfl rfl (C_exit (X_then (X_then (X_hit (N_in (N_in (N_then (C_reg rfl ?_)))))))))))
          refine L_run (R_add64 rfl rfl (by omega)) rfl ?_
          refine L_run (R_move rfl) rfl ?_
          refine L_nil (N_then ?_)
          have eR := clR_s hli
          rw [if_neg (fun q_ => by omega)] at eR
          have hends : endsK (l[i]).kind := by unfold endsK; omega
          have e3 : openR l 3 (i + 1) = decide ((l[i]).kind = 5) := by rw [openR_s hli, if_pos ⟨hch, hends⟩]
          have e1 : openR l 1 (i + 1) = openR l 1 i := openR_ne hli (by omega)
          have e2 : openR l 2 (i + 1) = openR l 2 i := openR_ne hli (by omega)
          have hcm2 : CM l (i + 1) m2 := by rw [hleft11] at hL; exact CM_end hcm hli hends hA (fun _ => gone hL)
          exact ⟨l.length - (i + 1), by omega, _, (i + 1), Aj, cj, m2, Ac_frg ⟨rfl, rfl, rfl, (agr rfl (by rw [eR])), rfl, rfl, (agr rfl (by first | rfl | (congr 1; omega) | (congr 1 <;> omega))), trivial⟩, hB, hS, hD, (by rw [eR]; exact (own_lo hoP (Nat.le_refl _))), (by rw [e1, e2, e3]; exact hb19), hit.map, (by omega), hcm2, rfl⟩
         ·intro ml6 pe6 mr6 w44 hleft12 hi17 hs37 hz37
          replace hB := gb_trg hB hs37 ge14
          replace hS := hS.oth hit.oth hs37
          replace hD := hD.old hs37 ge14
          replace hoP := own_oth hoP hit.oth hs37
          replace hb19 := hb19.oth hit.oth hs37
          replace hb3 := hb3.oth hit.oth hs37
          refine L_run (R_extract rfl rfl) rfl ?_
          refine L_nil (N_then (C_seq (C_condT rfl rfl (C_skip (N_then (C_block (C_seq (C_reg rfl ?_))))))))
          refine L_run (R_entryS rfl hi17) rfl ?_
          refine L_run (R_extract rfl rfl) rfl ?_
          refine L_alloc (cs := [.int .i64 0, .string (⟨#[]⟩)]) zer112 rfl rfl ?_
          intro g16 w45 eg15 hb20 hs38 hz38
          have ge15 : w.heap.size ≤ g16 := eg_ge hB eg15
          have lt12 : g2 < g16 := lt_of_eg hb19.lt eg15
          have lt13 : g4 < g16 := lt_of_eg hb3.lt eg15
          replace hB := gb_tr hB hs38
          replace hS := hS.gb hs38
          replace hD := hD.gb hs38
          replace hoP := own_gb hoP hs38
          replace hb19 := hb19.gb hs38
          replace hb3 := hb3.gb hs38
          replace hi17 := hi17.gb hs38
          refine L_stA (vs := [.int .i64 pe6.1.1, .string pe6.1.2]) rfl rfl rfl sz112 rfl hb20 rfl ?_
          intro w46 hb21 hs39 hz39
          replace hB := gb_trg hB hs39 ge15
          replace hS := hS.old hs39 ge15
          replace hD := hD.old hs39 ge15
          replace hoP := own_other hoP hb20 rfl hs39
          replace hb19 := hb19.grown hs39 (ne_lt lt12)
          replace hb3 := hb3.grown hs39 (ne_lt lt13)
          replace hi17 := hi17.blk hb20 hs39
          refine L_nil (N_then (C_seq (C_reg rfl ?_)))
          refine L_run (R_field (r := 0) rfl fld112_0 rfl) rfl ?_
          refine L_run (R_load1 rfl scl3 (hb21.cell (i := 0) rfl)) rfl ?_
          refine L_run (R_field (r := 1) rfl fld65_1 rfl) rfl ?_
          refine L_run (R_load1 rfl scl3 (hb3.cell (i := 1) rfl)) rfl ?_
          refine L_run (R_eql rfl rfl) rfl ?_
          refine L_nil (N_then ?_)
          refine C_if rfl (fun h11 => ?_) (fun h11 => ?_)
          ·refine C_reg rfl ?_
           refine L_run (R_move rfl) rfl ?_
           refine L_run (R_loadA (vs := [.int .i64 pe6.1.1, .string pe6.1.2]) rfl agg112 (At.pre (hb21.at_ 0) rfl) rfl) rfl ?_
           refine L_deleteS (p := pe6) ByOk rfl rfl Try.underlying110 hi17 ?_
           intro w47 hi18 hs40 hz40
           replace hB := gb_trg hB hs40 ge1
           replace hS := hS.oth hi17.oth hs40
           replace hD := hD.old hs40 ge1
           replace hoP := own_oth hoP hi17.oth hs40
           replace hb19 := hb19.oth hi17.oth hs40
           replace hb3 := hb3.oth hi17.oth hs40
           replace hb21 := hb21.oth hi17.oth hs40
           refine L_nil (N_in (N_then ?_))
           have hlt_ : (ml6 ++ mr6).length < left.length := by rw [hleft12]; simp
           exact ⟨(ml6 ++ mr6).length, by omega, _, adel m2 pe6.1, (ml6 ++ mr6), Ac_frg ⟨rfl, rfl, rfl, rfl, rfl, rfl, rfl, rfl, rfl, trivial⟩, hB, hS, hD, hoP, hb19, hb3, hi18, (fun o key ho => (lkS_adel (fun e_ => ho ((congrArg Prod.fst e_).trans h11))).trans (hA o key ho)), (fun q_ hq_ hc_ => by
             obtain ⟨h1_, h2_⟩ := adel_sub q_ hq_
             have h_ := hL q_ h1_ hc_
             rw [hleft12] at h_
             rcases List.mem_append.1 h_ with h_ | h_
             · exact List.mem_append_left _ h_
             · rcases List.mem_cons.1 h_ with rfl | h_
               · exact absurd rfl h2_
               · exact List.mem_append_right _ h_), rfl⟩
          ·refine C_skip (N_in (N_then ?_))
           have hlt_ : (ml6 ++ mr6).length < left.length := by rw [hleft12]; simp
           exact ⟨(ml6 ++ mr6).length, by omega, _, m2, (ml6 ++ mr6), Ac_frg ⟨rfl, rfl, rfl, rfl, rfl, rfl, rfl, rfl, rfl, trivial⟩, hB, hS, hD, hoP, hb19, hb3, hi17.iter, hA, (fun q_ hq_ hc_ => by
             have h_ := hL q_ hq_ hc_
             rw [hleft12] at h_
             rcases List.mem_append.1 h_ with h_ | h_
             · exact List.mem_append_left _ h_
             · rcases List.mem_cons.1 h_ with rfl | h_
               · exact absurd hc_ h11
               · exact List.mem_append_right _ h_), rfl⟩
      ·refine C_reg rfl ?_
       refine L_run (R_eql rfl rfl) rfl ?_
       refine L_run (R_assign rfl) rfl ?_
       refine L_nil (N_then ?_)
       refine C_if rfl (fun h12 => ?_) (fun h12 => ?_)
       ·refine C_seq (C_reg rfl ?_)
        rcases (by omega : (l[i]).chain = 1 ∨ (l[i]).chain = 2 ∨ (l[i]).chain = 3) with hch | hch | hch
        ·refine L_run (R_field (r := 1) rfl fld65_1 rfl) rfl ?_
         refine L_run (R_eqv (R_load1 rfl scl3 (hb3.cell (i := 1) rfl)) (v' := .int .i64 1) (congrArg _ hch)) rfl ?_
         refine L_run (R_field (r := 0) rfl fld65_0 rfl) rfl ?_
         refine L_run (R_load1 rfl scl3 (hb3.cell (i := 0) rfl)) rfl ?_
         refine L_run (R_eql rfl rfl) rfl ?_
         refine L_run (R_indexArr (sz := 1) (i := 1) (r := 1) rfl rfl (by first | rfl | omega) arr101 (by omega) (by omega)) rfl ?_
         refine L_st1 rfl rfl rfl sz4 hbo rfl ?_
         intro w48 hb22 hs41 hz41
         replace hB := gb_trg hB hs41 ge2
         replace hS := hS.old hs41 ge2
         replace hD := hD.old hs41 ge2
         replace hoP := own_other hoP hbo rfl hs41
         replace hmp := hmp.blk hbo hs41
         replace hb3 := hb3.grown hs41 (ne_gt lt1)
         refine L_nil (N_then (C_seq (C_reg rfl ?_)))
         refine L_run (R_move rfl) rfl ?_
         refine L_rangeS rfl Try.underlying110 hmp rfl ?_
         intro g17 w49 eg16 hi19 hs42 hz42
         have ge16 : w.heap.size ≤ g17 := eg_ge hB eg16
         replace hB := gb_tr hB hs42
         replace hS := hS.gb hs42
         replace hD := hD.gb hs42
         replace hoP := own_gb hoP hs42
         replace hb22 := hb22.gb hs42
         replace hb3 := hb3.gb hs42
         refine L_nil (N_then (C_block ?_))
         refine C_loop (fun m_ a_ w_ => ∃ (σ_ : Nat → Value) (m2 : List (By × Nat)) (left : List (By × Nat)), a_ = Ac 106 σ_ [] [(0, .slice A l.length c), (3, .map (some g1)), (4, .pointer (some ⟨g2, 0, none⟩)), (5, .slice Aj ((clR l i).length) cj), (7, .pointer (some ⟨g4, 0, none⟩)), (14, .slice A l.length c), (15, .int .i64 (l.length : Int)), (16, .int .i64 (i : Int)), (41, .pointer (some ⟨g17, 0, none⟩))] ∧ w.grownBy w_ none ∧ Sli 0 0 w.heap.size w_ A (fl encRC l) ∧ DeepRC w.heap.size w_ l ∧ World.ownsRow w_ w.heap.size 3 1 (.slice Aj (clR l i).length cj) (clR l i).length (fl encZ (clR l i)) ∧ Blk w_ g2 101 [.bool false, .bool (decide ((l[i]).kind = 5)), .bool (openR l 2 i), .bool (openR l 3 i)] ∧ Blk w_ g4 65 [.int .i64 ((l[i]).kind), .int .i64 ((l[i]).chain), .int .i64 ((l[i]).lsn), .int .i64 ((l[i]).prev), .slice ((l[i]).da) ((l[i]).data.length) ((l[i]).dc)] ∧ IterS w_ g17 g1 encBy natI m2 left ∧ (∀ (o : Int) (key : ByteArray), o ≠ (l[i]).chain → lkS m2 (o, key) 0 = lkS m (o, key) 0) ∧ (∀ q ∈ m2, q.1.1 = (l[i]).chain → q ∈ left) ∧ left.length = m_) (m.length) ?_ ?_
         ·exact ⟨_, m, m, Ac_frg ⟨rfl, rfl, rfl, rfl, rfl, rfl, rfl, rfl, rfl, trivial⟩, hB, hS, hD, hoP, hb22, hb3, hi19, (fun _ _ _ => rfl), (fun q_ hq_ _ => hq_), rfl⟩
         ·clear hB
          clear hS hD hoP hb22 hb3 hi19
          rintro m_ a_ w50 ⟨σ_, m2, left, rfl, hB, hS, hD, hoP, hb22, hb3, hit, hA, hL, rfl⟩
          refine C_seq (C_reg rfl ?_)
          refine L_nextS rfl hit rfl ?_ ?_
          ·intro hleft13
           refine L_run (R_extract rfl rfl) rfl ?_
           refine L_nil (N_then (C_seq (C_condF rfl rfl (C_exit (X_then (X_then (X_hit (N_in (N_in (N_then (C_reg rfl ?_)))))))))))
           refine L_run (R_add64 rfl rfl (by omega)) rfl ?_
           refine L_run (R_move rfl) rfl ?_
           refine L_nil (N_then ?_)
           have eR := clR_s hli
           rw [if_neg (fun q_ => by omega)] at eR
           have hends : endsK (l[i]).kind := by unfold endsK; omega
           have e1 : openR l 1 (i + 1) = decide ((l[i]).kind = 5) := by rw [openR_s hli, if_pos ⟨hch, hends⟩]
           have e2 : openR l 2 (i + 1) = openR l 2 i := openR_ne hli (by omega)
           have e3 : openR l 3 (i + 1) = openR l 3 i := openR_ne hli (by omega)
           have hcm2 : CM l (i + 1) m2 := by rw [hleft13] at hL; exact CM_end hcm hli hends hA (fun _ => gone hL)
           exact ⟨l.length - (i + 1), by omega, _, (i + 1), Aj, cj, m2, Ac_frg ⟨rfl, rfl, rfl, (agr rfl (by rw [eR])), rfl, rfl, (agr rfl (by first | rfl | (congr 1; omega) | (congr 1 <;> omega))), trivial⟩, hB, hS, hD, (by rw [eR]; exact (own_lo hoP (Nat.le_refl _))), (by rw [e1, e2, e3]; exact hb22), hit.map, (by omega), hcm2, rfl⟩
          ·intro ml7 pe7 mr7 w51 hleft14 hi20 hs43 hz43
           replace hB := gb_trg hB hs43 ge16
           replace hS := hS.oth hit.oth hs43
           replace hD := hD.old hs43 ge16
           replace hoP := own_oth hoP hit.oth hs43
           replace hb22 := hb22.oth hit.oth hs43
           replace hb3 := hb3.oth hit.oth hs43
           refine L_run (R_extract rfl rfl) rfl ?_
           refine L_nil (N_then (C_seq (C_condT rfl rfl (C_skip (N_then (C_block (C_seq (C_reg rfl ?_))))))))
           refine L_run (R_entryS rfl hi20) rfl ?_
           refine L_run (R_extract rfl rfl) rfl ?_
           refine L_alloc (cs := [.int .i64 0, .string (⟨#[]⟩)]) zer112 rfl rfl ?_
           intro g18 w52 eg17 hb23 hs44 hz44
           have ge17 : w.heap.size ≤ g18 := eg_ge hB eg17
           have lt14 : g2 < g18 := lt_of_eg hb22.lt eg17
           have lt15 : g4 < g18 := lt_of_eg hb3.lt eg17
           replace hB := gb_tr hB hs44
           replace hS := hS.gb hs44
           replace hD := hD.gb hs44
           replace hoP := own_gb hoP hs44
           replace hb22 := hb22.gb hs44
           replace hb3 := hb3.gb hs44
           replace hi20 := hi20.gb hs44
           refine L_stA (vs := [.int .i64 pe7.1.1, .string pe7.1.2]) rfl rfl rfl sz112 rfl hb23 rfl ?_
           intro w53 hb24 hs45 hz45
           replace hB := gb_trg hB hs45 ge17
           replace hS := hS.old hs45 ge17
           replace hD := hD.old hs45 ge17
           replace hoP := own_other hoP hb23 rfl hs45
           replace hb22 := hb22.grown hs45 (ne_lt lt14)
           replace hb3 := hb3.grown hs45 (ne_lt lt15)
           replace hi20 := hi20.blk hb23 hs45
           refine L_nil (N_then (C_seq (C_reg rfl ?_)))
           refine L_run (R_field (r := 0) rfl fld112_0 rfl) rfl ?_
           refine L_run (R_load1 rfl scl3 (hb24.cell (i := 0) rfl)) rfl ?_
           refine L_run (R_field (r := 1) rfl fld65_1 rfl) rfl ?_
           refine L_run (R_load1 rfl scl3 (hb3.cell (i := 1) rfl)) rfl ?_
           refine L_run (R_eql rfl rfl) rfl ?_
           refine L_nil (N_then ?_)
           refine C_if rfl (fun h13 => ?_) (fun h13 => ?_)
           ·refine C_reg rfl ?_
            refine L_run (R_move rfl) rfl ?_
            refine L_run (R_loadA (vs := [.int .i64 pe7.1.1, .string pe7.1.2]) rfl agg112 (At.pre (hb24.at_ 0) rfl) rfl) rfl ?_
            refine L_deleteS (p := pe7) ByOk rfl rfl Try.underlying110 hi20 ?_
            intro w54 hi21 hs46 hz46
            replace hB := gb_trg hB hs46 ge1
            replace hS := hS.oth hi20.oth hs46
            replace hD := hD.old hs46 ge1
            replace hoP := own_oth hoP hi20.oth hs46
            replace hb22 := hb22.oth hi20.oth hs46
            replace hb3 := hb3.oth hi20.oth hs46
            replace hb24 := hb24.oth hi20.oth hs46
            refine L_nil (N_in (N_then ?_))
            have hlt_ : (ml7 ++ mr7).length < left.length := by rw [hleft14]; simp
            exact ⟨(ml7 ++ mr7).length, by omega, _, adel m2 pe7.1, (ml7 ++ mr7), Ac_frg ⟨rfl, rfl, rfl, rfl, rfl, rfl, rfl, rfl, rfl, trivial⟩, hB, hS, hD, hoP, hb22, hb3, hi21, (fun o key ho => (lkS_adel (fun e_ => ho ((congrArg Prod.fst e_).trans h13))).trans (hA o key ho)), (fun q_ hq_ hc_ => by
              obtain ⟨h1_, h2_⟩ := adel_sub q_ hq_
              have h_ := hL q_ h1_ hc_
              rw [hleft14] at h_
              rcases List.mem_append.1 h_ with h_ | h_
              · exact List.mem_append_left _ h_
              · rcases List.mem_cons.1 h_ with rfl | h_
                · exact absurd rfl h2_
                · exact List.mem_append_right _ h_), rfl⟩
           ·refine C_skip (N_in (N_then ?_))
            have hlt_ : (ml7 ++ mr7).length < left.length := by rw [hleft14]; simp
            exact ⟨(ml7 ++ mr7).length, by omega, _, m2, (ml7 ++ mr7), Ac_frg ⟨rfl, rfl, rfl, rfl, rfl, rfl, rfl, rfl, rfl, trivial⟩, hB, hS, hD, hoP, hb22, hb3, hi20.iter, hA, (fun q_ hq_ hc_ => by
              have h_ := hL q_ hq_ hc_
              rw [hleft14] at h_
              rcases List.mem_append.1 h_ with h_ | h_
              · exact List.mem_append_left _ h_
              · rcases List.mem_cons.1 h_ with rfl | h_
                · exact absurd hc_ h13
                · exact List.mem_append_right _ h_), rfl⟩
        ·refine L_run (R_field (r := 1) rfl fld65_1 rfl) rfl ?_
         refine L_run (R_eqv (R_load1 rfl scl3 (hb3.cell (i := 1) rfl)) (v' := .int .i64 2) (congrArg _ hch)) rfl ?_
         refine L_run (R_field (r := 0) rfl fld65_0 rfl) rfl ?_
         refine L_run (R_load1 rfl scl3 (hb3.cell (i := 0) rfl)) rfl ?_
         refine L_run (R_eql rfl rfl) rfl ?_
         refine L_run (R_indexArr (sz := 1) (i := 2) (r := 2) rfl rfl (by first | rfl | omega) arr101 (by omega) (by omega)) rfl ?_
         refine L_st1 rfl rfl rfl sz4 hbo rfl ?_
         intro w55 hb25 hs47 hz47
         replace hB := gb_trg hB hs47 ge2
         replace hS := hS.old hs47 ge2
         replace hD := hD.old hs47 ge2
         replace hoP := own_other hoP hbo rfl hs47
         replace hmp := hmp.blk hbo hs47
         replace hb3 := hb3.grown hs47 (ne_gt lt1)
         refine L_nil (N_then (C_seq (C_reg rfl ?_)))
         refine L_run (R_move rfl) rfl ?_
         refine L_rangeS rfl Try.underlying110 hmp rfl ?_
         intro g19 w56 eg18 hi22 hs48 hz48
         have ge18 : w.heap.size ≤ g19 := eg_ge hB eg18
         replace hB := gb_tr hB hs48
         replace hS := hS.gb hs48
         replace hD := hD.gb hs48
         replace hoP := own_gb hoP hs48
         replace hb25 := hb25.gb hs48
         replace hb3 := hb3.gb hs48
         refine L_nil (N_then (C_block ?_))
         refine C_loop (fun m_ a_ w_ => ∃ (σ_ : Nat → Value) (m2 : List (By × Nat)) (left : List (By × Nat)), a_ = Ac 106 σ_ [] [(0, .slice A l.length c), (3, .map (some g1)), (4, .pointer (some ⟨g2, 0, none⟩)), (5, .slice Aj ((clR l i).length) cj), (7, .pointer (some ⟨g4, 0, none⟩)), (14, .slice A l.length c), (15, .int .i64 (l.length : Int)), (16, .int .i64 (i : Int)), (41, .pointer (some ⟨g19, 0, none⟩))] ∧ w.grownBy w_ none ∧ Sli 0 0 w.heap.size w_ A (fl encRC l) ∧ DeepRC w.heap.size w_ l ∧ World.ownsRow w_ w.heap.size 3 1 (.slice Aj (clR l i).length cj) (clR l i).length (fl encZ (clR l i)) ∧ Blk w_ g2 101 [.bool false, .bool (openR l 1 i), .bool (decide ((l[i]).kind = 5)), .bool (openR l 3 i)] ∧ Blk w_ g4 65 [.int .i64 ((l[i]).kind), .int .i64 ((l[i]).chain), .int .i64 ((l[i]).lsn), .int .i64 ((l[i]).prev), .slice ((l[i]).da) ((l[i]).data.length) ((l[i]).dc)] ∧ IterS w_ g19 g1 encBy natI m2 left ∧ (∀ (o : Int) (key : ByteArray), o ≠ (l[i]).chain → lkS m2 (o, key) 0 = lkS m (o, key) 0) ∧ (∀ q ∈ m2, q.1.1 = (l[i]).chain → q ∈ left) ∧ left.length = m_) (m.length) ?_ ?_
         ·exact ⟨_, m, m, Ac_frg ⟨rfl, rfl, rfl, rfl, rfl, rfl, rfl, rfl, rfl, trivial⟩, hB, hS, hD, hoP, hb25, hb3, hi22, (fun _ _ _ => rfl), (fun q_ hq_ _ => hq_), rfl⟩
         ·clear hB
          clear hS hD hoP hb25 hb3 hi22
          rintro m_ a_ w57 ⟨σ_, m2, left, rfl, hB, hS, hD, hoP, hb25, hb3, hit, hA, hL, rfl⟩
          refine C_seq (C_reg rfl ?_)
          refine L_nextS rfl hit rfl ?_ ?_
          ·intro hleft15
           refine L_run (R_extract rfl rfl) rfl ?_
           refine L_nil (N_then (C_seq (C_condF rfl rfl (C_exit (X_then (X_then (X_hit (N_in (N_in (N_then (C_reg rfl ?_)))))))))))
           refine L_run (R_add64 rfl rfl (by omega)) rfl ?_
           refine L_run (R_move rfl) rfl ?_
           refine L_nil (N_then ?_)
           have eR := clR_s hli
           rw [if_neg (fun q_ => by omega)] at eR
           have hends : endsK (l[i]).kind := by unfold endsK; omega
           have e2 : openR l 2 (i + 1) = decide ((l[i]).kind = 5) := by rw [openR_s hli, if_pos ⟨hch, hends⟩]
           have e1 : openR l 1 (i + 1) = openR l 1 i := openR_ne hli (by omega)
           have e3 : openR l 3 (i + 1) = openR l 3 i := openR_ne hli (by omega)
           have hcm2 : CM l (i + 1) m2 := by rw [hleft15] at hL; exact CM_end hcm hli hends hA (fun _ => gone hL)
           exact ⟨l.length - (i + 1), by omega, _, (i + 1), Aj, cj, m2, Ac_frg ⟨rfl, rfl, rfl, (agr rfl (by rw [eR])), rfl, rfl, (agr rfl (by first | rfl | (congr 1; omega) | (congr 1 <;> omega))), trivial⟩, hB, hS, hD, (by rw [eR]; exact (own_lo hoP (Nat.le_refl _))), (by rw [e1, e2, e3]; exact hb25), hit.map, (by omega), hcm2, rfl⟩
          ·intro ml8 pe8 mr8 w58 hleft16 hi23 hs49 hz49
           replace hB := gb_trg hB hs49 ge18
           replace hS := hS.oth hit.oth hs49
           replace hD := hD.old hs49 ge18
           replace hoP := own_oth hoP hit.oth hs49
           replace hb25 := hb25.oth hit.oth hs49
           replace hb3 := hb3.oth hit.oth hs49
           refine L_run (R_extract rfl rfl) rfl ?_
           refine L_nil (N_then (C_seq (C_condT rfl rfl (C_skip (N_then (C_block (C_seq (C_reg rfl ?_))))))))
           refine L_run (R_entryS rfl hi23) rfl ?_
           refine L_run (R_extract rfl rfl) rfl ?_
           refine L_alloc (cs := [.int .i64 0, .string (⟨#[]⟩)]) zer112 rfl rfl ?_
           intro g20 w59 eg19 hb26 hs50 hz50
           have ge19 : w.heap.size ≤ g20 := eg_ge hB eg19
           have lt16 : g2 < g20 := lt_of_eg hb25.lt eg19
           have lt17 : g4 < g20 := lt_of_eg hb3.lt eg19
           replace hB := gb_tr hB hs50
           replace hS := hS.gb hs50
           replace hD := hD.gb hs50
           replace hoP := own_gb hoP hs50
           replace hb25 := hb25.gb hs50
           replace hb3 := hb3.gb hs50
           replace hi23 := hi23.gb hs50
           refine L_stA (vs := [.int .i64 pe8.1.1, .string pe8.1.2]) rfl rfl rfl sz112 rfl hb26 rfl ?_
           intro w60 hb27 hs51 hz51
           replace hB := gb_trg hB hs51 ge19
           replace hS := hS.old hs51 ge19
           replace hD := hD.old hs51 ge19
           replace hoP := own_other hoP hb26 rfl hs51
           replace hb25 := hb25.grown hs51 (ne_lt lt16)
           replace hb3 := hb3.grown hs51 (ne_lt lt17)
           replace hi23 := hi23.blk hb26 hs51
           refine L_nil (N_then (C_seq (C_reg rfl ?_)))
           refine L_run (R_field (r := 0) rfl fld112_0 rfl) rfl ?_
           refine L_run (R_load1 rfl scl3 (hb27.cell (i := 0) rfl)) rfl ?_
           refine L_run (R_field (r := 1) rfl fld65_1 rfl) rfl ?_
           refine L_run (R_load1 rfl scl3 (hb3.cell (i := 1) rfl)) rfl ?_
           refine L_run (R_eql rfl rfl) rfl ?_
           refine L_nil (N_then ?_)
           refine C_if rfl (fun h14 => ?_) (fun h14 => ?_)
           ·refine C_reg rfl ?_
            refine L_run (R_move rfl) rfl ?_
            refine L_run (R_loadA (vs := [.int .i64 pe8.1.1, .string pe8.1.2]) rfl agg112 (At.pre (hb27.at_ 0) rfl) rfl) rfl ?_
            refine L_deleteS (p := pe8) ByOk rfl rfl Try.underlying110 hi23 ?_
            intro w61 hi24 hs52 hz52
            replace hB := gb_trg hB hs52 ge1
            replace hS := hS.oth hi23.oth hs52
            replace hD := hD.old hs52 ge1
            replace hoP := own_oth hoP hi23.oth hs52
            replace hb25 := hb25.oth hi23.oth hs52
            replace hb3 := hb3.oth hi23.oth hs52
            replace hb27 := hb27.oth hi23.oth hs52
            refine L_nil (N_in (N_then ?_))
            have hlt_ : (ml8 ++ mr8).length < left.length := by rw [hleft16]; simp
            exact ⟨(ml8 ++ mr8).length, by omega, _, adel m2 pe8.1, (ml8 ++ mr8), Ac_frg ⟨rfl, rfl, rfl, rfl, rfl, rfl, rfl, rfl, rfl, trivial⟩, hB, hS, hD, hoP, hb25, hb3, hi24, (fun o key ho => (lkS_adel (fun e_ => ho ((congrArg Prod.fst e_).trans h14))).trans (hA o key ho)), (fun q_ hq_ hc_ => by
              obtain ⟨h1_, h2_⟩ := adel_sub q_ hq_
              have h_ := hL q_ h1_ hc_
              rw [hleft16] at h_
              rcases List.mem_append.1 h_ with h_ | h_
              · exact List.mem_append_left _ h_
              · rcases List.mem_cons.1 h_ with rfl | h_
                · exact absurd rfl h2_
                · exact List.mem_append_right _ h_), rfl⟩
           ·refine C_skip (N_in (N_then ?_))
            have hlt_ : (ml8 ++ mr8).length < left.length := by rw [hleft16]; simp
            exact ⟨(ml8 ++ mr8).length, by omega, _, m2, (ml8 ++ mr8), Ac_frg ⟨rfl, rfl, rfl, rfl, rfl, rfl, rfl, rfl, rfl, trivial⟩, hB, hS, hD, hoP, hb25, hb3, hi23.iter, hA, (fun q_ hq_ hc_ => by
              have h_ := hL q_ hq_ hc_
              rw [hleft16] at h_
              rcases List.mem_append.1 h_ with h_ | h_
              · exact List.mem_append_left _ h_
              · rcases List.mem_cons.1 h_ with rfl | h_
                · exact absurd hc_ h14
                · exact List.mem_append_right _ h_), rfl⟩
        ·refine L_run (R_field (r := 1) rfl fld65_1 rfl) rfl ?_
         refine L_run (R_eqv (R_load1 rfl scl3 (hb3.cell (i := 1) rfl)) (v' := .int .i64 3) (congrArg _ hch)) rfl ?_
         refine L_run (R_field (r := 0) rfl fld65_0 rfl) rfl ?_
         refine L_run (R_load1 rfl scl3 (hb3.cell (i := 0) rfl)) rfl ?_
         refine L_run (R_eql rfl rfl) rfl ?_
         refine L_run (R_indexArr (sz := 1) (i := 3) (r := 3) rfl rfl (by first | rfl | omega) arr101 (by omega) (by omega)) rfl ?_
         refine L_st1 rfl rfl rfl sz4 hbo rfl ?_
         intro w62 hb28 hs53 hz53
         replace hB := gb_trg hB hs53 ge2
         replace hS := hS.old hs53 ge2
         replace hD := hD.old hs53 ge2
         replace hoP := own_other hoP hbo rfl hs53
         replace hmp := hmp.blk hbo hs53
         replace hb3 := hb3.grown hs53 (ne_gt lt1)
         refine L_nil (N_then (C_seq (C_reg rfl ?_)))
         refine L_run (R_move rfl) rfl ?_
         refine L_rangeS rfl Try.underlying110 hmp rfl ?_
         intro g21 w63 eg20 hi25 hs54 hz54
         have ge20 : w.heap.size ≤ g21 := eg_ge hB eg20
         replace hB := gb_tr hB hs54
         replace hS := hS.gb hs54
         replace hD := hD.gb hs54
         replace hoP := own_gb hoP hs54
         replace hb28 := hb28.gb hs54
         replace hb3 := hb3.gb hs54
         refine L_nil (N_then (C_block ?_))
         refine C_loop (fun m_ a_ w_ => ∃ (σ_ : Nat → Value) (m2 : List (By × Nat)) (left : List (By × Nat)), a_ = Ac 106 σ_ [] [(0, .slice A l.length c), (3, .map (some g1)), (4, .pointer (some ⟨g2, 0, none⟩)), (5, .slice Aj ((clR l i).length) cj), (7, .pointer (some ⟨g4, 0, none⟩)), (14, .slice A l.length c), (15, .int .i64 (l.length : Int)), (16, .int .i64 (i : Int)), (41, .pointer (some ⟨g21, 0, none⟩))] ∧ w.grownBy w_ none ∧ Sli 0 0 w.heap.size w_ A (fl encRC l) ∧ DeepRC w.heap.size w_ l ∧ World.ownsRow w_ w.heap.size 3 1 (.slice Aj (clR l i).length cj) (clR l i).length (fl encZ (clR l i)) ∧ Blk w_ g2 101 [.bool false, .bool (openR l 1 i), .bool (openR l 2 i), .bool (decide ((l[i]).kind = 5))] ∧ Blk w_ g4 65 [.int .i64 ((l[i]).kind), .int .i64 ((l[i]).chain), .int .i64 ((l[i]).lsn), .int .i64 ((l[i]).prev), .slice ((l[i]).da) ((l[i]).data.length) ((l[i]).dc)] ∧ IterS w_ g21 g1 encBy natI m2 left ∧ (∀ (o : Int) (key : ByteArray), o ≠ (l[i]).chain → lkS m2 (o, key) 0 = lkS m (o, key) 0) ∧ (∀ q ∈ m2, q.1.1 = (l[i]).chain → q ∈ left) ∧ left.length = m_) (m.length) ?_ ?_
         ·exact ⟨_, m, m, Ac_frg ⟨rfl, rfl, rfl, rfl, rfl, rfl, rfl, rfl, rfl, trivial⟩, hB, hS, hD, hoP, hb28, hb3, hi25, (fun _ _ _ => rfl), (fun q_ hq_ _ => hq_), rfl⟩
         ·clear hB
          clear hS hD hoP hb28 hb3 hi25
          rintro m_ a_ w64 ⟨σ_, m2, left, rfl, hB, hS, hD, hoP, hb28, hb3, hit, hA, hL, rfl⟩
          refine C_seq (C_reg rfl ?_)
          refine L_nextS rfl hit rfl ?_ ?_
          ·intro hleft17
           refine L_run (R_extract rfl rfl) rfl ?_
           refine L_nil (N_then (C_seq (C_condF rfl rfl (C_exit (X_then (X_then (X_hit (N_in (N_in (N_then (C_reg rfl ?_)))))))))))
           refine L_run (R_add64 rfl rfl (by omega)) rfl ?_
           refine L_run (R_move rfl) rfl ?_
           refine L_nil (N_then ?_)
           have eR := clR_s hli
           rw [if_neg (fun q_ => by omega)] at eR
           have hends : endsK (l[i]).kind := by unfold endsK; omega
           have e3 : openR l 3 (i + 1) = decide ((l[i]).kind = 5) := by rw [openR_s hli, if_pos ⟨hch, hends⟩]
           have e1 : openR l 1 (i + 1) = openR l 1 i := openR_ne hli (by omega)
           have e2 : openR l 2 (i + 1) = openR l 2 i := openR_ne hli (by omega)
           have hcm2 : CM l (i + 1) m2 := by rw [hleft17] at hL; exact CM_end hcm hli hends hA (fun _ => gone hL)
           exact ⟨l.length - (i + 1), by omega, _, (i + 1), Aj, cj, m2, Ac_frg ⟨rfl, rfl, rfl, (agr rfl (by rw [eR])), rfl, rfl, (agr rfl (by first | rfl | (congr 1; omega) | (congr 1 <;> omega))), trivial⟩, hB, hS, hD, (by rw [eR]; exact (own_lo hoP (Nat.le_refl _))), (by rw [e1, e2, e3]; exact hb28), hit.map, (by omega), hcm2, rfl⟩
          ·intro ml9 pe9 mr9 w65 hleft18 hi26 hs55 hz55
           replace hB := gb_trg hB hs55 ge20
           replace hS := hS.oth hit.oth hs55
           replace hD := hD.old hs55 ge20
           replace hoP := own_oth hoP hit.oth hs55
           replace hb28 := hb28.oth hit.oth hs55
           replace hb3 := hb3.oth hit.oth hs55
           refine L_run (R_extract rfl rfl) rfl ?_
           refine L_nil (N_then (C_seq (C_condT rfl rfl (C_skip (N_then (C_block (C_seq (C_reg rfl ?_))))))))
           refine L_run (R_entryS rfl hi26) rfl ?_
           refine L_run (R_extract rfl rfl) rfl ?_
           refine L_alloc (cs := [.int .i64 0, .string (⟨#[]⟩)]) zer112 rfl rfl ?_
           intro g22 w66 eg21 hb29 hs56 hz56
           have ge21 : w.heap.size ≤ g22 := eg_ge hB eg21
           have lt18 : g2 < g22 := lt_of_eg hb28.lt eg21
           have lt19 : g4 < g22 := lt_of_eg hb3.lt eg21
           replace hB := gb_tr hB hs56
           replace hS := hS.gb hs56
           replace hD := hD.gb hs56
           replace hoP := own_gb hoP hs56
           replace hb28 := hb28.gb hs56
           replace hb3 := hb3.gb hs56
           replace hi26 := hi26.gb hs56
           refine L_stA (vs := [.int .i64 pe9.1.1, .string pe9.1.2]) rfl rfl rfl sz112 rfl hb29 rfl ?_
           intro w67 hb30 hs57 hz57
           replace hB := gb_trg hB hs57 ge21
           replace hS := hS.old hs57 ge21
           replace hD := hD.old hs57 ge21
           replace hoP := own_other hoP hb29 rfl hs57
           replace hb28 := hb28.grown hs57 (ne_lt lt18)
           replace hb3 := hb3.grown hs57 (ne_lt lt19)
           replace hi26 := hi26.blk hb29 hs57
           refine L_nil (N_then (C_seq (C_reg rfl ?_)))
           refine L_run (R_field (r := 0) rfl fld112_0 rfl) rfl ?_
           refine L_run (R_load1 rfl scl3 (hb30.cell (i := 0) rfl)) rfl ?_
           refine L_run (R_field (r := 1) rfl fld65_1 rfl) rfl ?_
           refine L_run (R_load1 rfl scl3 (hb3.cell (i := 1) rfl)) rfl ?_
           refine L_run (R_eql rfl rfl) rfl ?_
           refine L_nil (N_then ?_)
           refine C_if rfl (fun h15 => ?_) (fun h15 => ?_)
           ·refine C_reg rfl ?_
            refine L_run (R_move rfl) rfl ?_
            refine L_run (R_loadA (vs := [.int .i64 pe9.1.1, .string pe9.1.2]) rfl agg112 (At.pre (hb30.at_ 0) rfl) rfl) rfl ?_
            refine L_deleteS (p := pe9) ByOk rfl rfl Try.underlying110 hi26 ?_
            intro w68 hi27 hs58 hz58
            replace hB := gb_trg hB hs58 ge1
            replace hS := hS.oth hi26.oth hs58
            replace hD := hD.old hs58 ge1
            replace hoP := own_oth hoP hi26.oth hs58
            replace hb28 := hb28.oth hi26.oth hs58
            replace hb3 := hb3.oth hi26.oth hs58
            replace hb30 := hb30.oth hi26.oth hs58
            refine L_nil (N_in (N_then ?_))
            have hlt_ : (ml9 ++ mr9).length < left.length := by rw [hleft18]; simp
            exact ⟨(ml9 ++ mr9).length, by omega, _, adel m2 pe9.1, (ml9 ++ mr9), Ac_frg ⟨rfl, rfl, rfl, rfl, rfl, rfl, rfl, rfl, rfl, trivial⟩, hB, hS, hD, hoP, hb28, hb3, hi27, (fun o key ho => (lkS_adel (fun e_ => ho ((congrArg Prod.fst e_).trans h15))).trans (hA o key ho)), (fun q_ hq_ hc_ => by
              obtain ⟨h1_, h2_⟩ := adel_sub q_ hq_
              have h_ := hL q_ h1_ hc_
              rw [hleft18] at h_
              rcases List.mem_append.1 h_ with h_ | h_
              · exact List.mem_append_left _ h_
              · rcases List.mem_cons.1 h_ with rfl | h_
                · exact absurd rfl h2_
                · exact List.mem_append_right _ h_), rfl⟩
           ·refine C_skip (N_in (N_then ?_))
            have hlt_ : (ml9 ++ mr9).length < left.length := by rw [hleft18]; simp
            exact ⟨(ml9 ++ mr9).length, by omega, _, m2, (ml9 ++ mr9), Ac_frg ⟨rfl, rfl, rfl, rfl, rfl, rfl, rfl, rfl, rfl, trivial⟩, hB, hS, hD, hoP, hb28, hb3, hi26.iter, hA, (fun q_ hq_ hc_ => by
              have h_ := hL q_ hq_ hc_
              rw [hleft18] at h_
              rcases List.mem_append.1 h_ with h_ | h_
              · exact List.mem_append_left _ h_
              · rcases List.mem_cons.1 h_ with rfl | h_
                · exact absurd hc_ h15
                · exact List.mem_append_right _ h_), rfl⟩
       ·refine C_seq (C_reg rfl ?_)
        refine L_run (R_eql rfl rfl) rfl ?_
        refine L_run (R_assign rfl) rfl ?_
        refine L_nil (N_then ?_)
        refine C_if rfl (fun h16 => ?_) (fun h16 => ?_)
        ·refine C_seq (C_reg rfl ?_)
         refine L_run (R_field (r := 4) rfl fld65_4 rfl) rfl ?_
         refine L_run (R_load1 rfl scl63 (hb3.cell (i := 4) rfl)) rfl ?_
         refine L_call rfl cb44 (txdec_ok (bs := (l[i]).data) (hD.getD (i := i) (by first | assumption | omega | (simp; omega))) (by omega) hcap) rfl ?_
         rintro _ w69 ⟨hs59, rfl⟩
         replace hB := gb_tr hB hs59
         replace hS := hS.gb hs59
         replace hD := hD.gb hs59
         replace hoP := own_gb hoP hs59
         replace hbo := hbo.gb hs59
         replace hmp := hmp.gb hs59
         replace hb3 := hb3.gb hs59
         refine L_run (R_move rfl) rfl ?_
         refine L_run (R_extract rfl rfl) rfl ?_
         refine L_run (R_extract rfl rfl) rfl ?_
         refine L_alloc (cs := [.string (⟨#[]⟩), .bool false, .bool false, .string (⟨#[]⟩), .string (⟨#[]⟩), .int .i64 0]) zer34 rfl rfl ?_
         intro g23 w70 eg22 hb31 hs60 hz59
         have ge22 : w.heap.size ≤ g23 := eg_ge hB eg22
         have lt20 : g2 < g23 := lt_of_eg hbo.lt eg22
         have lt21 : g4 < g23 := lt_of_eg hb3.lt eg22
         replace hB := gb_tr hB hs60
         replace hS := hS.gb hs60
         replace hD := hD.gb hs60
         replace hoP := own_gb hoP hs60
         replace hbo := hbo.gb hs60
         replace hmp := hmp.gb hs60
         replace hb3 := hb3.gb hs60
         refine L_stA (vs := [.string (((dec ((l[i]).data)).1).key), .bool (((dec ((l[i]).data)).1).was), .bool (((dec ((l[i]).data)).1).is), .string (((dec ((l[i]).data)).1).old), .string (((dec ((l[i]).data)).1).new), .int .i64 (((dec ((l[i]).data)).1).next)]) rfl rfl rfl sz34 rfl hb31 rfl ?_
         intro w71 hb32 hs61 hz60
         replace hB := gb_trg hB hs61 ge22
         replace hS := hS.old hs61 ge22
         replace hD := hD.old hs61 ge22
         replace hoP := own_other hoP hb31 rfl hs61
         replace hbo := hbo.grown hs61 (ne_lt lt20)
         replace hmp := hmp.blk hb31 hs61
         replace hb3 := hb3.grown hs61 (ne_lt lt21)
         refine L_run (R_assign rfl) rfl ?_
         refine L_nil (N_then (C_seq (C_seq (C_reg rfl ?_))))
         refine L_run (R_move rfl) rfl ?_
         refine L_run (R_neq rfl rfl) rfl ?_
         refine L_nil (N_then ?_)
         refine C_if rfl (fun h17 => ?_) (fun h17 => ?_)
         ·refine C_exit (X_then (X_miss rfl (X_hit (N_then (C_reg rfl ?_)))))
          refine L_run (R_add64 rfl rfl (by omega)) rfl ?_
          refine L_run (R_move rfl) rfl ?_
          refine L_nil (N_then ?_)
          have eR := clR_s hli
          rw [if_neg (fun q_ => by omega)] at eR
          have e1 := openR_nn (c := 1) hli (by omega)
          have e2 := openR_nn (c := 2) hli (by omega)
          have e3 := openR_nn (c := 3) hli (by omega)
          exact ⟨l.length - (i + 1), by omega, _, (i + 1), Aj, cj, m, Ac_frg ⟨rfl, rfl, rfl, (agr rfl (by rw [eR])), rfl, rfl, (agr rfl (by first | rfl | (congr 1; omega) | (congr 1 <;> omega))), trivial⟩, hB, hS, hD, (by rw [eR]; exact (own_lo hoP (Nat.le_refl _))), (by rw [e1, e2, e3]; exact hbo), hmp, (by omega), (CM_nn hcm hli (by omega)), rfl⟩
         ·refine C_skip (N_then (C_seq (C_reg rfl ?_)))
          refine L_run (R_assign rfl) rfl ?_
          refine L_nil (N_then (C_seq (C_seq (C_reg rfl ?_))))
          refine L_run (R_move rfl) rfl ?_
          refine L_nil (N_then (C_block ?_))
          refine C_loop (fun m_ a_ w_ => ∃ (σ_ : Nat → Value) (q_ : Nat) (cb : Bool), a_ = Ac 106 σ_ [] [(0, .slice A l.length c), (3, .map (some g1)), (4, .pointer (some ⟨g2, 0, none⟩)), (5, .slice Aj ((clR l i).length) cj), (7, .pointer (some ⟨g4, 0, none⟩)), (9, .pointer (some ⟨g23, 0, none⟩)), (11, .bool cb), (14, .slice A l.length c), (15, .int .i64 (l.length : Int)), (16, .int .i64 (i : Int)), (63, .int .i64 (q_ : Int))] ∧ w.grownBy w_ none ∧ Sli 0 0 w.heap.size w_ A (fl encRC l) ∧ DeepRC w.heap.size w_ l ∧ World.ownsRow w_ w.heap.size 3 1 (.slice Aj (clR l i).length cj) (clR l i).length (fl encZ (clR l i)) ∧ Blk w_ g2 101 [.bool false, .bool (openR l 1 i), .bool (openR l 2 i), .bool (openR l 3 i)] ∧ MapS w_ g1 encBy natI m ∧ Blk w_ g4 65 [.int .i64 ((l[i]).kind), .int .i64 ((l[i]).chain), .int .i64 ((l[i]).lsn), .int .i64 ((l[i]).prev), .slice ((l[i]).da) ((l[i]).data.length) ((l[i]).dc)] ∧ Blk w_ g23 34 [.string (((dec ((l[i]).data)).1).key), .bool (((dec ((l[i]).data)).1).was), .bool (((dec ((l[i]).data)).1).is), .string (((dec ((l[i]).data)).1).old), .string (((dec ((l[i]).data)).1).new), .int .i64 (((dec ((l[i]).data)).1).next)] ∧ (cb = clP l i (l[i]).chain ((dec (l[i]).data).1.key) q_) ∧ (q_ ≤ 4) ∧ 4 - q_ = m_) (4 - 0) ?_ ?_
          ·exact ⟨_, 0, false, Ac_frg ⟨rfl, rfl, rfl, rfl, rfl, rfl, rfl, rfl, rfl, rfl, rfl, trivial⟩, hB, hS, hD, hoP, hbo, hmp, hb3, hb32, clP_0.symm, (by decide), rfl⟩
          ·clear hB
           clear hS hD hoP hbo hmp hb3 hb32
           rintro m_ a_ w72 ⟨σ_, q_, cb, rfl, hB, hS, hD, hoP, hbo, hmp, hb3, hb32, hcb, hq4, rfl⟩
           rcases i04 hq4 with rfl | rfl | rfl | rfl | rfl
           ·refine C_seq (C_reg rfl ?_)
            refine L_run (R_eqv (R_lss rfl rfl) (v' := .bool true) rfl) rfl ?_
            refine L_nil (N_then (C_seq (C_condT rfl rfl (C_skip (N_then (C_seq (C_block (C_seq (C_reg rfl ?_)))))))))
            refine L_run (R_move rfl) rfl ?_
            refine L_run (R_assign rfl) rfl ?_
            refine L_nil (N_then (C_reg rfl ?_))
            refine L_run (R_move rfl) rfl ?_
            refine L_run (R_move rfl) rfl ?_
            refine L_split cb (fun h18 => ?_) (fun h18 => ?_)
            ·refine L_no rfl rfl rfl h18 rfl ?_
             refine L_no rfl rfl rfl h18 rfl ?_
             refine L_no rfl rfl rfl h18 rfl ?_
             refine L_no rfl rfl rfl h18 rfl ?_
             refine L_no rfl rfl rfl h18 rfl ?_
             refine L_noU rfl rfl rfl rfl ?_
             refine L_noU rfl rfl rfl rfl ?_
             refine L_noU rfl rfl rfl rfl ?_
             refine L_no rfl rfl rfl h18 rfl ?_
             refine L_no rfl rfl rfl h18 rfl ?_
             refine L_noU rfl rfl rfl rfl ?_
             refine L_noU rfl rfl rfl rfl ?_
             refine L_noU rfl rfl rfl rfl ?_
             refine L_noU rfl rfl rfl rfl ?_
             refine L_noU rfl rfl rfl rfl ?_
             refine L_noU rfl rfl rfl rfl ?_
             refine L_noU rfl rfl rfl rfl ?_
             refine L_no rfl rfl rfl h18 rfl ?_
             refine L_run (R_pickT rfl h18 rfl) rfl ?_
             refine L_run (R_assign rfl) rfl ?_
             refine L_nil (N_in (N_then (C_reg rfl ?_)))
             refine L_run (R_add64 rfl rfl (by omega)) rfl ?_
             refine L_run (R_move rfl) rfl ?_
             refine L_nil (N_then ?_)
             have hnew : true = clP l i (l[i]).chain ((dec (l[i]).data).1.key) 1 := by
               rw [clP_0] at hcb; first | exact clP_1.symm | (exfalso; simp_all)
             exact ⟨4 - 1, by omega, _, 1, true, Ac_frg ⟨rfl, rfl, rfl, rfl, rfl, rfl, rfl, rfl, rfl, rfl, (agr rfl (by first | rfl | (congr 1; omega) | (congr 1 <;> omega))), trivial⟩, hB, hS, hD, hoP, hbo, hmp, hb3, hb32, hnew, (by decide), rfl⟩
            ·refine L_yes rfl rfl rfl h18 ?_
             refine L_run (R_move rfl) rfl ?_
             refine L_yes rfl rfl rfl h18 ?_
             refine L_run (R_field (r := 1) rfl fld65_1 rfl) rfl ?_
             refine L_yes rfl rfl rfl h18 ?_
             refine L_run (R_load1 rfl scl3 (hb3.cell (i := 1) rfl)) rfl ?_
             refine L_yes rfl rfl rfl h18 ?_
             refine L_run (R_neq rfl rfl) rfl ?_
             refine L_yes rfl rfl rfl h18 ?_
             refine L_run (R_move rfl) rfl ?_
             refine L_splitD (p := 0 ≠ (l[i]).chain) (fun h19 => ?_) (fun h19 => ?_)
             ·refine L_yes rfl rfl rfl (decide_eq_true h19) ?_
              refine L_run (R_move rfl) rfl ?_
              refine L_yes rfl rfl rfl (decide_eq_true h19) ?_
              refine L_run (R_indexArr (sz := 1) (i := 0) (r := 0) rfl rfl (by first | rfl | omega) arr101 (by omega) (by omega)) rfl ?_
              refine L_yes rfl rfl rfl (decide_eq_true h19) ?_
              refine L_run (R_load1 rfl scl4 (hbo.cell (i := 0) rfl)) rfl ?_
              refine L_yes rfl rfl rfl h18 ?_
              refine L_run (R_pickT rfl (decide_eq_true h19) rfl) rfl ?_
              refine L_yes rfl rfl rfl h18 ?_
              refine L_run (R_move rfl) rfl ?_
              refine L_no rfl rfl rfl rfl rfl ?_
              refine L_no rfl rfl rfl rfl rfl ?_
              refine L_no rfl rfl rfl rfl rfl ?_
              refine L_no rfl rfl rfl rfl rfl ?_
              refine L_no rfl rfl rfl rfl rfl ?_
              refine L_no rfl rfl rfl rfl rfl ?_
              refine L_no rfl rfl rfl rfl rfl ?_
              refine L_yes rfl rfl rfl h18 ?_
              refine L_run (R_pickF rfl rfl rfl) rfl ?_
              refine L_run (R_pickF rfl h18 rfl) rfl ?_
              refine L_run (R_assign rfl) rfl ?_
              refine L_nil (N_in (N_then (C_reg rfl ?_)))
              refine L_run (R_add64 rfl rfl (by omega)) rfl ?_
              refine L_run (R_move rfl) rfl ?_
              refine L_nil (N_then ?_)
              have hnew : false = clP l i (l[i]).chain ((dec (l[i]).data).1.key) 1 := by
                rw [clP_0] at hcb; first | exact clP_1.symm | (exfalso; simp_all)
              exact ⟨4 - 1, by omega, _, 1, false, Ac_frg ⟨rfl, rfl, rfl, rfl, rfl, rfl, rfl, rfl, rfl, rfl, (agr rfl (by first | rfl | (congr 1; omega) | (congr 1 <;> omega))), trivial⟩, hB, hS, hD, hoP, hbo, hmp, hb3, hb32, hnew, (by decide), rfl⟩
             ·refine L_no rfl rfl rfl (decide_eq_false h19) rfl ?_
              refine L_no rfl rfl rfl (decide_eq_false h19) rfl ?_
              refine L_no rfl rfl rfl (decide_eq_false h19) rfl ?_
              refine L_yes rfl rfl rfl h18 ?_
              refine L_run (R_pickF rfl (decide_eq_false h19) rfl) rfl ?_
              refine L_yes rfl rfl rfl h18 ?_
              refine L_run (R_move rfl) rfl ?_
              refine L_no rfl rfl rfl rfl rfl ?_
              refine L_no rfl rfl rfl rfl rfl ?_
              refine L_no rfl rfl rfl rfl rfl ?_
              refine L_no rfl rfl rfl rfl rfl ?_
              refine L_no rfl rfl rfl rfl rfl ?_
              refine L_no rfl rfl rfl rfl rfl ?_
              refine L_no rfl rfl rfl rfl rfl ?_
              refine L_yes rfl rfl rfl h18 ?_
              refine L_run (R_pickF rfl rfl rfl) rfl ?_
              refine L_run (R_pickF rfl h18 rfl) rfl ?_
              refine L_run (R_assign rfl) rfl ?_
              refine L_nil (N_in (N_then (C_reg rfl ?_)))
              refine L_run (R_add64 rfl rfl (by omega)) rfl ?_
              refine L_run (R_move rfl) rfl ?_
              refine L_nil (N_then ?_)
              have hnew : false = clP l i (l[i]).chain ((dec (l[i]).data).1.key) 1 := by
                rw [clP_0] at hcb; first | exact clP_1.symm | (exfalso; simp_all)
              exact ⟨4 - 1, by omega, _, 1, false, Ac_frg ⟨rfl, rfl, rfl, rfl, rfl, rfl, rfl, rfl, rfl, rfl, (agr rfl (by first | rfl | (congr 1; omega) | (congr 1 <;> omega))), trivial⟩, hB, hS, hD, hoP, hbo, hmp, hb3, hb32, hnew, (by decide), rfl⟩
           ·refine C_seq (C_reg rfl ?_)
            refine L_run (R_eqv (R_lss rfl rfl) (v' := .bool true) rfl) rfl ?_
            refine L_nil (N_then (C_seq (C_condT rfl rfl (C_skip (N_then (C_seq (C_block (C_seq (C_reg rfl ?_)))))))))
            refine L_run (R_move rfl) rfl ?_
            refine L_run (R_assign rfl) rfl ?_
            refine L_nil (N_then (C_reg rfl ?_))
            refine L_run (R_move rfl) rfl ?_
            refine L_run (R_move rfl) rfl ?_
            refine L_split cb (fun h20 => ?_) (fun h20 => ?_)
            ·refine L_no rfl rfl rfl h20 rfl ?_
             refine L_no rfl rfl rfl h20 rfl ?_
             refine L_no rfl rfl rfl h20 rfl ?_
             refine L_no rfl rfl rfl h20 rfl ?_
             refine L_no rfl rfl rfl h20 rfl ?_
             refine L_noU rfl rfl rfl rfl ?_
             refine L_noU rfl rfl rfl rfl ?_
             refine L_noU rfl rfl rfl rfl ?_
             refine L_no rfl rfl rfl h20 rfl ?_
             refine L_no rfl rfl rfl h20 rfl ?_
             refine L_noU rfl rfl rfl rfl ?_
             refine L_noU rfl rfl rfl rfl ?_
             refine L_noU rfl rfl rfl rfl ?_
             refine L_noU rfl rfl rfl rfl ?_
             refine L_noU rfl rfl rfl rfl ?_
             refine L_noU rfl rfl rfl rfl ?_
             refine L_noU rfl rfl rfl rfl ?_
             refine L_no rfl rfl rfl h20 rfl ?_
             refine L_run (R_pickT rfl h20 rfl) rfl ?_
             refine L_run (R_assign rfl) rfl ?_
             refine L_nil (N_in (N_then (C_reg rfl ?_)))
             refine L_run (R_add64 rfl rfl (by omega)) rfl ?_
             refine L_run (R_move rfl) rfl ?_
             refine L_nil (N_then ?_)
             have hnew : true = clP l i (l[i]).chain ((dec (l[i]).data).1.key) 2 := by
               rw [clP_s1, ← hcb]
               have hm_ := hcm 1 ((dec (l[i]).data).1.key) (by decide) (by decide)
               rw [h20]; rfl
             exact ⟨4 - 2, by omega, _, 2, true, Ac_frg ⟨rfl, rfl, rfl, rfl, rfl, rfl, rfl, rfl, rfl, rfl, (agr rfl (by first | rfl | (congr 1; omega) | (congr 1 <;> omega))), trivial⟩, hB, hS, hD, hoP, hbo, hmp, hb3, hb32, hnew, (by decide), rfl⟩
            ·refine L_yes rfl rfl rfl h20 ?_
             refine L_run (R_move rfl) rfl ?_
             refine L_yes rfl rfl rfl h20 ?_
             refine L_run (R_field (r := 1) rfl fld65_1 rfl) rfl ?_
             refine L_yes rfl rfl rfl h20 ?_
             refine L_run (R_load1 rfl scl3 (hb3.cell (i := 1) rfl)) rfl ?_
             refine L_yes rfl rfl rfl h20 ?_
             refine L_run (R_neq rfl rfl) rfl ?_
             refine L_yes rfl rfl rfl h20 ?_
             refine L_run (R_move rfl) rfl ?_
             refine L_splitD (p := 1 ≠ (l[i]).chain) (fun h21 => ?_) (fun h21 => ?_)
             ·refine L_yes rfl rfl rfl (decide_eq_true h21) ?_
              refine L_run (R_move rfl) rfl ?_
              refine L_yes rfl rfl rfl (decide_eq_true h21) ?_
              refine L_run (R_indexArr (sz := 1) (i := 1) (r := 1) rfl rfl (by first | rfl | omega) arr101 (by omega) (by omega)) rfl ?_
              refine L_yes rfl rfl rfl (decide_eq_true h21) ?_
              refine L_run (R_load1 rfl scl4 (hbo.cell (i := 1) rfl)) rfl ?_
              refine L_yes rfl rfl rfl h20 ?_
              refine L_run (R_pickT rfl (decide_eq_true h21) rfl) rfl ?_
              refine L_yes rfl rfl rfl h20 ?_
              refine L_run (R_move rfl) rfl ?_
              refine L_split (openR l 1 i) (fun h22 => ?_) (fun h22 => ?_)
              ·refine L_yes rfl rfl rfl h22 ?_
               refine L_run (R_move rfl) rfl ?_
               refine L_yes rfl rfl rfl h22 ?_
               refine L_run (R_move rfl) rfl ?_
               refine L_yes rfl rfl rfl h22 ?_
               refine L_run (R_field (r := 0) rfl fld34_0 rfl) rfl ?_
               refine L_yes rfl rfl rfl h22 ?_
               refine L_run (R_load1 rfl scl9 (hb32.cell (i := 0) rfl)) rfl ?_
               refine L_yes rfl rfl rfl h22 ?_
               refine L_run (R_build (pv := [(0, .int .i64 1), (1, .string (((dec ((l[i]).data)).1).key))]) (cs := [.int .i64 1, .string (((dec ((l[i]).data)).1).key)]) rfl (by kernel_rfl)) rfl ?_
               refine L_yes rfl rfl rfl h22 ?_
               refine L_run (R_lookS (eK := encBy) (eV := natI) (k := (1, ((dec ((l[i]).data)).1).key)) (z := 0) ByOk rfl rfl Try.underlying110 hzrI hmp) rfl ?_
               refine L_yes rfl rfl rfl h22 ?_
               refine L_run (R_gtr rfl rfl) rfl ?_
               refine L_yes rfl rfl rfl h20 ?_
               refine L_run (R_pickT rfl h22 rfl) rfl ?_
               refine L_run (R_pickF rfl h20 rfl) rfl ?_
               refine L_run (R_assign rfl) rfl ?_
               refine L_nil (N_in (N_then (C_reg rfl ?_)))
               refine L_run (R_add64 rfl rfl (by omega)) rfl ?_
               refine L_run (R_move rfl) rfl ?_
               refine L_nil (N_then ?_)
               have hnew : (decide (0 < ((lkS m (1, ((dec ((l[i]).data)).1).key) 0 : Nat) : Int))) = clP l i (l[i]).chain ((dec (l[i]).data).1.key) 2 := by
                 rw [clP_s1, ← hcb]
                 have hm_ := hcm 1 ((dec (l[i]).data).1.key) (by decide) (by decide)
                 rw [h20, Bool.false_or]
                 have hp_ : pO l i (l[i]).chain ((dec (l[i]).data).1.key) 1 ↔ ((1 : Int) ≠ (l[i]).chain ∧ openR l 1 i = true ∧ 0 < lkS m (1, (dec (l[i]).data).1.key) 0) := by unfold pO; rw [← hm_]
                 rw [show decide (pO l i (l[i]).chain ((dec (l[i]).data).1.key) 1) = decide ((1 : Int) ≠ (l[i]).chain ∧ openR l 1 i = true ∧ 0 < lkS m (1, (dec (l[i]).data).1.key) 0) from decide_eq_decide.2 hp_]; grind
               exact ⟨4 - 2, by omega, _, 2, (decide (0 < ((lkS m (1, ((dec ((l[i]).data)).1).key) 0 : Nat) : Int))), Ac_frg ⟨rfl, rfl, rfl, rfl, rfl, rfl, rfl, rfl, rfl, rfl, (agr rfl (by first | rfl | (congr 1; omega) | (congr 1 <;> omega))), trivial⟩, hB, hS, hD, hoP, hbo, hmp, hb3, hb32, hnew, (by decide), rfl⟩
              ·refine L_no rfl rfl rfl h22 rfl ?_
               refine L_no rfl rfl rfl h22 rfl ?_
               refine L_no rfl rfl rfl h22 rfl ?_
               refine L_no rfl rfl rfl h22 rfl ?_
               refine L_no rfl rfl rfl h22 rfl ?_
               refine L_no rfl rfl rfl h22 rfl ?_
               refine L_no rfl rfl rfl h22 rfl ?_
               refine L_yes rfl rfl rfl h20 ?_
               refine L_run (R_pickF rfl h22 rfl) rfl ?_
               refine L_run (R_pickF rfl h20 rfl) rfl ?_
               refine L_run (R_assign rfl) rfl ?_
               refine L_nil (N_in (N_then (C_reg rfl ?_)))
               refine L_run (R_add64 rfl rfl (by omega)) rfl ?_
               refine L_run (R_move rfl) rfl ?_
               refine L_nil (N_then ?_)
               have hnew : false = clP l i (l[i]).chain ((dec (l[i]).data).1.key) 2 := by
                 rw [clP_s1, ← hcb]
                 have hm_ := hcm 1 ((dec (l[i]).data).1.key) (by decide) (by decide)
                 rw [h20, Bool.false_or]
                 have hp_ : pO l i (l[i]).chain ((dec (l[i]).data).1.key) 1 ↔ ((1 : Int) ≠ (l[i]).chain ∧ openR l 1 i = true ∧ 0 < lkS m (1, (dec (l[i]).data).1.key) 0) := by unfold pO; rw [← hm_]
                 rw [show decide (pO l i (l[i]).chain ((dec (l[i]).data).1.key) 1) = decide ((1 : Int) ≠ (l[i]).chain ∧ openR l 1 i = true ∧ 0 < lkS m (1, (dec (l[i]).data).1.key) 0) from decide_eq_decide.2 hp_]; grind
               exact ⟨4 - 2, by omega, _, 2, false, Ac_frg ⟨rfl, rfl, rfl, rfl, rfl, rfl, rfl, rfl, rfl, rfl, (agr rfl (by first | rfl | (congr 1; omega) | (congr 1 <;> omega))), trivial⟩, hB, hS, hD, hoP, hbo, hmp, hb3, hb32, hnew, (by decide), rfl⟩
             ·refine L_no rfl rfl rfl (decide_eq_false h21) rfl ?_
              refine L_no rfl rfl rfl (decide_eq_false h21) rfl ?_
              refine L_no rfl rfl rfl (decide_eq_false h21) rfl ?_
              refine L_yes rfl rfl rfl h20 ?_
              refine L_run (R_pickF rfl (decide_eq_false h21) rfl) rfl ?_
              refine L_yes rfl rfl rfl h20 ?_
              refine L_run (R_move rfl) rfl ?_
              refine L_no rfl rfl rfl rfl rfl ?_
              refine L_no rfl rfl rfl rfl rfl ?_
              refine L_no rfl rfl rfl rfl rfl ?_
              refine L_no rfl rfl rfl rfl rfl ?_
              refine L_no rfl rfl rfl rfl rfl ?_
              refine L_no rfl rfl rfl rfl rfl ?_
              refine L_no rfl rfl rfl rfl rfl ?_
              refine L_yes rfl rfl rfl h20 ?_
              refine L_run (R_pickF rfl rfl rfl) rfl ?_
              refine L_run (R_pickF rfl h20 rfl) rfl ?_
              refine L_run (R_assign rfl) rfl ?_
              refine L_nil (N_in (N_then (C_reg rfl ?_)))
              refine L_run (R_add64 rfl rfl (by omega)) rfl ?_
              refine L_run (R_move rfl) rfl ?_
              refine L_nil (N_then ?_)
              have hnew : false = clP l i (l[i]).chain ((dec (l[i]).data).1.key) 2 := by
                rw [clP_s1, ← hcb]
                have hm_ := hcm 1 ((dec (l[i]).data).1.key) (by decide) (by decide)
                rw [h20, Bool.false_or]
                have hp_ : pO l i (l[i]).chain ((dec (l[i]).data).1.key) 1 ↔ ((1 : Int) ≠ (l[i]).chain ∧ openR l 1 i = true ∧ 0 < lkS m (1, (dec (l[i]).data).1.key) 0) := by unfold pO; rw [← hm_]
                rw [show decide (pO l i (l[i]).chain ((dec (l[i]).data).1.key) 1) = decide ((1 : Int) ≠ (l[i]).chain ∧ openR l 1 i = true ∧ 0 < lkS m (1, (dec (l[i]).data).1.key) 0) from decide_eq_decide.2 hp_]; grind
              exact ⟨4 - 2, by omega, _, 2, false, Ac_frg ⟨rfl, rfl, rfl, rfl, rfl, rfl, rfl, rfl, rfl, rfl, (agr rfl (by first | rfl | (congr 1; omega) | (congr 1 <;> omega))), trivial⟩, hB, hS, hD, hoP, hbo, hmp, hb3, hb32, hnew, (by decide), rfl⟩
           ·refine C_seq (C_reg rfl ?_)
            refine L_run (R_eqv (R_lss rfl rfl) (v' := .bool true) rfl) rfl ?_
            refine L_nil (N_then (C_seq (C_condT rfl rfl (C_skip (N_then (C_seq (C_block (C_seq (C_reg rfl ?_)))))))))
            refine L_run (R_move rfl) rfl ?_
            refine L_run (R_assign rfl) rfl ?_
            refine L_nil (N_then (C_reg rfl ?_))
            refine L_run (R_move rfl) rfl ?_
            refine L_run (R_move rfl) rfl ?_
            refine L_split cb (fun h23 => ?_) (fun h23 => ?_)
            ·refine L_no rfl rfl rfl h23 rfl ?_
             refine L_no rfl rfl rfl h23 rfl ?_
             refine L_no rfl rfl rfl h23 rfl ?_
             refine L_no rfl rfl rfl h23 rfl ?_
             refine L_no rfl rfl rfl h23 rfl ?_
             refine L_noU rfl rfl rfl rfl ?_
             refine L_noU rfl rfl rfl rfl ?_
             refine L_noU rfl rfl rfl rfl ?_
             refine L_no rfl rfl rfl h23 rfl ?_
             refine L_no rfl rfl rfl h23 rfl ?_
             refine L_noU rfl rfl rfl rfl ?_
             refine L_noU rfl rfl rfl rfl ?_
             refine L_noU rfl rfl rfl rfl ?_
             refine L_noU rfl rfl rfl rfl ?_
             refine L_noU rfl rfl rfl rfl ?_
             refine L_noU rfl rfl rfl rfl ?_
             refine L_noU rfl rfl rfl rfl ?_
             refine L_no rfl rfl rfl h23 rfl ?_
             refine L_run (R_pickT rfl h23 rfl) rfl ?_
             refine L_run (R_assign rfl) rfl ?_
             refine L_nil (N_in (N_then (C_reg rfl ?_)))
             refine L_run (R_add64 rfl rfl (by omega)) rfl ?_
             refine L_run (R_move rfl) rfl ?_
             refine L_nil (N_then ?_)
             have hnew : true = clP l i (l[i]).chain ((dec (l[i]).data).1.key) 3 := by
               rw [clP_s2, ← hcb]
               have hm_ := hcm 2 ((dec (l[i]).data).1.key) (by decide) (by decide)
               rw [h23]; rfl
             exact ⟨4 - 3, by omega, _, 3, true, Ac_frg ⟨rfl, rfl, rfl, rfl, rfl, rfl, rfl, rfl, rfl, rfl, (agr rfl (by first | rfl | (congr 1; omega) | (congr 1 <;> omega))), trivial⟩, hB, hS, hD, hoP, hbo, hmp, hb3, hb32, hnew, (by decide), rfl⟩
            ·refine L_yes rfl rfl rfl h23 ?_
             refine L_run (R_move rfl) rfl ?_
             refine L_yes rfl rfl rfl h23 ?_
             refine L_run (R_field (r := 1) rfl fld65_1 rfl) rfl ?_
             refine L_yes rfl rfl rfl h23 ?_
             refine L_run (R_load1 rfl scl3 (hb3.cell (i := 1) rfl)) rfl ?_
             refine L_yes rfl rfl rfl h23 ?_
             refine L_run (R_neq rfl rfl) rfl ?_
             refine L_yes rfl rfl rfl h23 ?_
             refine L_run (R_move rfl) rfl ?_
             refine L_splitD (p := 2 ≠ (l[i]).chain) (fun h24 => ?_) (fun h24 => ?_)
             ·refine L_yes rfl rfl rfl (decide_eq_true h24) ?_
              refine L_run (R_move rfl) rfl ?_
              refine L_yes rfl rfl rfl (decide_eq_true h24) ?_
              refine L_run (R_indexArr (sz := 1) (i := 2) (r := 2) rfl rfl (by first | rfl | omega) arr101 (by omega) (by omega)) rfl ?_
              refine L_yes rfl rfl rfl (decide_eq_true h24) ?_
              refine L_run (R_load1 rfl scl4 (hbo.cell (i := 2) rfl)) rfl ?_
              refine L_yes rfl rfl rfl h23 ?_
              refine L_run (R_pickT rfl (decide_eq_true h24) rfl) rfl ?_
              refine L_yes rfl rfl rfl h23 ?_
              refine L_run (R_move rfl) rfl ?_
              refine L_split (openR l 2 i) (fun h25 => ?_) (fun h25 => ?_)
              ·refine L_yes rfl rfl rfl h25 ?_
               refine L_run (R_move rfl) rfl ?_
               refine L_yes rfl rfl rfl h25 ?_
               refine L_run (R_move rfl) rfl ?_
               refine L_yes rfl rfl rfl h25 ?_
               refine L_run (R_field (r := 0) rfl fld34_0 rfl) rfl ?_
               refine L_yes rfl rfl rfl h25 ?_
               refine L_run (R_load1 rfl scl9 (hb32.cell (i := 0) rfl)) rfl ?_
               refine L_yes rfl rfl rfl h25 ?_
               refine L_run (R_build (pv := [(0, .int .i64 2), (1, .string (((dec ((l[i]).data)).1).key))]) (cs := [.int .i64 2, .string (((dec ((l[i]).data)).1).key)]) rfl (by kernel_rfl)) rfl ?_
               refine L_yes rfl rfl rfl h25 ?_
               refine L_run (R_lookS (eK := encBy) (eV := natI) (k := (2, ((dec ((l[i]).data)).1).key)) (z := 0) ByOk rfl rfl Try.underlying110 hzrI hmp) rfl ?_
               refine L_yes rfl rfl rfl h25 ?_
               refine L_run (R_gtr rfl rfl) rfl ?_
               refine L_yes rfl rfl rfl h23 ?_
               refine L_run (R_pickT rfl h25 rfl) rfl ?_
               refine L_run (R_pickF rfl h23 rfl) rfl ?_
               refine L_run (R_assign rfl) rfl ?_
               refine L_nil (N_in (N_then (C_reg rfl ?_)))
               refine L_run (R_add64 rfl rfl (by omega)) rfl ?_
               refine L_run (R_move rfl) rfl ?_
               refine L_nil (N_then ?_)
               have hnew : (decide (0 < ((lkS m (2, ((dec ((l[i]).data)).1).key) 0 : Nat) : Int))) = clP l i (l[i]).chain ((dec (l[i]).data).1.key) 3 := by
                 rw [clP_s2, ← hcb]
                 have hm_ := hcm 2 ((dec (l[i]).data).1.key) (by decide) (by decide)
                 rw [h23, Bool.false_or]
                 have hp_ : pO l i (l[i]).chain ((dec (l[i]).data).1.key) 2 ↔ ((2 : Int) ≠ (l[i]).chain ∧ openR l 2 i = true ∧ 0 < lkS m (2, (dec (l[i]).data).1.key) 0) := by unfold pO; rw [← hm_]
                 rw [show decide (pO l i (l[i]).chain ((dec (l[i]).data).1.key) 2) = decide ((2 : Int) ≠ (l[i]).chain ∧ openR l 2 i = true ∧ 0 < lkS m (2, (dec (l[i]).data).1.key) 0) from decide_eq_decide.2 hp_]; grind
               exact ⟨4 - 3, by omega, _, 3, (decide (0 < ((lkS m (2, ((dec ((l[i]).data)).1).key) 0 : Nat) : Int))), Ac_frg ⟨rfl, rfl, rfl, rfl, rfl, rfl, rfl, rfl, rfl, rfl, (agr rfl (by first | rfl | (congr 1; omega) | (congr 1 <;> omega))), trivial⟩, hB, hS, hD, hoP, hbo, hmp, hb3, hb32, hnew, (by decide), rfl⟩
              ·refine L_no rfl rfl rfl h25 rfl ?_
               refine L_no rfl rfl rfl h25 rfl ?_
               refine L_no rfl rfl rfl h25 rfl ?_
               refine L_no rfl rfl rfl h25 rfl ?_
               refine L_no rfl rfl rfl h25 rfl ?_
               refine L_no rfl rfl rfl h25 rfl ?_
               refine L_no rfl rfl rfl h25 rfl ?_
               refine L_yes rfl rfl rfl h23 ?_
               refine L_run (R_pickF rfl h25 rfl) rfl ?_
               refine L_run (R_pickF rfl h23 rfl) rfl ?_
               refine L_run (R_assign rfl) rfl ?_
               refine L_nil (N_in (N_then (C_reg rfl ?_)))
               refine L_run (R_add64 rfl rfl (by omega)) rfl ?_
               refine L_run (R_move rfl) rfl ?_
               refine L_nil (N_then ?_)
               have hnew : false = clP l i (l[i]).chain ((dec (l[i]).data).1.key) 3 := by
                 rw [clP_s2, ← hcb]
                 have hm_ := hcm 2 ((dec (l[i]).data).1.key) (by decide) (by decide)
                 rw [h23, Bool.false_or]
                 have hp_ : pO l i (l[i]).chain ((dec (l[i]).data).1.key) 2 ↔ ((2 : Int) ≠ (l[i]).chain ∧ openR l 2 i = true ∧ 0 < lkS m (2, (dec (l[i]).data).1.key) 0) := by unfold pO; rw [← hm_]
                 rw [show decide (pO l i (l[i]).chain ((dec (l[i]).data).1.key) 2) = decide ((2 : Int) ≠ (l[i]).chain ∧ openR l 2 i = true ∧ 0 < lkS m (2, (dec (l[i]).data).1.key) 0) from decide_eq_decide.2 hp_]; grind
               exact ⟨4 - 3, by omega, _, 3, false, Ac_frg ⟨rfl, rfl, rfl, rfl, rfl, rfl, rfl, rfl, rfl, rfl, (agr rfl (by first | rfl | (congr 1; omega) | (congr 1 <;> omega))), trivial⟩, hB, hS, hD, hoP, hbo, hmp, hb3, hb32, hnew, (by decide), rfl⟩
             ·refine L_no rfl rfl rfl (decide_eq_false h24) rfl ?_
              refine L_no rfl rfl rfl (decide_eq_false h24) rfl ?_
              refine L_no rfl rfl rfl (decide_eq_false h24) rfl ?_
              refine L_yes rfl rfl rfl h23 ?_
              refine L_run (R_pickF rfl (decide_eq_false h24) rfl) rfl ?_
              refine L_yes rfl rfl rfl h23 ?_
              refine L_run (R_move rfl) rfl ?_
              refine L_no rfl rfl rfl rfl rfl ?_
              refine L_no rfl rfl rfl rfl rfl ?_
              refine L_no rfl rfl rfl rfl rfl ?_
              refine L_no rfl rfl rfl rfl rfl ?_
              refine L_no rfl rfl rfl rfl rfl ?_
              refine L_no rfl rfl rfl rfl rfl ?_
              refine L_no rfl rfl rfl rfl rfl ?_
              refine L_yes rfl rfl rfl h23 ?_
              refine L_run (R_pickF rfl rfl rfl) rfl ?_
              refine L_run (R_pickF rfl h23 rfl) rfl ?_
              refine L_run (R_assign rfl) rfl ?_
              refine L_nil (N_in (N_then (C_reg rfl ?_)))
              refine L_run (R_add64 rfl rfl (by omega)) rfl ?_
              refine L_run (R_move rfl) rfl ?_
              refine L_nil (N_then ?_)
              have hnew : false = clP l i (l[i]).chain ((dec (l[i]).data).1.key) 3 := by
                rw [clP_s2, ← hcb]
                have hm_ := hcm 2 ((dec (l[i]).data).1.key) (by decide) (by decide)
                rw [h23, Bool.false_or]
                have hp_ : pO l i (l[i]).chain ((dec (l[i]).data).1.key) 2 ↔ ((2 : Int) ≠ (l[i]).chain ∧ openR l 2 i = true ∧ 0 < lkS m (2, (dec (l[i]).data).1.key) 0) := by unfold pO; rw [← hm_]
                rw [show decide (pO l i (l[i]).chain ((dec (l[i]).data).1.key) 2) = decide ((2 : Int) ≠ (l[i]).chain ∧ openR l 2 i = true ∧ 0 < lkS m (2, (dec (l[i]).data).1.key) 0) from decide_eq_decide.2 hp_]; grind
              exact ⟨4 - 3, by omega, _, 3, false, Ac_frg ⟨rfl, rfl, rfl, rfl, rfl, rfl, rfl, rfl, rfl, rfl, (agr rfl (by first | rfl | (congr 1; omega) | (congr 1 <;> omega))), trivial⟩, hB, hS, hD, hoP, hbo, hmp, hb3, hb32, hnew, (by decide), rfl⟩
           ·refine C_seq (C_reg rfl ?_)
            refine L_run (R_eqv (R_lss rfl rfl) (v' := .bool true) rfl) rfl ?_
            refine L_nil (N_then (C_seq (C_condT rfl rfl (C_skip (N_then (C_seq (C_block (C_seq (C_reg rfl ?_)))))))))
            refine L_run (R_move rfl) rfl ?_
            refine L_run (R_assign rfl) rfl ?_
            refine L_nil (N_then (C_reg rfl ?_))
            refine L_run (R_move rfl) rfl ?_
            refine L_run (R_move rfl) rfl ?_
            refine L_split cb (fun h26 => ?_) (fun h26 => ?_)
            ·refine L_no rfl rfl rfl h26 rfl ?_
             refine L_no rfl rfl rfl h26 rfl ?_
             refine L_no rfl rfl rfl h26 rfl ?_
             refine L_no rfl rfl rfl h26 rfl ?_
             refine L_no rfl rfl rfl h26 rfl ?_
             refine L_noU rfl rfl rfl rfl ?_
             refine L_noU rfl rfl rfl rfl ?_
             refine L_noU rfl rfl rfl rfl ?_
             refine L_no rfl rfl rfl h26 rfl ?_
             refine L_no rfl rfl rfl h26 rfl ?_
             refine L_noU rfl rfl rfl rfl ?_
             refine L_noU rfl rfl rfl rfl ?_
             refine L_noU rfl rfl rfl rfl ?_
             refine L_noU rfl rfl rfl rfl ?_
             refine L_noU rfl rfl rfl rfl ?_
             refine L_noU rfl rfl rfl rfl ?_
             refine L_noU rfl rfl rfl rfl ?_
             refine L_no rfl rfl rfl h26 rfl ?_
             refine L_run (R_pickT rfl h26 rfl) rfl ?_
             refine L_run (R_assign rfl) rfl ?_
             refine L_nil (N_in (N_then (C_reg rfl ?_)))
             refine L_run (R_add64 rfl rfl (by omega)) rfl ?_
             refine L_run (R_move rfl) rfl ?_
             refine L_nil (N_then ?_)
             have hnew : true = clP l i (l[i]).chain ((dec (l[i]).data).1.key) 4 := by
               rw [clP_s3, ← hcb]
               have hm_ := hcm 3 ((dec (l[i]).data).1.key) (by decide) (by decide)
               rw [h26]; rfl
             exact ⟨4 - 4, by omega, _, 4, true, Ac_frg ⟨rfl, rfl, rfl, rfl, rfl, rfl, rfl, rfl, rfl, rfl, (agr rfl (by first | rfl | (congr 1; omega) | (congr 1 <;> omega))), trivial⟩, hB, hS, hD, hoP, hbo, hmp, hb3, hb32, hnew, (by decide), rfl⟩
            ·refine L_yes rfl rfl rfl h26 ?_
             refine L_run (R_move rfl) rfl ?_
             refine L_yes rfl rfl rfl h26 ?_
             refine L_run (R_field (r := 1) rfl fld65_1 rfl) rfl ?_
             refine L_yes rfl rfl rfl h26 ?_
             refine L_run (R_load1 rfl scl3 (hb3.cell (i := 1) rfl)) rfl ?_
             refine L_yes rfl rfl rfl h26 ?_
             refine L_run (R_neq rfl rfl) rfl ?_
             refine L_yes rfl rfl rfl h26 ?_
             refine L_run (R_move rfl) rfl ?_
             refine L_splitD (p := 3 ≠ (l[i]).chain) (fun h27 => ?_) (fun h27 => ?_)
             ·refine L_yes rfl rfl rfl (decide_eq_true h27) ?_
              refine L_run (R_move rfl) rfl ?_
              refine L_yes rfl rfl rfl (decide_eq_true h27) ?_
              refine L_run (R_indexArr (sz := 1) (i := 3) (r := 3) rfl rfl (by first | rfl | omega) arr101 (by omega) (by omega)) rfl ?_
              refine L_yes rfl rfl rfl (decide_eq_true h27) ?_
              refine L_run (R_load1 rfl scl4 (hbo.cell (i := 3) rfl)) rfl ?_
              refine L_yes rfl rfl rfl h26 ?_
              refine L_run (R_pickT rfl (decide_eq_true h27) rfl) rfl ?_
              refine L_yes rfl rfl rfl h26 ?_
              refine L_run (R_move rfl) rfl ?_
              refine L_split (openR l 3 i) (fun h28 => ?_) (fun h28 => ?_)
              ·refine L_yes rfl rfl rfl h28 ?_
               refine L_run (R_move rfl) rfl ?_
               refine L_yes rfl rfl rfl h28 ?_
               refine L_run (R_move rfl) rfl ?_
               refine L_yes rfl rfl rfl h28 ?_
               refine L_run (R_field (r := 0) rfl fld34_0 rfl) rfl ?_
               refine L_yes rfl rfl rfl h28 ?_
               refine L_run (R_load1 rfl scl9 (hb32.cell (i := 0) rfl)) rfl ?_
               refine L_yes rfl rfl rfl h28 ?_
               refine L_run (R_build (pv := [(0, .int .i64 3), (1, .string (((dec ((l[i]).data)).1).key))]) (cs := [.int .i64 3, .string (((dec ((l[i]).data)).1).key)]) rfl (by kernel_rfl)) rfl ?_
               refine L_yes rfl rfl rfl h28 ?_
               refine L_run (R_lookS (eK := encBy) (eV := natI) (k := (3, ((dec ((l[i]).data)).1).key)) (z := 0) ByOk rfl rfl Try.underlying110 hzrI hmp) rfl ?_
               refine L_yes rfl rfl rfl h28 ?_
               refine L_run (R_gtr rfl rfl) rfl ?_
               refine L_yes rfl rfl rfl h26 ?_
               refine L_run (R_pickT rfl h28 rfl) rfl ?_
               refine L_run (R_pickF rfl h26 rfl) rfl ?_
               refine L_run (R_assign rfl) rfl ?_
               refine L_nil (N_in (N_then (C_reg rfl ?_)))
               refine L_run (R_add64 rfl rfl (by omega)) rfl ?_
               refine L_run (R_move rfl) rfl ?_
               refine L_nil (N_then ?_)
               have hnew : (decide (0 < ((lkS m (3, ((dec ((l[i]).data)).1).key) 0 : Nat) : Int))) = clP l i (l[i]).chain ((dec (l[i]).data).1.key) 4 := by
                 rw [clP_s3, ← hcb]
                 have hm_ := hcm 3 ((dec (l[i]).data).1.key) (by decide) (by decide)
                 rw [h26, Bool.false_or]
                 have hp_ : pO l i (l[i]).chain ((dec (l[i]).data).1.key) 3 ↔ ((3 : Int) ≠ (l[i]).chain ∧ openR l 3 i = true ∧ 0 < lkS m (3, (dec (l[i]).data).1.key) 0) := by unfold pO; rw [← hm_]
                 rw [show decide (pO l i (l[i]).chain ((dec (l[i]).data).1.key) 3) = decide ((3 : Int) ≠ (l[i]).chain ∧ openR l 3 i = true ∧ 0 < lkS m (3, (dec (l[i]).data).1.key) 0) from decide_eq_decide.2 hp_]; grind
               exact ⟨4 - 4, by omega, _, 4, (decide (0 < ((lkS m (3, ((dec ((l[i]).data)).1).key) 0 : Nat) : Int))), Ac_frg ⟨rfl, rfl, rfl, rfl, rfl, rfl, rfl, rfl, rfl, rfl, (agr rfl (by first | rfl | (congr 1; omega) | (congr 1 <;> omega))), trivial⟩, hB, hS, hD, hoP, hbo, hmp, hb3, hb32, hnew, (by decide), rfl⟩
              ·refine L_no rfl rfl rfl h28 rfl ?_
               refine L_no rfl rfl rfl h28 rfl ?_
               refine L_no rfl rfl rfl h28 rfl ?_
               refine L_no rfl rfl rfl h28 rfl ?_
               refine L_no rfl rfl rfl h28 rfl ?_
               refine L_no rfl rfl rfl h28 rfl ?_
               refine L_no rfl rfl rfl h28 rfl ?_
               refine L_yes rfl rfl rfl h26 ?_
               refine L_run (R_pickF rfl h28 rfl) rfl ?_
               refine L_run (R_pickF rfl h26 rfl) rfl ?_
               refine L_run (R_assign rfl) rfl ?_
               refine L_nil (N_in (N_then (C_reg rfl ?_)))
               refine L_run (R_add64 rfl rfl (by omega)) rfl ?_
               refine L_run (R_move rfl) rfl ?_
               refine L_nil (N_then ?_)
               have hnew : false = clP l i (l[i]).chain ((dec (l[i]).data).1.key) 4 := by
                 rw [clP_s3, ← hcb]
                 have hm_ := hcm 3 ((dec (l[i]).data).1.key) (by decide) (by decide)
                 rw [h26, Bool.false_or]
                 have hp_ : pO l i (l[i]).chain ((dec (l[i]).data).1.key) 3 ↔ ((3 : Int) ≠ (l[i]).chain ∧ openR l 3 i = true ∧ 0 < lkS m (3, (dec (l[i]).data).1.key) 0) := by unfold pO; rw [← hm_]
                 rw [show decide (pO l i (l[i]).chain ((dec (l[i]).data).1.key) 3) = decide ((3 : Int) ≠ (l[i]).chain ∧ openR l 3 i = true ∧ 0 < lkS m (3, (dec (l[i]).data).1.key) 0) from decide_eq_decide.2 hp_]; grind
               exact ⟨4 - 4, by omega, _, 4, false, Ac_frg ⟨rfl, rfl, rfl, rfl, rfl, rfl, rfl, rfl, rfl, rfl, (agr rfl (by first | rfl | (congr 1; omega) | (congr 1 <;> omega))), trivial⟩, hB, hS, hD, hoP, hbo, hmp, hb3, hb32, hnew, (by decide), rfl⟩
             ·refine L_no rfl rfl rfl (decide_eq_false h27) rfl ?_
              refine L_no rfl rfl rfl (decide_eq_false h27) rfl ?_
              refine L_no rfl rfl rfl (decide_eq_false h27) rfl ?_
              refine L_yes rfl rfl rfl h26 ?_
              refine L_run (R_pickF rfl (decide_eq_false h27) rfl) rfl ?_
              refine L_yes rfl rfl rfl h26 ?_
              refine L_run (R_move rfl) rfl ?_
              refine L_no rfl rfl rfl rfl rfl ?_
              refine L_no rfl rfl rfl rfl rfl ?_
              refine L_no rfl rfl rfl rfl rfl ?_
              refine L_no rfl rfl rfl rfl rfl ?_
              refine L_no rfl rfl rfl rfl rfl ?_
              refine L_no rfl rfl rfl rfl rfl ?_
              refine L_no rfl rfl rfl rfl rfl ?_
              refine L_yes rfl rfl rfl h26 ?_
              refine L_run (R_pickF rfl rfl rfl) rfl ?_
              refine L_run (R_pickF rfl h26 rfl) rfl ?_
              refine L_run (R_assign rfl) rfl ?_
              refine L_nil (N_in (N_then (C_reg rfl ?_)))
              refine L_run (R_add64 rfl rfl (by omega)) rfl ?_
              refine L_run (R_move rfl) rfl ?_
              refine L_nil (N_then ?_)
              have hnew : false = clP l i (l[i]).chain ((dec (l[i]).data).1.key) 4 := by
                rw [clP_s3, ← hcb]
                have hm_ := hcm 3 ((dec (l[i]).data).1.key) (by decide) (by decide)
                rw [h26, Bool.false_or]
                have hp_ : pO l i (l[i]).chain ((dec (l[i]).data).1.key) 3 ↔ ((3 : Int) ≠ (l[i]).chain ∧ openR l 3 i = true ∧ 0 < lkS m (3, (dec (l[i]).data).1.key) 0) := by unfold pO; rw [← hm_]
                rw [show decide (pO l i (l[i]).chain ((dec (l[i]).data).1.key) 3) = decide ((3 : Int) ≠ (l[i]).chain ∧ openR l 3 i = true ∧ 0 < lkS m (3, (dec (l[i]).data).1.key) 0) from decide_eq_decide.2 hp_]; grind
              exact ⟨4 - 4, by omega, _, 4, false, Ac_frg ⟨rfl, rfl, rfl, rfl, rfl, rfl, rfl, rfl, rfl, rfl, (agr rfl (by first | rfl | (congr 1; omega) | (congr 1 <;> omega))), trivial⟩, hB, hS, hD, hoP, hbo, hmp, hb3, hb32, hnew, (by decide), rfl⟩
           ·refine C_seq (C_reg rfl ?_)
            refine L_run (R_eqv (R_lss rfl rfl) (v' := .bool false) rfl) rfl ?_
            refine L_nil (N_then (C_seq (C_condF rfl rfl (C_exit (X_then (X_then (X_hit (N_then (C_seq (C_seq (C_reg rfl ?_)))))))))))
            have hle := CM_le (o := (l[i]).chain) (key := (dec (l[i]).data).1.key) hcm (by omega) (by omega)
            refine L_run (R_move rfl) rfl ?_
            refine L_nil (N_then ?_)
            refine C_cond rfl (fun h29 => ?_) (fun h29 => ?_)
            ·refine C_reg rfl ?_
             refine L_run (R_move rfl) rfl ?_
             refine L_run (R_field (r := 2) rfl fld65_2 rfl) rfl ?_
             refine L_run (R_load1 rfl scl3 (hb3.cell (i := 2) rfl)) rfl ?_
             refine L_buildSlice (pv := [(0, .int .i64 ((l[i]).lsn))]) (cs := [.int .i64 ((l[i]).lsn)]) slc51 zer3 rfl rfl (by kernel_rfl) rfl ?_
             intro g24 w73 eg23 hb33 hs62 hz61
             have ge23 : w.heap.size ≤ g24 := eg_ge hB eg23
             have lt22 : g2 < g24 := lt_of_eg hbo.lt eg23
             have lt23 : g4 < g24 := lt_of_eg hb3.lt eg23
             have lt24 : g23 < g24 := lt_of_eg hb32.lt eg23
             have hap1 : ∀ k_, (Value.slice Aj (clR l i).length cj).ownBlock = some k_ → k_ ≠ g24 := fun k_ hk => by have h_ := (World.ownsRow.lt hoP k_ hk).2; omega
             replace hB := gb_tr hB hs62
             replace hS := hS.gb hs62
             replace hD := hD.gb hs62
             replace hoP := own_gb hoP hs62
             replace hbo := hbo.gb hs62
             replace hmp := hmp.gb hs62
             replace hb3 := hb3.gb hs62
             replace hb32 := hb32.gb hs62
             refine T_append (xs := clR l i) (ys := [(l[i]).lsn]) EncZ slc51 rfl rfl hoP (Blk.sli (m := 0) hb33) (by simp; omega) (by have := hB.size; omega) rfl ?_
             intro A_1 c_1 w74 ho1 hs63 hat1
             replace hB := gb_tro hB hoP hs63 (Nat.le_refl _)
             replace hS := hS.grown hs63 (fun k hk => .inr (Nat.le_trans (Nat.le_refl _) (World.ownsRow.lt hoP k hk).1))
             replace hD := hD.own hoP (Nat.le_refl _) hs63
             replace hbo := blk_own hbo hoP rfl hs63
             replace hmp := hmp.own hoP hs63
             replace hb3 := blk_own hb3 hoP rfl hs63
             replace hb32 := blk_own hb32 hoP rfl hs63
             refine L_run (R_assign rfl) rfl ?_
             refine L_nil (N_then ?_)
             refine C_draw2 rfl mix ?_
             intro w75 hs64 hz62
             replace hB := gb_tr hB hs64
             replace hS := hS.gb hs64
             replace hD := hD.gb hs64
             replace hbo := hbo.gb hs64
             replace hmp := hmp.gb hs64
             replace hb3 := hb3.gb hs64
             replace hb32 := hb32.gb hs64
             replace ho1 := own_gb ho1 hs64
             refine ⟨fun W_ => Blk W_ g4 65 [.int .i64 ((l[i]).kind), .int .i64 ((l[i]).chain), .int .i64 ((l[i]).lsn), .int .i64 ((l[i]).prev), .slice ((l[i]).da) ((l[i]).data.length) ((l[i]).dc)] ∧ Blk W_ g23 34 [.string (((dec ((l[i]).data)).1).key), .bool (((dec ((l[i]).data)).1).was), .bool (((dec ((l[i]).data)).1).is), .string (((dec ((l[i]).data)).1).old), .string (((dec ((l[i]).data)).1).new), .int .i64 (((dec ((l[i]).data)).1).next)] ∧ True, [0, 1, 2, 3, 4, 5, 7, 9], ?_⟩
             refine T_tk (i := 0) rfl (Y_of (fun _ _ => R_move rfl)) ⟨hb3, hb32, trivial⟩ rfl ?_
             refine T_tk (i := 1) rfl (Y_of (fun _ _ => R_field (r := 1) rfl fld65_1 rfl)) ⟨hb3, hb32, trivial⟩ rfl ?_
             refine T_tk (i := 2) rfl (Y_of (fun _ ⟨hb3, hb32, _⟩ => R_load1 rfl scl3 (hb3.cell (i := 1) rfl))) ⟨hb3, hb32, trivial⟩ rfl ?_
             refine T_tk (i := 3) rfl (Y_of (fun _ _ => R_field (r := 0) rfl fld34_0 rfl)) ⟨hb3, hb32, trivial⟩ rfl ?_
             refine T_tk (i := 4) rfl (Y_of (fun _ ⟨hb3, hb32, _⟩ => R_load1 rfl scl9 (hb32.cell (i := 0) rfl))) ⟨hb3, hb32, trivial⟩ rfl ?_
             refine T_tk (i := 5) rfl (Y_of (fun _ _ => R_build (pv := [(0, .int .i64 ((l[i]).chain)), (1, .string (((dec ((l[i]).data)).1).key))]) (cs := [.int .i64 ((l[i]).chain), .string (((dec ((l[i]).data)).1).key)]) rfl (by kernel_rfl))) ⟨hb3, hb32, trivial⟩ rfl ?_
             refine T_all (rs := [6, 8]) (by kernel_rfl) rfl (all2 (O_one rfl ?_) (O_one rfl ?_))
             ·refine L_run (R_lookS (eK := encBy) (eV := natI) (k := ((l[i]).chain, ((dec ((l[i]).data)).1).key)) (z := 0) ByOk rfl rfl Try.underlying110 hzrI hmp) rfl ?_
              refine L_nil (N_then ⟨fun hN_ => ⟨hb3, hb32, trivial⟩, ?_⟩)
              refine T_tk (i := 7) rfl (Y_of (fun _ _ => R_add64 rfl rfl (by omega))) ⟨hb3, hb32, trivial⟩ rfl ?_
              refine T_all (rs := [8]) (by kernel_rfl) rfl (all1 (O_one rfl ?_))
              refine L_mapEntryS (eK := encBy) (eV := natI) (k := ((l[i]).chain, ((dec ((l[i]).data)).1).key)) (z := 0) ByOk rfl rfl Try.underlying110 hzrI hmp rfl ?_
              intro b1 u1 w76 hm2 hs65 hz63
              replace hB := gb_trg hB hs65 ge1
              replace hS := hS.oth hmp.oth hs65
              replace hD := hD.old hs65 ge1
              replace hbo := hbo.oth hmp.oth hs65
              replace hb3 := hb3.oth hmp.oth hs65
              replace hb32 := hb32.oth hmp.oth hs65
              replace ho1 := own_oth ho1 hmp.oth hs65
              refine L_nil (N_then ⟨fun hN_ => ⟨hb3, hb32, trivial⟩, ?_⟩)
              refine T_tk (i := 9) rfl (Y_of (fun _ _ => R_extract rfl rfl)) ⟨hb3, hb32, trivial⟩ rfl ?_
              refine T_all (rs := [10]) (by kernel_rfl) rfl (all1 (O_one rfl ?_))
              refine L_entryStoreS (eK := encBy) (eV := natI) (m := m) (k := ((l[i]).chain, ((dec ((l[i]).data)).1).key)) (v := ((lkS m ((l[i]).chain, ((dec ((l[i]).data)).1).key) 0) + 1)) ByOk rfl rfl rfl hm2 ?_
              intro w77 hm3 hs66 hz64
              replace hB := gb_trg hB hs66 ge1
              replace hS := hS.oth hm2.oth hs66
              replace hD := hD.old hs66 ge1
              replace hbo := hbo.oth hm2.oth hs66
              replace hb3 := hb3.oth hm2.oth hs66
              replace hb32 := hb32.oth hm2.oth hs66
              replace ho1 := own_oth ho1 hm2.oth hs66
              refine L_nil (N_then ⟨fun hN_ => ⟨hb3, hb32, trivial⟩, ?_⟩)
              refine T_done (by kernel_rfl) (CalmE.normal ?_)
              refine N_in (N_in (N_then (C_reg rfl ?_)))
              refine L_run (R_add64 rfl rfl (by omega)) rfl ?_
              refine L_run (R_move rfl) rfl ?_
              refine L_nil (N_then ?_)
              have eR := clR_s hli
              have hce : cb = clB l i (l[i]).chain ((dec (l[i]).data).1.key) := hcb.trans clP_4
              rw [if_pos ⟨by omega, by omega, by omega, by omega, by rw [← hce]; exact h29⟩] at eR
              have e1 := openR_nn (c := 1) hli (by omega)
              have e2 := openR_nn (c := 2) hli (by omega)
              have e3 := openR_nn (c := 3) hli (by omega)
              exact ⟨l.length - (i + 1), by omega, _, (i + 1), A_1, c_1, aput m ((l[i]).chain, ((dec ((l[i]).data)).1).key) ((lkS m ((l[i]).chain, ((dec ((l[i]).data)).1).key) 0) + 1), Ac_frg ⟨rfl, rfl, rfl, (agr rfl (by rw [eR])), rfl, rfl, (agr rfl (by first | rfl | (congr 1; omega) | (congr 1 <;> omega))), trivial⟩, hB, hS, hD, (by rw [eR]; exact (own_lo ho1 (Nat.le_refl _))), (by rw [e1, e2, e3]; exact hbo), hm3, (by omega), (CM_hit hcm hli (by omega) (by omega) (by omega) (by omega) rfl), rfl⟩
             ·refine L_mapEntryS (eK := encBy) (eV := natI) (k := ((l[i]).chain, ((dec ((l[i]).data)).1).key)) (z := 0) ByOk rfl rfl Try.underlying110 hzrI hmp rfl ?_
              intro b2 u2 w78 hm4 hs67 hz65
              replace hB := gb_trg hB hs67 ge1
              replace hS := hS.oth hmp.oth hs67
              replace hD := hD.old hs67 ge1
              replace hbo := hbo.oth hmp.oth hs67
              replace hb3 := hb3.oth hmp.oth hs67
              replace hb32 := hb32.oth hmp.oth hs67
              replace ho1 := own_oth ho1 hmp.oth hs67
              refine L_nil (N_then ⟨fun hN_ => ⟨hb3, hb32, trivial⟩, ?_⟩)
              refine T_tk (i := 9) rfl (Y_of (fun _ _ => R_extract rfl rfl)) ⟨hb3, hb32, trivial⟩ rfl ?_
              refine T_all (rs := [6]) (by kernel_rfl) rfl (all1 (O_one rfl ?_))
              refine L_run (R_lookE (eK := encBy) (eV := natI) (k := ((l[i]).chain, ((dec ((l[i]).data)).1).key)) (z := 0) ByOk rfl rfl Try.underlying110 hzrI hm4) rfl ?_
              refine L_nil (N_then ⟨fun hN_ => ⟨hb3, hb32, trivial⟩, ?_⟩)
              refine T_tk (i := 7) rfl (Y_of (fun _ _ => R_add64 rfl rfl (by omega))) ⟨hb3, hb32, trivial⟩ rfl ?_
              refine T_all (rs := [10]) (by kernel_rfl) rfl (all1 (O_one rfl ?_))
              refine L_entryStoreS (eK := encBy) (eV := natI) (m := m) (k := ((l[i]).chain, ((dec ((l[i]).data)).1).key)) (v := ((lkS m ((l[i]).chain, ((dec ((l[i]).data)).1).key) 0) + 1)) ByOk rfl rfl rfl hm4 ?_
              intro w79 hm5 hs68 hz66
              replace hB := gb_trg hB hs68 ge1
              replace hS := hS.oth hm4.oth hs68
              replace hD := hD.old hs68 ge1
              replace hbo := hbo.oth hm4.oth hs68
              replace hb3 := hb3.oth hm4.oth hs68
              replace hb32 := hb32.oth hm4.oth hs68
              replace ho1 := own_oth ho1 hm4.oth hs68
              refine L_nil (N_then ⟨fun hN_ => ⟨hb3, hb32, trivial⟩, ?_⟩)
              refine T_done (by kernel_rfl) (CalmE.normal ?_)
              refine N_in (N_in (N_then (C_reg rfl ?_)))
              refine L_run (R_add64 rfl rfl (by omega)) rfl ?_
              refine L_run (R_move rfl) rfl ?_
              refine L_nil (N_then ?_)
              have eR := clR_s hli
              have hce : cb = clB l i (l[i]).chain ((dec (l[i]).data).1.key) := hcb.trans clP_4
              rw [if_pos ⟨by omega, by omega, by omega, by omega, by rw [← hce]; exact h29⟩] at eR
              have e1 := openR_nn (c := 1) hli (by omega)
              have e2 := openR_nn (c := 2) hli (by omega)
              have e3 := openR_nn (c := 3) hli (by omega)
              exact ⟨l.length - (i + 1), by omega, _, (i + 1), A_1, c_1, aput m ((l[i]).chain, ((dec ((l[i]).data)).1).key) ((lkS m ((l[i]).chain, ((dec ((l[i]).data)).1).key) 0) + 1), Ac_frg ⟨rfl, rfl, rfl, (agr rfl (by rw [eR])), rfl, rfl, (agr rfl (by first | rfl | (congr 1; omega) | (congr 1 <;> omega))), trivial⟩, hB, hS, hD, (by rw [eR]; exact (own_lo ho1 (Nat.le_refl _))), (by rw [e1, e2, e3]; exact hbo), hm5, (by omega), (CM_hit hcm hli (by omega) (by omega) (by omega) (by omega) rfl), rfl⟩
            ·refine C_skip (N_then ?_)
             refine C_draw2 rfl mix ?_
             intro w80 hs69 hz67
             replace hB := gb_tr hB hs69
             replace hS := hS.gb hs69
             replace hD := hD.gb hs69
             replace hoP := own_gb hoP hs69
             replace hbo := hbo.gb hs69
             replace hmp := hmp.gb hs69
             replace hb3 := hb3.gb hs69
             replace hb32 := hb32.gb hs69
             refine ⟨fun W_ => Blk W_ g4 65 [.int .i64 ((l[i]).kind), .int .i64 ((l[i]).chain), .int .i64 ((l[i]).lsn), .int .i64 ((l[i]).prev), .slice ((l[i]).da) ((l[i]).data.length) ((l[i]).dc)] ∧ Blk W_ g23 34 [.string (((dec ((l[i]).data)).1).key), .bool (((dec ((l[i]).data)).1).was), .bool (((dec ((l[i]).data)).1).is), .string (((dec ((l[i]).data)).1).old), .string (((dec ((l[i]).data)).1).new), .int .i64 (((dec ((l[i]).data)).1).next)] ∧ True, [0, 1, 2, 3, 4, 5, 7, 9], ?_⟩
             refine T_tk (i := 0) rfl (Y_of (fun _ _ => R_move rfl)) ⟨hb3, hb32, trivial⟩ rfl ?_
             refine T_tk (i := 1) rfl (Y_of (fun _ _ => R_field (r := 1) rfl fld65_1 rfl)) ⟨hb3, hb32, trivial⟩ rfl ?_
             refine T_tk (i := 2) rfl (Y_of (fun _ ⟨hb3, hb32, _⟩ => R_load1 rfl scl3 (hb3.cell (i := 1) rfl))) ⟨hb3, hb32, trivial⟩ rfl ?_
             refine T_tk (i := 3) rfl (Y_of (fun _ _ => R_field (r := 0) rfl fld34_0 rfl)) ⟨hb3, hb32, trivial⟩ rfl ?_
             refine T_tk (i := 4) rfl (Y_of (fun _ ⟨hb3, hb32, _⟩ => R_load1 rfl scl9 (hb32.cell (i := 0) rfl))) ⟨hb3, hb32, trivial⟩ rfl ?_
             refine T_tk (i := 5) rfl (Y_of (fun _ _ => R_build (pv := [(0, .int .i64 ((l[i]).chain)), (1, .string (((dec ((l[i]).data)).1).key))]) (cs := [.int .i64 ((l[i]).chain), .string (((dec ((l[i]).data)).1).key)]) rfl (by kernel_rfl))) ⟨hb3, hb32, trivial⟩ rfl ?_
             refine T_all (rs := [6, 8]) (by kernel_rfl) rfl (all2 (O_one rfl ?_) (O_one rfl ?_))
             ·refine L_run (R_lookS (eK := encBy) (eV := natI) (k := ((l[i]).chain, ((dec ((l[i]).data)).1).key)) (z := 0) ByOk rfl rfl Try.underlying110 hzrI hmp) rfl ?_
              refine L_nil (N_then ⟨fun hN_ => ⟨hb3, hb32, trivial⟩, ?_⟩)
              refine T_tk (i := 7) rfl (Y_of (fun _ _ => R_add64 rfl rfl (by omega))) ⟨hb3, hb32, trivial⟩ rfl ?_
              refine T_all (rs := [8]) (by kernel_rfl) rfl (all1 (O_one rfl ?_))
              refine L_mapEntryS (eK := encBy) (eV := natI) (k := ((l[i]).chain, ((dec ((l[i]).data)).1).key)) (z := 0) ByOk rfl rfl Try.underlying110 hzrI hmp rfl ?_
              intro b3 u3 w81 hm6 hs70 hz68
              replace hB := gb_trg hB hs70 ge1
              replace hS := hS.oth hmp.oth hs70
              replace hD := hD.old hs70 ge1
              replace hoP := own_oth hoP hmp.oth hs70
              replace hbo := hbo.oth hmp.oth hs70
              replace hb3 := hb3.oth hmp.oth hs70
              replace hb32 := hb32.oth hmp.oth hs70
              refine L_nil (N_then ⟨fun hN_ => ⟨hb3, hb32, trivial⟩, ?_⟩)
              refine T_tk (i := 9) rfl (Y_of (fun _ _ => R_extract rfl rfl)) ⟨hb3, hb32, trivial⟩ rfl ?_
              refine T_all (rs := [10]) (by kernel_rfl) rfl (all1 (O_one rfl ?_))
              refine L_entryStoreS (eK := encBy) (eV := natI) (m := m) (k := ((l[i]).chain, ((dec ((l[i]).data)).1).key)) (v := ((lkS m ((l[i]).chain, ((dec ((l[i]).data)).1).key) 0) + 1)) ByOk rfl rfl rfl hm6 ?_
              intro w82 hm7 hs71 hz69
              replace hB := gb_trg hB hs71 ge1
              replace hS := hS.oth hm6.oth hs71
              replace hD := hD.old hs71 ge1
              replace hoP := own_oth hoP hm6.oth hs71
              replace hbo := hbo.oth hm6.oth hs71
              replace hb3 := hb3.oth hm6.oth hs71
              replace hb32 := hb32.oth hm6.oth hs71
              refine L_nil (N_then ⟨fun hN_ => ⟨hb3, hb32, trivial⟩, ?_⟩)
              refine T_done (by kernel_rfl) (CalmE.normal ?_)
              refine N_in (N_in (N_then (C_reg rfl ?_)))
              refine L_run (R_add64 rfl rfl (by omega)) rfl ?_
              refine L_run (R_move rfl) rfl ?_
              refine L_nil (N_then ?_)
              have eR := clR_s hli
              have hce : cb = clB l i (l[i]).chain ((dec (l[i]).data).1.key) := hcb.trans clP_4
              rw [if_neg (fun q_ => by
                have h5_ := q_.2.2.2.2
                rw [← hce] at h5_
                simp_all)] at eR
              have e1 := openR_nn (c := 1) hli (by omega)
              have e2 := openR_nn (c := 2) hli (by omega)
              have e3 := openR_nn (c := 3) hli (by omega)
              exact ⟨l.length - (i + 1), by omega, _, (i + 1), Aj, cj, aput m ((l[i]).chain, ((dec ((l[i]).data)).1).key) ((lkS m ((l[i]).chain, ((dec ((l[i]).data)).1).key) 0) + 1), Ac_frg ⟨rfl, rfl, rfl, (agr rfl (by rw [eR])), rfl, rfl, (agr rfl (by first | rfl | (congr 1; omega) | (congr 1 <;> omega))), trivial⟩, hB, hS, hD, (by rw [eR]; exact (own_lo hoP (Nat.le_refl _))), (by rw [e1, e2, e3]; exact hbo), hm7, (by omega), (CM_hit hcm hli (by omega) (by omega) (by omega) (by omega) rfl), rfl⟩
             ·refine L_mapEntryS (eK := encBy) (eV := natI) (k := ((l[i]).chain, ((dec ((l[i]).data)).1).key)) (z := 0) ByOk rfl rfl Try.underlying110 hzrI hmp rfl ?_
              intro b4 u4 w83 hm8 hs72 hz70
              replace hB := gb_trg hB hs72 ge1
              replace hS := hS.oth hmp.oth hs72
              replace hD := hD.old hs72 ge1
              replace hoP := own_oth hoP hmp.oth hs72
              replace hbo := hbo.oth hmp.oth hs72
              replace hb3 := hb3.oth hmp.oth hs72
              replace hb32 := hb32.oth hmp.oth hs72
              refine L_nil (N_then ⟨fun hN_ => ⟨hb3, hb32, trivial⟩, ?_⟩)
              refine T_tk (i := 9) rfl (Y_of (fun _ _ => R_extract rfl rfl)) ⟨hb3, hb32, trivial⟩ rfl ?_
              refine T_all (rs := [6]) (by kernel_rfl) rfl (all1 (O_one rfl ?_))
              refine L_run (R_lookE (eK := encBy) (eV := natI) (k := ((l[i]).chain, ((dec ((l[i]).data)).1).key)) (z := 0) ByOk rfl rfl Try.underlying110 hzrI hm8) rfl ?_
              refine L_nil (N_then ⟨fun hN_ => ⟨hb3, hb32, trivial⟩, ?_⟩)
              refine T_tk (i := 7) rfl (Y_of (fun _ _ => R_add64 rfl rfl (by omega))) ⟨hb3, hb32, trivial⟩ rfl ?_
              refine T_all (rs := [10]) (by kernel_rfl) rfl (all1 (O_one rfl ?_))
              refine L_entryStoreS (eK := encBy) (eV := natI) (m := m) (k := ((l[i]).chain, ((dec ((l[i]).data)).1).key)) (v := ((lkS m ((l[i]).chain, ((dec ((l[i]).data)).1).key) 0) + 1)) ByOk rfl rfl rfl hm8 ?_
              intro w84 hm9 hs73 hz71
              replace hB := gb_trg hB hs73 ge1
              replace hS := hS.oth hm8.oth hs73
              replace hD := hD.old hs73 ge1
              replace hoP := own_oth hoP hm8.oth hs73
              replace hbo := hbo.oth hm8.oth hs73
              replace hb3 := hb3.oth hm8.oth hs73
              replace hb32 := hb32.oth hm8.oth hs73
              refine L_nil (N_then ⟨fun hN_ => ⟨hb3, hb32, trivial⟩, ?_⟩)
              refine T_done (by kernel_rfl) (CalmE.normal ?_)
              refine N_in (N_in (N_then (C_reg rfl ?_)))
              refine L_run (R_add64 rfl rfl (by omega)) rfl ?_
              refine L_run (R_move rfl) rfl ?_
              refine L_nil (N_then ?_)
              have eR := clR_s hli
              have hce : cb = clB l i (l[i]).chain ((dec (l[i]).data).1.key) := hcb.trans clP_4
              rw [if_neg (fun q_ => by
                have h5_ := q_.2.2.2.2
                rw [← hce] at h5_
                simp_all)] at eR
              have e1 := openR_nn (c := 1) hli (by omega)
              have e2 := openR_nn (c := 2) hli (by omega)
              have e3 := openR_nn (c := 3) hli (by omega)
              exact ⟨l.length - (i + 1), by omega, _, (i + 1), Aj, cj, aput m ((l[i]).chain, ((dec ((l[i]).data)).1).key) ((lkS m ((l[i]).chain, ((dec ((l[i]).data)).1).key) 0) + 1), Ac_frg ⟨rfl, rfl, rfl, (agr rfl (by rw [eR])), rfl, rfl, (agr rfl (by first | rfl | (congr 1; omega) | (congr 1 <;> omega))), trivial⟩, hB, hS, hD, (by rw [eR]; exact (own_lo hoP (Nat.le_refl _))), (by rw [e1, e2, e3]; exact hbo), hm9, (by omega), (CM_hit hcm hli (by omega) (by omega) (by omega) (by omega) rfl), rfl⟩
        ·refine C_skip (N_in (N_in (N_then (C_reg rfl ?_))))
         refine L_run (R_add64 rfl rfl (by omega)) rfl ?_
         refine L_run (R_move rfl) rfl ?_
         refine L_nil (N_then ?_)
         have eR := clR_s hli
         rw [if_neg (fun q_ => by omega)] at eR
         have e1 := openR_nn (c := 1) hli (by omega)
         have e2 := openR_nn (c := 2) hli (by omega)
         have e3 := openR_nn (c := 3) hli (by omega)
         exact ⟨l.length - (i + 1), by omega, _, (i + 1), Aj, cj, m, Ac_frg ⟨rfl, rfl, rfl, (agr rfl (by rw [eR])), rfl, rfl, (agr rfl (by first | rfl | (congr 1; omega) | (congr 1 <;> omega))), trivial⟩, hB, hS, hD, (by rw [eR]; exact (own_lo hoP (Nat.le_refl _))), (by rw [e1, e2, e3]; exact hbo), hmp, (by omega), (CM_nn hcm hli (by omega)), rfl⟩
  ·refine C_exit (X_then (X_then (X_hit (N_then (C_seq (C_reg rfl ?_))))))
   refine L_run (R_move rfl) rfl ?_
   refine L_run (R_assign rfl) rfl ?_
   refine L_nil (N_then (C_ret ?_))
   refine ret1 Try.results23 rfl ?_
   rw [show i = l.length by omega] at hoP ⊢
   exact ⟨hB, _, _, rfl, (own_lo hoP (Nat.le_refl _))⟩

end Go.Proofs.Ytbmohojdlgedpaa
