/-
  Contracts of the reference 47: Clashes.
-/
import Derived.Test.YtbmohojdlgedpaaKh
namespace Go.Proofs.Ytbmohojdlgedpaa
open Go.RowKit Gw Pl
set_option linter.unusedVariables false
set_option linter.unusedSimpArgs false
theorem slc51 : slcB Try.prog 51 3 1 8 = true := by kernel_rfl
theorem zer3 : (Try.prog.info? 3).bind (·.zero) = some (.int .i64 0) := by kernel_rfl
def encZ (x : Int) : List Value := [.int .i64 x]
theorem EncZ : Enc encZ 1 := ⟨fun _ => rfl, fun _ => rfl⟩
def hitC (r : RecC) (o : Int) (key : ByteArray) : Prop := r.chain = o ∧ r.kind = 6 ∧ (dec r.data).2 = 0 ∧ (dec r.data).1.key = key
instance {r : RecC} {o : Int} {key : ByteArray} : Decidable (hitC r o key) := by unfold hitC; infer_instance
def cntK (l : List RecC) (o : Int) (key : ByteArray) : Nat → Nat
  | 0 => 0
  | i + 1 => match l[i]? with
    | some r => if r.chain = o ∧ endsK r.kind then 0 else if hitC r o key then cntK l o key i + 1 else cntK l o key i
    | none => cntK l o key i
def qB (l : List RecC) (i : Nat) (ch : Int) (key : ByteArray) (r : RecC) (k : Nat) : Prop := r.kind = 6 ∧ (dec r.data).2 = 0 ∧ 1 ≤ r.chain ∧ r.chain ≤ 3 ∧ r.chain ≠ ch ∧ (dec r.data).1.key = key ∧ openR l r.chain i = true ∧ lastR l r.chain i < (k : Int)
instance {l : List RecC} {i : Nat} {ch : Int} {key : ByteArray} {r : RecC} {k : Nat} : Decidable (qB l i ch key r k) := by unfold qB; infer_instance
def clQ (l : List RecC) (i : Nat) (ch : Int) (key : ByteArray) : Nat → Bool
  | 0 => false
  | k + 1 => match l[k]? with
    | some r => clQ l i ch key k || decide (qB l i ch key r k)
    | none => clQ l i ch key k
def pO (l : List RecC) (i : Nat) (ch : Int) (key : ByteArray) (o : Int) : Prop := o ≠ ch ∧ openR l o i = true ∧ 0 < cntK l o key i
instance {l : List RecC} {i : Nat} {ch : Int} {key : ByteArray} {o : Int} : Decidable (pO l i ch key o) := by unfold pO; infer_instance
def clB (l : List RecC) (i : Nat) (ch : Int) (key : ByteArray) : Bool := decide (pO l i ch key 1 ∨ pO l i ch key 2 ∨ pO l i ch key 3)
def clR (l : List RecC) : Nat → List Int
  | 0 => []
  | i + 1 => match l[i]? with
    | some r => if r.kind = 6 ∧ 1 ≤ r.chain ∧ r.chain ≤ 3 ∧ (dec r.data).2 = 0 ∧ clB l i r.chain (dec r.data).1.key = true then clR l i ++ [r.lsn] else clR l i
    | none => clR l i
section
variable {l : List RecC} {o ch : Int} {key : ByteArray} {i k : Nat}
theorem cntK_s (h : i < l.length) : cntK l o key (i + 1) = if (l[i]).chain = o ∧ endsK (l[i]).kind then 0 else if hitC (l[i]) o key then cntK l o key i + 1 else cntK l o key i := by
  show (match l[i]? with | some r => _ | none => _) = _
  rw [List.getElem?_eq_getElem h]
theorem clQ_s (h : k < l.length) : clQ l i ch key (k + 1) = (clQ l i ch key k || decide (qB l i ch key (l[k]) k)) := by
  show (match l[k]? with | some r => _ | none => _) = _
  rw [List.getElem?_eq_getElem h]
theorem clR_s (h : i < l.length) : clR l (i + 1) = if (l[i]).kind = 6 ∧ 1 ≤ (l[i]).chain ∧ (l[i]).chain ≤ 3 ∧ (dec (l[i]).data).2 = 0 ∧ clB l i (l[i]).chain (dec (l[i]).data).1.key = true then clR l i ++ [(l[i]).lsn] else clR l i := by
  show (match l[i]? with | some r => _ | none => _) = _
  rw [List.getElem?_eq_getElem h]
theorem cntK_le : ∀ {i : Nat}, cntK l o key i ≤ i
  | 0 => Nat.le_refl _
  | i + 1 => by
    have := cntK_le (i := i)
    unfold cntK
    split
    · split
      · exact Nat.zero_le _
      · split <;> omega
    · omega
theorem clR_len : ∀ {i : Nat}, (clR l i).length ≤ i
  | 0 => Nat.le_refl _
  | i + 1 => by
    have := clR_len (i := i)
    unfold clR
    split
    · split
      · rw [List.length_append, List.length_cons, List.length_nil]; omega
      · omega
    · omega
theorem cnt_pos : ∀ {i : Nat} (_ : i ≤ l.length), 0 < cntK l o key i ↔ ∃ (k : Nat) (h : k < l.length), k < i ∧ lastR l o i < (k : Int) ∧ hitC (l[k]) o key
  | 0, _ => ⟨fun h => absurd h (Nat.lt_irrefl 0), fun ⟨k, _, h, _⟩ => absurd h (Nat.not_lt_zero k)⟩
  | i + 1, hi => by
    have ih := cnt_pos (i := i) (by omega)
    rw [cntK_s (by omega), lastR_s (by omega)]
    split
    · exact ⟨fun h => absurd h (Nat.lt_irrefl 0), fun ⟨k, _, h1, h2, _⟩ => by omega⟩
    · have hlt := (lastR_lt (l := l) (c := o) (i := i)).2
      split
      · rename_i hh
        exact ⟨fun _ => ⟨i, by omega, Nat.lt_succ_self _, hlt, hh⟩, fun _ => Nat.succ_pos _⟩
      · rename_i hh
        rw [ih]
        constructor
        · rintro ⟨k, h, h1, h2⟩; exact ⟨k, h, by omega, h2⟩
        · rintro ⟨k, h, h1, h2, h3⟩
          rcases Nat.lt_or_ge k i with q | q
          · exact ⟨k, h, q, h2, h3⟩
          · obtain rfl : k = i := by omega
            exact absurd h3 hh
theorem clQ_iff : ∀ {n : Nat} (_ : n ≤ l.length), clQ l i ch key n = true ↔ ∃ (k : Nat) (h : k < l.length), k < n ∧ qB l i ch key (l[k]) k
  | 0, _ => ⟨fun h => (by cases h), fun ⟨k, _, h, _⟩ => absurd h (Nat.not_lt_zero k)⟩
  | n + 1, hn => by
    have ih := clQ_iff (n := n) (by omega)
    rw [clQ_s (by omega), Bool.or_eq_true, ih, decide_eq_true_eq]
    constructor
    · rintro (⟨k, h, h1, h2⟩ | h)
      · exact ⟨k, h, by omega, h2⟩
      · exact ⟨n, by omega, Nat.lt_succ_self _, h⟩
    · rintro ⟨k, h, h1, h2⟩
      rcases Nat.lt_or_ge k n with q | q
      · exact .inl ⟨k, h, q, h2⟩
      · obtain rfl : k = n := by omega
        exact .inr h2
theorem clQ_all (hi : i ≤ l.length) : clQ l i ch key i = clB l i ch key := by
  have h1 : ∀ o : Int, 1 ≤ o → o ≤ 3 → (pO l i ch key o ↔ ∃ (k : Nat) (h : k < l.length), k < i ∧ qB l i ch key (l[k]) k ∧ (l[k]).chain = o) := fun o a b => by
    unfold pO qB
    rw [cnt_pos hi]
    constructor
    · rintro ⟨c1, c2, k, h, h2, h3, h4⟩
      obtain ⟨rfl, h5, h6, h7⟩ := h4
      exact ⟨k, h, h2, ⟨h5, h6, a, b, c1, h7, c2, h3⟩, rfl⟩
    · rintro ⟨k, h, h2, ⟨h5, h6, _, _, c1, h7, c2, h3⟩, rfl⟩
      exact ⟨c1, c2, k, h, h2, h3, rfl, h5, h6, h7⟩
  rw [Bool.eq_iff_iff, clQ_iff hi]
  unfold clB
  rw [decide_eq_true_eq, h1 1 (by decide) (by decide), h1 2 (by decide) (by decide), h1 3 (by decide) (by decide)]
  constructor
  · rintro ⟨k, h, h2, h3⟩
    have a := h3.2.2.1
    have b := h3.2.2.2.1
    rcases (by omega : (l[k]).chain = 1 ∨ (l[k]).chain = 2 ∨ (l[k]).chain = 3) with q | q | q
    · exact .inl ⟨k, h, h2, h3, q⟩
    · exact .inr (.inl ⟨k, h, h2, h3, q⟩)
    · exact .inr (.inr ⟨k, h, h2, h3, q⟩)
  · rintro (⟨k, h, h2, h3, _⟩ | ⟨k, h, h2, h3, _⟩ | ⟨k, h, h2, h3, _⟩) <;> exact ⟨k, h, h2, h3⟩
end
theorem rcl_ok {w : World} {A : Option Addr} {c : Nat} {l : List RecC} (hS0 : Sli 0 0 w.heap.size w A (fl encRC l)) (hD0 : DeepRC w.heap.size w l) (hF : FewR l) :
    Runs Try.prog 24 #[.slice A l.length c] w (fun v_ w' => w.grownBy w' none ∧ ∃ A' c', v_ = .slice A' (clR l l.length).length c' ∧ World.ownsRow w' w.heap.size 3 1 (.slice A' (clR l l.length).length c') (clR l l.length).length (fl encZ (clR l l.length))) := by
 have hB := gb_refl w none
 have hS := hS0
 have hD := hD0
 have hl100 := hF.2
 refine enter Try.func24 Try.ntmps24 rfl rfl ?_
 refine C_seq (C_reg rfl ?_)
 refine L_run (R_assign rfl) rfl ?_
 refine L_nil (N_then (C_seq (C_reg rfl ?_)))
 refine L_run (R_assign rfl) rfl ?_
 refine L_nil (N_then (C_seq (C_seq (C_reg rfl ?_))))
 refine L_run (R_assign rfl) rfl ?_
 refine L_nil (N_then (C_block ?_))
 refine C_loop (fun m_ a_ w_ => ∃ (σ_ : Nat → Value) (i : Nat) (Aj : Option Addr) (cj : Nat), a_ = Ac 130 σ_ [] [(0, .slice A l.length c), (3, .slice Aj ((clR l i).length) cj), (4, .int .i64 (i : Int))] ∧ w.grownBy w_ none ∧ Sli 0 0 w.heap.size w_ A (fl encRC l) ∧ DeepRC w.heap.size w_ l ∧ World.ownsRow w_ w.heap.size 3 1 (.slice Aj (clR l i).length cj) (clR l i).length (fl encZ (clR l i)) ∧ (i ≤ l.length) ∧ l.length - i = m_) (l.length - 0) ?_ ?_
 ·exact ⟨_, 0, none, 0, Ac_frg ⟨rfl, (agr rfl (by first | rfl | (congr 1; omega) | (congr 1 <;> omega))), (agr rfl (by first | rfl | (congr 1; omega) | (congr 1 <;> omega))), trivial⟩, hB, hS, hD, (own_nil _ _ _ _), (Nat.zero_le _), rfl⟩
 ·clear hB
  clear hS hD
  rintro m_ a_ w1 ⟨σ_, i, Aj, cj, rfl, hB, hS, hD, hoP, hi_, rfl⟩
  refine C_seq (C_seq (C_reg rfl ?_))
  refine L_run (R_move rfl) rfl ?_
  refine L_run (R_move rfl) rfl ?_
  refine L_run (R_lenSl rfl slc56) rfl ?_
  refine L_run (R_lss rfl rfl) rfl ?_
  refine L_nil (N_then ?_)
  refine C_if rfl (fun h1 => ?_) (fun h1 => ?_)
  ·refine C_skip (N_then (C_seq (C_block (C_seq (C_reg rfl ?_)))))
   have hli : i < l.length := by omega
   have hd6 := hF.1 _ (List.getElem_mem hli)
   have hcap := hD0.cap hli
   have hcl := clR_len (l := l) (i := i)
   refine L_run (R_move rfl) rfl ?_
   refine L_run (R_move rfl) rfl ?_
   have hl1 : i < l.length := by first | omega | (simp; omega)
   refine T_index (xs := l) (i := i) EncRC rfl rfl (by first | rfl | omega) slc56 hl1 hS rfl ?_
   intro g1 o1 ha1
   refine L_run (R_field rfl fld65_4 rfl) rfl ?_
   refine L_run (R_load1 rfl scl63 (ha1 4 _ rfl)) rfl ?_
   refine L_call rfl cb42 (refdec_ok (bs := (l[i]).data) (hD.getD (i := i) (by first | assumption | omega | (simp; omega))) (by omega) hcap) rfl ?_
   rintro _ w2 ⟨hs1, rfl⟩
   replace hB := gb_tr hB hs1
   replace hS := hS.gb hs1
   replace hD := hD.gb hs1
   replace hoP := own_gb hoP hs1
   replace ha1 := At.gb ha1 hs1 (by simp)
   refine L_run (R_move rfl) rfl ?_
   refine L_run (R_extract rfl rfl) rfl ?_
   refine L_run (R_extract rfl rfl) rfl ?_
   refine L_alloc (cs := [.string (⟨#[]⟩), .bool false, .bool false, .string (⟨#[]⟩), .string (⟨#[]⟩), .int .i64 0]) zer34 rfl rfl ?_
   intro g2 w3 eg1 hb1 hs2 hz1
   have ge1 : w.heap.size ≤ g2 := eg_ge hB eg1
   replace hB := gb_tr hB hs2
   replace hS := hS.gb hs2
   replace hD := hD.gb hs2
   replace hoP := own_gb hoP hs2
   replace ha1 := At.gb ha1 hs2 (by simp)
   refine L_stA (vs := [.string (((dec ((l[i]).data)).1).key), .bool (((dec ((l[i]).data)).1).was), .bool (((dec ((l[i]).data)).1).is), .string (((dec ((l[i]).data)).1).old), .string (((dec ((l[i]).data)).1).new), .int .i64 (((dec ((l[i]).data)).1).next)]) rfl rfl rfl sz34 rfl hb1 rfl ?_
   intro w4 hb2 hs3 hz2
   replace hB := gb_trg hB hs3 ge1
   replace hS := hS.old hs3 ge1
   replace hD := hD.old hs3 ge1
   replace hoP := own_other hoP hb1 rfl hs3
   refine L_run (R_assign rfl) rfl ?_
   refine L_nil (N_then (C_seq (C_seq (C_reg rfl ?_))))
   refine L_run (R_move rfl) rfl ?_
   refine L_run (R_move rfl) rfl ?_
   have hl2 : i < l.length := by first | omega | (simp; omega)
   refine T_index (xs := l) (i := i) EncRC rfl rfl (by first | rfl | omega) slc56 hl2 hS rfl ?_
   intro g3 o2 ha2
   refine L_run (R_field rfl fld65_0 rfl) rfl ?_
   refine L_run (R_load1 rfl scl3 (ha2 0 _ rfl)) rfl ?_
   refine L_run (R_neq rfl rfl) rfl ?_
   refine L_run (R_move rfl) rfl ?_
   refine L_splitD (p := (l[i]).kind ≠ 6) (fun h2 => ?_) (fun h2 => ?_)
   ·refine L_no rfl rfl rfl (decide_eq_true h2) rfl ?_
    refine L_no rfl rfl rfl (decide_eq_true h2) rfl ?_
    refine L_no rfl rfl rfl (decide_eq_true h2) rfl ?_
    refine L_no rfl rfl rfl (decide_eq_true h2) rfl ?_
    refine L_no rfl rfl rfl (decide_eq_true h2) rfl ?_
    refine L_no rfl rfl rfl (decide_eq_true h2) rfl ?_
    refine L_run (R_pickT rfl (decide_eq_true h2) rfl) rfl ?_
    refine L_run (R_move rfl) rfl ?_
    refine L_no rfl rfl rfl rfl rfl ?_
    refine L_no rfl rfl rfl rfl rfl ?_
    refine L_no rfl rfl rfl rfl rfl ?_
    refine L_no rfl rfl rfl rfl rfl ?_
    refine L_no rfl rfl rfl rfl rfl ?_
    refine L_no rfl rfl rfl rfl rfl ?_
    refine L_run (R_pickT rfl rfl rfl) rfl ?_
    refine L_run (R_move rfl) rfl ?_
    refine L_no rfl rfl rfl rfl rfl ?_
    refine L_no rfl rfl rfl rfl rfl ?_
    refine L_run (R_pickT rfl rfl rfl) rfl ?_
    refine L_nil (N_then (C_condT rfl rfl (C_exit (X_then (X_hit (N_then (C_reg rfl ?_)))))))
    refine L_run (R_move rfl) rfl ?_
    refine L_run (R_add64 rfl rfl (by omega)) rfl ?_
    refine L_run (R_assign rfl) rfl ?_
    refine L_nil (N_then ?_)
    have eR := clR_s hli
    rw [if_neg (fun q_ => by omega)] at eR
    exact ⟨l.length - (i + 1), by omega, _, (i + 1), Aj, cj, Ac_frg ⟨rfl, (agr rfl (by rw [eR])), (agr rfl (by first | rfl | (congr 1; omega) | (congr 1 <;> omega))), trivial⟩, hB, hS, hD, (by rw [eR]; exact (own_lo hoP (Nat.le_refl _))), (by omega), rfl⟩
   ·refine L_yes rfl rfl rfl (decide_eq_false h2) ?_
    refine L_run (R_move rfl) rfl ?_
    refine L_yes rfl rfl rfl (decide_eq_false h2) ?_
    refine L_run (R_move rfl) rfl ?_
    refine L_yes rfl rfl rfl (decide_eq_false h2) ?_
    have hl3 : i < l.length := by first | omega | (simp; omega)
    refine T_index (xs := l) (i := i) EncRC rfl rfl (by first | rfl | omega) slc56 hl3 hS rfl ?_
    intro g4 o3 ha3
    refine L_yes rfl rfl rfl (decide_eq_false h2) ?_
    refine L_run (R_field rfl fld65_1 rfl) rfl ?_
    refine L_yes rfl rfl rfl (decide_eq_false h2) ?_
    refine L_run (R_load1 rfl scl3 (ha3 1 _ rfl)) rfl ?_
    refine L_yes rfl rfl rfl (decide_eq_false h2) ?_
    refine L_run (R_lss rfl rfl) rfl ?_
    refine L_run (R_pickF rfl (decide_eq_false h2) rfl) rfl ?_
    refine L_run (R_move rfl) rfl ?_
    refine L_splitD (p := (l[i]).chain < 1) (fun h3 => ?_) (fun h3 => ?_)
    ·refine L_no rfl rfl rfl (decide_eq_true h3) rfl ?_
     refine L_no rfl rfl rfl (decide_eq_true h3) rfl ?_
     refine L_no rfl rfl rfl (decide_eq_true h3) rfl ?_
     refine L_no rfl rfl rfl (decide_eq_true h3) rfl ?_
     refine L_no rfl rfl rfl (decide_eq_true h3) rfl ?_
     refine L_no rfl rfl rfl (decide_eq_true h3) rfl ?_
     refine L_run (R_pickT rfl (decide_eq_true h3) rfl) rfl ?_
     refine L_run (R_move rfl) rfl ?_
     refine L_no rfl rfl rfl rfl rfl ?_
     refine L_no rfl rfl rfl rfl rfl ?_
     refine L_run (R_pickT rfl rfl rfl) rfl ?_
     refine L_nil (N_then (C_condT rfl rfl (C_exit (X_then (X_hit (N_then (C_reg rfl ?_)))))))
     refine L_run (R_move rfl) rfl ?_
     refine L_run (R_add64 rfl rfl (by omega)) rfl ?_
     refine L_run (R_assign rfl) rfl ?_
     refine L_nil (N_then ?_)
     have eR := clR_s hli
     rw [if_neg (fun q_ => by omega)] at eR
     exact ⟨l.length - (i + 1), by omega, _, (i + 1), Aj, cj, Ac_frg ⟨rfl, (agr rfl (by rw [eR])), (agr rfl (by first | rfl | (congr 1; omega) | (congr 1 <;> omega))), trivial⟩, hB, hS, hD, (by rw [eR]; exact (own_lo hoP (Nat.le_refl _))), (by omega), rfl⟩
    ·refine L_yes rfl rfl rfl (decide_eq_false h3) ?_
     refine L_run (R_move rfl) rfl ?_
     refine L_yes rfl rfl rfl (decide_eq_false h3) ?_
     refine L_run (R_move rfl) rfl ?_
     refine L_yes rfl rfl rfl (decide_eq_false h3) ?_
     have hl4 : i < l.length := by first | omega | (simp; omega)
     refine T_index (xs := l) (i := i) EncRC rfl rfl (by first | rfl | omega) slc56 hl4 hS rfl ?_
     intro g5 o4 ha4
     refine L_yes rfl rfl rfl (decide_eq_false h3) ?_
     refine L_run (R_field rfl fld65_1 rfl) rfl ?_
     refine L_yes rfl rfl rfl (decide_eq_false h3) ?_
     refine L_run (R_load1 rfl scl3 (ha4 1 _ rfl)) rfl ?_
     refine L_yes rfl rfl rfl (decide_eq_false h3) ?_
     refine L_run (R_gtr rfl rfl) rfl ?_
     refine L_run (R_pickF rfl (decide_eq_false h3) rfl) rfl ?_
     refine L_run (R_move rfl) rfl ?_
     refine L_splitD (p := 3 < (l[i]).chain) (fun h4 => ?_) (fun h4 => ?_)
     ·refine L_no rfl rfl rfl (decide_eq_true h4) rfl ?_
      refine L_no rfl rfl rfl (decide_eq_true h4) rfl ?_
      refine L_run (R_pickT rfl (decide_eq_true h4) rfl) rfl ?_
      refine L_nil (N_then (C_condT rfl rfl (C_exit (X_then (X_hit (N_then (C_reg rfl ?_)))))))
      refine L_run (R_move rfl) rfl ?_
      refine L_run (R_add64 rfl rfl (by omega)) rfl ?_
      refine L_run (R_assign rfl) rfl ?_
      refine L_nil (N_then ?_)
      have eR := clR_s hli
      rw [if_neg (fun q_ => by omega)] at eR
      exact ⟨l.length - (i + 1), by omega, _, (i + 1), Aj, cj, Ac_frg ⟨rfl, (agr rfl (by rw [eR])), (agr rfl (by first | rfl | (congr 1; omega) | (congr 1 <;> omega))), trivial⟩, hB, hS, hD, (by rw [eR]; exact (own_lo hoP (Nat.le_refl _))), (by omega), rfl⟩
     ·refine L_yes rfl rfl rfl (decide_eq_false h4) ?_
      refine L_run (R_move rfl) rfl ?_
      refine L_yes rfl rfl rfl (decide_eq_false h4) ?_
      refine L_run (R_neq rfl rfl) rfl ?_
      refine L_run (R_pickF rfl (decide_eq_false h4) rfl) rfl ?_
      refine L_nil (N_then ?_)
      refine C_if rfl (fun h5 => ?_) (fun h5 => ?_)
      ·refine C_exit (X_then (X_hit (N_then (C_reg rfl ?_))))
       refine L_run (R_move rfl) rfl ?_
       refine L_run (R_add64 rfl rfl (by omega)) rfl ?_
       refine L_run (R_assign rfl) rfl ?_
       refine L_nil (N_then ?_)
       have eR := clR_s hli
       rw [if_neg (fun q_ => by omega)] at eR
       exact ⟨l.length - (i + 1), by omega, _, (i + 1), Aj, cj, Ac_frg ⟨rfl, (agr rfl (by rw [eR])), (agr rfl (by first | rfl | (congr 1; omega) | (congr 1 <;> omega))), trivial⟩, hB, hS, hD, (by rw [eR]; exact (own_lo hoP (Nat.le_refl _))), (by omega), rfl⟩
      ·refine C_skip (N_then (C_seq (C_reg rfl ?_)))
       refine L_run (R_assign rfl) rfl ?_
       refine L_nil (N_then (C_seq (C_seq (C_reg rfl ?_))))
       refine L_run (R_assign rfl) rfl ?_
       refine L_nil (N_then (C_block ?_))
       refine C_loop (fun m_ a_ w_ => ∃ (σ_ : Nat → Value) (k_ : Nat) (cb : Bool), a_ = Ac 130 σ_ [] [(0, .slice A l.length c), (3, .slice Aj ((clR l i).length) cj), (4, .int .i64 (i : Int)), (5, .pointer (some ⟨g2, 0, none⟩)), (6, .int .i64 ((dec ((l[i]).data)).2)), (7, .bool cb), (8, .int .i64 (k_ : Int))] ∧ w.grownBy w_ none ∧ Sli 0 0 w.heap.size w_ A (fl encRC l) ∧ DeepRC w.heap.size w_ l ∧ World.ownsRow w_ w.heap.size 3 1 (.slice Aj (clR l i).length cj) (clR l i).length (fl encZ (clR l i)) ∧ Blk w_ g2 34 [.string (((dec ((l[i]).data)).1).key), .bool (((dec ((l[i]).data)).1).was), .bool (((dec ((l[i]).data)).1).is), .string (((dec ((l[i]).data)).1).old), .string (((dec ((l[i]).data)).1).new), .int .i64 (((dec ((l[i]).data)).1).next)] ∧ (cb = clQ l i (l[i]).chain ((dec (l[i]).data).1.key) k_) ∧ (k_ ≤ i) ∧ i - k_ = m_) (i - 0) ?_ ?_
       ·exact ⟨_, 0, false, Ac_frg ⟨rfl, rfl, rfl, rfl, rfl, rfl, (agr rfl (by first | rfl | (congr 1; omega) | (congr 1 <;> omega))), trivial⟩, hB, hS, hD, hoP, hb2, rfl, (Nat.zero_le _), rfl⟩
       ·clear hB
        clear hS hD hoP hb2 ha2 ha3 ha4
        rintro m_ a_ w5 ⟨σ_, k_, cb, rfl, hB, hS, hD, hoP, hb2, hcb, hki, rfl⟩
        refine C_seq (C_seq (C_reg rfl ?_))
        refine L_run (R_move rfl) rfl ?_
        refine L_run (R_move rfl) rfl ?_
        refine L_run (R_lss rfl rfl) rfl ?_
        refine L_nil (N_then ?_)
        refine C_if rfl (fun h6 => ?_) (fun h6 => ?_)
        ·refine C_skip (N_then (C_seq (C_block (C_seq (C_reg rfl ?_)))))
         have hlk : k_ < l.length := by omega
         have hd6 := hF.1 _ (List.getElem_mem hlk)
         have hcap := hD0.cap hlk
         refine L_run (R_move rfl) rfl ?_
         refine L_run (R_move rfl) rfl ?_
         have hl5 : k_ < l.length := by first | omega | (simp; omega)
         refine T_index (xs := l) (i := k_) EncRC rfl rfl (by first | rfl | omega) slc56 hl5 hS rfl ?_
         intro g6 o5 ha5
         refine L_run (R_field rfl fld65_4 rfl) rfl ?_
         refine L_run (R_load1 rfl scl63 (ha5 4 _ rfl)) rfl ?_
         refine L_call rfl cb42 (refdec_ok (bs := (l[k_]).data) (hD.getD (i := k_) (by first | assumption | omega | (simp; omega))) (by omega) hcap) rfl ?_
         rintro _ w6 ⟨hs4, rfl⟩
         replace hB := gb_tr hB hs4
         replace hS := hS.gb hs4
         replace hD := hD.gb hs4
         replace hoP := own_gb hoP hs4
         replace hb2 := hb2.gb hs4
         replace ha5 := At.gb ha5 hs4 (by simp)
         refine L_run (R_move rfl) rfl ?_
         refine L_run (R_extract rfl rfl) rfl ?_
         refine L_run (R_extract rfl rfl) rfl ?_
         refine L_alloc (cs := [.string (⟨#[]⟩), .bool false, .bool false, .string (⟨#[]⟩), .string (⟨#[]⟩), .int .i64 0]) zer34 rfl rfl ?_
         intro g7 w7 eg2 hb3 hs5 hz3
         have ge2 : w.heap.size ≤ g7 := eg_ge hB eg2
         have lt1 : g2 < g7 := lt_of_eg hb2.lt eg2
         replace hB := gb_tr hB hs5
         replace hS := hS.gb hs5
         replace hD := hD.gb hs5
         replace hoP := own_gb hoP hs5
         replace hb2 := hb2.gb hs5
         replace ha5 := At.gb ha5 hs5 (by simp)
         refine L_stA (vs := [.string (((dec ((l[k_]).data)).1).key), .bool (((dec ((l[k_]).data)).1).was), .bool (((dec ((l[k_]).data)).1).is), .string (((dec ((l[k_]).data)).1).old), .string (((dec ((l[k_]).data)).1).new), .int .i64 (((dec ((l[k_]).data)).1).next)]) rfl rfl rfl sz34 rfl hb3 rfl ?_
         intro w8 hb4 hs6 hz4
         replace hB := gb_trg hB hs6 ge2
         replace hS := hS.old hs6 ge2
         replace hD := hD.old hs6 ge2
         replace hoP := own_other hoP hb3 rfl hs6
         replace hb2 := hb2.grown hs6 (ne_lt lt1)
         refine L_run (R_assign rfl) rfl ?_
         refine L_nil (N_then (C_seq (C_reg rfl ?_)))
         refine L_run (R_move rfl) rfl ?_
         refine L_run (R_move rfl) rfl ?_
         have hl6 : k_ < l.length := by first | omega | (simp; omega)
         refine T_index (xs := l) (i := k_) EncRC rfl rfl (by first | rfl | omega) slc56 hl6 hS rfl ?_
         intro g8 o6 ha6
         refine L_run (R_field rfl fld65_1 rfl) rfl ?_
         refine L_run (R_load1 rfl scl3 (ha6 1 _ rfl)) rfl ?_
         refine L_run (R_assign rfl) rfl ?_
         refine L_nil (N_then (C_seq (C_reg rfl ?_)))
         refine L_run (R_move rfl) rfl ?_
         refine L_run (R_move rfl) rfl ?_
         have hl7 : k_ < l.length := by first | omega | (simp; omega)
         refine T_index (xs := l) (i := k_) EncRC rfl rfl (by first | rfl | omega) slc56 hl7 hS rfl ?_
         intro g9 o7 ha7
         refine L_run (R_field rfl fld65_0 rfl) rfl ?_
         refine L_run (R_load1 rfl scl3 (ha7 0 _ rfl)) rfl ?_
         refine L_run (R_eql rfl rfl) rfl ?_
         refine L_run (R_move rfl) rfl ?_
         refine L_splitD (p := (l[k_]).kind = 6) (fun h7 => ?_) (fun h7 => ?_)
         ·refine L_yes rfl rfl rfl (decide_eq_true h7) ?_
          refine L_run (R_move rfl) rfl ?_
          refine L_yes rfl rfl rfl (decide_eq_true h7) ?_
          refine L_run (R_eql rfl rfl) rfl ?_
          refine L_run (R_pickT rfl (decide_eq_true h7) rfl) rfl ?_
          refine L_run (R_move rfl) rfl ?_
          refine L_splitD (p := (dec ((l[k_]).data)).2 = 0) (fun h8 => ?_) (fun h8 => ?_)
          ·refine L_yes rfl rfl rfl (decide_eq_true h8) ?_
           refine L_run (R_move rfl) rfl ?_
           refine L_yes rfl rfl rfl (decide_eq_true h8) ?_
           refine L_run (R_geq rfl rfl) rfl ?_
           refine L_run (R_pickT rfl (decide_eq_true h8) rfl) rfl ?_
           refine L_run (R_move rfl) rfl ?_
           refine L_splitD (p := 1 ≤ (l[k_]).chain) (fun h9 => ?_) (fun h9 => ?_)
           ·refine L_yes rfl rfl rfl (decide_eq_true h9) ?_
            refine L_run (R_move rfl) rfl ?_
            refine L_yes rfl rfl rfl (decide_eq_true h9) ?_
            refine L_run (R_leq rfl rfl) rfl ?_
            refine L_run (R_pickT rfl (decide_eq_true h9) rfl) rfl ?_
            refine L_run (R_move rfl) rfl ?_
            refine L_splitD (p := (l[k_]).chain ≤ 3) (fun h10 => ?_) (fun h10 => ?_)
            ·refine L_yes rfl rfl rfl (decide_eq_true h10) ?_
             refine L_run (R_move rfl) rfl ?_
             refine L_yes rfl rfl rfl (decide_eq_true h10) ?_
             refine L_run (R_move rfl) rfl ?_
             refine L_yes rfl rfl rfl (decide_eq_true h10) ?_
             refine L_run (R_move rfl) rfl ?_
             refine L_yes rfl rfl rfl (decide_eq_true h10) ?_
             have hl8 : i < l.length := by first | omega | (simp; omega)
             refine T_index (xs := l) (i := i) EncRC rfl rfl (by first | rfl | omega) slc56 hl8 hS rfl ?_
             intro g10 o8 ha8
             refine L_yes rfl rfl rfl (decide_eq_true h10) ?_
             refine L_run (R_field rfl fld65_1 rfl) rfl ?_
             refine L_yes rfl rfl rfl (decide_eq_true h10) ?_
             refine L_run (R_load1 rfl scl3 (ha8 1 _ rfl)) rfl ?_
             refine L_yes rfl rfl rfl (decide_eq_true h10) ?_
             refine L_run (R_neq rfl rfl) rfl ?_
             refine L_run (R_pickT rfl (decide_eq_true h10) rfl) rfl ?_
             refine L_run (R_move rfl) rfl ?_
             refine L_splitD (p := (l[k_]).chain ≠ (l[i]).chain) (fun h11 => ?_) (fun h11 => ?_)
             ·refine L_yes rfl rfl rfl (decide_eq_true h11) ?_
              refine L_run (R_field (r := 0) rfl fld34_0 rfl) rfl ?_
              refine L_yes rfl rfl rfl (decide_eq_true h11) ?_
              refine L_run (R_load1 rfl scl9 (hb4.cell (i := 0) rfl)) rfl ?_
              refine L_yes rfl rfl rfl (decide_eq_true h11) ?_
              refine L_run (R_field (r := 0) rfl fld34_0 rfl) rfl ?_
              refine L_yes rfl rfl rfl (decide_eq_true h11) ?_
              refine L_run (R_load1 rfl scl9 (hb2.cell (i := 0) rfl)) rfl ?_
              refine L_yes rfl rfl rfl (decide_eq_true h11) ?_
              refine L_run (R_eqlS rfl rfl) rfl ?_
              refine L_run (R_pickT rfl (decide_eq_true h11) rfl) rfl ?_
              refine L_run (R_move rfl) rfl ?_
              refine L_splitD (p := ((dec ((l[k_]).data)).1).key = ((dec ((l[i]).data)).1).key) (fun h12 => ?_) (fun h12 => ?_)
              ·refine L_yes rfl rfl rfl (decide_eq_true h12) ?_
               refine L_run (R_move rfl) rfl ?_
               refine L_yes rfl rfl rfl (decide_eq_true h12) ?_
               refine L_run (R_move rfl) rfl ?_
               refine L_yes rfl rfl rfl (decide_eq_true h12) ?_
               refine L_run (R_move rfl) rfl ?_
               refine L_yes rfl rfl rfl (decide_eq_true h12) ?_
               refine L_call rfl cb41 (open_ok (l := l) (ch := (l[k_]).chain) (a := i) hS (by omega) (by omega)) rfl ?_
               rintro _ w9 ⟨hs7, rfl⟩
               replace hB := gb_tr hB hs7
               replace hS := hS.gb hs7
               replace hD := hD.gb hs7
               replace hoP := own_gb hoP hs7
               replace hb2 := hb2.gb hs7
               replace hb4 := hb4.gb hs7
               replace ha6 := At.gb ha6 hs7 (by simp)
               replace ha7 := At.gb ha7 hs7 (by simp)
               replace ha8 := At.gb ha8 hs7 (by simp)
               refine L_run (R_pickT rfl (decide_eq_true h12) rfl) rfl ?_
               refine L_run (R_move rfl) rfl ?_
               refine L_split (openR l ((l[k_]).chain) i) (fun h13 => ?_) (fun h13 => ?_)
               ·refine L_yes rfl rfl rfl h13 ?_
                refine L_run (R_move rfl) rfl ?_
                refine L_yes rfl rfl rfl h13 ?_
                refine L_run (R_move rfl) rfl ?_
                refine L_yes rfl rfl rfl h13 ?_
                refine L_run (R_move rfl) rfl ?_
                refine L_yes rfl rfl rfl h13 ?_
                refine L_run (R_move rfl) rfl ?_
                refine L_yes rfl rfl rfl h13 ?_
                refine L_call rfl cb43 (last_ok (l := l) (ch := (l[k_]).chain) (a := i) hS (by omega) (by omega)) rfl ?_
                rintro _ w10 ⟨hs8, rfl⟩
                replace hB := gb_tr hB hs8
                replace hS := hS.gb hs8
                replace hD := hD.gb hs8
                replace hoP := own_gb hoP hs8
                replace hb2 := hb2.gb hs8
                replace hb4 := hb4.gb hs8
                replace ha6 := At.gb ha6 hs8 (by simp)
                replace ha7 := At.gb ha7 hs8 (by simp)
                replace ha8 := At.gb ha8 hs8 (by simp)
                refine L_yes rfl rfl rfl h13 ?_
                refine L_run (R_gtr rfl rfl) rfl ?_
                refine L_run (R_pickT rfl h13 rfl) rfl ?_
                refine L_nil (N_then ?_)
                refine C_if rfl (fun h14 => ?_) (fun h14 => ?_)
                ·refine C_reg rfl ?_
                 refine L_run (R_assign rfl) rfl ?_
                 refine L_nil (N_in (N_then (C_reg rfl ?_)))
                 refine L_run (R_move rfl) rfl ?_
                 refine L_run (R_add64 rfl rfl (by omega)) rfl ?_
                 refine L_run (R_assign rfl) rfl ?_
                 refine L_nil (N_then ?_)
                 have hlk : k_ < l.length := by omega
                 have eQ := clQ_s (i := i) (ch := (l[i]).chain) (key := (dec (l[i]).data).1.key) hlk
                 have hq_ : qB l i (l[i]).chain ((dec (l[i]).data).1.key) (l[k_]) k_ := ⟨by omega, by omega, by omega, by omega, by omega, h12, h13, by omega⟩
                 rw [decide_eq_true hq_, Bool.or_true] at eQ
                 exact ⟨i - (k_ + 1), by omega, _, (k_ + 1), true, Ac_frg ⟨rfl, rfl, rfl, rfl, rfl, rfl, (agr rfl (by first | rfl | (congr 1; omega) | (congr 1 <;> omega))), trivial⟩, hB, hS, hD, hoP, hb2, eQ.symm, (by omega), rfl⟩
                ·refine C_skip (N_in (N_then (C_reg rfl ?_)))
                 refine L_run (R_move rfl) rfl ?_
                 refine L_run (R_add64 rfl rfl (by omega)) rfl ?_
                 refine L_run (R_assign rfl) rfl ?_
                 refine L_nil (N_then ?_)
                 have hlk : k_ < l.length := by omega
                 have eQ := clQ_s (i := i) (ch := (l[i]).chain) (key := (dec (l[i]).data).1.key) hlk
                 have hno_ : ¬ qB l i (l[i]).chain ((dec (l[i]).data).1.key) (l[k_]) k_ := fun q_ => by
                   obtain ⟨q1, q2, q3, q4, q5, q6, q7, q8⟩ := q_
                   first | omega | contradiction | simp_all
                 rw [decide_eq_false hno_, Bool.or_false] at eQ
                 exact ⟨i - (k_ + 1), by omega, _, (k_ + 1), cb, Ac_frg ⟨rfl, rfl, rfl, rfl, rfl, rfl, (agr rfl (by first | rfl | (congr 1; omega) | (congr 1 <;> omega))), trivial⟩, hB, hS, hD, hoP, hb2, (by rw [eQ]; exact hcb), (by omega), rfl⟩
               ·refine L_no rfl rfl rfl h13 rfl ?_
                refine L_no rfl rfl rfl h13 rfl ?_
                refine L_no rfl rfl rfl h13 rfl ?_
                refine L_no rfl rfl rfl h13 rfl ?_
                refine L_no rfl rfl rfl h13 rfl ?_
                refine L_no rfl rfl rfl h13 rfl ?_
                refine L_run (R_pickF rfl h13 rfl) rfl ?_
                refine L_nil (N_then (C_condF rfl rfl (C_skip (N_in (N_then (C_reg rfl ?_))))))
                refine L_run (R_move rfl) rfl ?_
                refine L_run (R_add64 rfl rfl (by omega)) rfl ?_
                refine L_run (R_assign rfl) rfl ?_
                refine L_nil (N_then ?_)
                have hlk : k_ < l.length := by omega
                have eQ := clQ_s (i := i) (ch := (l[i]).chain) (key := (dec (l[i]).data).1.key) hlk
                have hno_ : ¬ qB l i (l[i]).chain ((dec (l[i]).data).1.key) (l[k_]) k_ := fun q_ => by
                  obtain ⟨q1, q2, q3, q4, q5, q6, q7, q8⟩ := q_
                  first | omega | contradiction | simp_all
                rw [decide_eq_false hno_, Bool.or_false] at eQ
                exact ⟨i - (k_ + 1), by omega, _, (k_ + 1), cb, Ac_frg ⟨rfl, rfl, rfl, rfl, rfl, rfl, (agr rfl (by first | rfl | (congr 1; omega) | (congr 1 <;> omega))), trivial⟩, hB, hS, hD, hoP, hb2, (by rw [eQ]; exact hcb), (by omega), rfl⟩
              ·refine L_no rfl rfl rfl (decide_eq_false h12) rfl ?_
               refine L_no rfl rfl rfl (decide_eq_false h12) rfl ?_
               refine L_no rfl rfl rfl (decide_eq_false h12) rfl ?_
               refine L_no rfl rfl rfl (decide_eq_false h12) rfl ?_
               refine L_run (R_pickF rfl (decide_eq_false h12) rfl) rfl ?_
               refine L_run (R_move rfl) rfl ?_
               refine L_no rfl rfl rfl rfl rfl ?_
               refine L_no rfl rfl rfl rfl rfl ?_
               refine L_no rfl rfl rfl rfl rfl ?_
               refine L_no rfl rfl rfl rfl rfl ?_
               refine L_no rfl rfl rfl rfl rfl ?_
               refine L_no rfl rfl rfl rfl rfl ?_
               refine L_run (R_pickF rfl rfl rfl) rfl ?_
               refine L_nil (N_then (C_condF rfl rfl (C_skip (N_in (N_then (C_reg rfl ?_))))))
               refine L_run (R_move rfl) rfl ?_
               refine L_run (R_add64 rfl rfl (by omega)) rfl ?_
               refine L_run (R_assign rfl) rfl ?_
               refine L_nil (N_then ?_)
               have hlk : k_ < l.length := by omega
               have eQ := clQ_s (i := i) (ch := (l[i]).chain) (key := (dec (l[i]).data).1.key) hlk
               have hno_ : ¬ qB l i (l[i]).chain ((dec (l[i]).data).1.key) (l[k_]) k_ := fun q_ => by
                 obtain ⟨q1, q2, q3, q4, q5, q6, q7, q8⟩ := q_
                 first | omega | contradiction | simp_all
               rw [decide_eq_false hno_, Bool.or_false] at eQ
               exact ⟨i - (k_ + 1), by omega, _, (k_ + 1), cb, Ac_frg ⟨rfl, rfl, rfl, rfl, rfl, rfl, (agr rfl (by first | rfl | (congr 1; omega) | (congr 1 <;> omega))), trivial⟩, hB, hS, hD, hoP, hb2, (by rw [eQ]; exact hcb), (by omega), rfl⟩
             ·refine L_no rfl rfl rfl (decide_eq_false h11) rfl ?_
              refine L_no rfl rfl rfl (decide_eq_false h11) rfl ?_
              refine L_no rfl rfl rfl (decide_eq_false h11) rfl ?_
              refine L_no rfl rfl rfl (decide_eq_false h11) rfl ?_
              refine L_no rfl rfl rfl (decide_eq_false h11) rfl ?_
              refine L_run (R_pickF rfl (decide_eq_false h11) rfl) rfl ?_
              refine L_run (R_move rfl) rfl ?_
              refine L_no rfl rfl rfl rfl rfl ?_
              refine L_no rfl rfl rfl rfl rfl ?_
              refine L_no rfl rfl rfl rfl rfl ?_
              refine L_no rfl rfl rfl rfl rfl ?_
              refine L_run (R_pickF rfl rfl rfl) rfl ?_
              refine L_run (R_move rfl) rfl ?_
              refine L_no rfl rfl rfl rfl rfl ?_
              refine L_no rfl rfl rfl rfl rfl ?_
              refine L_no rfl rfl rfl rfl rfl ?_
              refine L_no rfl rfl rfl rfl rfl ?_
              refine L_no rfl rfl rfl rfl rfl ?_
              refine L_no rfl rfl rfl rfl rfl ?_
              refine L_run (R_pickF rfl rfl rfl) rfl ?_
              refine L_nil (N_then (C_condF rfl rfl (C_skip (N_in (N_then (C_reg rfl ?_))))))
              refine L_run (R_move rfl) rfl ?_
              refine L_run (R_add64 rfl rfl (by omega)) rfl ?_
              refine L_run (R_assign rfl) rfl ?_
              refine L_nil (N_then ?_)
              have hlk : k_ < l.length := by omega
              have eQ := clQ_s (i := i) (ch := (l[i]).chain) (key := (dec (l[i]).data).1.key) hlk
              have hno_ : ¬ qB l i (l[i]).chain ((dec (l[i]).data).1.key) (l[k_]) k_ := fun q_ => by
                obtain ⟨q1, q2, q3, q4, q5, q6, q7, q8⟩ := q_
                first | omega | contradiction | simp_all
              rw [decide_eq_false hno_, Bool.or_false] at eQ
              exact ⟨i - (k_ + 1), by omega, _, (k_ + 1), cb, Ac_frg ⟨rfl, rfl, rfl, rfl, rfl, rfl, (agr rfl (by first | rfl | (congr 1; omega) | (congr 1 <;> omega))), trivial⟩, hB, hS, hD, hoP, hb2, (by rw [eQ]; exact hcb), (by omega), rfl⟩
            ·refine L_no rfl rfl rfl (decide_eq_false h10) rfl ?_
             refine L_no rfl rfl rfl (decide_eq_false h10) rfl ?_
             refine L_no rfl rfl rfl (decide_eq_false h10) rfl ?_
             refine L_no rfl rfl rfl (decide_eq_false h10) rfl ?_
             refine L_no rfl rfl rfl (decide_eq_false h10) rfl ?_
             refine L_no rfl rfl rfl (decide_eq_false h10) rfl ?_
             refine L_no rfl rfl rfl (decide_eq_false h10) rfl ?_
             refine L_run (R_pickF rfl (decide_eq_false h10) rfl) rfl ?_
             refine L_run (R_move rfl) rfl ?_
             refine L_no rfl rfl rfl rfl rfl ?_
             refine L_no rfl rfl rfl rfl rfl ?_
             refine L_no rfl rfl rfl rfl rfl ?_
             refine L_no rfl rfl rfl rfl rfl ?_
             refine L_no rfl rfl rfl rfl rfl ?_
             refine L_run (R_pickF rfl rfl rfl) rfl ?_
             refine L_run (R_move rfl) rfl ?_
             refine L_no rfl rfl rfl rfl rfl ?_
             refine L_no rfl rfl rfl rfl rfl ?_
             refine L_no rfl rfl rfl rfl rfl ?_
             refine L_no rfl rfl rfl rfl rfl ?_
             refine L_run (R_pickF rfl rfl rfl) rfl ?_
             refine L_run (R_move rfl) rfl ?_
             refine L_no rfl rfl rfl rfl rfl ?_
             refine L_no rfl rfl rfl rfl rfl ?_
             refine L_no rfl rfl rfl rfl rfl ?_
             refine L_no rfl rfl rfl rfl rfl ?_
             refine L_no rfl rfl rfl rfl rfl ?_
             refine L_no rfl rfl rfl rfl rfl ?_
             refine L_run (R_pickF rfl rfl rfl) rfl ?_
             refine L_nil (N_then (C_condF rfl rfl (C_skip (N_in (N_then (C_reg rfl ?_))))))
             refine L_run (R_move rfl) rfl ?_
             refine L_run (R_add64 rfl rfl (by omega)) rfl ?_
             refine L_run (R_assign rfl) rfl ?_
             refine L_nil (N_then ?_)
             have hlk : k_ < l.length := by omega
             have eQ := clQ_s (i := i) (ch := (l[i]).chain) (key := (dec (l[i]).data).1.key) hlk
             have hno_ : ¬ qB l i (l[i]).chain ((dec (l[i]).data).1.key) (l[k_]) k_ := fun q_ => by
               obtain ⟨q1, q2, q3, q4, q5, q6, q7, q8⟩ := q_
               first | omega | contradiction | simp_all
             rw [decide_eq_false hno_, Bool.or_false] at eQ
             exact ⟨i - (k_ + 1), by omega, _, (k_ + 1), cb, Ac_frg ⟨rfl, rfl, rfl, rfl, rfl, rfl, (agr rfl (by first | rfl | (congr 1; omega) | (congr 1 <;> omega))), trivial⟩, hB, hS, hD, hoP, hb2, (by rw [eQ]; exact hcb), (by omega), rfl⟩
           ·refine L_no rfl rfl rfl (decide_eq_false h9) rfl ?_
            refine L_no rfl rfl rfl (decide_eq_false h9) rfl ?_
            refine L_run (R_pickF rfl (decide_eq_false h9) rfl) rfl ?_
            refine L_run (R_move rfl) rfl ?_
            refine L_no rfl rfl rfl rfl rfl ?_
            refine L_no rfl rfl rfl rfl rfl ?_
            refine L_no rfl rfl rfl rfl rfl ?_
            refine L_no rfl rfl rfl rfl rfl ?_
            refine L_no rfl rfl rfl rfl rfl ?_
            refine L_no rfl rfl rfl rfl rfl ?_
            refine L_no rfl rfl rfl rfl rfl ?_
            refine L_run (R_pickF rfl rfl rfl) rfl ?_
            refine L_run (R_move rfl) rfl ?_
            refine L_no rfl rfl rfl rfl rfl ?_
            refine L_no rfl rfl rfl rfl rfl ?_
            refine L_no rfl rfl rfl rfl rfl ?_
            refine L_no rfl rfl rfl rfl rfl ?_
            refine L_no rfl rfl rfl rfl rfl ?_
            refine L_run (R_pickF rfl rfl rfl) rfl ?_
            refine L_run (R_move rfl) rfl ?_
            refine L_no rfl rfl rfl rfl rfl ?_
            refine L_no rfl rfl rfl rfl rfl ?_
            refine L_no rfl rfl rfl rfl rfl ?_
            refine L_no rfl rfl rfl rfl rfl ?_
            refine L_run (R_pickF rfl rfl rfl) rfl ?_
            refine L_run (R_move rfl) rfl ?_
            refine L_no rfl rfl rfl rfl rfl ?_
            refine L_no rfl rfl rfl rfl rfl ?_
            refine L_no rfl rfl rfl rfl rfl ?_
            refine L_no rfl rfl rfl rfl rfl ?_
            refine L_no rfl rfl rfl rfl rfl ?_
            refine L_no rfl rfl rfl rfl rfl ?_
            refine L_run (R_pickF rfl rfl rfl) rfl ?_
            refine L_nil (N_then (C_condF rfl rfl (C_skip (N_in (N_then (C_reg rfl ?_))))))
            refine L_run (R_move rfl) rfl ?_
            refine L_run (R_add64 rfl rfl (by omega)) rfl ?_
            refine L_run (R_assign rfl) rfl ?_
            refine L_nil (N_then ?_)
            have hlk : k_ < l.length := by omega
            have eQ := clQ_s (i := i) (ch := (l[i]).chain) (key := (dec (l[i]).data).1.key) hlk
            have hno_ : ¬ qB l i (l[i]).chain ((dec (l[i]).data).1.key) (l[k_]) k_ := fun q_ => by
              obtain ⟨q1, q2, q3, q4, q5, q6, q7, q8⟩ := q_
              first | omega | contradiction | simp_all
            rw [decide_eq_false hno_, Bool.or_false] at eQ
            exact ⟨i - (k_ + 1), by omega, _, (k_ + 1), cb, Ac_frg ⟨rfl, rfl, rfl, rfl, rfl, rfl, (agr rfl (by first | rfl | (congr 1; omega) | (congr 1 <;> omega))), trivial⟩, hB, hS, hD, hoP, hb2, (by rw [eQ]; exact hcb), (by omega), rfl⟩
          ·refine L_no rfl rfl rfl (decide_eq_false h8) rfl ?_
           refine L_no rfl rfl rfl (decide_eq_false h8) rfl ?_
           refine L_run (R_pickF rfl (decide_eq_false h8) rfl) rfl ?_
           refine L_run (R_move rfl) rfl ?_
           refine L_no rfl rfl rfl rfl rfl ?_
           refine L_no rfl rfl rfl rfl rfl ?_
           refine L_run (R_pickF rfl rfl rfl) rfl ?_
           refine L_run (R_move rfl) rfl ?_
           refine L_no rfl rfl rfl rfl rfl ?_
           refine L_no rfl rfl rfl rfl rfl ?_
           refine L_no rfl rfl rfl rfl rfl ?_
           refine L_no rfl rfl rfl rfl rfl ?_
           refine L_no rfl rfl rfl rfl rfl ?_
           refine L_no rfl rfl rfl rfl rfl ?_
           refine L_no rfl rfl rfl rfl rfl ?_
           refine L_run (R_pickF rfl rfl rfl) rfl ?_
           refine L_run (R_move rfl) rfl ?_
           refine L_no rfl rfl rfl rfl rfl ?_
           refine L_no rfl rfl rfl rfl rfl ?_
           refine L_no rfl rfl rfl rfl rfl ?_
           refine L_no rfl rfl rfl rfl rfl ?_
           refine L_no rfl rfl rfl rfl rfl ?_
           refine L_run (R_pickF rfl rfl rfl) rfl ?_
           refine L_run (R_move rfl) rfl ?_
           refine L_no rfl rfl rfl rfl rfl ?_
           refine L_no rfl rfl rfl rfl rfl ?_
           refine L_no rfl rfl rfl rfl rfl ?_
           refine L_no rfl rfl rfl rfl rfl ?_
           refine L_run (R_pickF rfl rfl rfl) rfl ?_
           refine L_run (R_move rfl) rfl ?_
           refine L_no rfl rfl rfl rfl rfl ?_
           refine L_no rfl rfl rfl rfl rfl ?_
           refine L_no rfl rfl rfl rfl rfl ?_
           refine L_no rfl rfl rfl rfl rfl ?_
           refine L_no rfl rfl rfl rfl rfl ?_
           refine L_no rfl rfl rfl rfl rfl ?_
           refine L_run (R_pickF rfl rfl rfl) rfl ?_
           refine L_nil (N_then (C_condF rfl rfl (C_skip (N_in (N_then (C_reg rfl ?_))))))
           refine L_run (R_move rfl) rfl ?_
           refine L_run (R_add64 rfl rfl (by omega)) rfl ?_
           refine L_run (R_assign rfl) rfl ?_
           refine L_nil (N_then ?_)
           have hlk : k_ < l.length := by omega
           have eQ := clQ_s (i := i) (ch := (l[i]).chain) (key := (dec (l[i]).data).1.key) hlk
           have hno_ : ¬ qB l i (l[i]).chain ((dec (l[i]).data).1.key) (l[k_]) k_ := fun q_ => by
             obtain ⟨q1, q2, q3, q4, q5, q6, q7, q8⟩ := q_
             first | omega | contradiction | simp_all
           rw [decide_eq_false hno_, Bool.or_false] at eQ
           exact ⟨i - (k_ + 1), by omega, _, (k_ + 1), cb, Ac_frg ⟨rfl, rfl, rfl, rfl, rfl, rfl, (agr rfl (by first | rfl | (congr 1; omega) | (congr 1 <;> omega))), trivial⟩, hB, hS, hD, hoP, hb2, (by rw [eQ]; exact hcb), (by omega), rfl⟩
         ·refine L_no rfl rfl rfl (decide_eq_false h7) rfl ?_
          refine L_no rfl rfl rfl (decide_eq_false h7) rfl ?_
          refine L_run (R_pickF rfl (decide_eq_false h7) rfl) rfl ?_
          refine L_run (R_move rfl) rfl ?_
          refine L_no rfl rfl rfl rfl rfl ?_
          refine L_no rfl rfl rfl rfl rfl ?_
          refine L_run (R_pickF rfl rfl rfl) rfl ?_
          refine L_run (R_move rfl) rfl ?_
          refine L_no rfl rfl rfl rfl rfl ?_
          refine L_no rfl rfl rfl rfl rfl ?_
          refine L_run (R_pickF rfl rfl rfl) rfl ?_
          refine L_run (R_move rfl) rfl ?_
          refine L_no rfl rfl rfl rfl rfl ?_
          refine L_no rfl rfl rfl rfl rfl ?_
          refine L_no rfl rfl rfl rfl rfl ?_
          refine L_no rfl rfl rfl rfl rfl ?_
          refine L_no rfl rfl rfl rfl rfl ?_
          refine L_no rfl rfl rfl rfl rfl ?_
          refine L_no rfl rfl rfl rfl rfl ?_
          refine L_run (R_pickF rfl rfl rfl) rfl ?_
          refine L_run (R_move rfl) rfl ?_
          refine L_no rfl rfl rfl rfl rfl ?_
          refine L_no rfl rfl rfl rfl rfl ?_
          refine L_no rfl rfl rfl rfl rfl ?_
          refine L_no rfl rfl rfl rfl rfl ?_
          refine L_no rfl rfl rfl rfl rfl ?_
          refine L_run (R_pickF rfl rfl rfl) rfl ?_
          refine L_run (R_move rfl) rfl ?_
          refine L_no rfl rfl rfl rfl rfl ?_
          refine L_no rfl rfl rfl rfl rfl ?_
          refine L_no rfl rfl rfl rfl rfl ?_
          refine L_no rfl rfl rfl rfl rfl ?_
          refine L_run (R_pickF rfl rfl rfl) rfl ?_
          refine L_run (R_move rfl) rfl ?_
          refine L_no rfl rfl rfl rfl rfl ?_
          refine L_no rfl rfl rfl rfl rfl ?_
          refine L_no rfl rfl rfl rfl rfl ?_
          refine L_no rfl rfl rfl rfl rfl ?_
          refine L_no rfl rfl rfl rfl rfl ?_
          refine L_no rfl rfl rfl rfl rfl ?_
          refine L_run (R_pickF rfl rfl rfl) rfl ?_
          refine L_nil (N_then (C_condF rfl rfl (C_skip (N_in (N_then (C_reg rfl ?_))))))
          refine L_run (R_move rfl) rfl ?_
          refine L_run (R_add64 rfl rfl (by omega)) rfl ?_
          refine L_run (R_assign rfl) rfl ?_
          refine L_nil (N_then ?_)
          have hlk : k_ < l.length := by omega
          have eQ := clQ_s (i := i) (ch := (l[i]).chain) (key := (dec (l[i]).data).1.key) hlk
          have hno_ : ¬ qB l i (l[i]).chain ((dec (l[i]).data).1.key) (l[k_]) k_ := fun q_ => by
            obtain ⟨q1, q2, q3, q4, q5, q6, q7, q8⟩ := q_
            first | omega | contradiction | simp_all
          rw [decide_eq_false hno_, Bool.or_false] at eQ
          exact ⟨i - (k_ + 1), by omega, _, (k_ + 1), cb, Ac_frg ⟨rfl, rfl, rfl, rfl, rfl, rfl, (agr rfl (by first | rfl | (congr 1; omega) | (congr 1 <;> omega))), trivial⟩, hB, hS, hD, hoP, hb2, (by rw [eQ]; exact hcb), (by omega), rfl⟩
        ·refine C_exit (X_then (X_then (X_hit (N_then (C_seq (C_reg rfl ?_))))))
         refine L_run (R_move rfl) rfl ?_
         refine L_nil (N_then ?_)
         refine C_cond rfl (fun h15 => ?_) (fun h15 => ?_)
         ·refine C_reg rfl ?_
          refine L_run (R_move rfl) rfl ?_
          refine L_run (R_move rfl) rfl ?_
          refine L_run (R_move rfl) rfl ?_
          have hl9 : i < l.length := by first | omega | (simp; omega)
          refine T_index (xs := l) (i := i) EncRC rfl rfl (by first | rfl | omega) slc56 hl9 hS rfl ?_
          intro g11 o9 ha9
          refine L_run (R_field rfl fld65_2 rfl) rfl ?_
          refine L_run (R_load1 rfl scl3 (ha9 2 _ rfl)) rfl ?_
          refine L_buildSlice (pv := [(0, .int .i64 ((l[i]).lsn))]) (cs := [.int .i64 ((l[i]).lsn)]) slc51 zer3 rfl rfl (by kernel_rfl) rfl ?_
          intro g12 w11 eg3 hb5 hs9 hz5
          have ge3 : w.heap.size ≤ g12 := eg_ge hB eg3
          have lt2 : g2 < g12 := lt_of_eg hb2.lt eg3
          have hap1 : ∀ k_, (Value.slice Aj (clR l i).length cj).ownBlock = some k_ → k_ ≠ g12 := fun k_ hk => by have h_ := (World.ownsRow.lt hoP k_ hk).2; omega
          replace hB := gb_tr hB hs9
          replace hS := hS.gb hs9
          replace hD := hD.gb hs9
          replace hoP := own_gb hoP hs9
          replace hb2 := hb2.gb hs9
          replace ha9 := At.gb ha9 hs9 (by simp)
          refine T_append (xs := clR l i) (ys := [(l[i]).lsn]) EncZ slc51 rfl rfl hoP (Blk.sli (m := 0) hb5) (by simp; omega) (by have := hB.size; omega) rfl ?_
          intro A_1 c_1 w12 ho1 hs10 hat1
          replace hB := gb_tro hB hoP hs10 (Nat.le_refl _)
          replace hS := hS.grown hs10 (fun k hk => .inr (Nat.le_trans (Nat.le_refl _) (World.ownsRow.lt hoP k hk).1))
          replace hD := hD.own hoP (Nat.le_refl _) hs10
          replace hb2 := blk_own hb2 hoP rfl hs10
          refine L_run (R_assign rfl) rfl ?_
          refine L_nil (N_in (N_then (C_reg rfl ?_)))
          refine L_run (R_move rfl) rfl ?_
          refine L_run (R_add64 rfl rfl (by omega)) rfl ?_
          refine L_run (R_assign rfl) rfl ?_
          refine L_nil (N_then ?_)
          have eR := clR_s hli
          have hce : cb = clB l i (l[i]).chain ((dec (l[i]).data).1.key) := by rw [hcb, show k_ = i by omega]; exact clQ_all (by omega)
          rw [if_pos ⟨by omega, by omega, by omega, by omega, by rw [← hce]; exact h15⟩] at eR
          exact ⟨l.length - (i + 1), by omega, _, (i + 1), A_1, c_1, Ac_frg ⟨rfl, (agr rfl (by rw [eR])), (agr rfl (by first | rfl | (congr 1; omega) | (congr 1 <;> omega))), trivial⟩, hB, hS, hD, (by rw [eR]; exact (own_lo ho1 (Nat.le_refl _))), (by omega), rfl⟩
         ·refine C_skip (N_in (N_then (C_reg rfl ?_)))
          refine L_run (R_move rfl) rfl ?_
          refine L_run (R_add64 rfl rfl (by omega)) rfl ?_
          refine L_run (R_assign rfl) rfl ?_
          refine L_nil (N_then ?_)
          have eR := clR_s hli
          have hce : cb = clB l i (l[i]).chain ((dec (l[i]).data).1.key) := by rw [hcb, show k_ = i by omega]; exact clQ_all (by omega)
          rw [if_neg (fun q_ => by
            have h5_ := q_.2.2.2.2
            rw [← hce] at h5_
            simp_all)] at eR
          exact ⟨l.length - (i + 1), by omega, _, (i + 1), Aj, cj, Ac_frg ⟨rfl, (agr rfl (by rw [eR])), (agr rfl (by first | rfl | (congr 1; omega) | (congr 1 <;> omega))), trivial⟩, hB, hS, hD, (by rw [eR]; exact (own_lo hoP (Nat.le_refl _))), (by omega), rfl⟩
  ·refine C_exit (X_then (X_then (X_hit (N_then (C_seq (C_reg rfl ?_))))))
   refine L_run (R_move rfl) rfl ?_
   refine L_run (R_assign rfl) rfl ?_
   refine L_nil (N_then (C_ret ?_))
   refine ret1 Try.results24 rfl ?_
   rw [show i = l.length by omega] at hoP ⊢
   exact ⟨hB, _, _, rfl, (own_lo hoP (Nat.le_refl _))⟩

end Go.Proofs.Ytbmohojdlgedpaa
