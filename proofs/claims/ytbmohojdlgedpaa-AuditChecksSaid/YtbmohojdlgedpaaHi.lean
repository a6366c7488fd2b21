/-
  Contracts of the reference 31: sorted lists of pairs.
-/
import Derived.Test.YtbmohojdlgedpaaHf
namespace Go.Proofs.Ytbmohojdlgedpaa
open Go.RowKit Gw Pl
set_option linter.unusedVariables false
set_option linter.unusedSimpArgs false
theorem cb29 : callB Try.prog 29 = true := by kernel_rfl
theorem fld75_0 : fldB Try.prog 75 0 0 = true := by kernel_rfl
theorem fld75_1 : fldB Try.prog 75 1 1 = true := by kernel_rfl
theorem getK_hit {l : List Kv} {key : ByteArray} {i : Nat} (hi : i < l.length) (h : (l[i]).1 = key) (hv : getK (l.drop i) key = getK l key) : getK l key = some (l[i]).2 := by
  rw [← hv, List.drop_eq_getElem_cons hi]
  unfold getK
  rw [List.find?_cons_of_pos (by simpa using h)]
  rfl
theorem getK_go {l : List Kv} {key : ByteArray} {i : Nat} (hi : i < l.length) (h : ¬ (l[i]).1 = key) (hv : getK (l.drop i) key = getK l key) : getK (l.drop (i + 1)) key = getK l key := by
  rw [← hv, List.drop_eq_getElem_cons hi]
  unfold getK
  rw [List.find?_cons_of_neg (by simpa using h)]
theorem getK_end {l : List Kv} {key : ByteArray} {i : Nat} (hi : l.length ≤ i) (hv : getK (l.drop i) key = getK l key) : getK l key = none := by
  rw [← hv, List.drop_of_length_le hi]; rfl
theorem delK_in {l : List Kv} {key : ByteArray} {i : Nat} (hi : i < l.length) (h : (l[i]).1 ≠ key) : delK (l.take (i + 1)) key = delK (l.take i) key ++ [l[i]] := by
  unfold delK
  rw [List.take_succ_eq_append_getElem hi, List.filter_append, List.filter_cons_of_pos (by simpa using h)]
  rfl
theorem delK_out {l : List Kv} {key : ByteArray} {i : Nat} (hi : i < l.length) (h : ¬ (l[i]).1 ≠ key) : delK (l.take (i + 1)) key = delK (l.take i) key := by
  unfold delK
  rw [List.take_succ_eq_append_getElem hi, List.filter_append, List.filter_cons_of_neg (by simpa using h)]
  simp
theorem delK_all {l : List Kv} {key : ByteArray} {i : Nat} (hi : l.length ≤ i) : delK (l.take i) key = delK l key := by rw [List.take_of_length_le hi]
theorem delK_le2 {l : List Kv} {key : ByteArray} : (delK l key).length ≤ l.length := List.length_filter_le _ _
/-- What the reference's Put goes on to append. -/
def rpGo (k v : ByteArray) : Bool → List Kv → List Kv
  | b, [] => if b = true then [] else [(k, v)]
  | b, p :: r => if b = false ∧ slt k p.1 then (k, v) :: p :: rpGo k v true r else p :: rpGo k v b r
theorem rp_true {k v : ByteArray} : ∀ r : List Kv, rpGo k v true r = r
  | [] => rfl
  | p :: r => by unfold rpGo; rw [if_neg (by simp), rp_true r]
theorem rp_ins {m : List Kv} {k v : ByteArray} {i : Nat} {b : Bool} (hi : i < m.length) (hb : b = false) (h : slt k (m[i]).1) : rpGo k v b (m.drop i) = (k, v) :: m[i] :: rpGo k v true (m.drop (i + 1)) := by
  rw [List.drop_eq_getElem_cons hi]
  show (if b = false ∧ slt k (m[i]).1 then _ else _) = _
  rw [if_pos ⟨hb, h⟩]
theorem rp_go {m : List Kv} {k v : ByteArray} {i : Nat} {b : Bool} (hi : i < m.length) (h : ¬ (b = false ∧ slt k (m[i]).1)) : rpGo k v b (m.drop i) = m[i] :: rpGo k v b (m.drop (i + 1)) := by
  rw [List.drop_eq_getElem_cons hi]
  show (if b = false ∧ slt k (m[i]).1 then _ else _) = _
  rw [if_neg h]
theorem rp_put {m : List Kv} {k v : ByteArray} (h : ∀ p ∈ m, p.1 ≠ k) : rpGo k v false m = putK m k v := by
  induction m with
  | nil => rfl
  | cons p r ih =>
    show (if false = false ∧ slt k p.1 then _ else _) = (if slt p.1 k then _ else _)
    have hne := h p List.mem_cons_self
    by_cases h1 : slt k p.1
    · rw [if_pos ⟨rfl, h1⟩, if_neg (slt_asymm h1), if_neg hne, rp_true]
    · rw [if_neg (fun q => h1 q.2)]
      by_cases h2 : slt p.1 k
      · rw [if_pos h2, ih (fun q hq => h q (List.mem_cons_of_mem _ hq))]
      · exact absurd (slt_tri h2 h1) hne
theorem delK_mem_ne {l : List Kv} {k : ByteArray} : ∀ p ∈ delK l k, p.1 ≠ k := fun p hp => by simpa using (List.mem_filter.1 hp).2
theorem putK_del {l : List Kv} (h : SortK l) {k v : ByteArray} : putK (delK l k) k v = putK l k v := by
  induction l with
  | nil => rfl
  | cons p r ih =>
    have h' := h
    unfold SortK at h
    rw [List.pairwise_cons] at h
    by_cases he : p.1 = k
    · have hd : delK (p :: r) k = r := by
        unfold delK
        rw [List.filter_cons_of_neg (by simpa using he)]
        exact delK_none (fun q hq e => by have := h.1 q hq; rw [e, he] at this; exact slt_irrefl _ this)
      rw [hd]
      show _ = (if slt p.1 k then _ else if p.1 = k then _ else _)
      rw [if_neg (by rw [he]; exact slt_irrefl _), if_pos he]
      cases r with
      | nil => rfl
      | cons q r =>
        have hq := h.1 q List.mem_cons_self
        rw [he] at hq
        show (if slt q.1 k then _ else if q.1 = k then _ else _) = _
        rw [if_neg (slt_asymm hq), if_neg (fun e => by rw [e] at hq; exact slt_irrefl _ hq)]
    · have hd : delK (p :: r) k = p :: delK r k := by unfold delK; rw [List.filter_cons_of_pos (by simpa using he)]
      rw [hd]
      show (if slt p.1 k then _ else if p.1 = k then _ else _) = (if slt p.1 k then _ else if p.1 = k then _ else _)
      by_cases h1 : slt p.1 k
      · rw [if_pos h1, if_pos h1, ih h.2]
      · rw [if_neg h1, if_neg h1, if_neg he, if_neg he]
        have : delK r k = r := delK_none (fun q hq e => h1 (by have := h.1 q hq; rw [e] at this; exact this))
        rw [this]
theorem rp_all {l : List Kv} (h : SortK l) {k v : ByteArray} : rpGo k v false (delK l k) = putK l k v := by rw [rp_put delK_mem_ne, putK_del h]
theorem bcases (b : Bool) : b = false ∨ b = true := by cases b <;> simp
theorem rget_ok {w : World} {t1 lo hi : Nat} {A : Option Addr} {c : Nat} {l : List Kv} {key : ByteArray} (hS : Sli t1 lo hi w A (fl encK l)) (hb : l.length ≤ 1000000) :
    Runs Try.prog 26 #[.slice A l.length c, .string key] w (fun v_ w' => w.grownBy w' none ∧ v_ = .tuple #[.string (gO (getK l key)), .bool (getK l key).isSome]) := by
  have hB := gb_refl w none
  replace hS := hS.top
  refine enter Try.func26 Try.ntmps26 rfl rfl ?_
  refine C_seq (C_reg rfl ?_)
  refine L_run (R_assign rfl) rfl ?_
  refine L_run (R_assign rfl) rfl ?_
  refine L_nil (N_then (C_seq (C_seq (C_reg rfl ?_))))
  refine L_run (R_assign rfl) rfl ?_
  refine L_nil (N_then (C_block ?_))
  refine C_loop (fun m_ a_ w_ => ∃ (σ_ : Nat → Value) (i : Nat), a_ = Ac 25 σ_ [] [(0, .slice A l.length c), (1, .string key), (4, .string (⟨#[]⟩)), (5, .bool false), (6, .int .i64 (i : Int))] ∧ w.grownBy w_ none ∧ Sli t1 lo w.heap.size w_ A (fl encK l) ∧ (getK (l.drop i) key = getK l key) ∧ (i ≤ l.length) ∧ l.length - i = m_) (l.length - 0) ?_ ?_
  · exact ⟨_, 0, Ac_frg ⟨rfl, rfl, rfl, rfl, (agr rfl (by first | rfl | (congr 1; omega) | (congr 1; simp; done) | (congr 1; simp only [IntKind.wrap_u64, IntKind.wrap_i64, IntKind.wrap_u8]; omega) | (congr 1 <;> omega))), trivial⟩, hB, hS, (by rw [List.drop_zero]), (Nat.zero_le _), rfl⟩
  · clear hB
    clear hS
    rintro m_ a_ w1 ⟨σ_, i, rfl, hB, hS, hv, hi_, rfl⟩
    refine C_seq (C_seq (C_reg rfl ?_))
    refine L_run (R_move rfl) rfl ?_
    refine L_run (R_move rfl) rfl ?_
    refine L_run (R_lenSl rfl slc29) rfl ?_
    refine L_run (R_lss rfl rfl) rfl ?_
    refine L_nil (N_then ?_)
    refine C_if rfl (fun h1 => ?_) (fun h1 => ?_)
    · refine C_skip (N_then (C_seq (C_block (C_seq (C_reg rfl ?_)))))
      have hli : i < l.length := by omega
      refine L_run (R_move rfl) rfl ?_
      refine L_run (R_move rfl) rfl ?_
      have hl1 : i < l.length := by first | omega | (simp; omega)
      refine T_index (xs := l) (i := i) EncK rfl rfl (by first | rfl | omega) slc29 hl1 hS rfl ?_
      intro g1 o1 ha1
      refine L_run (R_field rfl fld75_0 rfl) rfl ?_
      refine L_run (R_load1 rfl scl9 (ha1 0 _ rfl)) rfl ?_
      refine L_run (R_move rfl) rfl ?_
      refine L_run (R_eqlS rfl rfl) rfl ?_
      refine L_nil (N_then ?_)
      refine C_if rfl (fun h2 => ?_) (fun h2 => ?_)
      · refine C_seq (C_reg rfl ?_)
        refine L_run (R_move rfl) rfl ?_
        refine L_run (R_move rfl) rfl ?_
        have hl2 : i < l.length := by first | omega | (simp; omega)
        refine T_index (xs := l) (i := i) EncK rfl rfl (by first | rfl | omega) slc29 hl2 hS rfl ?_
        intro g2 o2 ha2
        refine L_run (R_field rfl fld75_1 rfl) rfl ?_
        refine L_run (R_load1 rfl scl9 (ha2 1 _ rfl)) rfl ?_
        refine L_run (R_assign rfl) rfl ?_
        refine L_run (R_assign rfl) rfl ?_
        refine L_nil (N_then (C_ret (R_in (R_then (R_then (R_in (R_then ?_)))))))
        refine ret2 Try.results26 rfl rfl ?_
        have e_ := getK_hit hli h2 hv
        exact ⟨hB, by rw [e_]; rfl⟩
      · refine C_skip (N_in (N_then (C_reg rfl ?_)))
        refine L_run (R_move rfl) rfl ?_
        refine L_run (R_add64 rfl rfl (by omega)) rfl ?_
        refine L_run (R_assign rfl) rfl ?_
        refine L_nil (N_then ?_)
        exact ⟨l.length - (i + 1), by omega, _, (i + 1), Ac_frg ⟨rfl, rfl, rfl, rfl, (agr rfl (by first | rfl | (congr 1; omega) | (congr 1; simp; done) | (congr 1; simp only [IntKind.wrap_u64, IntKind.wrap_i64, IntKind.wrap_u8]; omega) | (congr 1 <;> omega))), trivial⟩, hB, hS, (getK_go hli h2 hv), (by omega), rfl⟩
    · refine C_exit (X_then (X_then (X_hit (N_then (C_seq (C_reg rfl ?_))))))
      refine L_run (R_assign rfl) rfl ?_
      refine L_run (R_assign rfl) rfl ?_
      refine L_nil (N_then (C_ret ?_))
      refine ret2 Try.results26 rfl rfl ?_
      have e_ := getK_end (by omega) hv
      exact ⟨hB, by rw [e_]; rfl⟩

theorem rdel_ok {w : World} {t1 lo hi : Nat} {A : Option Addr} {c : Nat} {l : List Kv} {key : ByteArray} (hS : Sli t1 lo hi w A (fl encK l)) (hb : l.length ≤ 1000000) :
    Runs Try.prog 29 #[.slice A l.length c, .string key] w (fun v_ w' => w.grownBy w' none ∧ ∃ A' c', v_ = .slice A' (delK l key).length c' ∧ World.ownsRow w' w.heap.size 75 2 (.slice A' (delK l key).length c') (delK l key).length (fl encK (delK l key))) := by
  have hB := gb_refl w none
  replace hS := hS.top
  refine enter Try.func29 Try.ntmps29 rfl rfl ?_
  refine C_seq (C_reg rfl ?_)
  refine L_run (R_assign rfl) rfl ?_
  refine L_nil (N_then (C_seq (C_reg rfl ?_)))
  refine L_run (R_assign rfl) rfl ?_
  refine L_nil (N_then (C_seq (C_seq (C_reg rfl ?_))))
  refine L_run (R_assign rfl) rfl ?_
  refine L_nil (N_then (C_block ?_))
  refine C_loop (fun m_ a_ w_ => ∃ (σ_ : Nat → Value) (Aj : Option Addr) (cj : Nat) (i : Nat), a_ = Ac 28 σ_ [] [(0, .slice A l.length c), (1, .string key), (4, .slice none 0 0), (5, .slice Aj ((delK (l.take i) key).length) cj), (6, .int .i64 (i : Int))] ∧ w.grownBy w_ none ∧ Sli t1 lo w.heap.size w_ A (fl encK l) ∧ World.ownsRow w_ w.heap.size 75 2 (.slice Aj (delK (l.take i) key).length cj) (delK (l.take i) key).length (fl encK (delK (l.take i) key)) ∧ (i ≤ l.length) ∧ l.length - i = m_) (l.length - 0) ?_ ?_
  · exact ⟨_, none, 0, 0, Ac_frg ⟨rfl, rfl, rfl, (agr rfl (by first | rfl | (congr 1; omega) | (congr 1; simp; done) | (congr 1; simp only [IntKind.wrap_u64, IntKind.wrap_i64, IntKind.wrap_u8]; omega) | (congr 1 <;> omega))), (agr rfl (by first | rfl | (congr 1; omega) | (congr 1; simp; done) | (congr 1; simp only [IntKind.wrap_u64, IntKind.wrap_i64, IntKind.wrap_u8]; omega) | (congr 1 <;> omega))), trivial⟩, hB, hS, (own_nil _ _ _ _), (Nat.zero_le _), rfl⟩
  · clear hB
    clear hS
    rintro m_ a_ w1 ⟨σ_, Aj, cj, i, rfl, hB, hS, hoP, hi_, rfl⟩
    refine C_seq (C_seq (C_reg rfl ?_))
    refine L_run (R_move rfl) rfl ?_
    refine L_run (R_move rfl) rfl ?_
    refine L_run (R_lenSl rfl slc29) rfl ?_
    refine L_run (R_lss rfl rfl) rfl ?_
    refine L_nil (N_then ?_)
    refine C_if rfl (fun h1 => ?_) (fun h1 => ?_)
    · refine C_skip (N_then (C_seq (C_block (C_seq (C_reg rfl ?_)))))
      have hli : i < l.length := by omega
      refine L_run (R_move rfl) rfl ?_
      refine L_run (R_move rfl) rfl ?_
      have hl1 : i < l.length := by first | omega | (simp; omega)
      refine T_index (xs := l) (i := i) EncK rfl rfl (by first | rfl | omega) slc29 hl1 hS rfl ?_
      intro g1 o1 ha1
      refine L_run (R_field rfl fld75_0 rfl) rfl ?_
      refine L_run (R_load1 rfl scl9 (ha1 0 _ rfl)) rfl ?_
      refine L_run (R_move rfl) rfl ?_
      refine L_run (R_neqS rfl rfl) rfl ?_
      refine L_nil (N_then ?_)
      refine C_if rfl (fun h2 => ?_) (fun h2 => ?_)
      · refine C_reg rfl ?_
        refine L_run (R_move rfl) rfl ?_
        refine L_run (R_move rfl) rfl ?_
        refine L_run (R_move rfl) rfl ?_
        have hl2 : i < l.length := by first | omega | (simp; omega)
        refine T_index (xs := l) (i := i) EncK rfl rfl (by first | rfl | omega) slc29 hl2 hS rfl ?_
        intro g2 o2 ha2
        refine L_run (R_loadA (vs := [.string ((l[i]).1), .string ((l[i]).2)]) rfl agg75 (At.pre ha2 rfl) rfl) rfl ?_
        refine L_buildSlice (pv := [(0, .agg #[.string ((l[i]).1), .string ((l[i]).2)])]) (cs := [.string ((l[i]).1), .string ((l[i]).2)]) slc29 zer75 rfl rfl (by kernel_rfl) rfl ?_
        intro g3 w2 eg1 hb1 hs1 hz1
        have ge1 : w.heap.size ≤ g3 := eg_ge hB eg1
        have hap1 : ∀ k_, (Value.slice Aj (delK (l.take i) key).length cj).ownBlock = some k_ → k_ ≠ g3 := fun k_ hk => by have h_ := (World.ownsRow.lt hoP k_ hk).2; omega
        replace hB := gb_tr hB hs1
        replace hS := hS.gb hs1
        replace hoP := own_gb hoP hs1
        replace ha1 := At.gb ha1 hs1 (by simp)
        replace ha2 := At.gb ha2 hs1 (by simp)
        refine T_append (xs := delK (l.take i) key) (ys := [((l[i]).1, (l[i]).2)]) EncK slc29 rfl rfl hoP (Blk.sli (m := 0) hb1) (by have h_ := delK_le2 (l := l.take i) (key := key); simp only [List.length_take, List.length_cons, List.length_nil] at *; omega) (by have := hB.size; omega) rfl ?_
        intro A_1 c_1 w3 ho1 hs2 hat1
        replace hB := gb_tro hB hoP hs2 (Nat.le_refl _)
        replace hS := hS.grown hs2 (fun k hk => .inr (Nat.le_trans (Nat.le_refl _) (World.ownsRow.lt hoP k hk).1))
        refine L_run (R_assign rfl) rfl ?_
        refine L_nil (N_in (N_then (C_reg rfl ?_)))
        refine L_run (R_move rfl) rfl ?_
        refine L_run (R_add64 rfl rfl (by omega)) rfl ?_
        refine L_run (R_assign rfl) rfl ?_
        refine L_nil (N_then ?_)
        have et_ := delK_in hli h2
        exact ⟨l.length - (i + 1), by omega, _, A_1, c_1, (i + 1), Ac_frg ⟨rfl, rfl, rfl, (agr rfl (by rw [et_])), (agr rfl (by first | rfl | (congr 1; omega) | (congr 1; simp; done) | (congr 1; simp only [IntKind.wrap_u64, IntKind.wrap_i64, IntKind.wrap_u8]; omega) | (congr 1 <;> omega))), trivial⟩, hB, hS, (by rw [et_]; exact (own_lo ho1 (Nat.le_refl _))), (by omega), rfl⟩
      · refine C_skip (N_in (N_then (C_reg rfl ?_)))
        refine L_run (R_move rfl) rfl ?_
        refine L_run (R_add64 rfl rfl (by omega)) rfl ?_
        refine L_run (R_assign rfl) rfl ?_
        refine L_nil (N_then ?_)
        have et_ := delK_out hli h2
        exact ⟨l.length - (i + 1), by omega, _, Aj, cj, (i + 1), Ac_frg ⟨rfl, rfl, rfl, (agr rfl (by rw [et_])), (agr rfl (by first | rfl | (congr 1; omega) | (congr 1; simp; done) | (congr 1; simp only [IntKind.wrap_u64, IntKind.wrap_i64, IntKind.wrap_u8]; omega) | (congr 1 <;> omega))), trivial⟩, hB, hS, (by rw [et_]; exact (own_lo hoP (Nat.le_refl _))), (by omega), rfl⟩
    · refine C_exit (X_then (X_then (X_hit (N_then (C_seq (C_reg rfl ?_))))))
      refine L_run (R_move rfl) rfl ?_
      refine L_run (R_assign rfl) rfl ?_
      refine L_nil (N_then (C_ret ?_))
      refine ret1 Try.results29 rfl ?_
      have et_ := delK_all (l := l) (key := key) (i := i) (by omega)
      exact ⟨hB, _, _, (by rw [et_]), (by have h_ := (own_lo hoP (Nat.le_refl _)); rw [et_] at h_; exact h_)⟩

theorem rput_ok {w : World} {t1 lo hi : Nat} {A : Option Addr} {c : Nat} {l : List Kv} {key x : ByteArray} (hS : Sli t1 lo hi w A (fl encK l)) (hb : l.length ≤ 1000000) (hs : SortK l) :
    Runs Try.prog 28 #[.slice A l.length c, .string key, .string x] w (fun v_ w' => w.grownBy w' none ∧ ∃ A' c', v_ = .slice A' (putK l key x).length c' ∧ World.ownsRow w' w.heap.size 75 2 (.slice A' (putK l key x).length c') (putK l key x).length (fl encK (putK l key x))) := by
  have hB := gb_refl w none
  have hdl := delK_le2 (l := l) (key := key)
  replace hS := hS.top
  refine enter Try.func28 Try.ntmps28 rfl rfl ?_
  refine C_seq (C_reg rfl ?_)
  refine L_run (R_assign rfl) rfl ?_
  refine L_nil (N_then (C_seq (C_reg rfl ?_)))
  refine L_run (R_move rfl) rfl ?_
  refine L_run (R_move rfl) rfl ?_
  have ge1 : w.heap.size ≤ w.heap.size := hB.size
  refine L_call rfl cb29 (rdel_ok (l := l) (key := key) hS (by omega)) rfl ?_
  rintro _ w1 ⟨hs1, A_1, c_1, rfl, ho1⟩
  replace hB := gb_tr hB hs1
  replace hS := hS.gb hs1
  refine L_run (R_assign rfl) rfl ?_
  refine L_nil (N_then (C_seq (C_reg rfl ?_)))
  refine L_run (R_assign rfl) rfl ?_
  refine L_nil (N_then (C_seq (C_reg rfl ?_)))
  refine L_run (R_assign rfl) rfl ?_
  refine L_nil (N_then (C_seq (C_seq (C_reg rfl ?_))))
  refine L_run (R_assign rfl) rfl ?_
  refine L_nil (N_then (C_block ?_))
  have hlz : w.heap.size ≤ w1.heap.size := hB.size
  have hSm : Sli 75 w.heap.size w1.heap.size w1 A_1 (fl encK (delK l key)) := (own_of ho1).2.2
  have hlw : w1.heap.size ≤ w1.heap.size := Nat.le_refl _
  refine C_loop (fun m_ a_ w_ => ∃ (σ_ : Nat → Value) (i : Nat) (pb : Bool) (acc : List Kv) (Aj : Option Addr) (cj : Nat), a_ = Ac 52 σ_ [] [(0, .slice A_1 ((delK l key).length) c_1), (1, .string key), (2, .string x), (6, .slice none 0 0), (7, .slice Aj acc.length cj), (8, .bool pb), (9, .int .i64 (i : Int))] ∧ w.grownBy w_ none ∧ Sli t1 lo w.heap.size w_ A (fl encK l) ∧ Sli 75 w.heap.size w1.heap.size w_ A_1 (fl encK (delK l key)) ∧ w1.heap.size ≤ w_.heap.size ∧ World.ownsRow w_ w1.heap.size 75 2 (.slice Aj acc.length cj) acc.length (fl encK acc) ∧ (acc ++ rpGo key x pb ((delK l key).drop i) = rpGo key x false (delK l key)) ∧ (i ≤ (delK l key).length) ∧ (acc.length ≤ 2 * i) ∧ (delK l key).length - i = m_) ((delK l key).length - 0) ?_ ?_
  · exact ⟨_, 0, false, [], none, 0, Ac_frg ⟨rfl, rfl, rfl, rfl, (agr rfl (by first | rfl | (congr 1; omega) | (congr 1; simp; done) | (congr 1; simp only [IntKind.wrap_u64, IntKind.wrap_i64, IntKind.wrap_u8]; omega) | (congr 1 <;> omega))), rfl, (agr rfl (by first | rfl | (congr 1; omega) | (congr 1; simp; done) | (congr 1; simp only [IntKind.wrap_u64, IntKind.wrap_i64, IntKind.wrap_u8]; omega) | (congr 1 <;> omega))), trivial⟩, hB, hS, hSm, hlw, (own_nil _ _ _ _), (by rw [List.drop_zero]; rfl), (Nat.zero_le _), (Nat.zero_le _), rfl⟩
  · clear hB
    clear hS hSm hlw
    rintro m_ a_ w2 ⟨σ_, i, pb, acc, Aj, cj, rfl, hB, hS, hSm, hlw, hoP, hinv, hi_, hal, rfl⟩
    rcases bcases pb with rfl | rfl
    · refine C_seq (C_seq (C_reg rfl ?_))
      refine L_run (R_move rfl) rfl ?_
      refine L_run (R_move rfl) rfl ?_
      refine L_run (R_lenSl rfl slc29) rfl ?_
      refine L_run (R_lss rfl rfl) rfl ?_
      refine L_nil (N_then ?_)
      refine C_if rfl (fun h1 => ?_) (fun h1 => ?_)
      · refine C_skip (N_then (C_seq (C_block (C_seq (C_seq (C_reg rfl ?_))))))
        have hli : i < (delK l key).length := by omega
        refine L_run (R_move rfl) rfl ?_
        refine L_run (R_not rfl) rfl ?_
        refine L_run (R_move rfl) rfl ?_
        refine L_yes rfl rfl rfl rfl ?_
        refine L_run (R_move rfl) rfl ?_
        refine L_yes rfl rfl rfl rfl ?_
        refine L_run (R_move rfl) rfl ?_
        refine L_yes rfl rfl rfl rfl ?_
        have hl1 : i < (delK l key).length := by first | omega | (simp; omega)
        refine T_index (xs := (delK l key)) (i := i) EncK rfl rfl (by first | rfl | omega) slc29 hl1 hSm rfl ?_
        intro g1 o1 ha1
        refine L_yes rfl rfl rfl rfl ?_
        refine L_run (R_field rfl fld75_0 rfl) rfl ?_
        refine L_yes rfl rfl rfl rfl ?_
        refine L_run (R_load1 rfl scl9 (ha1 0 _ rfl)) rfl ?_
        refine L_yes rfl rfl rfl rfl ?_
        refine L_run (R_move rfl) rfl ?_
        refine L_yes rfl rfl rfl rfl ?_
        refine L_run (R_gtrS rfl rfl) rfl ?_
        refine L_run (R_pickT rfl rfl rfl) rfl ?_
        refine L_nil (N_then ?_)
        refine C_if rfl (fun h2 => ?_) (fun h2 => ?_)
        · refine C_seq (C_reg rfl ?_)
          refine L_run (R_move rfl) rfl ?_
          refine L_run (R_move rfl) rfl ?_
          refine L_run (R_move rfl) rfl ?_
          refine L_run (R_build (pv := [(0, .string key), (1, .string x)]) (cs := [.string key, .string x]) rfl (by kernel_rfl)) rfl ?_
          refine L_buildSlice (pv := [(0, .agg #[.string key, .string x])]) (cs := [.string key, .string x]) slc29 zer75 rfl rfl (by kernel_rfl) rfl ?_
          intro g2 w3 eg1 hb1 hs2 hz1
          have ge2 : w.heap.size ≤ g2 := eg_ge hB eg1
          have hap1 : ∀ k_, (Value.slice Aj acc.length cj).ownBlock = some k_ → k_ ≠ g2 := fun k_ hk => by have h_ := (World.ownsRow.lt hoP k_ hk).2; omega
          replace hB := gb_tr hB hs2
          replace hS := hS.gb hs2
          replace hSm := hSm.gb hs2
          replace hlw := Nat.le_trans hlw hs2.size
          replace hoP := own_gb hoP hs2
          replace ha1 := At.gb ha1 hs2 (by simp)
          refine T_append (xs := acc) (ys := [(key, x)]) EncK slc29 rfl rfl hoP (Blk.sli (m := 0) hb1) (by simp; omega) hlw rfl ?_
          intro A_2 c_2 w4 ho2 hs3 hat1
          replace hB := gb_tro hB hoP hs3 hlz
          replace hS := hS.grown hs3 (fun k hk => .inr (Nat.le_trans hlz (World.ownsRow.lt hoP k hk).1))
          replace hSm := hSm.grown hs3 (fun k hk => .inr (World.ownsRow.lt hoP k hk).1)
          replace hlw := Nat.le_trans hlw hs3.size
          refine L_run (R_assign rfl) rfl ?_
          refine L_nil (N_then (C_reg rfl ?_))
          refine L_run (R_assign rfl) rfl ?_
          refine L_nil (N_then (C_reg rfl ?_))
          refine L_run (R_move rfl) rfl ?_
          refine L_run (R_move rfl) rfl ?_
          refine L_run (R_move rfl) rfl ?_
          have hl2 : i < (delK l key).length := by first | omega | (simp; omega)
          refine T_index (xs := (delK l key)) (i := i) EncK rfl rfl (by first | rfl | omega) slc29 hl2 hSm rfl ?_
          intro g3 o2 ha2
          refine L_run (R_loadA (vs := [.string (((delK l key)[i]).1), .string (((delK l key)[i]).2)]) rfl agg75 (At.pre ha2 rfl) rfl) rfl ?_
          refine L_buildSlice (pv := [(0, .agg #[.string (((delK l key)[i]).1), .string (((delK l key)[i]).2)])]) (cs := [.string (((delK l key)[i]).1), .string (((delK l key)[i]).2)]) slc29 zer75 rfl rfl (by kernel_rfl) rfl ?_
          intro g4 w5 eg2 hb2 hs4 hz2
          have ge3 : w.heap.size ≤ g4 := eg_ge hB eg2
          have hap2 : ∀ k_, (Value.slice A_2 (acc ++ ([(key, x)])).length c_2).ownBlock = some k_ → k_ ≠ g4 := fun k_ hk => by have h_ := (World.ownsRow.lt ho2 k_ hk).2; omega
          replace hB := gb_tr hB hs4
          replace hS := hS.gb hs4
          replace hSm := hSm.gb hs4
          replace hlw := Nat.le_trans hlw hs4.size
          replace ho2 := own_gb ho2 hs4
          replace ha2 := At.gb ha2 hs4 (by simp)
          refine T_append (xs := acc ++ ([(key, x)])) (ys := [(((delK l key)[i]).1, ((delK l key)[i]).2)]) EncK slc29 rfl rfl ho2 (Blk.sli (m := 0) hb2) (by simp; omega) hlw rfl ?_
          intro A_3 c_3 w6 ho3 hs5 hat2
          replace hB := gb_tro hB ho2 hs5 hlz
          replace hS := hS.grown hs5 (fun k hk => .inr (Nat.le_trans hlz (World.ownsRow.lt ho2 k hk).1))
          replace hSm := hSm.grown hs5 (fun k hk => .inr (World.ownsRow.lt ho2 k hk).1)
          replace hlw := Nat.le_trans hlw hs5.size
          refine L_run (R_assign rfl) rfl ?_
          refine L_nil (N_in (N_then (C_reg rfl ?_)))
          refine L_run (R_move rfl) rfl ?_
          refine L_run (R_add64 rfl rfl (by omega)) rfl ?_
          refine L_run (R_assign rfl) rfl ?_
          refine L_nil (N_then ?_)
          exact ⟨(delK l key).length - (i + 1), by omega, _, (i + 1), true, (acc ++ ([(key, x)])) ++ ([(((delK l key)[i]).1, ((delK l key)[i]).2)]), A_3, c_3, Ac_frg ⟨rfl, rfl, rfl, rfl, rfl, rfl, (agr rfl (by first | rfl | (congr 1; omega) | (congr 1; simp; done) | (congr 1; simp only [IntKind.wrap_u64, IntKind.wrap_i64, IntKind.wrap_u8]; omega) | (congr 1 <;> omega))), trivial⟩, hB, hS, hSm, hlw, (own_lo ho3 (Nat.le_refl _)), (by rw [← hinv, rp_ins hli rfl h2]; simp), (by omega), (by simp; omega), rfl⟩
        · refine C_skip (N_then (C_reg rfl ?_))
          refine L_run (R_move rfl) rfl ?_
          refine L_run (R_move rfl) rfl ?_
          refine L_run (R_move rfl) rfl ?_
          have hl3 : i < (delK l key).length := by first | omega | (simp; omega)
          refine T_index (xs := (delK l key)) (i := i) EncK rfl rfl (by first | rfl | omega) slc29 hl3 hSm rfl ?_
          intro g5 o3 ha3
          refine L_run (R_loadA (vs := [.string (((delK l key)[i]).1), .string (((delK l key)[i]).2)]) rfl agg75 (At.pre ha3 rfl) rfl) rfl ?_
          refine L_buildSlice (pv := [(0, .agg #[.string (((delK l key)[i]).1), .string (((delK l key)[i]).2)])]) (cs := [.string (((delK l key)[i]).1), .string (((delK l key)[i]).2)]) slc29 zer75 rfl rfl (by kernel_rfl) rfl ?_
          intro g6 w7 eg3 hb3 hs6 hz3
          have ge4 : w.heap.size ≤ g6 := eg_ge hB eg3
          have hap3 : ∀ k_, (Value.slice Aj acc.length cj).ownBlock = some k_ → k_ ≠ g6 := fun k_ hk => by have h_ := (World.ownsRow.lt hoP k_ hk).2; omega
          replace hB := gb_tr hB hs6
          replace hS := hS.gb hs6
          replace hSm := hSm.gb hs6
          replace hlw := Nat.le_trans hlw hs6.size
          replace hoP := own_gb hoP hs6
          replace ha1 := At.gb ha1 hs6 (by simp)
          replace ha3 := At.gb ha3 hs6 (by simp)
          refine T_append (xs := acc) (ys := [(((delK l key)[i]).1, ((delK l key)[i]).2)]) EncK slc29 rfl rfl hoP (Blk.sli (m := 0) hb3) (by simp; omega) hlw rfl ?_
          intro A_4 c_4 w8 ho4 hs7 hat3
          replace hB := gb_tro hB hoP hs7 hlz
          replace hS := hS.grown hs7 (fun k hk => .inr (Nat.le_trans hlz (World.ownsRow.lt hoP k hk).1))
          replace hSm := hSm.grown hs7 (fun k hk => .inr (World.ownsRow.lt hoP k hk).1)
          replace hlw := Nat.le_trans hlw hs7.size
          refine L_run (R_assign rfl) rfl ?_
          refine L_nil (N_in (N_then (C_reg rfl ?_)))
          refine L_run (R_move rfl) rfl ?_
          refine L_run (R_add64 rfl rfl (by omega)) rfl ?_
          refine L_run (R_assign rfl) rfl ?_
          refine L_nil (N_then ?_)
          exact ⟨(delK l key).length - (i + 1), by omega, _, (i + 1), false, acc ++ ([(((delK l key)[i]).1, ((delK l key)[i]).2)]), A_4, c_4, Ac_frg ⟨rfl, rfl, rfl, rfl, rfl, rfl, (agr rfl (by first | rfl | (congr 1; omega) | (congr 1; simp; done) | (congr 1; simp only [IntKind.wrap_u64, IntKind.wrap_i64, IntKind.wrap_u8]; omega) | (congr 1 <;> omega))), trivial⟩, hB, hS, hSm, hlw, (own_lo ho4 (Nat.le_refl _)), (by rw [← hinv, rp_go hli (fun x_ => h2 x_.2)]; simp), (by omega), (by simp; omega), rfl⟩
      · refine C_exit (X_then (X_then (X_hit (N_then (C_seq (C_seq (C_reg rfl ?_)))))))
        refine L_run (R_move rfl) rfl ?_
        refine L_run (R_not rfl) rfl ?_
        refine L_nil (N_then (C_condT rfl rfl (C_reg rfl ?_)))
        refine L_run (R_move rfl) rfl ?_
        refine L_run (R_move rfl) rfl ?_
        refine L_run (R_move rfl) rfl ?_
        refine L_run (R_build (pv := [(0, .string key), (1, .string x)]) (cs := [.string key, .string x]) rfl (by kernel_rfl)) rfl ?_
        refine L_buildSlice (pv := [(0, .agg #[.string key, .string x])]) (cs := [.string key, .string x]) slc29 zer75 rfl rfl (by kernel_rfl) rfl ?_
        intro g7 w9 eg4 hb4 hs8 hz4
        have ge5 : w.heap.size ≤ g7 := eg_ge hB eg4
        have hap4 : ∀ k_, (Value.slice Aj acc.length cj).ownBlock = some k_ → k_ ≠ g7 := fun k_ hk => by have h_ := (World.ownsRow.lt hoP k_ hk).2; omega
        replace hB := gb_tr hB hs8
        replace hS := hS.gb hs8
        replace hSm := hSm.gb hs8
        replace hlw := Nat.le_trans hlw hs8.size
        replace hoP := own_gb hoP hs8
        refine T_append (xs := acc) (ys := [(key, x)]) EncK slc29 rfl rfl hoP (Blk.sli (m := 0) hb4) (by simp; omega) hlw rfl ?_
        intro A_5 c_5 w10 ho5 hs9 hat4
        replace hB := gb_tro hB hoP hs9 hlz
        replace hS := hS.grown hs9 (fun k hk => .inr (Nat.le_trans hlz (World.ownsRow.lt hoP k hk).1))
        replace hSm := hSm.grown hs9 (fun k hk => .inr (World.ownsRow.lt hoP k hk).1)
        replace hlw := Nat.le_trans hlw hs9.size
        refine L_run (R_assign rfl) rfl ?_
        refine L_nil (N_then (C_seq (C_reg rfl ?_)))
        refine L_run (R_move rfl) rfl ?_
        refine L_run (R_assign rfl) rfl ?_
        refine L_nil (N_then (C_ret ?_))
        refine ret1 Try.results28 rfl ?_
        have et_ : acc ++ ([(key, x)]) = putK l key x := by
          rw [← rp_all hs, ← hinv, List.drop_of_length_le (by omega)]
          simp_all [rpGo]
        rw [← et_]; exact ⟨hB, _, _, rfl, (own_lo ho5 hlz)⟩
    · refine C_seq (C_seq (C_reg rfl ?_))
      refine L_run (R_move rfl) rfl ?_
      refine L_run (R_move rfl) rfl ?_
      refine L_run (R_lenSl rfl slc29) rfl ?_
      refine L_run (R_lss rfl rfl) rfl ?_
      refine L_nil (N_then ?_)
      refine C_if rfl (fun h3 => ?_) (fun h3 => ?_)
      · refine C_skip (N_then (C_seq (C_block (C_seq (C_seq (C_reg rfl ?_))))))
        have hli : i < (delK l key).length := by omega
        refine L_run (R_move rfl) rfl ?_
        refine L_run (R_not rfl) rfl ?_
        refine L_run (R_move rfl) rfl ?_
        refine L_no rfl rfl rfl rfl rfl ?_
        refine L_no rfl rfl rfl rfl rfl ?_
        refine L_no rfl rfl rfl rfl rfl ?_
        refine L_no rfl rfl rfl rfl rfl ?_
        refine L_no rfl rfl rfl rfl rfl ?_
        refine L_no rfl rfl rfl rfl rfl ?_
        refine L_no rfl rfl rfl rfl rfl ?_
        refine L_run (R_pickF rfl rfl rfl) rfl ?_
        refine L_nil (N_then (C_condF rfl rfl (C_skip (N_then (C_reg rfl ?_)))))
        refine L_run (R_move rfl) rfl ?_
        refine L_run (R_move rfl) rfl ?_
        refine L_run (R_move rfl) rfl ?_
        have hl4 : i < (delK l key).length := by first | omega | (simp; omega)
        refine T_index (xs := (delK l key)) (i := i) EncK rfl rfl (by first | rfl | omega) slc29 hl4 hSm rfl ?_
        intro g8 o4 ha4
        refine L_run (R_loadA (vs := [.string (((delK l key)[i]).1), .string (((delK l key)[i]).2)]) rfl agg75 (At.pre ha4 rfl) rfl) rfl ?_
        refine L_buildSlice (pv := [(0, .agg #[.string (((delK l key)[i]).1), .string (((delK l key)[i]).2)])]) (cs := [.string (((delK l key)[i]).1), .string (((delK l key)[i]).2)]) slc29 zer75 rfl rfl (by kernel_rfl) rfl ?_
        intro g9 w11 eg5 hb5 hs10 hz5
        have ge6 : w.heap.size ≤ g9 := eg_ge hB eg5
        have hap5 : ∀ k_, (Value.slice Aj acc.length cj).ownBlock = some k_ → k_ ≠ g9 := fun k_ hk => by have h_ := (World.ownsRow.lt hoP k_ hk).2; omega
        replace hB := gb_tr hB hs10
        replace hS := hS.gb hs10
        replace hSm := hSm.gb hs10
        replace hlw := Nat.le_trans hlw hs10.size
        replace hoP := own_gb hoP hs10
        replace ha4 := At.gb ha4 hs10 (by simp)
        refine T_append (xs := acc) (ys := [(((delK l key)[i]).1, ((delK l key)[i]).2)]) EncK slc29 rfl rfl hoP (Blk.sli (m := 0) hb5) (by simp; omega) hlw rfl ?_
        intro A_6 c_6 w12 ho6 hs11 hat5
        replace hB := gb_tro hB hoP hs11 hlz
        replace hS := hS.grown hs11 (fun k hk => .inr (Nat.le_trans hlz (World.ownsRow.lt hoP k hk).1))
        replace hSm := hSm.grown hs11 (fun k hk => .inr (World.ownsRow.lt hoP k hk).1)
        replace hlw := Nat.le_trans hlw hs11.size
        refine L_run (R_assign rfl) rfl ?_
        refine L_nil (N_in (N_then (C_reg rfl ?_)))
        refine L_run (R_move rfl) rfl ?_
        refine L_run (R_add64 rfl rfl (by omega)) rfl ?_
        refine L_run (R_assign rfl) rfl ?_
        refine L_nil (N_then ?_)
        exact ⟨(delK l key).length - (i + 1), by omega, _, (i + 1), true, acc ++ ([(((delK l key)[i]).1, ((delK l key)[i]).2)]), A_6, c_6, Ac_frg ⟨rfl, rfl, rfl, rfl, rfl, rfl, (agr rfl (by first | rfl | (congr 1; omega) | (congr 1; simp; done) | (congr 1; simp only [IntKind.wrap_u64, IntKind.wrap_i64, IntKind.wrap_u8]; omega) | (congr 1 <;> omega))), trivial⟩, hB, hS, hSm, hlw, (own_lo ho6 (Nat.le_refl _)), (by rw [← hinv, rp_go hli (fun x_ => by cases x_.1)]; simp), (by omega), (by simp; omega), rfl⟩
      · refine C_exit (X_then (X_then (X_hit (N_then (C_seq (C_seq (C_reg rfl ?_)))))))
        refine L_run (R_move rfl) rfl ?_
        refine L_run (R_not rfl) rfl ?_
        refine L_nil (N_then (C_condF rfl rfl (C_skip (N_then (C_seq (C_reg rfl ?_))))))
        refine L_run (R_move rfl) rfl ?_
        refine L_run (R_assign rfl) rfl ?_
        refine L_nil (N_then (C_ret ?_))
        refine ret1 Try.results28 rfl ?_
        have et_ : acc = putK l key x := by
          rw [← rp_all hs, ← hinv, List.drop_of_length_le (by omega)]
          simp_all [rpGo]
        rw [← et_]; exact ⟨hB, _, _, rfl, (own_lo hoP hlz)⟩

end Go.Proofs.Ytbmohojdlgedpaa
