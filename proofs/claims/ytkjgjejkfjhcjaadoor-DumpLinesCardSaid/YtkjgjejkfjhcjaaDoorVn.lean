/-
  Plain mathematics: numbers in decimal digits, names of files.
-/
import Derived.Test.YtkjgjejkfjhcjaaDoorVr
namespace Go.Proofs.YtkjgjejkfjhcjaaDoor.Pl
set_option linter.unusedVariables false
/-- a number's digits -/
def dig (u : Nat) : List UInt8 := if u < 10 then [UInt8.ofNat (48 + u)] else dig (u / 10) ++ [UInt8.ofNat (48 + u % 10)]
termination_by u
decreasing_by omega
theorem dig_lt {u : Nat} (h : u < 10) : dig u = [UInt8.ofNat (48 + u)] := by rw [dig, if_pos h]
theorem dig_ge {u : Nat} (h : 10 ≤ u) : dig u = dig (u / 10) ++ [UInt8.ofNat (48 + u % 10)] := by rw [dig, if_neg (by omega)]
theorem dig_pos (u : Nat) : 0 < (dig u).length := by
  by_cases h : u < 10
  · rw [dig_lt h]; simp
  · rw [dig_ge (by omega)]; simp
theorem dig_len : ∀ (k u : Nat), u < 10 ^ k → 0 < k → (dig u).length ≤ k
  | 0, _, _, h => by omega
  | k + 1, u, hu, _ => by
    by_cases h : u < 10
    · rw [dig_lt h]; simp
    · rw [dig_ge (by omega), List.length_append, List.length_singleton]
      have hk : 0 < k := by
        rcases Nat.eq_zero_or_pos k with h0 | h0
        · subst h0; simp at hu; omega
        · exact h0
      have := dig_len k (u / 10) (by rw [Nat.pow_succ] at hu; omega) hk
      omega
def digI (n : Int) : List UInt8 := if n < 0 then 45 :: dig n.natAbs else dig n.natAbs
theorem digI_len {n : Int} (h : -9223372036854775808 ≤ n ∧ n ≤ 9223372036854775807) : (digI n).length ≤ 20 := by
  have := dig_len 19 n.natAbs (by omega) (by omega)
  unfold digI
  split <;> simp <;> omega
theorem set_drop {bs : List UInt8} {i : Nat} (b : UInt8) (h : i < bs.length) : (bs.set i b).drop i = b :: bs.drop (i + 1) := by
  rw [List.drop_eq_getElem_cons (by rw [List.length_set]; exact h), List.getElem_set_self, List.drop_set_of_lt (by omega)]
theorem dig_fin {bs D : List UInt8} {u k : Nat} (hl : bs.length = 20) (hd : dig u ++ bs.drop k = D) (hu : u / 10 = 0) (h1 : 1 ≤ k) (h2 : k ≤ 20) : (bs.set (k - 1) (UInt8.ofNat (48 + u % 10))).drop (k - 1) = D := by
  rw [set_drop _ (by omega), ← hd, dig_lt (by omega), show k - 1 + 1 = k by omega, show u % 10 = u by omega]
  rfl
theorem dig_next {bs D : List UInt8} {u k : Nat} (hl : bs.length = 20) (hd : dig u ++ bs.drop k = D) (hu : u / 10 ≠ 0) (h1 : 1 ≤ k) (h2 : k ≤ 20) : dig (u / 10) ++ (bs.set (k - 1) (UInt8.ofNat (48 + u % 10))).drop (k - 1) = D := by
  rw [set_drop _ (by omega), ← hd, dig_ge (u := u) (by omega), show k - 1 + 1 = k by omega]
  simp
theorem dig_cut {bs D : List UInt8} {u k : Nat} (hl : bs.length = 20) (hd : dig u ++ bs.drop k = D) (hD : D.length ≤ 19) : 2 ≤ k := by
  have h1 := congrArg List.length hd
  have h2 := dig_pos u
  rw [List.length_append, List.length_drop] at h1
  omega
/-- the value of digits -/
def isd (c : UInt8) : Prop := 48 ≤ c.toNat ∧ c.toNat ≤ 57
instance (c : UInt8) : Decidable (isd c) := by unfold isd; infer_instance
def dval (cs : List UInt8) : Nat := cs.foldl (fun n c => 10 * n + (c.toNat - 48)) 0
theorem dval_snoc (cs : List UInt8) (c : UInt8) : dval (cs ++ [c]) = 10 * dval cs + (c.toNat - 48) := by simp [dval]
theorem d48 {q : Nat} (h : q < 10) : (UInt8.ofNat (48 + q)).toNat = 48 + q := by rw [UInt8.toNat_ofNat']; omega
theorem dval_dig : ∀ (f u : Nat), u ≤ f → dval (dig u) = u ∧ ∀ c ∈ dig u, isd c := by
  intro f
  induction f with
  | zero =>
    intro u h
    obtain rfl : u = 0 := by omega
    rw [dig_lt (by omega)]
    refine ⟨by simp [dval], fun c hc => ?_⟩
    rw [List.mem_singleton.1 hc]
    unfold isd
    rw [d48 (by omega)]
    omega
  | succ f ih =>
    intro u h
    by_cases hu : u < 10
    · rw [dig_lt hu]
      refine ⟨by simp only [dval, List.foldl_cons, List.foldl_nil, d48 hu]; omega, fun c hc => ?_⟩
      rw [List.mem_singleton.1 hc]
      unfold isd
      rw [d48 hu]
      omega
    · obtain ⟨h1, h2⟩ := ih (u / 10) (by omega)
      rw [dig_ge (by omega)]
      refine ⟨by rw [dval_snoc, h1, d48 (by omega)]; omega, fun c hc => ?_⟩
      rcases List.mem_append.1 hc with hc | hc
      · exact h2 c hc
      · rw [List.mem_singleton.1 hc]
        unfold isd
        rw [d48 (by omega)]
        omega
theorem dval_d (u : Nat) : dval (dig u) = u := (dval_dig u u (Nat.le_refl _)).1
theorem isd_d (u : Nat) : ∀ c ∈ dig u, isd c := (dval_dig u u (Nat.le_refl _)).2
theorem dval_lt : ∀ (k : Nat) (cs : List UInt8), (∀ c ∈ cs, isd c) → cs.length ≤ k → dval cs < 10 ^ k := by
  intro k
  induction k with
  | zero =>
    intro cs _ hl
    have : cs = [] := List.eq_nil_of_length_eq_zero (by omega)
    subst this
    simp [dval]
  | succ k ih =>
    intro cs hc hl
    rcases List.eq_nil_or_concat cs with rfl | ⟨r, c, rfl⟩
    · simp [dval]; exact Nat.pow_pos (by omega)
    · rw [List.concat_eq_append] at hc hl ⊢
      rw [List.length_append, List.length_singleton] at hl
      have h1 := ih r (fun x hx => hc x (List.mem_append_left _ hx)) (by omega)
      have h2 := hc c (List.mem_append_right _ (List.mem_singleton.2 rfl))
      unfold isd at h2
      rw [dval_snoc, Nat.pow_succ]
      omega
/-- the number that digits are, or -1 -/
def nnum (cs : List UInt8) : Int := if cs ≠ [] ∧ (∀ c ∈ cs, isd c) ∧ cs.length ≤ 10 ∧ dig (dval cs) = cs then (dval cs : Int) else -1
def walp : List UInt8 := [119, 97, 108, 45]
def freep : List UInt8 := [102, 114, 101, 101, 45]
def wname (n : Int) : List UInt8 := if 1 ≤ n ∧ n ≤ 2147483647 then walp ++ digI n else []
def pname (n : Int) : List UInt8 := if 0 ≤ n ∧ n ≤ 2 then freep ++ digI n else []
/-- what a text is: 1 and the number of a segment, 2 and the number of a free one, or 0 -/
def nparse (cs : List UInt8) : Int × Int :=
  if cs.take 4 = walp ∧ 0 < nnum (cs.drop 4) ∧ wname (nnum (cs.drop 4)) = cs then (1, nnum (cs.drop 4))
  else if cs.take 5 = freep ∧ 0 ≤ nnum (cs.drop 5) ∧ pname (nnum (cs.drop 5)) = cs then (2, nnum (cs.drop 5))
  else (0, 0)
theorem nnum_dig {u : Nat} (h : u < 10000000000) : nnum (dig u) = u := by
  unfold nnum
  rw [dval_d, if_pos ⟨fun e => by have := dig_pos u; rw [e] at this; simp at this, isd_d u, dig_len 10 u h (by omega), rfl⟩]
theorem digI_nat (u : Nat) : digI (u : Int) = dig u := by unfold digI; rw [if_neg (by omega)]; rfl
theorem nparse_w {n : Int} (h : 1 ≤ n ∧ n ≤ 2147483647) : nparse (wname n) = (1, n) := by
  obtain ⟨u, rfl⟩ : ∃ u : Nat, n = u := ⟨n.toNat, by omega⟩
  have e : wname (u : Int) = walp ++ dig u := by unfold wname; rw [if_pos h, digI_nat]
  have e4 : (walp ++ dig u).drop 4 = dig u := List.drop_left' rfl
  have e5 : (walp ++ dig u).take 4 = walp := List.take_left' rfl
  unfold nparse
  rw [e, e4, e5, nnum_dig (by omega), e, if_pos ⟨rfl, by omega, rfl⟩]
theorem nparse_p {n : Int} (h : 0 ≤ n ∧ n ≤ 2) : nparse (pname n) = (2, n) := by
  obtain ⟨u, rfl⟩ : ∃ u : Nat, n = u := ⟨n.toNat, by omega⟩
  have e : pname (u : Int) = freep ++ dig u := by unfold pname; rw [if_pos h, digI_nat]
  have e4 : (freep ++ dig u).drop 5 = dig u := List.drop_left' rfl
  have e5 : (freep ++ dig u).take 5 = freep := List.take_left' rfl
  unfold nparse
  rw [if_neg (fun hh => by
    have := hh.1
    rw [e] at this
    simp [freep, walp] at this), e, e4, e5, nnum_dig (by omega), e, if_pos ⟨rfl, by omega, rfl⟩]
theorem nparse_0 {cs : List UInt8} (hw : ∀ n, 1 ≤ n ∧ n ≤ 2147483647 → wname n ≠ cs) (hp : ∀ n, 0 ≤ n ∧ n ≤ 2 → pname n ≠ cs) : nparse cs = (0, 0) := by
  unfold nparse
  rw [if_neg (fun h => ?_), if_neg (fun h => ?_)]
  · by_cases h1 : 0 ≤ nnum (cs.drop 5) ∧ nnum (cs.drop 5) ≤ 2
    · exact hp _ h1 h.2.2
    · have := h.2.2
      unfold pname at this
      rw [if_neg h1] at this
      rw [← this] at h
      simp [freep] at h
  · by_cases h1 : 1 ≤ nnum (cs.drop 4) ∧ nnum (cs.drop 4) ≤ 2147483647
    · exact hw _ h1 h.2.2
    · have := h.2.2
      unfold wname at this
      rw [if_neg h1] at this
      rw [← this] at h
      simp [walp] at h
section
variable {cs : List UInt8} {k : Nat} {n : Int}
theorem pre_iff {ps : List UInt8} (h : ps.length ≤ cs.length) : cs.take ps.length = ps ↔ cs.take ps.length = ps := Iff.rfl
theorem pre_le {ps : List UInt8} (h : cs.take ps.length = ps) : ps.length ≤ cs.length := by
  have := congrArg List.length h
  rw [List.length_take] at this
  omega
theorem isd_take (h : ∀ c ∈ cs.take k, isd c) (hk : k < cs.length) (h1 : ¬ ((cs[k].toNat : Int) - 48 < 0)) (h2 : ¬ (9 < (cs[k].toNat : Int) - 48)) : ∀ c ∈ cs.take (k + 1), isd c := by
  intro c hm
  rw [List.take_succ_eq_append_getElem hk] at hm
  rcases List.mem_append.1 hm with hm | hm
  · exact h c hm
  · rw [List.mem_singleton.1 hm]; unfold isd; omega
theorem dval_step (hk : k < cs.length) (h1 : ¬ ((cs[k].toNat : Int) - 48 < 0)) : (10 * (dval (cs.take k) : Int)) + ((cs[k].toNat : Int) - 48) = (dval (cs.take (k + 1)) : Int) := by
  rw [List.take_succ_eq_append_getElem hk, dval_snoc]
  omega
theorem nnum_bound (cs : List UInt8) : -1 ≤ nnum cs ∧ nnum cs < 10000000000 := by
  unfold nnum
  split
  · rename_i h
    have := dval_lt 10 cs h.2.1 h.2.2.1
    omega
  · omega
theorem nnum_bad1 (hk : k < cs.length) (h : (cs[k].toNat : Int) - 48 < 0 ∨ 9 < (cs[k].toNat : Int) - 48) : nnum cs = -1 := by
  unfold nnum
  rw [if_neg (fun hh => ?_)]
  have := hh.2.1 _ (List.getElem_mem hk)
  unfold isd at this
  omega
theorem nnum_bad2 (hk : k < cs.length) (h : 9 < (k : Int)) : nnum cs = -1 := by
  unfold nnum
  rw [if_neg (fun hh => ?_)]
  have := hh.2.2.1
  omega
theorem nnum_nil (h : cs = []) : nnum cs = -1 := by subst h; rfl
theorem nnum_ne (h : ¬ digI (dval cs : Int) = cs) : nnum cs = -1 := by
  unfold nnum
  rw [if_neg (fun hh => ?_)]
  rw [digI_nat] at h
  exact h hh.2.2.2
theorem nnum_yes (h0 : ¬ cs = []) (hall : ∀ c ∈ cs, isd c) (hl : cs.length ≤ 10) (h : digI (dval cs : Int) = cs) : nnum cs = (dval cs : Int) := by
  unfold nnum
  rw [digI_nat] at h
  rw [if_pos ⟨h0, hall, hl, h⟩]
theorem npar_w (hw : cs.take ([119, 97, 108, 45] : List UInt8).length = ([119, 97, 108, 45] : List UInt8)) (h1 : 0 < nnum (cs.drop ([119, 97, 108, 45] : List UInt8).length)) (h2 : wname (nnum (cs.drop ([119, 97, 108, 45] : List UInt8).length)) = cs) :
    nparse cs = (1, nnum (cs.drop ([119, 97, 108, 45] : List UInt8).length)) := by unfold nparse; exact if_pos ⟨hw, h1, h2⟩
theorem npar_p (hf : cs.take ([102, 114, 101, 101, 45] : List UInt8).length = ([102, 114, 101, 101, 45] : List UInt8)) (h1 : 0 ≤ nnum (cs.drop ([102, 114, 101, 101, 45] : List UInt8).length)) (h2 : pname (nnum (cs.drop ([102, 114, 101, 101, 45] : List UInt8).length)) = cs) :
    nparse cs = (2, nnum (cs.drop ([102, 114, 101, 101, 45] : List UInt8).length)) := by
  unfold nparse
  refine (if_neg (fun hh => ?_)).trans (if_pos ⟨hf, h1, h2⟩)
  · have e4 := congrArg (List.take 4) hf
    rw [List.take_take] at e4
    have e5 := hh.1
    rw [show min 4 ([102, 114, 101, 101, 45] : List UInt8).length = 4 from rfl, e5] at e4
    simp [walp] at e4
theorem npar_0 (h1 : ¬ (cs.take ([119, 97, 108, 45] : List UInt8).length = ([119, 97, 108, 45] : List UInt8) ∧ 0 < nnum (cs.drop ([119, 97, 108, 45] : List UInt8).length) ∧ wname (nnum (cs.drop ([119, 97, 108, 45] : List UInt8).length)) = cs))
    (h2 : ¬ (cs.take ([102, 114, 101, 101, 45] : List UInt8).length = ([102, 114, 101, 101, 45] : List UInt8) ∧ 0 ≤ nnum (cs.drop ([102, 114, 101, 101, 45] : List UInt8).length) ∧ pname (nnum (cs.drop ([102, 114, 101, 101, 45] : List UInt8).length)) = cs)) : nparse cs = (0, 0) := by
  unfold nparse
  exact (if_neg h1).trans (if_neg h2)
theorem rdig_1 (h : n < 0) (h1 : -10 < n) : ([45] : List UInt8) ++ digI (((-n).toNat % 10 : Nat) : Int) = digI n := by
  rw [digI_nat]
  unfold digI
  rw [if_pos h, show n.natAbs = (-n).toNat % 10 by omega]
  rfl
theorem rdig_2 (h : n ≤ -10) : digI (-(((-n).toNat / 10 : Nat) : Int)) ++ digI (((-n).toNat % 10 : Nat) : Int) = digI n := by
  rw [digI_nat]
  unfold digI
  rw [if_pos (by omega), if_pos (by omega), dig_ge (u := n.natAbs) (by omega), dig_lt (u := (-n).toNat % 10) (by omega)]
  rw [show (-(((-n).toNat / 10 : Nat) : Int)).natAbs = n.natAbs / 10 by omega, show (-n).toNat % 10 = n.natAbs % 10 by omega]
  rfl
theorem rdig_4 (h : 10 ≤ n) : digI ((n.toNat / 10 : Nat) : Int) ++ digI ((n.toNat % 10 : Nat) : Int) = digI n := by
  rw [digI_nat, digI_nat]
  unfold digI
  rw [if_neg (by omega), dig_ge (u := n.natAbs) (by omega), dig_lt (u := n.toNat % 10) (by omega), show n.natAbs = n.toNat by omega]
theorem ten_cut : ∀ q : Fin 10, ((([48, 49, 50, 51, 52, 53, 54, 55, 56, 57] : List UInt8).drop q.val).take (q.val + 1 - q.val)) = [UInt8.ofNat (48 + q.val)] := by decide
theorem rdig_5 (h : 0 ≤ n) (h1 : n < 10) : ((([48, 49, 50, 51, 52, 53, 54, 55, 56, 57] : List UInt8).drop n.toNat).take (n.toNat + 1 - n.toNat)) = digI n := by
  have := ten_cut ⟨n.toNat, by omega⟩
  simp only [] at this
  rw [this]
  unfold digI
  rw [if_neg (by omega), dig_lt (by omega), show n.natAbs = n.toNat by omega]
end
section
variable {cs : List UInt8} {k : Nat} {n : Int}
theorem notin_succ {c : UInt8} (h : ¬ c ∈ cs.take k) (hk : k < cs.length) (hne : ¬ ((cs[k].toNat : Int) = (c.toNat : Int))) : ¬ c ∈ cs.take (k + 1) := by
  rw [List.take_succ_eq_append_getElem hk]
  intro hm
  rcases List.mem_append.1 hm with hm | hm
  · exact h hm
  · rw [List.mem_singleton.1 hm] at hne; exact hne rfl
theorem in_here {c : UInt8} (hk : k < cs.length) (he : (cs[k].toNat : Int) = (c.toNat : Int)) : c ∈ cs := by
  have : cs[k] = c := UInt8.toNat_inj.1 (by omega)
  rw [← this]
  exact List.getElem_mem hk
def isn (c : UInt8) : Prop := c.toNat = 45 ∨ (48 ≤ c.toNat ∧ c.toNat ≤ 57) ∨ (97 ≤ c.toNat ∧ c.toNat ≤ 122)
instance (c : UInt8) : Decidable (isn c) := by unfold isn; infer_instance
theorem isn_iff (c : UInt8) : c ∈ ([97, 98, 99, 100, 101, 102, 103, 104, 105, 106, 107, 108, 109, 110, 111, 112, 113, 114, 115, 116, 117, 118, 119, 120, 121, 122, 48, 49, 50, 51, 52, 53, 54, 55, 56, 57, 45] : List UInt8) ↔ isn c := by
  have h : ∀ q : Fin 256, UInt8.ofNat q.val ∈ ([97, 98, 99, 100, 101, 102, 103, 104, 105, 106, 107, 108, 109, 110, 111, 112, 113, 114, 115, 116, 117, 118, 119, 120, 121, 122, 48, 49, 50, 51, 52, 53, 54, 55, 56, 57, 45] : List UInt8) ↔ isn (UInt8.ofNat q.val) := by decide +kernel
  have := h ⟨c.toNat, c.toNat_lt⟩
  simpa only [UInt8.ofNat_toNat] using this
theorem isd_iff (c : UInt8) : c ∈ ([48, 49, 50, 51, 52, 53, 54, 55, 56, 57] : List UInt8) ↔ isd c := by
  have h : ∀ q : Fin 256, UInt8.ofNat q.val ∈ ([48, 49, 50, 51, 52, 53, 54, 55, 56, 57] : List UInt8) ↔ isd (UInt8.ofNat q.val) := by decide +kernel
  have := h ⟨c.toNat, c.toNat_lt⟩
  simpa only [UInt8.ofNat_toNat] using this
/-- a right name -/
def okName (cs : List UInt8) : Prop := (∀ c ∈ cs, isn c) ∧ 1 ≤ cs.length ∧ cs.length ≤ 24
instance (cs : List UInt8) : Decidable (okName cs) := by unfold okName; infer_instance
theorem isn_take (h : ∀ c ∈ cs.take k, isn c) (hk : k < cs.length) (h1 : isn cs[k]) : ∀ c ∈ cs.take (k + 1), isn c := by
  intro c hm
  rw [List.take_succ_eq_append_getElem hk] at hm
  rcases List.mem_append.1 hm with hm | hm
  · exact h c hm
  · rw [List.mem_singleton.1 hm]; exact h1
theorem drop4_get (hk : k + 4 < cs.length) : (cs.drop 4)[k]'(by rw [List.length_drop]; omega) = cs[k + 4] := by rw [List.getElem_drop]; congr 1; omega
theorem mem_drop4 (hk : k + 4 < cs.length) : cs[k + 4] ∈ cs.drop 4 := by rw [← drop4_get hk]; exact List.getElem_mem _
theorem isd_take4 (h : ∀ c ∈ (cs.drop 4).take k, isd c) (hk : k + 4 < cs.length) (h1 : isd cs[k + 4]) : ∀ c ∈ (cs.drop 4).take (k + 1), isd c := by
  intro c hm
  rw [List.take_succ_eq_append_getElem (by rw [List.length_drop]; omega), drop4_get hk] at hm
  rcases List.mem_append.1 hm with hm | hm
  · exact h c hm
  · rw [List.mem_singleton.1 hm]; exact h1
theorem dval_step4 (hk : k + 4 < cs.length) (h1 : isd cs[k + 4]) : ((10 * (dval ((cs.drop 4).take k) : Int)) + (cs[k + 4].toNat : Int)) - 48 = (dval ((cs.drop 4).take (k + 1)) : Int) := by
  rw [List.take_succ_eq_append_getElem (by rw [List.length_drop]; omega), drop4_get hk, dval_snoc]
  unfold isd at h1
  omega
theorem w_eq (hn : 1 ≤ n ∧ n ≤ 2147483647) (h : wname n = cs) : cs.take 4 = ([119, 97, 108, 45] : List UInt8) ∧ (∀ c ∈ cs.drop 4, isd c) ∧ ((dval (cs.drop 4) : Int) = n) ∧ 5 ≤ cs.length ∧ cs.length ≤ 14 := by
  obtain ⟨u, rfl⟩ : ∃ u : Nat, n = u := ⟨n.toNat, by omega⟩
  have e : wname (u : Int) = walp ++ dig u := by unfold wname; rw [if_pos hn, digI_nat]
  rw [e] at h
  subst h
  have e4 : (walp ++ dig u).drop 4 = dig u := List.drop_left' rfl
  have e5 : (walp ++ dig u).take 4 = walp := List.take_left' rfl
  have h1 := dig_pos u
  have h2 := dig_len 10 u (by omega) (by omega)
  rw [e4, e5, dval_d]
  refine ⟨rfl, isd_d u, rfl, ?_, ?_⟩ <;> rw [List.length_append, show walp.length = 4 from rfl] <;> omega
theorem npar_w1 (h : wname n = cs) (hl : 0 < cs.length) : nparse cs = (1, n) := by
  by_cases hn : 1 ≤ n ∧ n ≤ 2147483647
  · rw [← h]; exact nparse_w hn
  · unfold wname at h
    rw [if_neg hn] at h
    rw [← h] at hl
    simp at hl
end
theorem w_ne {cs : List UInt8} {n : Int} {j : Nat} (hn : 1 ≤ n ∧ n ≤ 2147483647) (h : wname n = cs) (h6 : ¬ (((j + 4 : Nat) : Int) < (cs.length : Int))) (h8 : ¬ wname ((dval ((cs.drop 4).take j) : Nat) : Int) = cs) : False := by
  obtain ⟨_, _, q3, _, _⟩ := w_eq hn h
  rw [List.take_of_length_le (by rw [List.length_drop]; omega), q3] at h8
  exact h8 h
theorem dig12 : dig 12 = [49, 50] := by rw [dig_ge (by decide), dig_lt (by decide)]; rfl
theorem nparse_ex : nparse [119, 97, 108, 45, 49, 50] = (1, 12) := by
  have e : wname 12 = [119, 97, 108, 45, 49, 50] := by
    unfold wname digI
    rw [if_pos (by decide), if_neg (by decide), show (12 : Int).natAbs = 12 from rfl, dig12]
    rfl
  rw [← e]
  exact nparse_w (by decide)
theorem pname_ex : pname 2 = [102, 114, 101, 101, 45, 50] := by
  unfold pname digI
  rw [if_pos (by decide), if_neg (by decide), show (2 : Int).natAbs = 2 from rfl, dig_lt (by decide)]
  rfl
theorem wname_nil {n : Int} (h : ¬ (1 ≤ n ∧ n ≤ 2147483647)) : wname n = [] := by unfold wname; rw [if_neg h]
theorem pname_nil {n : Int} (h : ¬ (0 ≤ n ∧ n ≤ 2)) : pname n = [] := by unfold pname; rw [if_neg h]
theorem wname_cons {n : Int} (h : 1 ≤ n ∧ n ≤ 2147483647) : ¬ wname n = [] := by unfold wname; rw [if_pos h]; simp [walp]
theorem pname_cons {n : Int} (h : 0 ≤ n ∧ n ≤ 2) : ¬ pname n = [] := by unfold pname; rw [if_pos h]; simp [freep]
theorem isn_of_isd {c : UInt8} (h : isd c) : isn c := by unfold isd at h; unfold isn; omega
theorem okName_w {n : Int} (h : 1 ≤ n ∧ n ≤ 2147483647) : okName (wname n) := by
  obtain ⟨u, rfl⟩ : ∃ u : Nat, n = u := ⟨n.toNat, by omega⟩
  have h1 := dig_pos u
  have h2 := dig_len 10 u (by omega) (by omega)
  have e : wname (u : Int) = walp ++ dig u := by unfold wname; rw [if_pos h, digI_nat]
  rw [e]
  refine ⟨fun c hc => ?_, ?_, ?_⟩
  · rcases List.mem_append.1 hc with hc | hc
    · have hh : ∀ c ∈ walp, isn c := by decide
      exact hh c hc
    · exact isn_of_isd (isd_d u c hc)
  · rw [List.length_append]; omega
  · rw [List.length_append, show walp.length = 4 from rfl]; omega
theorem okName_p {n : Int} (h : 0 ≤ n ∧ n ≤ 2) : okName (pname n) := by
  obtain ⟨u, rfl⟩ : ∃ u : Nat, n = u := ⟨n.toNat, by omega⟩
  have h1 := dig_pos u
  have h2 := dig_len 10 u (by omega) (by omega)
  have e : pname (u : Int) = freep ++ dig u := by unfold pname; rw [if_pos h, digI_nat]
  rw [e]
  refine ⟨fun c hc => ?_, ?_, ?_⟩
  · rcases List.mem_append.1 hc with hc | hc
    · have hh : ∀ c ∈ freep, isn c := by decide
      exact hh c hc
    · exact isn_of_isd (isd_d u c hc)
  · rw [List.length_append]; omega
  · rw [List.length_append, show freep.length = 5 from rfl]; omega
theorem wname_len (n : Int) : (wname n).length ≤ 14 := by
  by_cases h : 1 ≤ n ∧ n ≤ 2147483647
  · exact (w_eq h rfl).2.2.2.2
  · rw [wname_nil h]; simp
theorem pname_len (n : Int) : (pname n).length ≤ 24 := by
  by_cases h : 0 ≤ n ∧ n ≤ 2
  · exact (okName_p h).2.2
  · rw [pname_nil h]; simp
end Go.Proofs.YtkjgjejkfjhcjaaDoor.Pl
