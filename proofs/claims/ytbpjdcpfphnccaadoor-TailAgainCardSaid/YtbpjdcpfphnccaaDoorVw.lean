/-
  Plain mathematics: numbers in bytes, places in a body, stamped sectors, fragments, records joined of them. Nothing of the program or of the model stands here.
-/
import Derived.Test.YtbpjdcpfphnccaaDoorVc
import Derived.Test.YtbpjdcpfphnccaaDoorVr
namespace Go.Proofs.YtbpjdcpfphnccaaDoor.Pl
set_option linter.unusedVariables false
set_option linter.unusedSimpArgs false
/-! ### numbers in bytes, the low ones first -/
def putN (n : Nat) : Nat → List UInt8
  | 0 => []
  | k + 1 => UInt8.ofNat (n % 256) :: putN (n / 256) k
def getN : List UInt8 → Nat
  | [] => 0
  | c :: r => c.toNat + 256 * getN r
theorem putN_len : ∀ (k n : Nat), (putN n k).length = k
  | 0, _ => rfl
  | k + 1, n => by simp [putN, putN_len k]
theorem getN_lt : ∀ bs : List UInt8, getN bs < 256 ^ bs.length
  | [] => by simp [getN]
  | c :: r => by
    have h1 := getN_lt r
    have h2 := c.toNat_lt
    rw [List.length_cons, Nat.pow_succ]
    simp only [getN]
    omega
theorem getN_putN : ∀ (k n : Nat), getN (putN n k) = n % 256 ^ k
  | 0, n => by simp [putN, getN, Nat.mod_one]
  | k + 1, n => by
    simp only [putN, getN, getN_putN k, n256 _ (Nat.mod_lt n (by omega : 0 < 256))]
    rw [Nat.pow_succ, Nat.mul_comm (256 ^ k) 256, Nat.mod_mul]
theorem putN_getN : ∀ bs : List UInt8, putN (getN bs) bs.length = bs
  | [] => rfl
  | c :: r => by
    have h2 := c.toNat_lt
    simp only [getN, List.length_cons, putN]
    rw [show (c.toNat + 256 * getN r) % 256 = c.toNat by omega, show (c.toNat + 256 * getN r) / 256 = getN r by omega, putN_getN r, UInt8.ofNat_toNat]
theorem putN_snoc : ∀ (k n : Nat), putN n (k + 1) = putN n k ++ [UInt8.ofNat (n / 256 ^ k % 256)]
  | 0, n => by simp [putN]
  | k + 1, n => by
    rw [putN, putN_snoc k, putN, List.cons_append, Nat.pow_succ, Nat.mul_comm (256 ^ k) 256, Nat.div_div_eq_div_mul]
theorem getN_snoc : ∀ (bs : List UInt8) (c : UInt8), getN (bs ++ [c]) = getN bs + c.toNat * 256 ^ bs.length
  | [], c => by simp [getN]
  | b :: r, c => by
    simp only [List.cons_append, getN, getN_snoc r, List.length_cons, Nat.pow_succ]
    rw [Nat.mul_add, ← Nat.mul_assoc, Nat.mul_comm 256 c.toNat, Nat.mul_assoc, Nat.mul_comm 256 (256 ^ r.length)]
    omega
theorem getN_succ {bs : List UInt8} {k : Nat} (h : k < bs.length) : getN (bs.take (k + 1)) = getN (bs.take k) + bs[k].toNat * 256 ^ k := by
  rw [List.take_add_one, List.getElem?_eq_getElem h]
  simp only [Option.toList_some]
  rw [getN_snoc, List.length_take, Nat.min_eq_left (by omega)]
theorem putN_eq {bs : List UInt8} {n k : Nat} (hk : bs.length = k) (hn : n < 256 ^ k) : putN n k = bs ↔ getN bs = n := by
  subst hk
  constructor
  · intro h
    rw [← h, getN_putN, Nat.mod_eq_of_lt hn]
  · intro h
    rw [← h, putN_getN]
theorem putN_mod (k n : Nat) : putN (n % 256 ^ k) k = putN n k := by
  have h := putN_getN (putN n k)
  rw [putN_len, getN_putN] at h
  exact h
theorem putN_get : ∀ (k n i : Nat), i < k → (putN n k)[i]? = some (UInt8.ofNat (n / 256 ^ i % 256))
  | 0, _, _, h => by omega
  | k + 1, n, 0, _ => by simp [putN]
  | k + 1, n, i + 1, h => by
    simp only [putN, List.getElem?_cons_succ]
    rw [putN_get k (n / 256) i (by omega), Nat.pow_succ, Nat.mul_comm (256 ^ i) 256, Nat.div_div_eq_div_mul]
/-! ### places -/
def leftN (a : Nat) : Nat := if a = 832 then 0 else 208 - a % 208
def beginN (a : Nat) : Nat := if 52 - a % 52 < 11 then a + (52 - a % 52) else a
def touchN (a b : Nat) : Nat × Nat := if a < b then (a / 52, (b - 1) / 52 + 1) else (0, 0)
/-- Are these sectors there? -/
def covN (ok : List Bool) (a b : Nat) : Bool := (List.range' (touchN a b).1 ((touchN a b).2 - (touchN a b).1)).all fun i => ok.getD i false
theorem beginN_le {a : Nat} (h : a ≤ 832) : a ≤ beginN a ∧ beginN a ≤ 832 := by
  unfold beginN
  split <;> omega
theorem beginN_idem {a : Nat} : beginN (beginN a) = beginN a := by
  unfold beginN
  repeat' split
  all_goals omega
theorem leftN_le {a : Nat} (h : a ≤ 832) : a + leftN a ≤ 832 ∧ leftN a ≤ 208 := by
  unfold leftN
  split <;> omega
/-! ### stamped sectors -/
/-- A sector's room, if it is stamped so. -/
def openN (s : List UInt8) (e i : Nat) : Option (List UInt8) := if getN (s.take 8) = e ∧ getN ((s.drop 8).take 4) = i then some (s.drop 12) else none
def roomN (ss : List (List UInt8)) (e i : Nat) : Option (List UInt8) := match ss[i]? with | some s => openN s e i | none => none
def flatO (ss : List (List UInt8)) (e : Nat) (k : Nat) : List Bool := (List.range k).map fun i => (roomN ss e i).isSome
def flatB (ss : List (List UInt8)) (e : Nat) (k : Nat) : List UInt8 := (List.range k).flatMap fun i => (roomN ss e i).getD (List.replicate 52 0)
theorem flatO_succ (ss : List (List UInt8)) (e k : Nat) : flatO ss e (k + 1) = flatO ss e k ++ [(roomN ss e k).isSome] := by simp [flatO, List.range_succ]
theorem flatB_succ (ss : List (List UInt8)) (e k : Nat) : flatB ss e (k + 1) = flatB ss e k ++ (roomN ss e k).getD (List.replicate 52 0) := by simp [flatB, List.range_succ]
theorem flatO_len (ss : List (List UInt8)) (e k : Nat) : (flatO ss e k).length = k := by simp [flatO]
theorem roomN_len {ss : List (List UInt8)} (h : ∀ s ∈ ss, s.length = 64) (e i : Nat) : ((roomN ss e i).getD (List.replicate 52 0)).length = 52 := by
  unfold roomN
  split
  · rename_i s hs
    unfold openN
    split
    · simp [h s (List.mem_of_getElem? hs)]
    · simp
  · simp
theorem flatB_len {ss : List (List UInt8)} (h : ∀ s ∈ ss, s.length = 64) (e : Nat) : ∀ k, (flatB ss e k).length = 52 * k
  | 0 => by simp [flatB]
  | k + 1 => by rw [flatB_succ, List.length_append, flatB_len h e k, roomN_len h]; omega
/-! ### fragments -/
def maskN (s : Nat) : Nat := (s / 32768 + s % 32768 * 131072 + 2726488792) % 4294967296
/-- A fragment's kind and bytes, how many bytes it has, the error. -/
def fdec (b : List UInt8) (ep : Nat) : (Nat × List UInt8) × Nat × Int :=
  if b.length < 11 then ((0, []), 0, 1)
  else if b.take 11 = List.replicate 11 0 then ((0, []), 0, 7)
  else if (b.getD 6 0).toNat < 1 ∨ 4 < (b.getD 6 0).toNat ∨ 197 < getN ((b.drop 4).take 2) ∨ getN ((b.drop 7).take 4) ≠ ep then ((0, []), 0, 2)
  else if b.length < 11 + getN ((b.drop 4).take 2) then ((0, []), 0, 1)
  else if getN (b.take 4) ≠ maskN (moreN 0 ((b.take (11 + getN ((b.drop 4).take 2))).drop 4)) then ((0, []), 0, 3)
  else (((b.getD 6 0).toNat, (b.take (11 + getN ((b.drop 4).take 2))).drop 11), 11 + getN ((b.drop 4).take 2), 0)
theorem fdec_ok {b : List UInt8} {ep : Nat} (h : (fdec b ep).2.2 = 0) : 11 ≤ (fdec b ep).2.1 ∧ (fdec b ep).2.1 ≤ b.length ∧ (fdec b ep).2.1 ≤ 208 ∧ (fdec b ep).1.2.length + 11 = (fdec b ep).2.1 ∧ 1 ≤ (fdec b ep).1.1 ∧ (fdec b ep).1.1 ≤ 4 := by
  unfold fdec at h ⊢
  split at h
  · simp at h
  · rename_i h1
    rw [if_neg h1]
    split at h
    · simp at h
    · rename_i h2
      rw [if_neg h2]
      split at h
      · simp at h
      · rename_i h3
        rw [if_neg h3]
        split at h
        · simp at h
        · rename_i h4
          rw [if_neg h4]
          split at h
          · simp at h
          · rename_i h5
            rw [if_neg h5]
            simp only [List.length_drop, List.length_take]
            refine ⟨?_, ?_, ?_, ?_, ?_, ?_⟩ <;> omega
/-! ### records joined of fragments -/
/-- Is a record open, and what came of it; then: what comes of it, the whole, whether it is whole, the error. -/
def feedN (o : Bool) (bs : List UInt8) (k : Nat) (d : List UInt8) : (Bool × List UInt8) × List UInt8 × Bool × Int :=
  if (if o then k = 3 ∨ k = 4 else k = 1 ∨ k = 2) then
    if 512 < bs.length + d.length then ((false, []), [], false, 5)
    else if k = 1 ∨ k = 4 then ((false, []), bs ++ d, true, 0)
    else ((true, bs ++ d), [], false, 0)
  else ((false, []), [], false, 2)
/-! ### what stands at a place -/
/-- The fragment that is told at a place; how many bytes; 0: none. -/
def accN (e : Nat) (body : List UInt8) (ok : List Bool) (at_ : Nat) : (Nat × List UInt8) × Nat :=
  if 832 < at_ + 11 ∨ covN ok at_ (at_ + 11) = false then ((0, []), 0)
  else if (fdec ((body.drop at_).take (leftN at_)) (e % 4294967296)).2.2 ≠ 0 ∨ covN ok at_ (at_ + (fdec ((body.drop at_).take (leftN at_)) (e % 4294967296)).2.1) = false then ((0, []), 0)
  else ((fdec ((body.drop at_).take (leftN at_)) (e % 4294967296)).1, (fdec ((body.drop at_).take (leftN at_)) (e % 4294967296)).2.1)
theorem accN_ok {e : Nat} {body : List UInt8} {ok : List Bool} {at_ : Nat} (hb : body.length = 832) (ha : at_ ≤ 832) (h : (accN e body ok at_).2 ≠ 0) :
    11 ≤ (accN e body ok at_).2 ∧ at_ + (accN e body ok at_).2 ≤ 832 ∧ (accN e body ok at_).1.2.length + 11 = (accN e body ok at_).2 ∧ 1 ≤ (accN e body ok at_).1.1 ∧ (accN e body ok at_).1.1 ≤ 4 := by
  unfold accN at h ⊢
  split at h
  · simp at h
  · rename_i h1
    rw [if_neg h1]
    split at h
    · simp at h
    · rename_i h2
      rw [if_neg h2]
      simp only [ne_eq, not_or, Decidable.not_not] at h2
      obtain ⟨a1, a2, a3, a4, a5, a6⟩ := fdec_ok h2.1
      have hl := leftN_le ha
      rw [List.length_take, List.length_drop, hb] at a2
      refine ⟨a1, ?_, a4, a5, a6⟩
      show at_ + _ ≤ 832
      omega
/-- The record that stands at a place, and what is behind it. -/
def fromN (e : Nat) (body : List UInt8) (ok : List Bool) (fuel : Nat) (at_ : Nat) (o : Bool) (bs : List UInt8) : Option (List UInt8 × Nat) :=
  match fuel with
  | 0 => none
  | fuel + 1 =>
    if (accN e body ok at_).2 = 0 then none
    else if (feedN o bs (accN e body ok at_).1.1 (accN e body ok at_).1.2).2.2.2 ≠ 0 then none
    else if (feedN o bs (accN e body ok at_).1.1 (accN e body ok at_).1.2).2.2.1 = true then some ((feedN o bs (accN e body ok at_).1.1 (accN e body ok at_).1.2).2.1, at_ + (accN e body ok at_).2)
    else fromN e body ok fuel (beginN (at_ + (accN e body ok at_).2)) true (feedN o bs (accN e body ok at_).1.1 (accN e body ok at_).1.2).1.2
end Go.Proofs.YtbpjdcpfphnccaaDoor.Pl
