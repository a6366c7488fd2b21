/-
  Plain mathematics: numbers written in seven-bit groups, fields, operations on keys. Nothing of the program or of the model stands here.
-/
import Derived.KernelRfl
import GoSem.Claim
namespace Go.Proofs.YtkjgjejkfjhcjaaDoor.Pl

/-- a number's bytes -/
def vput (m : Nat) : List UInt8 := if m < 128 then [UInt8.ofNat m] else UInt8.ofNat (m % 128 + 128) :: vput (m / 128)
termination_by m
decreasing_by omega
theorem vput_lt {m : Nat} (h : m < 128) : vput m = [UInt8.ofNat m] := by rw [vput, if_pos h]
theorem vput_ge {m : Nat} (h : 128 ≤ m) : vput m = UInt8.ofNat (m % 128 + 128) :: vput (m / 128) := by rw [vput, if_neg (by omega)]
theorem vput_len_le : ∀ (k m : Nat), m < 128 ^ k → 0 < k → (vput m).length ≤ k
  | 0, _, _, h => by omega
  | k + 1, m, hm, _ => by
    by_cases h : m < 128
    · rw [vput_lt h]; simp
    · rw [vput_ge (by omega), List.length_cons]
      have hk : 0 < k := by
        rcases Nat.eq_zero_or_pos k with h0 | h0
        · subst h0; simp at hm; omega
        · exact h0
      have := vput_len_le k (m / 128) (by rw [Nat.pow_succ] at hm; omega) hk
      omega
theorem vput_len {m : Nat} (h : m < 18446744073709551616) : (vput m).length ≤ 10 := vput_len_le 10 m (by omega) (by omega)
theorem vput_pos (m : Nat) : 0 < (vput m).length := by
  by_cases h : m < 128
  · rw [vput_lt h]; simp
  · rw [vput_ge (by omega)]; simp
/-- the number that bytes begin with: the number, how many bytes it has, the error -/
def vgo (i n : Nat) : List UInt8 → Nat × Nat × Int
  | [] => (0, 0, 1)
  | c :: r =>
    if i = 9 ∧ 1 < c.toNat then (0, 0, 4)
    else if c.toNat < 128 then (if c.toNat = 0 ∧ 0 < i then (0, 0, 2) else (n + c.toNat % 128 * 128 ^ i, i + 1, 0))
    else vgo (i + 1) (n + c.toNat % 128 * 128 ^ i) r
def vget (bs : List UInt8) : Nat × Nat × Int := vgo 0 0 bs
theorem vgo_bound : ∀ (bs : List UInt8) (i n : Nat), i ≤ 9 → n < 128 ^ i → (vgo i n bs).1 < 18446744073709551616 ∧ (vgo i n bs).2.1 ≤ i + bs.length ∧ (vgo i n bs).2.1 ≤ 10 ∧ ((vgo i n bs).2.2 = 0 → i < (vgo i n bs).2.1) ∧
    ((vgo i n bs).2.2 ≠ 0 → (vgo i n bs).1 = 0 ∧ (vgo i n bs).2.1 = 0)
  | [], i, n, hi, hn => by simp [vgo]
  | c :: r, i, n, hi, hn => by
    rw [vgo]
    have hc : c.toNat < 256 := c.toNat_lt
    have hp : 128 ^ i ≤ 128 ^ 9 := Nat.pow_le_pow_right (by omega) hi
    split
    · simp
    · rename_i h9
      have hx : n + c.toNat % 128 * 128 ^ i < 18446744073709551616 := by
        rcases Nat.lt_or_ge i 9 with h | h
        · have h8 : 128 ^ i ≤ 128 ^ 8 := Nat.pow_le_pow_right (by omega) (by omega)
          have : c.toNat % 128 * 128 ^ i ≤ 127 * 128 ^ 8 := Nat.mul_le_mul (by omega) h8
          omega
        · have : i = 9 := by omega
          subst this
          have : c.toNat ≤ 1 := by omega
          have : c.toNat % 128 ≤ 1 := by omega
          have : c.toNat % 128 * 128 ^ 9 ≤ 1 * 128 ^ 9 := Nat.mul_le_mul_right _ this
          omega
      split
      · split
        · simp
        · simp; omega
      · have h8 : i ≤ 8 := by omega
        have hn' : n + c.toNat % 128 * 128 ^ i < 128 ^ (i + 1) := by
          rw [Nat.pow_succ]
          have : c.toNat % 128 * 128 ^ i ≤ 127 * 128 ^ i := Nat.mul_le_mul_right _ (by omega)
          omega
        have := vgo_bound r (i + 1) _ (by omega) hn'
        simp only [List.length_cons]
        omega
theorem vget_bound (bs : List UInt8) : (vget bs).1 < 18446744073709551616 ∧ (vget bs).2.1 ≤ bs.length ∧ (vget bs).2.1 ≤ 10 ∧ ((vget bs).2.2 = 0 → 0 < (vget bs).2.1) ∧ ((vget bs).2.2 ≠ 0 → (vget bs).1 = 0 ∧ (vget bs).2.1 = 0) := by
  have := vgo_bound bs 0 0 (by omega) (by omega)
  simpa [vget] using this
/-- a field: its length, then its bytes -/
def fenc (fs : List UInt8) : List UInt8 := if fs.length ≤ 65536 then vput fs.length ++ fs else []
theorem fenc_len (fs : List UInt8) : (fenc fs).length ≤ fs.length + 10 := by
  unfold fenc
  split
  · have := vput_len (m := fs.length) (by omega); rw [List.length_append]; omega
  · simp
/-- the field that bytes begin with: its bytes, how many bytes it takes, the error -/
def fget (bs : List UInt8) : List UInt8 × Nat × Int :=
  if (vget bs).2.2 ≠ 0 then ([], 0, (vget bs).2.2)
  else if 65536 < (vget bs).1 then ([], 0, 5)
  else if bs.length < (vget bs).2.1 + (vget bs).1 then ([], 0, 1)
  else ((bs.drop (vget bs).2.1).take (vget bs).1, (vget bs).2.1 + (vget bs).1, 0)
theorem fget_bound (bs : List UInt8) : (fget bs).2.1 ≤ bs.length ∧ ((fget bs).2.2 = 0 → 0 < (fget bs).2.1) ∧ ((fget bs).2.2 ≠ 0 → (fget bs).1 = [] ∧ (fget bs).2.1 = 0) ∧ (fget bs).1.length ≤ bs.length := by
  have hb := vget_bound bs
  unfold fget
  split
  · rename_i h; simp [h]
  · split
    · simp
    · split
      · simp
      · simp only [List.length_take, List.length_drop]; refine ⟨by omega, fun _ => ?_, by simp, by omega⟩; have := hb.2.2.2.1 (by omega); omega
/-- an operation on a key -/
structure Opd where
  kind : Int
  key : ByteArray
  val : ByteArray
deriving DecidableEq
def GoodOp (o : Opd) : Prop := (Go.Lit.int .i64 o.kind).wf = true ∧ o.key.size ≤ 140737488351232 ∧ o.val.size ≤ 140737488351232
def OkOp (k : Int) (key val : ByteArray) : Prop := 1 ≤ key.size ∧ key.size ≤ 24 ∧ (k = 1 ∧ val.size ≤ 128 ∨ k = 2 ∧ val.size = 0)
instance (k : Int) (key val : ByteArray) : Decidable (OkOp k key val) := by unfold OkOp; infer_instance
/-- an operation's bytes -/
def opEnc (k : Int) (key val : ByteArray) : List UInt8 := UInt8.ofNat (k % 256).toNat :: (fenc key.data.toList ++ if k = 1 then fenc val.data.toList else [])
/-- a reader takes the next field: its bytes, where it stands then, its error then -/
def txt (a : Nat) (e : Int) (bs : List UInt8) : List UInt8 × Nat × Int :=
  if e ≠ 0 then ([], a, e) else ((fget (bs.drop a)).1, a + (fget (bs.drop a)).2.1, (fget (bs.drop a)).2.2)
theorem txt_bound {a : Nat} {e : Int} {bs : List UInt8} (h : a ≤ bs.length) : (txt a e bs).2.1 ≤ bs.length ∧ a ≤ (txt a e bs).2.1 ∧ (e ≠ 0 → (txt a e bs).2.2 ≠ 0) := by
  have := (fget_bound (bs.drop a)).1
  rw [List.length_drop] at this
  unfold txt
  split
  · simp_all
  · simp_all; omega
/-- the operation that bytes begin with: its kind, key and value; how many bytes it takes; the error -/
def oval (c : UInt8) (bs : List UInt8) : List UInt8 × Nat × Int := if c.toNat = 1 then txt (txt 1 0 bs).2.1 (txt 1 0 bs).2.2 bs else ([], (txt 1 0 bs).2.1, (txt 1 0 bs).2.2)
def oget (bs : List UInt8) : (Int × ByteArray × ByteArray) × Nat × Int :=
  match bs with
  | [] => ((0, ⟨#[]⟩, ⟨#[]⟩), 0, 1)
  | c :: _ =>
    if c.toNat ≠ 1 ∧ c.toNat ≠ 2 then ((0, ⟨#[]⟩, ⟨#[]⟩), 0, 2)
    else if (oval c bs).2.2 ≠ 0 then ((0, ⟨#[]⟩, ⟨#[]⟩), 0, (oval c bs).2.2)
    else if ¬ OkOp c.toNat ⟨(txt 1 0 bs).1.toArray⟩ ⟨(oval c bs).1.toArray⟩ then ((0, ⟨#[]⟩, ⟨#[]⟩), 0, 2)
    else ((c.toNat, ⟨(txt 1 0 bs).1.toArray⟩, ⟨(oval c bs).1.toArray⟩), (oval c bs).2.1, 0)
theorem oget_cons {bs : List UInt8} (h : 0 < bs.length) : oget bs = (show (Int × ByteArray × ByteArray) × Nat × Int from
    if bs[0].toNat ≠ 1 ∧ bs[0].toNat ≠ 2 then ((0, ⟨#[]⟩, ⟨#[]⟩), 0, 2)
    else if (oval bs[0] bs).2.2 ≠ 0 then ((0, ⟨#[]⟩, ⟨#[]⟩), 0, (oval bs[0] bs).2.2)
    else if ¬ OkOp bs[0].toNat ⟨(txt 1 0 bs).1.toArray⟩ ⟨(oval bs[0] bs).1.toArray⟩ then ((0, ⟨#[]⟩, ⟨#[]⟩), 0, 2)
    else ((bs[0].toNat, ⟨(txt 1 0 bs).1.toArray⟩, ⟨(oval bs[0] bs).1.toArray⟩), (oval bs[0] bs).2.1, 0)) := by
  cases bs with
  | nil => simp at h
  | cons c r => rfl
section
variable {bs : List UInt8} {x : List UInt8} {y : Nat} {z : Int}
theorem oget_k (h : 0 < bs.length) (hk : bs[0].toNat ≠ 1 ∧ bs[0].toNat ≠ 2) : oget bs = ((0, ⟨#[]⟩, ⟨#[]⟩), 0, 2) := by rw [oget_cons h, if_pos hk]
theorem oget_e (h : 0 < bs.length) (hk : ¬ (bs[0].toNat ≠ 1 ∧ bs[0].toNat ≠ 2)) (ht : oval bs[0] bs = (x, y, z)) (hz : z ≠ 0) : oget bs = ((0, ⟨#[]⟩, ⟨#[]⟩), 0, z) := by
  rw [oget_cons h, if_neg hk, ht, if_pos hz]
theorem oget_n (h : 0 < bs.length) (hk : ¬ (bs[0].toNat ≠ 1 ∧ bs[0].toNat ≠ 2)) (ht : oval bs[0] bs = (x, y, z)) (hz : z = 0) (ho : ¬ OkOp bs[0].toNat ⟨(txt 1 0 bs).1.toArray⟩ ⟨x.toArray⟩) : oget bs = ((0, ⟨#[]⟩, ⟨#[]⟩), 0, 2) := by
  rw [oget_cons h, if_neg hk, ht, if_neg (Decidable.not_not.2 hz), if_pos ho]
theorem oget_y (h : 0 < bs.length) (hk : ¬ (bs[0].toNat ≠ 1 ∧ bs[0].toNat ≠ 2)) (ht : oval bs[0] bs = (x, y, z)) (hz : z = 0) (ho : OkOp bs[0].toNat ⟨(txt 1 0 bs).1.toArray⟩ ⟨x.toArray⟩) :
    oget bs = (((bs[0].toNat : Int), (⟨(txt 1 0 bs).1.toArray⟩ : ByteArray), (⟨x.toArray⟩ : ByteArray)), y, (0 : Int)) := by
  rw [oget_cons h, if_neg hk, ht, if_neg (Decidable.not_not.2 hz), if_neg (Decidable.not_not.2 ho)]
theorem oval_1 {c : UInt8} (h : c.toNat = 1) : oval c bs = ((txt (txt 1 0 bs).2.1 (txt 1 0 bs).2.2 bs).1, (txt (txt 1 0 bs).2.1 (txt 1 0 bs).2.2 bs).2.1, (txt (txt 1 0 bs).2.1 (txt 1 0 bs).2.2 bs).2.2) := by
  unfold oval; rw [if_pos h]
theorem oval_2 {c : UInt8} (h : c.toNat ≠ 1) : oval c bs = ([], (txt 1 0 bs).2.1, (txt 1 0 bs).2.2) := by unfold oval; rw [if_neg h]
end
theorem take_snoc_eq {a b : List Opd} {k : Nat} (h : a.take k = b.take k) (ha : k < a.length) (hb : k < b.length)
    (hc : a[k].kind = b[k].kind ∧ a[k].key = b[k].key ∧ a[k].val = b[k].val ∧ True) : a.take (k + 1) = b.take (k + 1) := by
  have : a[k] = b[k] := by
    obtain ⟨h1, h2, h3, _⟩ := hc
    cases ha' : a[k]; cases hb' : b[k]; simp_all
  rw [List.take_succ_eq_append_getElem ha, List.take_succ_eq_append_getElem hb, h, this]
section
variable {bs : List UInt8}
theorem rget_1n (h : 0 < bs.length) (h1 : bs[0].toNat = 1) (he : (fget (bs.drop 1)).2.2 = 0) (he2 : (fget (bs.drop (1 + (fget (bs.drop 1)).2.1))).2.2 = 0)
    (ho : ¬ OkOp bs[0].toNat ⟨(fget (bs.drop 1)).1.toArray⟩ ⟨(fget (bs.drop (1 + (fget (bs.drop 1)).2.1))).1.toArray⟩) : oget bs = ((0, ⟨#[]⟩, ⟨#[]⟩), 0, 2) := by
  have ht : txt 1 0 bs = ((fget (bs.drop 1)).1, 1 + (fget (bs.drop 1)).2.1, (fget (bs.drop 1)).2.2) := by unfold txt; rw [if_neg (by omega)]
  refine oget_n (x := (fget (bs.drop (1 + (fget (bs.drop 1)).2.1))).1) (y := (1 + (fget (bs.drop 1)).2.1) + (fget (bs.drop (1 + (fget (bs.drop 1)).2.1))).2.1) (z := (fget (bs.drop (1 + (fget (bs.drop 1)).2.1))).2.2) h (by omega) ?_ he2 (by rw [ht]; exact ho)
  rw [oval_1 h1, ht]
  unfold txt
  rw [if_neg (by simp only []; omega)]
theorem rget_1y (h : 0 < bs.length) (h1 : bs[0].toNat = 1) (he : (fget (bs.drop 1)).2.2 = 0) (he2 : (fget (bs.drop (1 + (fget (bs.drop 1)).2.1))).2.2 = 0)
    (ho : OkOp bs[0].toNat ⟨(fget (bs.drop 1)).1.toArray⟩ ⟨(fget (bs.drop (1 + (fget (bs.drop 1)).2.1))).1.toArray⟩) :
    oget bs = (((bs[0].toNat : Int), (⟨(fget (bs.drop 1)).1.toArray⟩ : ByteArray), (⟨(fget (bs.drop (1 + (fget (bs.drop 1)).2.1))).1.toArray⟩ : ByteArray)), (1 + (fget (bs.drop 1)).2.1) + (fget (bs.drop (1 + (fget (bs.drop 1)).2.1))).2.1, (0 : Int)) := by
  have ht : txt 1 0 bs = ((fget (bs.drop 1)).1, 1 + (fget (bs.drop 1)).2.1, (fget (bs.drop 1)).2.2) := by unfold txt; rw [if_neg (by omega)]
  have hv : oval bs[0] bs = ((fget (bs.drop (1 + (fget (bs.drop 1)).2.1))).1, (1 + (fget (bs.drop 1)).2.1) + (fget (bs.drop (1 + (fget (bs.drop 1)).2.1))).2.1, (fget (bs.drop (1 + (fget (bs.drop 1)).2.1))).2.2) := by
    rw [oval_1 h1, ht]
    unfold txt
    rw [if_neg (by simp only []; omega)]
  rw [oget_y h (by omega) hv he2 (by rw [ht]; exact ho), ht]
theorem rget_1e (h : 0 < bs.length) (h1 : bs[0].toNat = 1) (he : (fget (bs.drop 1)).2.2 = 0) (he2 : (fget (bs.drop (1 + (fget (bs.drop 1)).2.1))).2.2 ≠ 0) : oget bs = ((0, ⟨#[]⟩, ⟨#[]⟩), 0, (fget (bs.drop (1 + (fget (bs.drop 1)).2.1))).2.2) := by
  have ht : txt 1 0 bs = ((fget (bs.drop 1)).1, 1 + (fget (bs.drop 1)).2.1, (fget (bs.drop 1)).2.2) := by unfold txt; rw [if_neg (by omega)]
  refine oget_e (x := (fget (bs.drop (1 + (fget (bs.drop 1)).2.1))).1) (y := (1 + (fget (bs.drop 1)).2.1) + (fget (bs.drop (1 + (fget (bs.drop 1)).2.1))).2.1) h (by omega) ?_ he2
  rw [oval_1 h1, ht]
  unfold txt
  rw [if_neg (by simp only []; omega)]
theorem rget_e (h : 0 < bs.length) (hk : ¬ (bs[0].toNat ≠ 1 ∧ bs[0].toNat ≠ 2)) (he : (fget (bs.drop 1)).2.2 ≠ 0) : oget bs = ((0, ⟨#[]⟩, ⟨#[]⟩), 0, (fget (bs.drop 1)).2.2) := by
  have ht : txt 1 0 bs = ((fget (bs.drop 1)).1, 1 + (fget (bs.drop 1)).2.1, (fget (bs.drop 1)).2.2) := by unfold txt; rw [if_neg (by omega)]
  by_cases h1 : bs[0].toNat = 1
  · refine oget_e (x := []) (y := 1 + (fget (bs.drop 1)).2.1) h hk ?_ he
    rw [oval_1 h1, ht]
    unfold txt
    rw [if_pos (by simp only []; omega)]
  · refine oget_e (x := []) (y := 1 + (fget (bs.drop 1)).2.1) h hk ?_ he
    rw [oval_2 h1, ht]
theorem rget_2n (h : 0 < bs.length) (hk : ¬ (bs[0].toNat ≠ 1 ∧ bs[0].toNat ≠ 2)) (h1 : bs[0].toNat ≠ 1) (he : (fget (bs.drop 1)).2.2 = 0)
    (ho : ¬ OkOp bs[0].toNat ⟨(fget (bs.drop 1)).1.toArray⟩ ⟨#[]⟩) : oget bs = ((0, ⟨#[]⟩, ⟨#[]⟩), 0, 2) := by
  have ht : txt 1 0 bs = ((fget (bs.drop 1)).1, 1 + (fget (bs.drop 1)).2.1, (fget (bs.drop 1)).2.2) := by unfold txt; rw [if_neg (by omega)]
  refine oget_n (x := []) (y := 1 + (fget (bs.drop 1)).2.1) (z := (fget (bs.drop 1)).2.2) h hk ?_ he (by rw [ht]; exact ho)
  rw [oval_2 h1, ht]
theorem rget_2y (h : 0 < bs.length) (hk : ¬ (bs[0].toNat ≠ 1 ∧ bs[0].toNat ≠ 2)) (h1 : bs[0].toNat ≠ 1) (he : (fget (bs.drop 1)).2.2 = 0)
    (ho : OkOp bs[0].toNat ⟨(fget (bs.drop 1)).1.toArray⟩ ⟨#[]⟩) : oget bs = (((bs[0].toNat : Int), (⟨(fget (bs.drop 1)).1.toArray⟩ : ByteArray), (⟨#[]⟩ : ByteArray)), 1 + (fget (bs.drop 1)).2.1, (0 : Int)) := by
  have ht : txt 1 0 bs = ((fget (bs.drop 1)).1, 1 + (fget (bs.drop 1)).2.1, (fget (bs.drop 1)).2.2) := by unfold txt; rw [if_neg (by omega)]
  rw [oget_y (x := []) (y := 1 + (fget (bs.drop 1)).2.1) (z := (fget (bs.drop 1)).2.2) h hk (by rw [oval_2 h1, ht]) he (by rw [ht]; exact ho), ht]
end
end Go.Proofs.YtkjgjejkfjhcjaaDoor.Pl
