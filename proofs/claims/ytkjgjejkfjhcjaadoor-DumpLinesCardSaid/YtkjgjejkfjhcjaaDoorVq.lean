/-
  Plain mathematics on integers as the model keeps them: what its bit operations come to.
-/
import Derived.Test.YtkjgjejkfjhcjaaDoorGt
import Derived.Test.YtkjgjejkfjhcjaaDoorVb
namespace Go.Proofs.YtkjgjejkfjhcjaaDoor.Gw
open Go.RowKit
theorem ofi (n a : Nat) (h : a < 2 ^ n) : (BitVec.ofInt n (a : Int)).toNat = a := by
  rw [BitVec.toNat_ofInt]
  have : ((2 ^ n : Nat) : Int) = (2 : Int) ^ n := by norm_cast
  rw [show ((a : Int) % ((2 ^ n : Nat) : Int)) = ((a % 2 ^ n : Nat) : Int) from by rw [Int.natCast_emod], Int.toNat_natCast, Nat.mod_eq_of_lt h]
theorem bits_or8 {a b : Nat} (ha : a < 256) (hb : b < 256) : bitsI .or .u8 (a : Int) (b : Int) = ((a ||| b : Nat) : Int) := by
  change IntKind.u8.wrap (((BitVec.ofInt 8 (a : Int)) ||| (BitVec.ofInt 8 (b : Int))).toNat : Int) = _
  rw [BitVec.toNat_or, ofi 8 a ha, ofi 8 b hb, IntKind.wrap_u8]
  have : a ||| b < 2 ^ 8 := Nat.or_lt_two_pow ha hb
  omega
theorem bits_and8 {a b : Nat} (ha : a < 256) (hb : b < 256) : bitsI .and .u8 (a : Int) (b : Int) = ((a &&& b : Nat) : Int) := by
  change IntKind.u8.wrap (((BitVec.ofInt 8 (a : Int)) &&& (BitVec.ofInt 8 (b : Int))).toNat : Int) = _
  rw [BitVec.toNat_and, ofi 8 a ha, ofi 8 b hb, IntKind.wrap_u8]
  have : a &&& b < 2 ^ 8 := Nat.and_lt_two_pow a hb
  omega
theorem bits_or64 {a b : Nat} (ha : a < 18446744073709551616) (hb : b < 18446744073709551616) : bitsI .or .u64 (a : Int) (b : Int) = ((a ||| b : Nat) : Int) := by
  change IntKind.u64.wrap (((BitVec.ofInt 64 (a : Int)) ||| (BitVec.ofInt 64 (b : Int))).toNat : Int) = _
  rw [BitVec.toNat_or, ofi 64 a ha, ofi 64 b hb, IntKind.wrap_u64]
  have : a ||| b < 2 ^ 64 := Nat.or_lt_two_pow ha hb
  omega
theorem w8 (m : Nat) : IntKind.u8.wrap (m : Int) = ((m % 256 : Nat) : Int) := by rw [IntKind.wrap_u8]; omega
theorem n8 {m : Nat} (h : m < 256) : (UInt8.ofNat m).toNat = m := by simp [UInt8.toNat_ofNat', Nat.mod_eq_of_lt h]
theorem or128 (m : Nat) : Value.int .u8 (bitsI .or .u8 (IntKind.u8.wrap (m : Int)) 128) = .int .u8 ((UInt8.ofNat (m % 128 + 128)).toNat : Int) := by
  congr 1
  rw [n8 (by omega), w8]
  have hb : ∀ q : Fin 256, (q.val ||| 128) = q.val % 128 + 128 := by decide +kernel
  have := bits_or8 (a := m % 256) (b := 128) (by omega) (by omega)
  have h2 := hb ⟨m % 256, by omega⟩
  simp only [] at h2
  rw [h2] at this
  rw [show ((128 : Int)) = ((128 : Nat) : Int) from rfl, this]
  congr 2
  omega
theorem u8_of (m : Nat) (h : m < 256) : Value.int .u8 (IntKind.u8.wrap (m : Int)) = .int .u8 ((UInt8.ofNat m).toNat : Int) := by
  rw [n8 h, w8, Nat.mod_eq_of_lt h]
theorem shr7 (m : Nat) : Value.int .u64 ((m : Int).fdiv (2 ^ (min (7 : Int).toNat (IntKind.bits .u64)))) = .int .u64 ((m / 128 : Nat) : Int) := by
  congr 1
  have : (2 : Int) ^ (min (7 : Int).toNat (IntKind.bits .u64)) = 128 := by rfl
  rw [this, Int.fdiv_eq_ediv_of_nonneg _ (by omega)]
  omega
theorem and127 (c : UInt8) : Value.int .u8 (bitsI .and .u8 (c.toNat : Int) 127) = .int .u8 ((c.toNat % 128 : Nat) : Int) := by
  congr 1
  have hb : ∀ q : Fin 256, (q.val &&& 127) = q.val % 128 := by decide +kernel
  have hc : c.toNat < 256 := c.toNat_lt
  have := bits_and8 (a := c.toNat) (b := 127) hc (by omega)
  have h2 := hb ⟨c.toNat, hc⟩
  simp only [] at h2
  rw [h2] at this
  exact this
theorem w64n {m : Nat} (h : m < 18446744073709551616) : IntKind.u64.wrap (m : Int) = (m : Int) := by rw [IntKind.wrap_u64]; omega
theorem shl7 {c k : Nat} (hk : k ≤ 9) (hx : c * 128 ^ k < 18446744073709551616) :
    Value.int .u64 (IntKind.u64.wrap ((c : Int) * 2 ^ (min ((7 : Int) * (k : Int)).toNat (IntKind.bits .u64)))) = .int .u64 ((c * 128 ^ k : Nat) : Int) := by
  congr 1
  have h1 : ((7 : Int) * (k : Int)).toNat = 7 * k := by omega
  have h2 : min (7 * k) (IntKind.bits .u64) = 7 * k := by simp [IntKind.bits]; omega
  have h3 : (2 : Int) ^ (7 * k) = ((128 ^ k : Nat) : Int) := by
    rw [Int.natCast_pow, Int.pow_mul]; rfl
  rw [h1, h2, h3, ← Int.natCast_mul, w64n hx]
theorem or_add {n c k : Nat} (hn : n < 128 ^ k) (hx : n + c * 128 ^ k < 18446744073709551616) :
    Value.int .u64 (bitsI .or .u64 (n : Int) ((c * 128 ^ k : Nat) : Int)) = .int .u64 ((n + c * 128 ^ k : Nat) : Int) := by
  rw [bits_or64 (by omega) (by omega)]
  congr 2
  have e : 128 ^ k = 2 ^ (7 * k) := by rw [Nat.pow_mul]
  rw [e] at hn ⊢
  have := Nat.shiftLeft_add_eq_or_of_lt hn c
  rw [Nat.shiftLeft_eq] at this
  rw [Nat.or_comm, ← this, Nat.add_comm]
theorem vfit {c : UInt8} {n k : Nat} (hn : n < 128 ^ k) (hk : k ≤ 9) (hc : ¬ (k = 9 ∧ 1 < c.toNat)) : n + c.toNat % 128 * 128 ^ k < 18446744073709551616 := by
  rcases Nat.lt_or_ge k 9 with h | h
  · have h8 : 128 ^ k ≤ 128 ^ 8 := Nat.pow_le_pow_right (by omega) (by omega)
    have : c.toNat % 128 * 128 ^ k ≤ 127 * 128 ^ 8 := Nat.mul_le_mul (by omega) h8
    omega
  · have : k = 9 := by omega
    subst this
    have : c.toNat % 128 ≤ 1 := by omega
    have : c.toNat % 128 * 128 ^ 9 ≤ 1 * 128 ^ 9 := Nat.mul_le_mul_right _ this
    omega
theorem vstep {c : UInt8} {n k : Nat} (hn : n < 128 ^ k) : n + c.toNat % 128 * 128 ^ k < 128 ^ (k + 1) := by
  rw [Nat.pow_succ]
  have : c.toNat % 128 * 128 ^ k ≤ 127 * 128 ^ k := Nat.mul_le_mul_right _ (by omega)
  omega
theorem tdivn (a b : Nat) : (a : Int).tdiv (b : Int) = ((a / b : Nat) : Int) := by rw [Int.tdiv_eq_ediv_of_nonneg (by omega)]; norm_cast
theorem tmodn (a b : Nat) : (a : Int).tmod (b : Int) = ((a % b : Nat) : Int) := by rw [Int.tmod_eq_emod_of_nonneg (by omega)]; norm_cast
theorem quo128 (m : Nat) (h : m < 18446744073709551616) : Value.int .u64 (IntKind.u64.wrap ((m : Int).tdiv 128)) = .int .u64 ((m / 128 : Nat) : Int) := by
  congr 1
  rw [show (128 : Int) = ((128 : Nat) : Int) from rfl, tdivn, w64n (by omega)]
theorem rem128 (m : Nat) : Value.int .u64 ((m : Int).tmod 128) = .int .u64 ((m % 128 : Nat) : Int) := by
  exact congrArg _ (tmodn m 128)
theorem add128 (m : Nat) : Value.int .u64 (IntKind.u64.wrap (128 + ((m % 128 : Nat) : Int))) = .int .u64 ((m % 128 + 128 : Nat) : Int) := by
  congr 1
  rw [show (128 : Int) + ((m % 128 : Nat) : Int) = ((m % 128 + 128 : Nat) : Int) from by omega, w64n (by omega)]
theorem wmod (m : Nat) : IntKind.u64.wrap (m : Int) = ((m % 18446744073709551616 : Nat) : Int) := by rw [IntKind.wrap_u64]; omega
theorem mul_w {n c p : Nat} (h : n + c * p < 18446744073709551616) : Value.int .u64 (IntKind.u64.wrap ((c : Int) * IntKind.u64.wrap (p : Int))) = .int .u64 ((c * p : Nat) : Int) := by
  congr 1
  rw [wmod, ← Int.natCast_mul, wmod]
  congr 1
  rw [Nat.mul_mod, Nat.mod_mod, ← Nat.mul_mod, Nat.mod_eq_of_lt (by omega)]
theorem add_w {n x : Nat} (h : n + x < 18446744073709551616) : Value.int .u64 (IntKind.u64.wrap ((n : Int) + ((x : Nat) : Int))) = .int .u64 ((n + x : Nat) : Int) := by
  congr 1
  rw [← Int.natCast_add, w64n h]
theorem mul128_w (k : Nat) : Value.int .u64 (IntKind.u64.wrap (IntKind.u64.wrap ((128 ^ k : Nat) : Int) * 128)) = .int .u64 (IntKind.u64.wrap ((128 ^ (k + 1) : Nat) : Int)) := by
  congr 1
  rw [wmod, show (128 : Int) = ((128 : Nat) : Int) from rfl, ← Int.natCast_mul, wmod, wmod]
  congr 1
  rw [Nat.pow_succ, Nat.mul_mod, Nat.mod_mod, ← Nat.mul_mod]
theorem u8_ofI (k : Int) : Value.int .u8 (IntKind.u8.wrap k) = .int .u8 ((UInt8.ofNat (k % 256).toNat).toNat : Int) := by
  rw [n8 (by omega), IntKind.wrap_u8]
  congr 1
  omega
def encOp (o : Pl.Opd) : List Value := [.int .i64 o.kind, .string o.key, .string o.val]
theorem EncOp : Enc encOp 3 := ⟨fun _ => rfl, fun _ => rfl⟩
open Go.Proofs.YtkjgjejkfjhcjaaDoor.Pl in
/-- Rows of bytes as fields, one behind the other. -/
def packE (ls : List Bys) : List UInt8 := ls.flatMap fun y => fenc y.xs
open Go.Proofs.YtkjgjejkfjhcjaaDoor.Pl in
theorem packE_one {A : Option Addr} {c : Nat} {xs : List UInt8} : packE [⟨A, c, xs⟩] = fenc xs := by simp [packE]
open Go.Proofs.YtkjgjejkfjhcjaaDoor.Pl in
theorem packE_succ {ls : List Bys} {k : Nat} (h : k < ls.length) : packE (ls.take (k + 1)) = packE (ls.take k) ++ fenc ls[k].xs := by
  unfold packE; rw [List.take_succ_eq_append_getElem h, List.flatMap_append]; simp only [List.flatMap_cons, List.flatMap_nil, List.append_nil]
theorem packE_le (ls : List Bys) (k : Nat) : (packE (ls.take k)).length ≤ (packE ls).length := by
  have : packE ls = packE (ls.take k) ++ packE (ls.drop k) := by unfold packE; rw [← List.flatMap_append, List.take_append_drop]
  rw [this, List.length_append]
  omega
theorem neg_rem {n : Int} (h : n < 0) (hn : -9223372036854775808 ≤ n ∧ n ≤ 9223372036854775807) : Value.int .i64 (IntKind.i64.wrap (-(n.tmod 10))) = .int .i64 (((-n).toNat % 10 : Nat) : Int) := by
  congr 1
  have e : n.tmod 10 = -(((-n).toNat % 10 : Nat) : Int) := by
    obtain ⟨m, rfl⟩ : ∃ m : Nat, n = -(m : Int) := ⟨(-n).toNat, by omega⟩
    rw [Int.neg_tmod, Int.tmod_eq_emod_of_nonneg (by omega)]
    omega
  rw [e, IntKind.wrap_i64]
  omega
theorem neg_quo {n : Int} (h : n < 0) (hn : -9223372036854775808 ≤ n ∧ n ≤ 9223372036854775807) : Value.int .i64 (IntKind.i64.wrap (n.tdiv 10)) = .int .i64 (-(((-n).toNat / 10 : Nat) : Int)) := by
  congr 1
  have e : n.tdiv 10 = -(((-n).toNat / 10 : Nat) : Int) := by
    obtain ⟨m, rfl⟩ : ∃ m : Nat, n = -(m : Int) := ⟨(-n).toNat, by omega⟩
    rw [Int.neg_tdiv, Int.tdiv_eq_ediv_of_nonneg (by omega)]
    omega
  rw [e, IntKind.wrap_i64]
  omega
theorem pos_quo {n : Int} (h : 0 ≤ n) (hn : -9223372036854775808 ≤ n ∧ n ≤ 9223372036854775807) : Value.int .i64 (IntKind.i64.wrap (n.tdiv 10)) = .int .i64 ((n.toNat / 10 : Nat) : Int) := by
  congr 1
  rw [Int.tdiv_eq_ediv_of_nonneg h, IntKind.wrap_i64]
  omega
theorem pos_rem {n : Int} (h : 0 ≤ n) : Value.int .i64 (n.tmod 10) = .int .i64 ((n.toNat % 10 : Nat) : Int) := by
  congr 1
  rw [Int.tmod_eq_emod_of_nonneg h]
  omega
end Go.Proofs.YtkjgjejkfjhcjaaDoor.Gw
