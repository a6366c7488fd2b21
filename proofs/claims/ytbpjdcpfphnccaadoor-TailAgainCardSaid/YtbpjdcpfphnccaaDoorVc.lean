/-
  Plain mathematics: the sum of a row of bytes, by a table of sixteen numbers; the model's bits of 32.
-/
import Derived.Test.YtbpjdcpfphnccaaDoorVq
import Derived.Test.YtbpjdcpfphnccaaDoorGx
namespace Go.Proofs.YtbpjdcpfphnccaaDoor.Pl
open Gw
set_option linter.unusedVariables false
set_option linter.unusedSimpArgs false
def tbl : List Nat := [0, 274646895, 549293790, 820201905, 1098587580, 1361435347, 1640403810, 1905808397, 2197175160, 2460548119, 2722870694, 2987750089, 3280807620, 3553878443, 3811616794, 4084100981]
def hf (i : Nat) : Nat := tbl.getD i 0
def fourN (x : Nat) : Nat := Nat.xor (hf (x % 16)) (x / 16)
def stepN (x : Nat) (c : UInt8) : Nat := fourN (fourN (Nat.xor x c.toNat))
def crcN (x : Nat) (bs : List UInt8) : Nat := bs.foldl stepN x
def moreN (s : Nat) (bs : List UInt8) : Nat := Nat.xor 4294967295 (crcN (Nat.xor 4294967295 s) bs)
theorem hf_lt (i : Nat) : hf i < 4294967296 := by
  unfold hf
  rcases Nat.lt_or_ge i 16 with h | h
  · have : ∀ q : Fin 16, tbl.getD q.val 0 < 4294967296 := by decide +kernel
    exact this ⟨i, h⟩
  · rw [List.getD_eq_getElem?_getD, List.getElem?_eq_none (by simpa [tbl] using h)]
    decide
theorem xor_lt {a b : Nat} (ha : a < 4294967296) (hb : b < 4294967296) : Nat.xor a b < 4294967296 := Nat.xor_lt_two_pow (n := 32) ha hb
theorem xc_lt {x : Nat} (hx : x < 4294967296) (c : UInt8) : Nat.xor x c.toNat < 4294967296 := xor_lt hx (by have := c.toNat_lt; omega)
theorem fourN_lt {x : Nat} (hx : x < 4294967296) : fourN x < 4294967296 := xor_lt (hf_lt _) (by omega)
theorem crcN_lt : ∀ {x : Nat} (bs : List UInt8), x < 4294967296 → crcN x bs < 4294967296
  | x, [], h => h
  | x, c :: bs, h => crcN_lt bs (fourN_lt (fourN_lt (xc_lt h c)))
theorem crc_succ {x k : Nat} {bs : List UInt8} (hk : k < bs.length) : fourN (fourN (Nat.xor (crcN x (bs.take k)) bs[k].toNat)) = crcN x (bs.take (k + 1)) := by
  rw [List.take_add_one, List.getElem?_eq_getElem hk]
  unfold crcN
  rw [List.foldl_append]
  rfl
theorem ofi32 {a : Nat} (h : a < 4294967296) : (BitVec.ofInt 32 (a : Int)).toNat = a := ofi 32 a h
theorem xor32 {a b : Nat} (ha : a < 4294967296) (hb : b < 4294967296) : Value.int .u32 (bitsI .xor .u32 (a : Int) (b : Int)) = .int .u32 ((Nat.xor a b : Nat) : Int) := by
  congr 1
  change IntKind.u32.wrap (((BitVec.ofInt 32 (a : Int)) ^^^ (BitVec.ofInt 32 (b : Int))).toNat : Int) = _
  rw [BitVec.toNat_xor, ofi32 ha, ofi32 hb, IntKind.wrap_u32]
  have : a ^^^ b < 4294967296 := xor_lt ha hb
  show ((a ^^^ b : Nat) : Int) % _ = ((a ^^^ b : Nat) : Int)
  omega
theorem and15 (x : Nat) (hx : x < 4294967296) : Value.int .u32 (bitsI .and .u32 (x : Int) 15) = .int .u32 ((x % 16 : Nat) : Int) := by
  congr 1
  change IntKind.u32.wrap (((BitVec.ofInt 32 (x : Int)) &&& (BitVec.ofInt 32 ((15 : Nat) : Int))).toNat : Int) = _
  rw [BitVec.toNat_and, ofi32 hx, ofi32 (by decide), IntKind.wrap_u32, show (15 : Nat) = 2 ^ 4 - 1 from rfl, Nat.and_two_pow_sub_one_eq_mod]
  omega
theorem shr4 (x : Nat) : Value.int .u32 ((x : Int).fdiv (2 ^ (min (4 : Int).toNat (IntKind.bits .u32)))) = .int .u32 ((x / 16 : Nat) : Int) := by
  congr 1
  have : (2 : Int) ^ (min (4 : Int).toNat (IntKind.bits .u32)) = 16 := by rfl
  rw [this, Int.fdiv_eq_ediv_of_nonneg _ (by omega)]
  omega
theorem w32c (c : UInt8) : Value.int .u32 (IntKind.u32.wrap (c.toNat : Int)) = .int .u32 (c.toNat : Int) := by
  have := c.toNat_lt
  rw [IntKind.wrap_u32]
  congr 1
  omega
theorem tbl_at {i : Nat} (h : i < 16) : ([.int .u32 0, .int .u32 274646895, .int .u32 549293790, .int .u32 820201905, .int .u32 1098587580, .int .u32 1361435347, .int .u32 1640403810, .int .u32 1905808397, .int .u32 2197175160, .int .u32 2460548119, .int .u32 2722870694, .int .u32 2987750089, .int .u32 3280807620, .int .u32 3553878443, .int .u32 3811616794, .int .u32 4084100981] : List Value)[0 + i]? = some (.int .u32 ((hf i : Nat) : Int)) := by
  have e : ([.int .u32 0, .int .u32 274646895, .int .u32 549293790, .int .u32 820201905, .int .u32 1098587580, .int .u32 1361435347, .int .u32 1640403810, .int .u32 1905808397, .int .u32 2197175160, .int .u32 2460548119, .int .u32 2722870694, .int .u32 2987750089, .int .u32 3280807620, .int .u32 3553878443, .int .u32 3811616794, .int .u32 4084100981] : List Value) = tbl.map (fun n : Nat => Value.int .u32 (n : Int)) := rfl
  rw [e, Nat.zero_add, List.getElem?_map]
  unfold hf
  rw [List.getD_eq_getElem?_getD]
  have : i < tbl.length := h
  rw [List.getElem?_eq_getElem this]
  rfl
end Go.Proofs.YtbpjdcpfphnccaaDoor.Pl
namespace Go.Proofs.YtbpjdcpfphnccaaDoor.Gw
open Go.RowKit
section
variable {P : Program} {w : World} {n : Nat} {σ : Nat → Value} {ds : List Deferred} {l : Sl} {ty : TypeId} {pos : String} {af : Array Edge} {dst : Option Nat} {gd : Option (Nat × Bool)}
theorem R_inv {t : TypeId} {x : Operand} {a : Int} (hx : ev n l x = some (.int .u32 a)) :
    (execOp (Ac n σ ds l).eval ⟨dst, .unOp .xor t x, ty, pos, af, gd⟩).run P w = .ok (.value (.int .u32 (bitsI .xor .u32 4294967295 a))) w := by
  simp only [execOp, ev_eval hx]
  exact v_run (by simp [Op.unary, IntKind.signed, Op.intBits, bitsI]; rfl)
/-- Block 0 begins with the table. -/
def tblV : List Value := [.int .u32 0, .int .u32 274646895, .int .u32 549293790, .int .u32 820201905, .int .u32 1098587580, .int .u32 1361435347, .int .u32 1640403810, .int .u32 1905808397, .int .u32 2197175160, .int .u32 2460548119, .int .u32 2722870694, .int .u32 2987750089, .int .u32 3280807620, .int .u32 3553878443, .int .u32 3811616794, .int .u32 4084100981]
def Tbw (w : World) : Prop := ∃ vs T fz, w.heap[0]? = some (.cells (tblV ++ vs).toArray T fz)
theorem Tbw.cell {w : World} (h : Tbw w) {i : Nat} {v : Value} (hi : tblV[i]? = some v) : w.cell? ⟨0, i, none⟩ = some v := by
  obtain ⟨vs, T, fz, h⟩ := h
  rw [cell_of_row w 0 i _ T fz h]
  simp only [List.getElem?_toArray]
  rw [List.getElem?_append_left (List.getElem?_eq_some_iff.1 hi).1]
  exact hi
theorem Tbw.gb {w w' : World} (h : Tbw w) (hb : w.grownBy w' none) : Tbw w' := by
  obtain ⟨vs, T, fz, h⟩ := h
  exact ⟨vs, T, fz, (hb.block 0 (Array.getElem?_eq_some_iff.1 h).1 (by simp)).trans h⟩
end
end Go.Proofs.YtbpjdcpfphnccaaDoor.Gw
