/-
  Contracts of the package crc and of its reference: the sum of a row of bytes.
-/
import Derived.Test.YtbpjdcpfphnccaaDoorTb
namespace Go.Proofs.YtbpjdcpfphnccaaDoor
open Go.RowKit Gw Pl
set_option linter.unusedVariables false
set_option linter.unusedSimpArgs false
theorem any5 : anyB Tryd.prog 5 = true := by kernel_rfl
theorem arr113 : arrB Tryd.prog 113 90 16 1 = true := by kernel_rfl
theorem cb65 : callB Tryd.prog 65 = true := by kernel_rfl
theorem cb68 : callB Tryd.prog 68 = true := by kernel_rfl
theorem cb69 : callB Tryd.prog 69 = true := by kernel_rfl
theorem cb70 : callB Tryd.prog 70 = true := by kernel_rfl
theorem int90 : intB Tryd.prog 90 .u32 = true := by kernel_rfl
theorem scl90 : sclB Tryd.prog 90 = true := by kernel_rfl
/-! ### the sum: one step, four steps, eight -/
def st1 (x : Nat) : Nat := if x % 2 = 1 then Nat.xor (x / 2) 2197175160 else x / 2
def stk : Nat → Nat → Nat
  | 0, x => x
  | k + 1, x => st1 (stk k x)
theorem st1_lt {x : Nat} (h : x < 4294967296) : st1 x < 4294967296 := by
  unfold st1
  split
  · exact xor_lt (by omega) (by decide)
  · omega
theorem stk_lt {x : Nat} (h : x < 4294967296) : ∀ k, stk k x < 4294967296
  | 0 => h
  | k + 1 => st1_lt (stk_lt h k)
theorem xmod2 (a b : Nat) : Nat.xor a b % 2 = (a % 2 + b % 2) % 2 := by
  have e : Nat.xor a b = a ^^^ b := rfl
  have h := Nat.xor_mod_two_pow (a := a) (b := b) (n := 1)
  rw [e, show (2 : Nat) = 2 ^ 1 from rfl, h]
  simp only [Nat.pow_one]
  rcases Nat.mod_two_eq_zero_or_one a with ha | ha <;> rcases Nat.mod_two_eq_zero_or_one b with hb | hb <;> rw [ha, hb] <;> rfl
theorem xdiv2 (a b : Nat) : Nat.xor a b / 2 = Nat.xor (a / 2) (b / 2) := Nat.xor_div_two
theorem xassoc (a b c : Nat) : Nat.xor (Nat.xor a b) c = Nat.xor a (Nat.xor b c) := Nat.xor_assoc a b c
theorem xcomm (a b : Nat) : Nat.xor a b = Nat.xor b a := Nat.xor_comm a b
theorem xself (a : Nat) : Nat.xor a a = 0 := Nat.xor_self a
theorem xzero (a : Nat) : Nat.xor a 0 = a := Nat.xor_zero a
theorem st1_xor (a b : Nat) : st1 (Nat.xor a b) = Nat.xor (st1 a) (st1 b) := by
  unfold st1
  rw [xmod2, xdiv2]
  rcases Nat.mod_two_eq_zero_or_one a with ha | ha <;> rcases Nat.mod_two_eq_zero_or_one b with hb | hb
  · rw [if_neg (by omega), if_neg (by omega), if_neg (by omega)]
  · rw [if_pos (by omega), if_neg (by omega), if_pos (by omega), xassoc]
  · rw [if_pos (by omega), if_pos (by omega), if_neg (by omega), xassoc, xassoc, xcomm (b / 2)]
  · rw [if_neg (by omega), if_pos (by omega), if_pos (by omega), xassoc (a / 2), xcomm 2197175160, xassoc (b / 2), xself, xzero]
theorem four_eq (x : Nat) : st1 (st1 (st1 (st1 x))) = fourN x := by
  have e : x = Nat.xor (16 * (x / 16)) (x % 16) := by
    have h := Nat.two_pow_add_eq_or_of_lt (i := 4) (b := x % 16) (by omega) (x / 16)
    have h2 : Nat.xor (16 * (x / 16)) (x % 16) = (16 * (x / 16)) ||| (x % 16) := by
      apply Nat.eq_of_testBit_eq
      intro j
      have e1 : Nat.xor (16 * (x / 16)) (x % 16) = (16 * (x / 16)) ^^^ (x % 16) := rfl
      rw [e1, Nat.testBit_xor, Nat.testBit_or]
      rcases Nat.lt_or_ge j 4 with hj | hj
      · have : (16 * (x / 16)).testBit j = false := by
          rw [show 16 * (x / 16) = 2 ^ 4 * (x / 16) from rfl, Nat.testBit_two_pow_mul]
          simp; omega
        rw [this]; simp
      · have : (x % 16).testBit j = false := by
          rw [show 16 = 2 ^ 4 from rfl, Nat.testBit_mod_two_pow]
          simp; omega
        rw [this]; simp
    rw [h2, show 16 * (x / 16) = 2 ^ 4 * (x / 16) from rfl, ← h]
    omega
  have even : ∀ q, st1 (2 * q) = q := by
    intro q
    unfold st1
    rw [if_neg (by omega)]
    omega
  have low : ∀ r : Fin 16, st1 (st1 (st1 (st1 r.val))) = hf r.val := by decide +kernel
  conv => lhs; rw [e]
  rw [st1_xor, st1_xor, st1_xor, st1_xor, low ⟨x % 16, by omega⟩, show 16 * (x / 16) = 2 * (2 * (2 * (2 * (x / 16)))) by omega, even, even, even, even, xcomm]
  rfl
theorem eight_eq (x : Nat) : stk 8 x = fourN (fourN x) := by
  rw [← four_eq, ← four_eq]; rfl
theorem sub32 {x : Nat} (h : x < 4294967296) : Value.int .u32 (IntKind.u32.wrap (4294967295 - (x : Int))) = .int .u32 ((Nat.xor 4294967295 x : Nat) : Int) := by
  have e : Nat.xor 4294967295 x = 4294967295 - x := by
    have h1 : 4294967295 ^^^ x = 4294967295 - x := by
      apply Nat.eq_of_testBit_eq
      intro j
      rw [Nat.testBit_xor, show (4294967295 : Nat) = 2 ^ 32 - 1 from rfl, Nat.testBit_two_pow_sub_one, show 2 ^ 32 - 1 - x = 2 ^ 32 - (x + 1) by omega, Nat.testBit_two_pow_sub_succ h]
      rcases Nat.lt_or_ge j 32 with hj | hj
      · simp [hj]
      · have h3 : x.testBit j = false := Nat.testBit_lt_two_pow (Nat.lt_of_lt_of_le (show x < 2 ^ 32 from h) (Nat.pow_le_pow_right (n := 2) (by decide) hj))
        simp [h3, show ¬ j < 32 by omega]
    exact h1
  rw [e, IntKind.wrap_u32]
  refine congrArg (Value.int .u32) ?_
  omega
theorem shr15 (x : Nat) : Value.int .u32 ((x : Int).fdiv (2 ^ (min (15 : Int).toNat (IntKind.bits .u32)))) = .int .u32 ((x / 32768 : Nat) : Int) := by
  refine congrArg (Value.int .u32) ?_
  have : (2 : Int) ^ (min (15 : Int).toNat (IntKind.bits .u32)) = 32768 := by rfl
  rw [this, Int.fdiv_eq_ediv_of_nonneg _ (by omega)]
  omega
theorem shl17 (x : Nat) : Value.int .u32 (IntKind.u32.wrap ((x : Int) * 2 ^ (min (17 : Int).toNat (IntKind.bits .u32)))) = .int .u32 ((x % 32768 * 131072 : Nat) : Int) := by
  refine congrArg (Value.int .u32) ?_
  have : (2 : Int) ^ (min (17 : Int).toNat (IntKind.bits .u32)) = 131072 := by rfl
  rw [this, IntKind.wrap_u32]
  omega
theorem or17 {a b : Nat} (ha : a < 131072) (hb : b < 32768) : Value.int .u32 (bitsI .or .u32 (a : Int) ((b * 131072 : Nat) : Int)) = .int .u32 ((a + b * 131072 : Nat) : Int) := by
  refine congrArg (Value.int .u32) ?_
  change IntKind.u32.wrap (((BitVec.ofInt 32 (a : Int)) ||| (BitVec.ofInt 32 ((b * 131072 : Nat) : Int))).toNat : Int) = _
  rw [BitVec.toNat_or, ofi32 (by omega), ofi32 (by omega), IntKind.wrap_u32]
  have h := Nat.two_pow_add_eq_or_of_lt (i := 17) (b := a) (by omega) b
  rw [Nat.or_comm, show b * 131072 = 2 ^ 17 * b by omega, ← h]
  omega
theorem add32 {a c : Nat} : Value.int .u32 (IntKind.u32.wrap ((a : Int) + (c : Int))) = .int .u32 (((a + c) % 4294967296 : Nat) : Int) := by
  refine congrArg (Value.int .u32) ?_
  rw [IntKind.wrap_u32]
  omega
theorem quo32 {a c : Nat} (h : a < 4294967296) : Value.int .u32 (IntKind.u32.wrap (Int.tdiv (a : Int) (c : Int))) = .int .u32 ((a / c : Nat) : Int) := by
  have h2 : a / c ≤ a := Nat.div_le_self _ _
  rw [tdivn, IntKind.wrap_u32]
  refine congrArg (Value.int .u32) ?_
  generalize a / c = q at *
  omega
theorem mul32 {a c : Nat} (h : a * c < 4294967296) : Value.int .u32 (IntKind.u32.wrap ((a : Int) * (c : Int))) = .int .u32 ((a * c : Nat) : Int) := by
  rw [← Int.natCast_mul, IntKind.wrap_u32]
  refine congrArg (Value.int .u32) ?_
  generalize a * c = q at *
  omega
theorem rem32 {n k : Nat} : Value.int .u32 (Int.tmod (n : Int) (k : Int)) = .int .u32 ((n % k : Nat) : Int) := rfl
theorem mask_eq {s : Nat} : (s / 32768 + s % 32768 * 131072 + 2726488792) % 4294967296 = maskN s := rfl
theorem moreN_lt (s : Nat) (bs : List UInt8) (h : s < 4294967296) : moreN s bs < 4294967296 := xor_lt (by decide) (crcN_lt _ (xor_lt (by decide) h))
theorem crc_four {w : World} {x : Nat} (hb : Tbw w) (hx : x < 4294967296) :
    Runs Tryd.prog 70 #[.int .u32 (x : Int)] w (fun v w' => w.grownBy w' none ∧ v = .int .u32 (fourN x : Int)) := by
  have hB := gb_refl w none
  refine enter Tryd.func70 Tryd.ntmps70 rfl rfl ?_
  refine C_seq (C_reg rfl ?_)
  refine L_run (R_assign rfl) rfl ?_
  refine L_nil (N_then (C_seq (C_reg rfl ?_)))
  refine L_run (R_move rfl) rfl ?_
  refine L_run (R_eqv (R_and rfl rfl) (v' := .int .u32 ((x % 16 : Nat) : Int)) (and15 x hx)) rfl ?_
  have hl1 : (x % 16) < 16 := by omega
  refine L_run (R_indexArr (sz := 1) (o := 0) (a := ((x % 16 : Nat) : Int)) (i := (x % 16)) (r := (0 + (x % 16))) rfl rfl (by first | rfl | omega) arr113 hl1 (by first | omega | rfl | simp)) rfl ?_
  refine L_run (R_load1 rfl scl90 (hb.cell (tbl_at hl1))) rfl ?_
  refine L_run (R_move rfl) rfl ?_
  refine L_run (R_eqv (R_shr rfl rfl (by first | decide | omega)) (v' := .int .u32 ((x / 16 : Nat) : Int)) (shr4 x)) rfl ?_
  refine L_run (R_eqv (R_xor rfl rfl) (v' := .int .u32 (fourN x : Int)) (xor32 (hf_lt _) (by omega))) rfl ?_
  refine L_run (R_assign rfl) rfl ?_
  refine L_nil (N_then (C_ret ?_))
  refine ret1 Tryd.results70 rfl ?_
  exact ⟨hB, rfl⟩

theorem crc_more {w : World} (hb : Tbw w) {t1 lo hi : Nat} {A : Option Addr} {c s : Nat} {bs : List UInt8} (hs : s < 4294967296) (hS : Sli t1 lo hi w A (fl encB bs)) (hlb : bs.length ≤ 1000000) :
    Runs Tryd.prog 68 #[.int .u32 (s : Int), .slice A bs.length c] w (fun v w' => w.grownBy w' none ∧ v = .int .u32 (moreN s bs : Int)) := by
  have hB := gb_refl w none
  replace hS := hS.top
  refine enter Tryd.func68 Tryd.ntmps68 rfl rfl ?_
  refine C_seq (C_reg rfl ?_)
  refine L_run (R_assign rfl) rfl ?_
  refine L_nil (N_then (C_seq (C_reg rfl ?_)))
  refine L_run (R_move rfl) rfl ?_
  refine L_run (R_eqv (R_inv rfl) (v' := .int .u32 ((Nat.xor 4294967295 s) : Int)) (xor32 (by decide) hs)) rfl ?_
  refine L_run (R_assign rfl) rfl ?_
  refine L_nil (N_then (C_seq (C_seq (C_reg rfl ?_))))
  refine L_run (R_move rfl) rfl ?_
  refine L_run (R_lenSl rfl slc46) rfl ?_
  refine L_run (R_move rfl) rfl ?_
  refine L_nil (N_then (C_block ?_))
  refine C_loop (fun m_ a_ w_ => ∃ (σ_ : Nat → Value) (k : Nat), a_ = Ac 25 σ_ [] [(5, .int .u32 (crcN (Nat.xor 4294967295 s) (bs.take k) : Int)), (10, .slice A bs.length c), (11, .int .i64 (bs.length : Int)), (12, .int .i64 (k : Int))] ∧ w.grownBy w_ none ∧ Tbw w_ ∧ Sli t1 lo w.heap.size w_ A (fl encB bs) ∧ (k ≤ bs.length) ∧ bs.length - k = m_) (bs.length - 0) ?_ ?_
  · exact ⟨_, 0, Ac_frg ⟨(agr rfl (by first | rfl | (congr 1; omega) | (congr 1; simp; done) | (congr 1; simp only [IntKind.wrap_u64, IntKind.wrap_i64, IntKind.wrap_u8]; omega) | (congr 1 <;> omega))), rfl, rfl, (agr rfl (by first | rfl | (congr 1; omega) | (congr 1; simp; done) | (congr 1; simp only [IntKind.wrap_u64, IntKind.wrap_i64, IntKind.wrap_u8]; omega) | (congr 1 <;> omega))), trivial⟩, hB, hb, hS, (Nat.zero_le _), rfl⟩
  · clear hB
    clear hb hS
    rintro m_ a_ w1 ⟨σ_, k, rfl, hB, hb, hS, hk, rfl⟩
    refine C_seq (C_reg rfl ?_)
    refine L_run (R_lss rfl rfl) rfl ?_
    refine L_nil (N_then (C_seq ?_))
    refine C_if rfl (fun h1 => ?_) (fun h1 => ?_)
    · refine C_skip (N_then (C_seq (C_block (C_seq (C_reg rfl ?_)))))
      have hl1 : k < bs.length := by first | omega | (simp; omega)
      refine T_index (xs := bs) (i := k) EncB rfl rfl (by first | rfl | omega) slc46 hl1 hS rfl ?_
      intro g1 o1 ha1
      refine L_run (R_load1 rfl scl5 (ha1 0 _ rfl)) rfl ?_
      refine L_run (R_assign rfl) rfl ?_
      refine L_nil (N_then (C_reg rfl ?_))
      refine L_run (R_move rfl) rfl ?_
      refine L_run (R_move rfl) rfl ?_
      refine L_run (R_eqv (R_conv rfl any5 int90) (v' := .int .u32 (bs[k].toNat : Int)) (w32c _)) rfl ?_
      refine L_run (R_eqv (R_xor rfl rfl) (v' := .int .u32 (Nat.xor (crcN (Nat.xor 4294967295 s) (bs.take k)) bs[k].toNat : Int)) (xor32 (crcN_lt _ (xor_lt (by decide) hs)) (by have := (bs[k]).toNat_lt; omega))) rfl ?_
      refine L_call rfl cb70 (crc_four (x := Nat.xor (crcN (Nat.xor 4294967295 s) (bs.take k)) bs[k].toNat) hb (xc_lt (crcN_lt _ (xor_lt (by decide) hs)) _)) rfl ?_
      rintro _ w2 ⟨hs1, rfl⟩
      replace hB := gb_tr hB hs1
      replace hb := hb.gb hs1
      replace hS := hS.gb hs1
      replace ha1 := At.gb ha1 hs1 (by simp)
      refine L_call rfl cb70 (crc_four (x := fourN (Nat.xor (crcN (Nat.xor 4294967295 s) (bs.take k)) bs[k].toNat)) hb (fourN_lt (xc_lt (crcN_lt _ (xor_lt (by decide) hs)) _))) rfl ?_
      rintro _ w3 ⟨hs2, rfl⟩
      replace hB := gb_tr hB hs2
      replace hb := hb.gb hs2
      replace hS := hS.gb hs2
      replace ha1 := At.gb ha1 hs2 (by simp)
      refine L_run (R_assign rfl) rfl ?_
      refine L_nil (N_in (N_then (C_reg rfl ?_)))
      refine L_run (R_add64 rfl rfl (by omega)) rfl ?_
      refine L_run (R_move rfl) rfl ?_
      refine L_nil (N_then ?_)
      have e_ : fourN (fourN (Nat.xor (crcN (Nat.xor 4294967295 s) (bs.take k)) bs[k].toNat)) = crcN (Nat.xor 4294967295 s) (bs.take (k + 1)) := crc_succ (by omega)
      rw [e_]
      exact ⟨bs.length - (k + 1), by omega, _, (k + 1), Ac_frg ⟨rfl, rfl, rfl, (agr rfl (by first | rfl | (congr 1; omega) | (congr 1; simp; done) | (congr 1; simp only [IntKind.wrap_u64, IntKind.wrap_i64, IntKind.wrap_u8]; omega) | (congr 1 <;> omega))), trivial⟩, hB, hb, hS, (by omega), rfl⟩
    · refine C_exit (X_then (X_then (X_hit (N_then (C_seq (C_reg rfl ?_))))))
      refine L_run (R_move rfl) rfl ?_
      refine L_run (R_eqv (R_inv rfl) (v' := .int .u32 (Nat.xor 4294967295 (crcN (Nat.xor 4294967295 s) (bs.take k)) : Int)) (xor32 (by decide) (crcN_lt _ (xor_lt (by decide) hs)))) rfl ?_
      refine L_run (R_assign rfl) rfl ?_
      refine L_nil (N_then (C_ret ?_))
      refine ret1 Tryd.results68 rfl ?_
      have e_ : bs.take k = bs := List.take_of_length_le (by omega)
      rw [e_]; exact ⟨hB, rfl⟩

theorem mask_ok {w : World} {s : Nat} (hs : s < 4294967296) :
    Runs Tryd.prog 62 #[.int .u32 (s : Int)] w (fun v w' => w.grownBy w' none ∧ v = .int .u32 ((maskN s : Nat) : Int)) := by
  have hB := gb_refl w none
  refine enter Tryd.func62 Tryd.ntmps62 rfl rfl ?_
  refine C_seq (C_reg rfl ?_)
  refine L_run (R_assign rfl) rfl ?_
  refine L_nil (N_then (C_seq (C_reg rfl ?_)))
  refine L_run (R_move rfl) rfl ?_
  refine L_run (R_eqv (R_shr rfl rfl (by first | decide | omega)) (v' := .int .u32 ((s / 32768 : Nat) : Int)) (shr15 s)) rfl ?_
  refine L_run (R_move rfl) rfl ?_
  refine L_run (R_eqv (R_shl rfl rfl (by first | decide | omega)) (v' := .int .u32 ((s % 32768 * 131072 : Nat) : Int)) (shl17 s)) rfl ?_
  refine L_run (R_eqv (R_or rfl rfl) (v' := .int .u32 ((s / 32768 + s % 32768 * 131072 : Nat) : Int)) (or17 (by omega) (by omega))) rfl ?_
  refine L_run (R_eqv (R_add rfl rfl) (v' := .int .u32 (((s / 32768 + s % 32768 * 131072 + 2726488792) % 4294967296 : Nat) : Int)) (add32 (c := 2726488792))) rfl ?_
  refine L_run (R_assign rfl) rfl ?_
  refine L_nil (N_then (C_ret ?_))
  refine ret1 Tryd.results62 rfl ?_
  first
    | (exfalso; omega)
    | (exact ⟨hB, rfl⟩)

theorem mask3 {w : World} {s : Nat} (hs : s < 4294967296) :
    Runs Tryd.prog 54 #[.int .u32 (s : Int)] w (fun v w' => w.grownBy w' none ∧ v = .int .u32 ((maskN s : Nat) : Int)) := by
  have hB := gb_refl w none
  refine enter Tryd.func54 Tryd.ntmps54 rfl rfl ?_
  refine C_seq (C_reg rfl ?_)
  refine L_run (R_assign rfl) rfl ?_
  refine L_nil (N_then (C_seq (C_reg rfl ?_)))
  refine L_run (R_move rfl) rfl ?_
  refine L_run (R_eqv (R_quo rfl rfl (by first | decide | omega)) (v' := .int .u32 ((s / 32768 : Nat) : Int)) (quo32 (c := 32768) hs)) rfl ?_
  refine L_run (R_move rfl) rfl ?_
  refine L_run (R_eqv (R_rem rfl rfl (by first | decide | omega)) (v' := .int .u32 ((s % 32768 : Nat) : Int)) (rem32 (k := 32768))) rfl ?_
  refine L_run (R_eqv (R_mul rfl rfl) (v' := .int .u32 ((s % 32768 * 131072 : Nat) : Int)) (mul32 (c := 131072) (by omega))) rfl ?_
  refine L_run (R_eqv (R_add rfl rfl) (v' := .int .u32 ((s / 32768 + s % 32768 * 131072 : Nat) : Int)) ((add32 (a := s / 32768) (c := s % 32768 * 131072)).trans (congrArg (fun q : Nat => Value.int .u32 (q : Int)) (by omega)))) rfl ?_
  refine L_run (R_eqv (R_add rfl rfl) (v' := .int .u32 (((s / 32768 + s % 32768 * 131072 + 2726488792) % 4294967296 : Nat) : Int)) (add32 (c := 2726488792))) rfl ?_
  refine L_run (R_assign rfl) rfl ?_
  refine L_nil (N_then (C_ret ?_))
  refine ret1 Tryd.results54 rfl ?_
  first
    | (exfalso; omega)
    | (exact ⟨hB, rfl⟩)

theorem of_ok {w : World} {t1 lo hi : Nat} {A : Option Addr} {c : Nat} {bs : List UInt8} (hS : Sli t1 lo hi w A (fl encB bs)) (hb : bs.length ≤ 1000000) (hT : Tbw w) :
    Runs Tryd.prog 63 #[.slice A bs.length c] w (fun v w' => w.grownBy w' none ∧ v = .int .u32 ((moreN 0 bs : Nat) : Int)) := by
  have hB := gb_refl w none
  replace hS := hS.top
  refine enter Tryd.func63 Tryd.ntmps63 rfl rfl ?_
  refine C_seq (C_reg rfl ?_)
  refine L_run (R_assign rfl) rfl ?_
  refine L_nil (N_then (C_seq (C_reg rfl ?_)))
  refine L_run (R_move rfl) rfl ?_
  refine L_call rfl cb68 (crc_more (s := 0) (bs := bs) (hT.gb hB) (by decide) hS hb) rfl ?_
  rintro _ w1 ⟨hs1, rfl⟩
  replace hB := gb_tr hB hs1
  replace hS := hS.gb hs1
  refine L_run (R_assign rfl) rfl ?_
  refine L_nil (N_then (C_ret ?_))
  refine ret1 Tryd.results63 rfl ?_
  first
    | (exfalso; omega)
    | (exact ⟨hB, rfl⟩)

theorem step3 {w : World} {x : Nat} (hx : x < 4294967296) :
    Runs Tryd.prog 69 #[.int .u32 (x : Int)] w (fun v w' => w.grownBy w' none ∧ v = .int .u32 ((st1 x : Nat) : Int)) := by
  have hB := gb_refl w none
  refine enter Tryd.func69 Tryd.ntmps69 rfl rfl ?_
  refine C_seq (C_reg rfl ?_)
  refine L_run (R_assign rfl) rfl ?_
  refine L_nil (N_then (C_seq (C_seq (C_reg rfl ?_))))
  refine L_run (R_move rfl) rfl ?_
  refine L_run (R_eqv (R_rem rfl rfl (by first | decide | omega)) (v' := .int .u32 ((x % 2 : Nat) : Int)) (rem32 (k := 2))) rfl ?_
  refine L_run (R_eql rfl rfl) rfl ?_
  refine L_nil (N_then ?_)
  refine C_if rfl (fun h1 => ?_) (fun h1 => ?_)
  · refine C_seq (C_reg rfl ?_)
    refine L_run (R_move rfl) rfl ?_
    refine L_run (R_eqv (R_quo rfl rfl (by first | decide | omega)) (v' := .int .u32 ((x / 2 : Nat) : Int)) (quo32 (c := 2) hx)) rfl ?_
    refine L_run (R_eqv (R_xor rfl rfl) (v' := .int .u32 ((Nat.xor (x / 2) 2197175160 : Nat) : Int)) (xor32 (b := 2197175160) (by omega) (by decide))) rfl ?_
    refine L_run (R_assign rfl) rfl ?_
    refine L_nil (N_then (C_ret (R_then ?_)))
    refine ret1 Tryd.results69 rfl ?_
    first
      | (exfalso; omega)
      | (refine ⟨hB, congrArg (fun q : Nat => Value.int .u32 (q : Int)) ?_⟩
         unfold st1
         first | rw [if_pos (by omega)] | rw [if_neg (by omega)])
  · refine C_skip (N_then (C_seq (C_reg rfl ?_)))
    refine L_run (R_move rfl) rfl ?_
    refine L_run (R_eqv (R_quo rfl rfl (by first | decide | omega)) (v' := .int .u32 ((x / 2 : Nat) : Int)) (quo32 (c := 2) hx)) rfl ?_
    refine L_run (R_assign rfl) rfl ?_
    refine L_nil (N_then (C_ret ?_))
    refine ret1 Tryd.results69 rfl ?_
    first
      | (exfalso; omega)
      | (refine ⟨hB, congrArg (fun q : Nat => Value.int .u32 (q : Int)) ?_⟩
         unfold st1
         first | rw [if_pos (by omega)] | rw [if_neg (by omega)])

theorem more3 {w : World} {t1 lo hi : Nat} {A : Option Addr} {c : Nat} {bs : List UInt8} (hS : Sli t1 lo hi w A (fl encB bs)) (hb : bs.length ≤ 1000000) {s : Nat} (hs : s < 4294967296) :
    Runs Tryd.prog 65 #[.int .u32 (s : Int), .slice A bs.length c] w (fun v w' => w.grownBy w' none ∧ v = .int .u32 ((moreN s bs : Nat) : Int)) := by
  have hB := gb_refl w none
  replace hS := hS.top
  refine enter Tryd.func65 Tryd.ntmps65 rfl rfl ?_
  refine C_seq (C_reg rfl ?_)
  refine L_run (R_assign rfl) rfl ?_
  refine L_nil (N_then (C_seq (C_reg rfl ?_)))
  refine L_run (R_move rfl) rfl ?_
  refine L_run (R_eqv (R_sub rfl rfl) (v' := .int .u32 ((Nat.xor 4294967295 s : Nat) : Int)) (sub32 hs)) rfl ?_
  refine L_run (R_assign rfl) rfl ?_
  refine L_nil (N_then (C_seq (C_seq (C_reg rfl ?_))))
  refine L_run (R_assign rfl) rfl ?_
  refine L_nil (N_then (C_block ?_))
  refine C_loop (fun m_ a_ w_ => ∃ (σ_ : Nat → Value) (i : Nat), a_ = Ac 31 σ_ [] [(1, .slice A bs.length c), (5, .int .u32 ((crcN (Nat.xor 4294967295 s) (bs.take i) : Nat) : Int)), (6, .int .i64 (i : Int))] ∧ w.grownBy w_ none ∧ Sli t1 lo w.heap.size w_ A (fl encB bs) ∧ (i ≤ bs.length) ∧ bs.length - i = m_) (bs.length - 0) ?_ ?_
  · exact ⟨_, 0, Ac_frg ⟨rfl, (agr rfl (by first | rfl | (congr 1; omega) | (congr 1; simp; done) | (congr 1; simp only [IntKind.wrap_u64, IntKind.wrap_i64, IntKind.wrap_u8]; omega) | (congr 1 <;> omega))), (agr rfl (by first | rfl | (congr 1; omega) | (congr 1; simp; done) | (congr 1; simp only [IntKind.wrap_u64, IntKind.wrap_i64, IntKind.wrap_u8]; omega) | (congr 1 <;> omega))), trivial⟩, hB, hS, (by omega), rfl⟩
  · clear hB
    clear hS
    rintro m_ a_ w1 ⟨σ_, i, rfl, hB, hS, hi, rfl⟩
    refine C_seq (C_seq (C_reg rfl ?_))
    refine L_run (R_move rfl) rfl ?_
    refine L_run (R_move rfl) rfl ?_
    refine L_run (R_lenSl rfl slc46) rfl ?_
    refine L_run (R_lss rfl rfl) rfl ?_
    refine L_nil (N_then ?_)
    refine C_if rfl (fun h1 => ?_) (fun h1 => ?_)
    · refine C_skip (N_then (C_seq (C_block (C_seq (C_reg rfl ?_)))))
      refine L_run (R_move rfl) rfl ?_
      refine L_run (R_move rfl) rfl ?_
      refine L_run (R_move rfl) rfl ?_
      have hl1 : i < bs.length := by first | omega | (simp; omega)
      refine T_index (xs := bs) (i := i) EncB rfl rfl (by first | rfl | omega) slc46 hl1 hS rfl ?_
      intro g1 o1 ha1
      refine L_run (R_load1 rfl scl5 (ha1 0 _ rfl)) rfl ?_
      refine L_run (R_eqv (R_conv rfl any5 int90) (v' := .int .u32 (bs[i].toNat : Int)) (w32c _)) rfl ?_
      refine L_run (R_eqv (R_xor rfl rfl) (v' := .int .u32 ((Nat.xor (crcN (Nat.xor 4294967295 s) (bs.take i)) bs[i].toNat : Nat) : Int)) (xor32 (crcN_lt _ (xor_lt (by decide) hs)) (by have := (bs[i]).toNat_lt; omega))) rfl ?_
      refine L_run (R_assign rfl) rfl ?_
      refine L_nil (N_then (C_seq (C_reg rfl ?_)))
      refine L_run (R_assign rfl) rfl ?_
      refine L_nil (N_then (C_block ?_))
      refine C_loop (fun m_ a_ w_ => ∃ (σ_ : Nat → Value) (k : Nat), a_ = Ac 31 σ_ [] [(1, .slice A bs.length c), (5, .int .u32 ((stk k (Nat.xor (crcN (Nat.xor 4294967295 s) (bs.take i)) bs[i].toNat) : Nat) : Int)), (6, .int .i64 (i : Int)), (7, .int .i64 (k : Int))] ∧ w.grownBy w_ none ∧ Sli t1 lo w.heap.size w_ A (fl encB bs) ∧ (k ≤ 8) ∧ 8 - k = m_) (8 - 0) ?_ ?_
      · exact ⟨_, 0, Ac_frg ⟨rfl, (agr rfl (by first | rfl | (congr 1; omega) | (congr 1; simp; done) | (congr 1; simp only [IntKind.wrap_u64, IntKind.wrap_i64, IntKind.wrap_u8]; omega) | (congr 1 <;> omega))), rfl, (agr rfl (by first | rfl | (congr 1; omega) | (congr 1; simp; done) | (congr 1; simp only [IntKind.wrap_u64, IntKind.wrap_i64, IntKind.wrap_u8]; omega) | (congr 1 <;> omega))), trivial⟩, hB, hS, (by omega), rfl⟩
      · clear hB
        clear hS ha1
        rintro m_ a_ w2 ⟨σ_, k, rfl, hB, hS, hk, rfl⟩
        refine C_seq (C_seq (C_reg rfl ?_))
        refine L_run (R_move rfl) rfl ?_
        refine L_run (R_lss rfl rfl) rfl ?_
        refine L_nil (N_then ?_)
        refine C_if rfl (fun h2 => ?_) (fun h2 => ?_)
        · refine C_skip (N_then (C_seq (C_block (C_reg rfl ?_))))
          refine L_run (R_move rfl) rfl ?_
          refine L_call rfl cb69 (step3 (x := (stk k (Nat.xor (crcN (Nat.xor 4294967295 s) (bs.take i)) bs[i].toNat))) (stk_lt (xc_lt (crcN_lt _ (xor_lt (by decide) hs)) _) _)) rfl ?_
          rintro _ w3 ⟨hs1, rfl⟩
          replace hB := gb_tr hB hs1
          replace hS := hS.gb hs1
          refine L_run (R_assign rfl) rfl ?_
          refine L_nil (N_in (N_then (C_reg rfl ?_)))
          refine L_run (R_move rfl) rfl ?_
          refine L_run (R_add64 rfl rfl (by omega)) rfl ?_
          refine L_run (R_assign rfl) rfl ?_
          refine L_nil (N_then ?_)
          exact ⟨8 - (k + 1), by omega, _, (k + 1), Ac_frg ⟨rfl, (agr rfl (by first | rfl | (congr 1; omega) | (congr 1; simp; done) | (congr 1; simp only [IntKind.wrap_u64, IntKind.wrap_i64, IntKind.wrap_u8]; omega) | (congr 1 <;> omega))), rfl, (agr rfl (by first | rfl | (congr 1; omega) | (congr 1; simp; done) | (congr 1; simp only [IntKind.wrap_u64, IntKind.wrap_i64, IntKind.wrap_u8]; omega) | (congr 1 <;> omega))), trivial⟩, hB, hS, (by omega), rfl⟩
        · refine C_exit (X_then (X_then (X_hit (N_in (N_then (C_reg rfl ?_))))))
          refine L_run (R_move rfl) rfl ?_
          refine L_run (R_add64 rfl rfl (by omega)) rfl ?_
          refine L_run (R_assign rfl) rfl ?_
          refine L_nil (N_then ?_)
          obtain rfl : k = 8 := by omega
          exact ⟨bs.length - (i + 1), by omega, _, (i + 1), Ac_frg ⟨rfl, (agr rfl (by rw [eight_eq, crc_succ (by omega)])), (agr rfl (by first | rfl | (congr 1; omega) | (congr 1; simp; done) | (congr 1; simp only [IntKind.wrap_u64, IntKind.wrap_i64, IntKind.wrap_u8]; omega) | (congr 1 <;> omega))), trivial⟩, hB, hS, (by omega), rfl⟩
    · refine C_exit (X_then (X_then (X_hit (N_then (C_seq (C_reg rfl ?_))))))
      refine L_run (R_move rfl) rfl ?_
      refine L_run (R_eqv (R_sub rfl rfl) (v' := .int .u32 ((Nat.xor 4294967295 (crcN (Nat.xor 4294967295 s) (bs.take i)) : Nat) : Int)) (sub32 (crcN_lt _ (xor_lt (by decide) hs)))) rfl ?_
      refine L_run (R_assign rfl) rfl ?_
      refine L_nil (N_then (C_ret ?_))
      refine ret1 Tryd.results65 rfl ?_
      obtain rfl : i = bs.length := by omega
      have e_ : bs.take bs.length = bs := List.take_of_length_le (by omega)
      rw [e_]; exact ⟨hB, rfl⟩

theorem of3 {w : World} {t1 lo hi : Nat} {A : Option Addr} {c : Nat} {bs : List UInt8} (hS : Sli t1 lo hi w A (fl encB bs)) (hb : bs.length ≤ 1000000) :
    Runs Tryd.prog 55 #[.slice A bs.length c] w (fun v w' => w.grownBy w' none ∧ v = .int .u32 ((moreN 0 bs : Nat) : Int)) := by
  have hB := gb_refl w none
  replace hS := hS.top
  refine enter Tryd.func55 Tryd.ntmps55 rfl rfl ?_
  refine C_seq (C_reg rfl ?_)
  refine L_run (R_assign rfl) rfl ?_
  refine L_nil (N_then (C_seq (C_reg rfl ?_)))
  refine L_run (R_move rfl) rfl ?_
  refine L_call rfl cb65 (more3 (s := 0) (bs := bs) hS hb (by decide)) rfl ?_
  rintro _ w1 ⟨hs1, rfl⟩
  replace hB := gb_tr hB hs1
  replace hS := hS.gb hs1
  refine L_run (R_assign rfl) rfl ?_
  refine L_nil (N_then (C_ret ?_))
  refine ret1 Tryd.results55 rfl ?_
  first
    | (exfalso; omega)
    | (exact ⟨hB, rfl⟩)

end Go.Proofs.YtbpjdcpfphnccaaDoor
