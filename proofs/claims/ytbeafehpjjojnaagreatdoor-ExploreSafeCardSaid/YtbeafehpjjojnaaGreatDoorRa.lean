/-
  Contracts of the package crc: the sum of a row of bytes.
-/
import Derived.Test.YtbeafehpjjojnaaGreatDoorProg
import Derived.Test.YtbeafehpjjojnaaGreatDoorVc
import Derived.Test.YtbeafehpjjojnaaGreatDoorGs
namespace Go.Proofs.YtbeafehpjjojnaaGreatDoor
open Go.RowKit Gw Pl
set_option linter.unusedVariables false
set_option linter.unusedSimpArgs false
theorem any5 : anyB Tryz.prog 5 = true := by kernel_rfl
theorem arr508 : arrB Tryz.prog 508 162 16 1 = true := by kernel_rfl
theorem cb358 : callB Tryz.prog 358 = true := by kernel_rfl
theorem int162 : intB Tryz.prog 162 .u32 = true := by kernel_rfl
theorem scl162 : sclB Tryz.prog 162 = true := by kernel_rfl
theorem scl5 : sclB Tryz.prog 5 = true := by kernel_rfl
theorem slc32 : slcB Tryz.prog 32 5 1 1 = true := by kernel_rfl
theorem crc_four {w : World} {x : Nat} (hb : Tbw w) (hx : x < 4294967296) :
    Runs Tryz.prog 358 #[.int .u32 (x : Int)] w (fun v w' => w.grownBy w' none ∧ v = .int .u32 (fourN x : Int)) := by
  have hB := gb_refl w none
  refine enter Tryz.func358 Tryz.ntmps358 rfl rfl ?_
  refine C_seq (C_reg rfl ?_)
  refine L_run (R_assign rfl) rfl ?_
  refine L_nil (N_then (C_seq (C_reg rfl ?_)))
  refine L_run (R_move rfl) rfl ?_
  refine L_run (R_eqv (R_and rfl rfl) (v' := .int .u32 ((x % 16 : Nat) : Int)) (and15 x hx)) rfl ?_
  have hl1 : (x % 16) < 16 := by omega
  refine L_run (R_indexArr (sz := 1) (o := 0) (a := ((x % 16 : Nat) : Int)) (i := (x % 16)) (r := (0 + (x % 16))) rfl rfl (by first | rfl | omega) arr508 hl1 (by first | omega | rfl | simp)) rfl ?_
  refine L_run (R_load1 rfl scl162 (hb.cell (tbl_at hl1))) rfl ?_
  refine L_run (R_move rfl) rfl ?_
  refine L_run (R_eqv (R_shr rfl rfl (by first | decide | omega)) (v' := .int .u32 ((x / 16 : Nat) : Int)) (shr4 x)) rfl ?_
  refine L_run (R_eqv (R_xor rfl rfl) (v' := .int .u32 (fourN x : Int)) (xor32 (hf_lt _) (by omega))) rfl ?_
  refine L_run (R_assign rfl) rfl ?_
  refine L_nil (N_then (C_ret ?_))
  refine ret1 Tryz.results358 rfl ?_
  exact ⟨hB, rfl⟩

theorem crc_more {w : World} (hb : Tbw w) {t1 lo hi : Nat} {A : Option Addr} {c s : Nat} {bs : List UInt8} (hs : s < 4294967296) (hS : Sli t1 lo hi w A (fl encB bs)) (hlb : bs.length ≤ 1000000) :
    Runs Tryz.prog 270 #[.int .u32 (s : Int), .slice A bs.length c] w (fun v w' => w.grownBy w' none ∧ v = .int .u32 (moreN s bs : Int)) := by
  have hB := gb_refl w none
  replace hS := hS.top
  refine enter Tryz.func270 Tryz.ntmps270 rfl rfl ?_
  refine C_seq (C_reg rfl ?_)
  refine L_run (R_assign rfl) rfl ?_
  refine L_nil (N_then (C_seq (C_reg rfl ?_)))
  refine L_run (R_move rfl) rfl ?_
  refine L_run (R_eqv (R_inv rfl) (v' := .int .u32 ((Nat.xor 4294967295 s) : Int)) (xor32 (by decide) hs)) rfl ?_
  refine L_run (R_assign rfl) rfl ?_
  refine L_nil (N_then (C_seq (C_seq (C_reg rfl ?_))))
  refine L_run (R_move rfl) rfl ?_
  refine L_run (R_lenSl rfl slc32) rfl ?_
  refine L_run (R_move rfl) rfl ?_
  refine L_nil (N_then (C_block ?_))
  refine C_loop (fun m_ a_ w_ => ∃ (σ_ : Nat → Value) (k : Nat), a_ = Ac 25 σ_ [] [(5, .int .u32 (crcN (Nat.xor 4294967295 s) (bs.take k) : Int)), (10, .slice A bs.length c), (11, .int .i64 (bs.length : Int)), (12, .int .i64 (k : Int))] ∧ w.grownBy w_ none ∧ Tbw w_ ∧ Sli t1 lo w.heap.size w_ A (fl encB bs) ∧ (k ≤ bs.length) ∧ bs.length - k = m_) (bs.length - 0) ?_ ?_
  · exact ⟨_, 0, Ac_frg ⟨(agr rfl (by first | rfl | (congr 1; omega) | (congr 1; simp; done) | (congr 1; simp only [IntKind.wrap_u64, IntKind.wrap_i64, IntKind.wrap_u8]; omega) | (congr 1 <;> omega))), rfl, rfl, (agr rfl (by first | rfl | (congr 1; omega) | (congr 1; simp; done) | (congr 1; simp only [IntKind.wrap_u64, IntKind.wrap_i64, IntKind.wrap_u8]; omega) | (congr 1 <;> omega))), trivial⟩, hB, hb, hS, (Nat.zero_le _), rfl⟩
  · clear hB
    clear hb hS
    rintro m_ a_ w1 ⟨σ_, k, rfl, hB, hb, hS, hk, rfl⟩
    refine C_seq (C_reg rfl ?_)
    refine L_run (R_lss rfl rfl) rfl ?_
    refine L_nil (N_then (C_seq ?_))
    refine C_if rfl (fun h1 => ?_) (fun h1 => ?_)
    · refine C_skip (N_then (C_seq (C_block (C_seq (C_reg rfl ?_)))))
      have hl1 : k < bs.length := by first | omega | (simp; omega)
      refine T_index (xs := bs) (i := k) EncB rfl rfl (by first | rfl | omega) slc32 hl1 hS rfl ?_
      intro g1 o1 ha1
      refine L_run (R_load1 rfl scl5 (ha1 0 _ rfl)) rfl ?_
      refine L_run (R_assign rfl) rfl ?_
      refine L_nil (N_then (C_reg rfl ?_))
      refine L_run (R_move rfl) rfl ?_
      refine L_run (R_move rfl) rfl ?_
      refine L_run (R_eqv (R_conv rfl any5 int162) (v' := .int .u32 (bs[k].toNat : Int)) (w32c _)) rfl ?_
      refine L_run (R_eqv (R_xor rfl rfl) (v' := .int .u32 (Nat.xor (crcN (Nat.xor 4294967295 s) (bs.take k)) bs[k].toNat : Int)) (xor32 (crcN_lt _ (xor_lt (by decide) hs)) (by have := (bs[k]).toNat_lt; omega))) rfl ?_
      refine L_call rfl cb358 (crc_four (x := Nat.xor (crcN (Nat.xor 4294967295 s) (bs.take k)) bs[k].toNat) hb (xc_lt (crcN_lt _ (xor_lt (by decide) hs)) _)) rfl ?_
      rintro _ w2 ⟨hs1, rfl⟩
      replace hB := gb_tr hB hs1
      replace hb := hb.gb hs1
      replace hS := hS.gb hs1
      replace ha1 := At.gb ha1 hs1 (by simp)
      refine L_call rfl cb358 (crc_four (x := fourN (Nat.xor (crcN (Nat.xor 4294967295 s) (bs.take k)) bs[k].toNat)) hb (fourN_lt (xc_lt (crcN_lt _ (xor_lt (by decide) hs)) _))) rfl ?_
      rintro _ w3 ⟨hs2, rfl⟩
      replace hB := gb_tr hB hs2
      replace hb := hb.gb hs2
      replace hS := hS.gb hs2
      replace ha1 := At.gb ha1 hs2 (by simp)
      refine L_run (R_assign rfl) rfl ?_
      refine L_nil (N_in (N_then (C_reg rfl ?_)))
      refine L_run (R_add64 rfl rfl (by omega)) rfl ?_
      refine L_run (R_move rfl) rfl ?_
      refine L_nil (N_then ?_)
      have e_ : fourN (fourN (Nat.xor (crcN (Nat.xor 4294967295 s) (bs.take k)) bs[k].toNat)) = crcN (Nat.xor 4294967295 s) (bs.take (k + 1)) := crc_succ (by omega)
      rw [e_]
      exact ⟨bs.length - (k + 1), by omega, _, (k + 1), Ac_frg ⟨rfl, rfl, rfl, (agr rfl (by first | rfl | (congr 1; omega) | (congr 1; simp; done) | (congr 1; simp only [IntKind.wrap_u64, IntKind.wrap_i64, IntKind.wrap_u8]; omega) | (congr 1 <;> omega))), trivial⟩, hB, hb, hS, (by omega), rfl⟩
    · refine C_exit (X_then (X_then (X_hit (N_then (C_seq (C_reg rfl ?_))))))
      refine L_run (R_move rfl) rfl ?_
      refine L_run (R_eqv (R_inv rfl) (v' := .int .u32 (Nat.xor 4294967295 (crcN (Nat.xor 4294967295 s) (bs.take k)) : Int)) (xor32 (by decide) (crcN_lt _ (xor_lt (by decide) hs)))) rfl ?_
      refine L_run (R_assign rfl) rfl ?_
      refine L_nil (N_then (C_ret ?_))
      refine ret1 Tryz.results270 rfl ?_
      have e_ : bs.take k = bs := List.take_of_length_le (by omega)
      rw [e_]; exact ⟨hB, rfl⟩

end Go.Proofs.YtbeafehpjjojnaaGreatDoor
