/-
  Contracts of the package word and of its reference: numbers in bytes.
-/
import Derived.Test.YtnggbodilhpohaaDoorSb
namespace Go.Proofs.YtnggbodilhpohaaDoor
open Go.RowKit Gw Pl
set_option linter.unusedVariables false
set_option linter.unusedSimpArgs false
theorem any22 : anyB Tryd.prog 22 = true := by kernel_rfl
theorem any5 : anyB Tryd.prog 5 = true := by kernel_rfl
theorem cb50 : callB Tryd.prog 50 = true := by kernel_rfl
theorem int22 : intB Tryd.prog 22 .u64 = true := by kernel_rfl
theorem int5 : intB Tryd.prog 5 .u8 = true := by kernel_rfl
theorem mix : Tryd.prog.follows .mixedOrders = true := by kernel_rfl
theorem scl5 : sclB Tryd.prog 5 = true := by kernel_rfl
theorem slc25 : slcB Tryd.prog 25 5 1 1 = true := by kernel_rfl
theorem zer5 : (Tryd.prog.info? 5).bind (·.zero) = some (.int .u8 0) := by kernel_rfl
theorem shl8 {c k : Nat} (hk : k ≤ 7) (hx : c * 256 ^ k < 18446744073709551616) :
    Value.int .u64 (IntKind.u64.wrap ((c : Int) * 2 ^ (min ((8 : Int) * (k : Int)).toNat (IntKind.bits .u64)))) = .int .u64 ((c * 256 ^ k : Nat) : Int) := by
  refine congrArg (Value.int .u64) ?_
  have h1 : ((8 : Int) * (k : Int)).toNat = 8 * k := by omega
  have h2 : min (8 * k) (IntKind.bits .u64) = 8 * k := by simp [IntKind.bits]; omega
  have h3 : (2 : Int) ^ (8 * k) = ((256 ^ k : Nat) : Int) := by
    rw [Int.natCast_pow, Int.pow_mul]; rfl
  rw [h1, h2, h3, ← Int.natCast_mul, w64n hx]
theorem or_add8 {n c k : Nat} (hn : n < 256 ^ k) (hx : n + c * 256 ^ k < 18446744073709551616) :
    Value.int .u64 (bitsI .or .u64 (n : Int) ((c * 256 ^ k : Nat) : Int)) = .int .u64 ((n + c * 256 ^ k : Nat) : Int) := by
  rw [bits_or64 (by omega) (by omega)]
  refine congrArg (fun q : Nat => Value.int .u64 (q : Int)) ?_
  have e : 256 ^ k = 2 ^ (8 * k) := by rw [Nat.pow_mul]
  rw [e] at hn ⊢
  have := Nat.shiftLeft_add_eq_or_of_lt hn c
  rw [Nat.shiftLeft_eq] at this
  rw [Nat.or_comm, ← this, Nat.add_comm]
theorem gstep {n k : Nat} {c : UInt8} (hn : n < 256 ^ k) : n + c.toNat * 256 ^ k < 256 ^ (k + 1) := by
  rw [Nat.pow_succ]
  have h := c.toNat_lt
  have : c.toNat * 256 ^ k ≤ 255 * 256 ^ k := Nat.mul_le_mul_right _ (by omega)
  omega
theorem gfit {n k : Nat} {c : UInt8} (hn : n < 256 ^ k) (hk : k ≤ 7) : n + c.toNat * 256 ^ k < 18446744073709551616 := by
  have h := gstep (c := c) hn
  have h2 : 256 ^ (k + 1) ≤ 256 ^ 8 := Nat.pow_le_pow_right (by omega) (by omega)
  omega
theorem take_8 {bs : List UInt8} {k : Nat} (h : k = min bs.length 8) : bs.take k = bs.take 8 := by
  rw [h, List.take_eq_take_min (i := 8), Nat.min_comm]
theorem mul256 {c k : Nat} (hx : c * 256 ^ k < 18446744073709551616) : Value.int .u64 (IntKind.u64.wrap ((c : Int) * ((2 ^ (8 * k) : Nat) : Int))) = .int .u64 ((c * 256 ^ k : Nat) : Int) := by
  rw [← Int.natCast_mul, show 2 ^ (8 * k) = 256 ^ k by rw [Nat.pow_mul], w64n hx]
theorem two_step {k n : Nat} (h : k < n) (hn : n ≤ 63) : Value.int .u64 (IntKind.u64.wrap (((2 ^ k : Nat) : Int) * 2)) = .int .u64 ((2 ^ (k + 1) : Nat) : Int) := by
  have h2 : 2 ^ (k + 1) ≤ 2 ^ 63 := Nat.pow_le_pow_right (by omega) (by omega)
  have e : (((2 ^ k : Nat) : Int) * 2) = ((2 ^ (k + 1) : Nat) : Int) := by rw [Nat.pow_succ]; norm_cast
  rw [e, w64n (by omega)]
theorem remU {n k : Nat} : Value.int .u64 (Int.tmod (n : Int) (k : Int)) = .int .u64 ((n % k : Nat) : Int) := rfl
theorem quoU {n k : Nat} (hn : n < 18446744073709551616) : Value.int .u64 (IntKind.u64.wrap (Int.tdiv (n : Int) (k : Int))) = .int .u64 ((n / k : Nat) : Int) := by
  have h2 : n / k ≤ n := Nat.div_le_self _ _
  rw [tdivn, w64n (by omega)]
theorem put_step {acc : List UInt8} {m k i n : Nat} {X : List UInt8} (h : i < k) (e : acc ++ putN m (k - i) = X) : (acc ++ [UInt8.ofNat (m % 256)]) ++ putN (m / 256) (k - (i + 1)) = X := by
  rw [← e, show k - i = (k - (i + 1)) + 1 by omega, putN]
  simp
theorem word_get {w : World} {t1 lo hi : Nat} {A : Option Addr} {c : Nat} {bs : List UInt8} (hS : Sli t1 lo hi w A (fl encB bs)) (hb : bs.length ≤ 140737488355328) :
    Runs Tryd.prog 36 #[.slice A bs.length c] w (fun v w' => w.grownBy w' none ∧ v = .int .u64 ((getN (bs.take 8) : Nat) : Int)) := by
  have hB := gb_refl w none
  replace hS := hS.top
  refine enter Tryd.func36 Tryd.ntmps36 rfl rfl ?_
  refine C_seq (C_reg rfl ?_)
  refine L_run (R_assign rfl) rfl ?_
  refine L_nil (N_then (C_seq (C_reg rfl ?_)))
  refine L_run (R_assign rfl) rfl ?_
  refine L_nil (N_then (C_seq (C_seq (C_reg rfl ?_))))
  refine L_run (R_move rfl) rfl ?_
  refine L_run (R_lenSl rfl slc25) rfl ?_
  refine L_run (R_min2 rfl rfl) rfl ?_
  refine L_run (R_move rfl) rfl ?_
  refine L_nil (N_then (C_block ?_))
  refine C_loop (fun m_ a_ w_ => ∃ (σ_ : Nat → Value) (k : Nat) (n : Nat), a_ = Ac 23 σ_ [] [(0, .slice A bs.length c), (3, .int .u64 (n : Int)), (7, .int .i64 (min (bs.length : Int) 8)), (8, .int .i64 (k : Int))] ∧ w.grownBy w_ none ∧ Sli t1 lo w.heap.size w_ A (fl encB bs) ∧ (k ≤ bs.length ∧ k ≤ 8) ∧ (n < 256 ^ k) ∧ (n = getN (bs.take k)) ∧ bs.length - k = m_) (bs.length - 0) ?_ ?_
  · exact ⟨_, 0, 0, Ac_frg ⟨rfl, (agr rfl (by first | rfl | (congr 1; omega) | (congr 1; simp; done) | (congr 1; simp only [IntKind.wrap_u64, IntKind.wrap_i64, IntKind.wrap_u8]; omega) | (congr 1 <;> omega))), rfl, (agr rfl (by first | rfl | (congr 1; omega) | (congr 1; simp; done) | (congr 1; simp only [IntKind.wrap_u64, IntKind.wrap_i64, IntKind.wrap_u8]; omega) | (congr 1 <;> omega))), trivial⟩, hB, hS, (by omega), (by decide), rfl, rfl⟩
  · clear hB
    clear hS
    rintro m_ a_ w1 ⟨σ_, k, n, rfl, hB, hS, hk, hn, hv, rfl⟩
    refine C_seq (C_reg rfl ?_)
    refine L_run (R_lss rfl rfl) rfl ?_
    refine L_nil (N_then (C_seq ?_))
    refine C_if rfl (fun h1 => ?_) (fun h1 => ?_)
    · refine C_skip (N_then (C_seq (C_block (C_seq (C_reg rfl ?_)))))
      refine L_run (R_move rfl) rfl ?_
      refine L_run (R_assign rfl) rfl ?_
      refine L_nil (N_then (C_reg rfl ?_))
      refine L_run (R_move rfl) rfl ?_
      refine L_run (R_move rfl) rfl ?_
      refine L_run (R_move rfl) rfl ?_
      have hl1 : k < bs.length := by first | omega | (simp; omega)
      refine T_index (xs := bs) (i := k) EncB rfl rfl (by first | rfl | omega) slc25 hl1 hS rfl ?_
      intro g1 o1 ha1
      refine L_run (R_load1 rfl scl5 (ha1 0 _ rfl)) rfl ?_
      refine L_run (R_eqv (R_conv rfl any5 int22) (v' := .int .u64 (bs[k].toNat : Int)) (congrArg _ (w64n (by have := bs[k].toNat_lt; omega)))) rfl ?_
      refine L_run (R_move rfl) rfl ?_
      refine L_run (R_mul64 rfl rfl (by omega)) rfl ?_
      refine L_run (R_eqv (R_shl rfl rfl (by first | decide | omega)) (v' := .int .u64 ((bs[k].toNat * 256 ^ k : Nat) : Int)) (shl8 (by omega) (by have := gfit (c := bs[k]) hn (by omega); omega))) rfl ?_
      refine L_run (R_eqv (R_or rfl rfl) (v' := .int .u64 ((n + bs[k].toNat * 256 ^ k : Nat) : Int)) (or_add8 hn (gfit hn (by omega)))) rfl ?_
      refine L_run (R_assign rfl) rfl ?_
      refine L_nil (N_in (N_then (C_reg rfl ?_)))
      refine L_run (R_add64 rfl rfl (by omega)) rfl ?_
      refine L_run (R_move rfl) rfl ?_
      refine L_nil (N_then ?_)
      exact ⟨bs.length - (k + 1), by omega, _, (k + 1), (n + bs[k].toNat * 256 ^ k), Ac_frg ⟨rfl, (agr rfl (by first | rfl | (congr 1; omega) | (congr 1; simp; done) | (congr 1; simp only [IntKind.wrap_u64, IntKind.wrap_i64, IntKind.wrap_u8]; omega) | (congr 1 <;> omega))), rfl, (agr rfl (by first | rfl | (congr 1; omega) | (congr 1; simp; done) | (congr 1; simp only [IntKind.wrap_u64, IntKind.wrap_i64, IntKind.wrap_u8]; omega) | (congr 1 <;> omega))), trivial⟩, hB, hS, (by omega), (gstep hn), (by rw [getN_succ hl1, ← hv]), rfl⟩
    · refine C_exit (X_then (X_then (X_hit (N_then (C_seq (C_reg rfl ?_))))))
      refine L_run (R_move rfl) rfl ?_
      refine L_run (R_assign rfl) rfl ?_
      refine L_nil (N_then (C_ret ?_))
      refine ret1 Tryd.results36 rfl ?_
      first
        | (exfalso; omega)
        | (exact ⟨hB, by rw [← take_8 (k := k) (by omega), ← hv]⟩)

theorem two_ok {w : World} {n : Nat} (hn : n ≤ 63) :
    Runs Tryd.prog 50 #[.int .i64 (n : Int)] w (fun v w' => w.grownBy w' none ∧ v = .int .u64 ((2 ^ n : Nat) : Int)) := by
  have hB := gb_refl w none
  refine enter Tryd.func50 Tryd.ntmps50 rfl rfl ?_
  refine C_seq (C_reg rfl ?_)
  refine L_run (R_assign rfl) rfl ?_
  refine L_nil (N_then (C_seq (C_reg rfl ?_)))
  refine L_run (R_assign rfl) rfl ?_
  refine L_nil (N_then (C_seq (C_seq (C_reg rfl ?_))))
  refine L_run (R_assign rfl) rfl ?_
  refine L_nil (N_then (C_block ?_))
  refine C_loop (fun m_ a_ w_ => ∃ (σ_ : Nat → Value) (k : Nat), a_ = Ac 13 σ_ [] [(0, .int .i64 (n : Int)), (3, .int .u64 ((2 ^ k : Nat) : Int)), (4, .int .i64 (k : Int))] ∧ w.grownBy w_ none ∧ (k ≤ n) ∧ n - k = m_) (n - 0) ?_ ?_
  · exact ⟨_, 0, Ac_frg ⟨rfl, (agr rfl (by first | rfl | (congr 1; omega) | (congr 1; simp; done) | (congr 1; simp only [IntKind.wrap_u64, IntKind.wrap_i64, IntKind.wrap_u8]; omega) | (congr 1 <;> omega))), (agr rfl (by first | rfl | (congr 1; omega) | (congr 1; simp; done) | (congr 1; simp only [IntKind.wrap_u64, IntKind.wrap_i64, IntKind.wrap_u8]; omega) | (congr 1 <;> omega))), trivial⟩, hB, (by omega), rfl⟩
  · clear hB
    rintro m_ a_ w1 ⟨σ_, k, rfl, hB, hk, rfl⟩
    refine C_seq (C_seq (C_reg rfl ?_))
    refine L_run (R_move rfl) rfl ?_
    refine L_run (R_move rfl) rfl ?_
    refine L_run (R_lss rfl rfl) rfl ?_
    refine L_nil (N_then ?_)
    refine C_if rfl (fun h1 => ?_) (fun h1 => ?_)
    · refine C_skip (N_then (C_seq (C_block (C_reg rfl ?_))))
      refine L_run (R_move rfl) rfl ?_
      refine L_run (R_eqv (R_mul rfl rfl) (v' := .int .u64 ((2 ^ (k + 1) : Nat) : Int)) (two_step (by omega) hn)) rfl ?_
      refine L_run (R_assign rfl) rfl ?_
      refine L_nil (N_in (N_then (C_reg rfl ?_)))
      refine L_run (R_move rfl) rfl ?_
      refine L_run (R_add64 rfl rfl (by omega)) rfl ?_
      refine L_run (R_assign rfl) rfl ?_
      refine L_nil (N_then ?_)
      exact ⟨n - (k + 1), by omega, _, (k + 1), Ac_frg ⟨rfl, rfl, (agr rfl (by first | rfl | (congr 1; omega) | (congr 1; simp; done) | (congr 1; simp only [IntKind.wrap_u64, IntKind.wrap_i64, IntKind.wrap_u8]; omega) | (congr 1 <;> omega))), trivial⟩, hB, (by omega), rfl⟩
    · refine C_exit (X_then (X_then (X_hit (N_then (C_seq (C_reg rfl ?_))))))
      refine L_run (R_move rfl) rfl ?_
      refine L_run (R_assign rfl) rfl ?_
      refine L_nil (N_then (C_ret ?_))
      refine ret1 Tryd.results50 rfl ?_
      first
        | (exfalso; omega)
        | (obtain rfl : n = k := by omega
           exact ⟨hB, rfl⟩)

theorem ref1_get {w : World} {t1 lo hi : Nat} {A : Option Addr} {c : Nat} {bs : List UInt8} (hS : Sli t1 lo hi w A (fl encB bs)) (hb : bs.length ≤ 140737488355328) :
    Runs Tryd.prog 44 #[.slice A bs.length c] w (fun v w' => w.grownBy w' none ∧ v = .int .u64 ((getN (bs.take 8) : Nat) : Int)) := by
  have hB := gb_refl w none
  replace hS := hS.top
  refine enter Tryd.func44 Tryd.ntmps44 rfl rfl ?_
  refine C_seq (C_reg rfl ?_)
  refine L_run (R_assign rfl) rfl ?_
  refine L_nil (N_then (C_seq (C_reg rfl ?_)))
  refine L_run (R_assign rfl) rfl ?_
  refine L_nil (N_then (C_seq (C_seq (C_reg rfl ?_))))
  refine L_run (R_assign rfl) rfl ?_
  refine L_nil (N_then (C_block ?_))
  refine C_loop (fun m_ a_ w_ => ∃ (σ_ : Nat → Value) (k : Nat) (n : Nat), a_ = Ac 27 σ_ [] [(0, .slice A bs.length c), (3, .int .u64 (n : Int)), (4, .int .i64 (k : Int))] ∧ w.grownBy w_ none ∧ Sli t1 lo w.heap.size w_ A (fl encB bs) ∧ (k ≤ bs.length ∧ k ≤ 8) ∧ (n < 256 ^ k) ∧ (n = getN (bs.take k)) ∧ bs.length - k = m_) (bs.length - 0) ?_ ?_
  · exact ⟨_, 0, 0, Ac_frg ⟨rfl, (agr rfl (by first | rfl | (congr 1; omega) | (congr 1; simp; done) | (congr 1; simp only [IntKind.wrap_u64, IntKind.wrap_i64, IntKind.wrap_u8]; omega) | (congr 1 <;> omega))), (agr rfl (by first | rfl | (congr 1; omega) | (congr 1; simp; done) | (congr 1; simp only [IntKind.wrap_u64, IntKind.wrap_i64, IntKind.wrap_u8]; omega) | (congr 1 <;> omega))), trivial⟩, hB, hS, (by omega), (by decide), rfl, rfl⟩
  · clear hB
    clear hS
    rintro m_ a_ w1 ⟨σ_, k, n, rfl, hB, hS, hk, hn, hv, rfl⟩
    refine C_seq (C_seq (C_reg rfl ?_))
    refine L_run (R_move rfl) rfl ?_
    refine L_run (R_move rfl) rfl ?_
    refine L_run (R_lenSl rfl slc25) rfl ?_
    refine L_run (R_lss rfl rfl) rfl ?_
    refine L_run (R_move rfl) rfl ?_
    refine L_splitD (p := (k : Int) < (bs.length : Int)) (fun h1 => ?_) (fun h1 => ?_)
    · refine L_yes rfl rfl rfl (decide_eq_true h1) ?_
      refine L_run (R_move rfl) rfl ?_
      refine L_yes rfl rfl rfl (decide_eq_true h1) ?_
      refine L_run (R_lss rfl rfl) rfl ?_
      refine L_run (R_pickT rfl (decide_eq_true h1) rfl) rfl ?_
      refine L_nil (N_then ?_)
      refine C_if rfl (fun h2 => ?_) (fun h2 => ?_)
      · refine C_skip (N_then (C_seq (C_block ?_)))
        refine C_draw2 rfl mix ?_
        intro w2 hs1 hz1
        replace hB := gb_tr hB hs1
        replace hS := hS.gb hs1
        have hl1 : k < bs.length := by first | omega | (simp; omega)
        obtain ⟨g1, o1, r1, eA1, er1, ha1⟩ := Sli.place' (xs := bs) (i := k) EncB hS hl1 rfl
        refine ⟨fun W_ => At W_ g1 r1 [.int .u8 ((bs[k]).toNat : Int)] ∧ True, [0, 1, 2, 3, 4, 5, 6, 7, 9, 10, 11], ?_⟩
        refine T_takeA (i := 0) rfl rfl (by kernel_rfl) (by kernel_rfl) (by kernel_rfl) (Y_of (fun _ ⟨ha1, _⟩ => R_move rfl)) ⟨ha1, trivial⟩ rfl ?_
        refine T_takeA (i := 1) rfl rfl (by kernel_rfl) (by kernel_rfl) (by kernel_rfl) (Y_of (fun _ ⟨ha1, _⟩ => R_move rfl)) ⟨ha1, trivial⟩ rfl ?_
        refine T_takeA (i := 2) rfl rfl (by kernel_rfl) (by kernel_rfl) (by kernel_rfl) (Y_of (fun _ ⟨ha1, _⟩ => R_move rfl)) ⟨ha1, trivial⟩ rfl ?_
        refine T_takeA (i := 3) rfl rfl (by kernel_rfl) (by kernel_rfl) (by kernel_rfl) (Y_of (fun _ ⟨ha1, _⟩ => R_indexE rfl rfl (by first | rfl | omega) slc25 hl1 eA1 er1)) ⟨ha1, trivial⟩ rfl ?_
        refine T_takeA (i := 4) rfl rfl (by kernel_rfl) (by kernel_rfl) (by kernel_rfl) (Y_of (fun _ ⟨ha1, _⟩ => R_load1 rfl scl5 (ha1 0 _ rfl))) ⟨ha1, trivial⟩ rfl ?_
        refine T_takeA (i := 5) rfl rfl (by kernel_rfl) (by kernel_rfl) (by kernel_rfl) (Y_of (fun _ ⟨ha1, _⟩ => R_eqv (R_conv rfl any5 int22) (v' := .int .u64 (bs[k].toNat : Int)) (congrArg _ (w64n (by have := bs[k].toNat_lt; omega))))) ⟨ha1, trivial⟩ rfl ?_
        refine T_takeA (i := 6) rfl rfl (by kernel_rfl) (by kernel_rfl) (by kernel_rfl) (Y_of (fun _ ⟨ha1, _⟩ => R_move rfl)) ⟨ha1, trivial⟩ rfl ?_
        refine T_takeA (i := 7) rfl rfl (by kernel_rfl) (by kernel_rfl) (by kernel_rfl) (Y_of (fun _ ⟨ha1, _⟩ => R_mul64 rfl rfl (by omega))) ⟨ha1, trivial⟩ rfl ?_
        refine T_all (rs := [8]) (by kernel_rfl) rfl (all1 (O_one rfl ?_))
        refine L_call rfl cb50 (two_ok (n := (8 * k)) (by first | omega | (simp; done) | (simp; omega))) rfl ?_
        rintro _ w3 ⟨hs2, rfl⟩
        replace hB := gb_tr hB hs2
        replace hS := hS.gb hs2
        replace ha1 := At.gb ha1 hs2 (by simp)
        refine L_nil (N_then ⟨fun hN_ => ⟨ha1, trivial⟩, ?_⟩)
        refine T_takeA (i := 9) rfl rfl (by kernel_rfl) (by kernel_rfl) (by kernel_rfl) (Y_of (fun _ ⟨ha1, _⟩ => R_eqv (R_mul rfl rfl) (v' := .int .u64 ((bs[k].toNat * 256 ^ k : Nat) : Int)) (mul256 (by have := gfit (c := bs[k]) hn (by omega); omega)))) ⟨ha1, trivial⟩ rfl ?_
        refine T_takeA (i := 10) rfl rfl (by kernel_rfl) (by kernel_rfl) (by kernel_rfl) (Y_of (fun _ ⟨ha1, _⟩ => R_eqv (R_add rfl rfl) (v' := .int .u64 ((n + bs[k].toNat * 256 ^ k : Nat) : Int)) (add_w (gfit hn (by omega))))) ⟨ha1, trivial⟩ rfl ?_
        refine T_takeA (i := 11) rfl rfl (by kernel_rfl) (by kernel_rfl) (by kernel_rfl) (Y_of (fun _ ⟨ha1, _⟩ => R_assign rfl)) ⟨ha1, trivial⟩ rfl ?_
        refine T_done (by kernel_rfl) (CalmE.normal ?_)
        refine N_in (N_then (C_reg rfl ?_))
        refine L_run (R_move rfl) rfl ?_
        refine L_run (R_add64 rfl rfl (by omega)) rfl ?_
        refine L_run (R_assign rfl) rfl ?_
        refine L_nil (N_then ?_)
        exact ⟨bs.length - (k + 1), by omega, _, (k + 1), (n + bs[k].toNat * 256 ^ k), Ac_frg ⟨rfl, (agr rfl (by first | rfl | (congr 1; omega) | (congr 1; simp; done) | (congr 1; simp only [IntKind.wrap_u64, IntKind.wrap_i64, IntKind.wrap_u8]; omega) | (congr 1 <;> omega))), (agr rfl (by first | rfl | (congr 1; omega) | (congr 1; simp; done) | (congr 1; simp only [IntKind.wrap_u64, IntKind.wrap_i64, IntKind.wrap_u8]; omega) | (congr 1 <;> omega))), trivial⟩, hB, hS, (by omega), (gstep hn), (by rw [getN_succ hl1, ← hv]), rfl⟩
      · refine C_exit (X_then (X_then (X_hit (N_then (C_seq (C_reg rfl ?_))))))
        refine L_run (R_move rfl) rfl ?_
        refine L_run (R_assign rfl) rfl ?_
        refine L_nil (N_then (C_ret ?_))
        refine ret1 Tryd.results44 rfl ?_
        first
          | (exfalso; omega)
          | (exact ⟨hB, by rw [← take_8 (k := k) (by omega), ← hv]⟩)
    · refine L_no rfl rfl rfl (decide_eq_false h1) rfl ?_
      refine L_no rfl rfl rfl (decide_eq_false h1) rfl ?_
      refine L_run (R_pickF rfl (decide_eq_false h1) rfl) rfl ?_
      refine L_nil (N_then (C_condF rfl rfl (C_exit (X_then (X_then (X_hit (N_then (C_seq (C_reg rfl ?_)))))))))
      refine L_run (R_move rfl) rfl ?_
      refine L_run (R_assign rfl) rfl ?_
      refine L_nil (N_then (C_ret ?_))
      refine ret1 Tryd.results44 rfl ?_
      first
        | (exfalso; omega)
        | (exact ⟨hB, by rw [← take_8 (k := k) (by omega), ← hv]⟩)

theorem ref1_put {w : World} {n k : Nat} (hk : k ≤ 8) (hn : n < 18446744073709551616) :
    Runs Tryd.prog 51 #[.int .u64 (n : Int), .int .i64 (k : Int)] w (fun v w' => w.grownBy w' none ∧ ∃ A' c', v = .slice A' (putN n k).length c' ∧ World.ownsRow w' w.heap.size 5 1 (.slice A' (putN n k).length c') (putN n k).length (fl encB (putN n k))) := by
  have hB := gb_refl w none
  refine enter Tryd.func51 Tryd.ntmps51 rfl rfl ?_
  refine C_seq (C_reg rfl ?_)
  refine L_run (R_assign rfl) rfl ?_
  refine L_nil (N_then (C_seq (C_reg rfl ?_)))
  refine L_run (R_assign rfl) rfl ?_
  refine L_nil (N_then (C_seq (C_seq (C_reg rfl ?_))))
  refine L_run (R_assign rfl) rfl ?_
  refine L_nil (N_then (C_block ?_))
  refine C_loop (fun m_ a_ w_ => ∃ (σ_ : Nat → Value) (A' : Option Addr) (c' : Nat) (acc : List UInt8) (m : Nat) (i : Nat), a_ = Ac 25 σ_ [] [(0, .int .u64 (m : Int)), (1, .int .i64 (k : Int)), (5, .slice A' acc.length c'), (6, .int .i64 (i : Int))] ∧ w.grownBy w_ none ∧ World.ownsRow w_ w.heap.size 5 1 (.slice A' acc.length c') acc.length (fl encB acc) ∧ (acc ++ putN m (k - i) = putN n k) ∧ (i ≤ k) ∧ (m < 18446744073709551616) ∧ k - i = m_) (k - 0) ?_ ?_
  · exact ⟨_, none, 0, [], n, 0, Ac_frg ⟨rfl, rfl, (agr rfl (by first | rfl | (congr 1; omega) | (congr 1; simp; done) | (congr 1; simp only [IntKind.wrap_u64, IntKind.wrap_i64, IntKind.wrap_u8]; omega) | (congr 1 <;> omega))), (agr rfl (by first | rfl | (congr 1; omega) | (congr 1; simp; done) | (congr 1; simp only [IntKind.wrap_u64, IntKind.wrap_i64, IntKind.wrap_u8]; omega) | (congr 1 <;> omega))), trivial⟩, hB, (own_nil _ _ _ _), rfl, (by omega), (by omega), rfl⟩
  · clear hB
    rintro m_ a_ w1 ⟨σ_, A', c', acc, m, i, rfl, hB, ho, hinv, hi, hm, rfl⟩
    refine C_seq (C_seq (C_reg rfl ?_))
    refine L_run (R_move rfl) rfl ?_
    refine L_run (R_move rfl) rfl ?_
    refine L_run (R_lss rfl rfl) rfl ?_
    refine L_run (R_move rfl) rfl ?_
    refine L_splitD (p := (i : Int) < (k : Int)) (fun h1 => ?_) (fun h1 => ?_)
    · refine L_yes rfl rfl rfl (decide_eq_true h1) ?_
      refine L_run (R_move rfl) rfl ?_
      refine L_yes rfl rfl rfl (decide_eq_true h1) ?_
      refine L_run (R_lss rfl rfl) rfl ?_
      refine L_run (R_pickT rfl (decide_eq_true h1) rfl) rfl ?_
      refine L_nil (N_then ?_)
      refine C_if rfl (fun h2 => ?_) (fun h2 => ?_)
      · refine C_skip (N_then (C_seq (C_block (C_seq (C_reg rfl ?_)))))
        refine L_run (R_move rfl) rfl ?_
        refine L_run (R_move rfl) rfl ?_
        refine L_run (R_eqv (R_rem rfl rfl (by first | decide | omega)) (v' := .int .u64 ((m % 256 : Nat) : Int)) (remU (k := 256))) rfl ?_
        refine L_run (R_eqv (R_conv rfl any22 int5) (v' := .int .u8 ((UInt8.ofNat (m % 256)).toNat : Int)) (u8_of _ (by omega))) rfl ?_
        refine L_buildSlice (pv := [(0, .int .u8 ((UInt8.ofNat (m % 256)).toNat : Int))]) (cs := [.int .u8 ((UInt8.ofNat (m % 256)).toNat : Int)]) slc25 zer5 rfl rfl (by kernel_rfl) rfl ?_
        intro g1 w2 eg1 hb1 hs1 hz1
        have ge1 : w.heap.size ≤ g1 := eg_ge hB eg1
        have hap1 : ∀ k_, (Value.slice A' acc.length c').ownBlock = some k_ → k_ ≠ g1 := fun k_ hk => by have h_ := (World.ownsRow.lt ho k_ hk).2; omega
        replace hB := gb_tr hB hs1
        replace ho := own_gb ho hs1
        refine T_append (xs := acc) (ys := [(UInt8.ofNat (m % 256))]) EncB slc25 rfl rfl ho (Blk.sli (m := 0) hb1) (by have h_ := congrArg List.length hinv; rw [List.length_append, putN_len, putN_len] at h_; simp; omega) (by have := hB.size; omega) rfl ?_
        intro A_1 c_1 w3 ho1 hs2 hat1
        replace hB := gb_tro hB ho hs2 (Nat.le_refl _)
        refine L_run (R_assign rfl) rfl ?_
        refine L_nil (N_then (C_reg rfl ?_))
        refine L_run (R_move rfl) rfl ?_
        refine L_run (R_eqv (R_quo rfl rfl (by first | decide | omega)) (v' := .int .u64 ((m / 256 : Nat) : Int)) (quoU (k := 256) hm)) rfl ?_
        refine L_run (R_assign rfl) rfl ?_
        refine L_nil (N_in (N_then (C_reg rfl ?_)))
        refine L_run (R_move rfl) rfl ?_
        refine L_run (R_add64 rfl rfl (by omega)) rfl ?_
        refine L_run (R_assign rfl) rfl ?_
        refine L_nil (N_then ?_)
        exact ⟨k - (i + 1), by omega, _, A_1, c_1, acc ++ ([(UInt8.ofNat (m % 256))]), (m / 256), (i + 1), Ac_frg ⟨(agr rfl (by first | rfl | (congr 1; omega) | (congr 1; simp; done) | (congr 1; simp only [IntKind.wrap_u64, IntKind.wrap_i64, IntKind.wrap_u8]; omega) | (congr 1 <;> omega))), rfl, rfl, (agr rfl (by first | rfl | (congr 1; omega) | (congr 1; simp; done) | (congr 1; simp only [IntKind.wrap_u64, IntKind.wrap_i64, IntKind.wrap_u8]; omega) | (congr 1 <;> omega))), trivial⟩, hB, ho1, (put_step (n := n) (by omega) hinv), (by omega), (by omega), rfl⟩
      · refine C_exit (X_then (X_then (X_hit (N_then (C_seq (C_reg rfl ?_))))))
        refine L_run (R_move rfl) rfl ?_
        refine L_run (R_assign rfl) rfl ?_
        refine L_nil (N_then (C_ret ?_))
        refine ret1 Tryd.results51 rfl ?_
        obtain rfl : i = k := by omega
        have e_ : acc = putN n i := by rw [← hinv, Nat.sub_self]; simp [putN]
        rw [← e_]; exact ⟨hB, _, _, rfl, ho⟩
    · refine L_no rfl rfl rfl (decide_eq_false h1) rfl ?_
      refine L_no rfl rfl rfl (decide_eq_false h1) rfl ?_
      refine L_run (R_pickF rfl (decide_eq_false h1) rfl) rfl ?_
      refine L_nil (N_then (C_condF rfl rfl (C_exit (X_then (X_then (X_hit (N_then (C_seq (C_reg rfl ?_)))))))))
      refine L_run (R_move rfl) rfl ?_
      refine L_run (R_assign rfl) rfl ?_
      refine L_nil (N_then (C_ret ?_))
      refine ret1 Tryd.results51 rfl ?_
      obtain rfl : i = k := by omega
      have e_ : acc = putN n i := by rw [← hinv, Nat.sub_self]; simp [putN]
      rw [← e_]; exact ⟨hB, _, _, rfl, ho⟩

end Go.Proofs.YtnggbodilhpohaaDoor
