/-
  Contracts of the references of words and of stamped sectors.
-/
import Derived.Test.YtbpjdcpfphnccaaDoorTa
namespace Go.Proofs.YtbpjdcpfphnccaaDoor
open Go.RowKit Gw Pl
set_option linter.unusedVariables false
set_option linter.unusedSimpArgs false
theorem agg62 : aggB Tryd.prog 62 64 = true := by kernel_rfl
theorem any22 : anyB Tryd.prog 22 = true := by kernel_rfl
theorem any3 : anyB Tryd.prog 3 = true := by kernel_rfl
theorem arr62 : arrB Tryd.prog 62 5 64 1 = true := by kernel_rfl
theorem cb53 : callB Tryd.prog 53 = true := by kernel_rfl
theorem cb66 : callB Tryd.prog 66 = true := by kernel_rfl
theorem int22 : intB Tryd.prog 22 .u64 = true := by kernel_rfl
theorem int5 : intB Tryd.prog 5 .u8 = true := by kernel_rfl
theorem scl5 : sclB Tryd.prog 5 = true := by kernel_rfl
theorem slc46 : slcB Tryd.prog 46 5 1 1 = true := by kernel_rfl
theorem sz5 : szB Tryd.prog 5 1 = true := by kernel_rfl
theorem sz62 : szB Tryd.prog 62 64 = true := by kernel_rfl
theorem zer5 : (Tryd.prog.info? 5).bind (·.zero) = some (.int .u8 0) := by kernel_rfl
theorem zer62 : (Tryd.prog.info? 62).bind (·.zero) = some (.agg #[.int .u8 0, .int .u8 0, .int .u8 0, .int .u8 0, .int .u8 0, .int .u8 0, .int .u8 0, .int .u8 0, .int .u8 0, .int .u8 0, .int .u8 0, .int .u8 0, .int .u8 0, .int .u8 0, .int .u8 0, .int .u8 0, .int .u8 0, .int .u8 0, .int .u8 0, .int .u8 0, .int .u8 0, .int .u8 0, .int .u8 0, .int .u8 0, .int .u8 0, .int .u8 0, .int .u8 0, .int .u8 0, .int .u8 0, .int .u8 0, .int .u8 0, .int .u8 0, .int .u8 0, .int .u8 0, .int .u8 0, .int .u8 0, .int .u8 0, .int .u8 0, .int .u8 0, .int .u8 0, .int .u8 0, .int .u8 0, .int .u8 0, .int .u8 0, .int .u8 0, .int .u8 0, .int .u8 0, .int .u8 0, .int .u8 0, .int .u8 0, .int .u8 0, .int .u8 0, .int .u8 0, .int .u8 0, .int .u8 0, .int .u8 0, .int .u8 0, .int .u8 0, .int .u8 0, .int .u8 0, .int .u8 0, .int .u8 0, .int .u8 0, .int .u8 0]) := by kernel_rfl
theorem shl8 {c k : Nat} (hk : k ≤ 7) (hx : c * 256 ^ k < 18446744073709551616) :
    Value.int .u64 (IntKind.u64.wrap ((c : Int) * 2 ^ (min ((8 : Int) * (k : Int)).toNat (IntKind.bits .u64)))) = .int .u64 ((c * 256 ^ k : Nat) : Int) := by
  refine congrArg (Value.int .u64) ?_
  have h1 : ((8 : Int) * (k : Int)).toNat = 8 * k := by omega
  have h2 : min (8 * k) (IntKind.bits .u64) = 8 * k := by simp [IntKind.bits]; omega
  have h3 : (2 : Int) ^ (8 * k) = ((256 ^ k : Nat) : Int) := by
    rw [Int.natCast_pow, Int.pow_mul]; rfl
  rw [h1, h2, h3, ← Int.natCast_mul, w64n hx]
theorem or_add8 {n c k : Nat} (hn : n < 256 ^ k) (hx : n + c * 256 ^ k < 18446744073709551616) :
    Value.int .u64 (bitsI .or .u64 (n : Int) ((c * 256 ^ k : Nat) : Int)) = .int .u64 ((n + c * 256 ^ k : Nat) : Int) := by
  rw [bits_or64 (by omega) (by omega)]
  refine congrArg (fun q : Nat => Value.int .u64 (q : Int)) ?_
  have e : 256 ^ k = 2 ^ (8 * k) := by rw [Nat.pow_mul]
  rw [e] at hn ⊢
  have := Nat.shiftLeft_add_eq_or_of_lt hn c
  rw [Nat.shiftLeft_eq] at this
  rw [Nat.or_comm, ← this, Nat.add_comm]
theorem gstep {n k : Nat} {c : UInt8} (hn : n < 256 ^ k) : n + c.toNat * 256 ^ k < 256 ^ (k + 1) := by
  rw [Nat.pow_succ]
  have h := c.toNat_lt
  have : c.toNat * 256 ^ k ≤ 255 * 256 ^ k := Nat.mul_le_mul_right _ (by omega)
  omega
theorem gfit {n k : Nat} {c : UInt8} (hn : n < 256 ^ k) (hk : k ≤ 7) : n + c.toNat * 256 ^ k < 18446744073709551616 := by
  have h := gstep (c := c) hn
  have h2 : 256 ^ (k + 1) ≤ 256 ^ 8 := Nat.pow_le_pow_right (by omega) (by omega)
  omega
theorem take_8 {bs : List UInt8} {k : Nat} (h : k = min bs.length 8) : bs.take k = bs.take 8 := by
  rw [h, List.take_eq_take_min (i := 8), Nat.min_comm]
theorem mul256 {c k : Nat} (hx : c * 256 ^ k < 18446744073709551616) : Value.int .u64 (IntKind.u64.wrap ((c : Int) * ((2 ^ (8 * k) : Nat) : Int))) = .int .u64 ((c * 256 ^ k : Nat) : Int) := by
  rw [← Int.natCast_mul, show 2 ^ (8 * k) = 256 ^ k by rw [Nat.pow_mul], w64n hx]
theorem two_step {k n : Nat} (h : k < n) (hn : n ≤ 63) : Value.int .u64 (IntKind.u64.wrap (((2 ^ k : Nat) : Int) * 2)) = .int .u64 ((2 ^ (k + 1) : Nat) : Int) := by
  have h2 : 2 ^ (k + 1) ≤ 2 ^ 63 := Nat.pow_le_pow_right (by omega) (by omega)
  have e : (((2 ^ k : Nat) : Int) * 2) = ((2 ^ (k + 1) : Nat) : Int) := by rw [Nat.pow_succ]; norm_cast
  rw [e, w64n (by omega)]
theorem remU {n k : Nat} : Value.int .u64 (Int.tmod (n : Int) (k : Int)) = .int .u64 ((n % k : Nat) : Int) := rfl
theorem quoU {n k : Nat} (hn : n < 18446744073709551616) : Value.int .u64 (IntKind.u64.wrap (Int.tdiv (n : Int) (k : Int))) = .int .u64 ((n / k : Nat) : Int) := by
  have h2 : n / k ≤ n := Nat.div_le_self _ _
  rw [tdivn, w64n (by omega)]
theorem put_step {acc : List UInt8} {m k i n : Nat} {X : List UInt8} (h : i < k) (e : acc ++ putN m (k - i) = X) : (acc ++ [UInt8.ofNat (m % 256)]) ++ putN (m / 256) (k - (i + 1)) = X := by
  rw [← e, show k - i = (k - (i + 1)) + 1 by omega, putN]
  simp
theorem ref1_put {w : World} {n k : Nat} (hk : k ≤ 8) (hn : n < 18446744073709551616) :
    Runs Tryd.prog 53 #[.int .u64 (n : Int), .int .i64 (k : Int)] w (fun v w' => w.grownBy w' none ∧ ∃ A' c', v = .slice A' (putN n k).length c' ∧ World.ownsRow w' w.heap.size 5 1 (.slice A' (putN n k).length c') (putN n k).length (fl encB (putN n k))) := by
  have hB := gb_refl w none
  refine enter Tryd.func53 Tryd.ntmps53 rfl rfl ?_
  refine C_seq (C_reg rfl ?_)
  refine L_run (R_assign rfl) rfl ?_
  refine L_nil (N_then (C_seq (C_reg rfl ?_)))
  refine L_run (R_assign rfl) rfl ?_
  refine L_nil (N_then (C_seq (C_seq (C_reg rfl ?_))))
  refine L_run (R_assign rfl) rfl ?_
  refine L_nil (N_then (C_block ?_))
  refine C_loop (fun m_ a_ w_ => ∃ (σ_ : Nat → Value) (A' : Option Addr) (c' : Nat) (acc : List UInt8) (m : Nat) (i : Nat), a_ = Ac 25 σ_ [] [(0, .int .u64 (m : Int)), (1, .int .i64 (k : Int)), (5, .slice A' acc.length c'), (6, .int .i64 (i : Int))] ∧ w.grownBy w_ none ∧ World.ownsRow w_ w.heap.size 5 1 (.slice A' acc.length c') acc.length (fl encB acc) ∧ (acc ++ putN m (k - i) = putN n k) ∧ (i ≤ k) ∧ (m < 18446744073709551616) ∧ k - i = m_) (k - 0) ?_ ?_
  · exact ⟨_, none, 0, [], n, 0, Ac_frg ⟨rfl, rfl, (agr rfl (by first | rfl | (congr 1; omega) | (congr 1; simp; done) | (congr 1; simp only [IntKind.wrap_u64, IntKind.wrap_i64, IntKind.wrap_u8]; omega) | (congr 1 <;> omega))), (agr rfl (by first | rfl | (congr 1; omega) | (congr 1; simp; done) | (congr 1; simp only [IntKind.wrap_u64, IntKind.wrap_i64, IntKind.wrap_u8]; omega) | (congr 1 <;> omega))), trivial⟩, hB, (own_nil _ _ _ _), rfl, (by omega), (by omega), rfl⟩
  · clear hB
    rintro m_ a_ w1 ⟨σ_, A', c', acc, m, i, rfl, hB, ho, hinv, hi, hm, rfl⟩
    refine C_seq (C_seq (C_reg rfl ?_))
    refine L_run (R_move rfl) rfl ?_
    refine L_run (R_move rfl) rfl ?_
    refine L_run (R_lss rfl rfl) rfl ?_
    refine L_run (R_move rfl) rfl ?_
    refine L_splitD (p := (i : Int) < (k : Int)) (fun h1 => ?_) (fun h1 => ?_)
    · refine L_yes rfl rfl rfl (decide_eq_true h1) ?_
      refine L_run (R_move rfl) rfl ?_
      refine L_yes rfl rfl rfl (decide_eq_true h1) ?_
      refine L_run (R_lss rfl rfl) rfl ?_
      refine L_run (R_pickT rfl (decide_eq_true h1) rfl) rfl ?_
      refine L_nil (N_then ?_)
      refine C_if rfl (fun h2 => ?_) (fun h2 => ?_)
      · refine C_skip (N_then (C_seq (C_block (C_seq (C_reg rfl ?_)))))
        refine L_run (R_move rfl) rfl ?_
        refine L_run (R_move rfl) rfl ?_
        refine L_run (R_eqv (R_rem rfl rfl (by first | decide | omega)) (v' := .int .u64 ((m % 256 : Nat) : Int)) (remU (k := 256))) rfl ?_
        refine L_run (R_eqv (R_conv rfl any22 int5) (v' := .int .u8 ((UInt8.ofNat (m % 256)).toNat : Int)) (u8_of _ (by omega))) rfl ?_
        refine L_buildSlice (pv := [(0, .int .u8 ((UInt8.ofNat (m % 256)).toNat : Int))]) (cs := [.int .u8 ((UInt8.ofNat (m % 256)).toNat : Int)]) slc46 zer5 rfl rfl (by kernel_rfl) rfl ?_
        intro g1 w2 eg1 hb1 hs1 hz1
        have ge1 : w.heap.size ≤ g1 := eg_ge hB eg1
        have hap1 : ∀ k_, (Value.slice A' acc.length c').ownBlock = some k_ → k_ ≠ g1 := fun k_ hk => by have h_ := (World.ownsRow.lt ho k_ hk).2; omega
        replace hB := gb_tr hB hs1
        replace ho := own_gb ho hs1
        refine T_append (xs := acc) (ys := [(UInt8.ofNat (m % 256))]) EncB slc46 rfl rfl ho (Blk.sli (m := 0) hb1) (by have h_ := congrArg List.length hinv; rw [List.length_append, putN_len, putN_len] at h_; simp; omega) (by have := hB.size; omega) rfl ?_
        intro A_1 c_1 w3 ho1 hs2 hat1
        replace hB := gb_tro hB ho hs2 (Nat.le_refl _)
        refine L_run (R_assign rfl) rfl ?_
        refine L_nil (N_then (C_reg rfl ?_))
        refine L_run (R_move rfl) rfl ?_
        refine L_run (R_eqv (R_quo rfl rfl (by first | decide | omega)) (v' := .int .u64 ((m / 256 : Nat) : Int)) (quoU (k := 256) hm)) rfl ?_
        refine L_run (R_assign rfl) rfl ?_
        refine L_nil (N_in (N_then (C_reg rfl ?_)))
        refine L_run (R_move rfl) rfl ?_
        refine L_run (R_add64 rfl rfl (by omega)) rfl ?_
        refine L_run (R_assign rfl) rfl ?_
        refine L_nil (N_then ?_)
        exact ⟨k - (i + 1), by omega, _, A_1, c_1, acc ++ ([(UInt8.ofNat (m % 256))]), (m / 256), (i + 1), Ac_frg ⟨(agr rfl (by first | rfl | (congr 1; omega) | (congr 1; simp; done) | (congr 1; simp only [IntKind.wrap_u64, IntKind.wrap_i64, IntKind.wrap_u8]; omega) | (congr 1 <;> omega))), rfl, rfl, (agr rfl (by first | rfl | (congr 1; omega) | (congr 1; simp; done) | (congr 1; simp only [IntKind.wrap_u64, IntKind.wrap_i64, IntKind.wrap_u8]; omega) | (congr 1 <;> omega))), trivial⟩, hB, ho1, (put_step (n := n) (by omega) hinv), (by omega), (by omega), rfl⟩
      · refine C_exit (X_then (X_then (X_hit (N_then (C_seq (C_reg rfl ?_))))))
        refine L_run (R_move rfl) rfl ?_
        refine L_run (R_assign rfl) rfl ?_
        refine L_nil (N_then (C_ret ?_))
        refine ret1 Tryd.results53 rfl ?_
        obtain rfl : i = k := by omega
        have e_ : acc = putN n i := by rw [← hinv, Nat.sub_self]; simp [putN]
        rw [← e_]; exact ⟨hB, _, _, rfl, ho⟩
    · refine L_no rfl rfl rfl (decide_eq_false h1) rfl ?_
      refine L_no rfl rfl rfl (decide_eq_false h1) rfl ?_
      refine L_run (R_pickF rfl (decide_eq_false h1) rfl) rfl ?_
      refine L_nil (N_then (C_condF rfl rfl (C_exit (X_then (X_then (X_hit (N_then (C_seq (C_reg rfl ?_)))))))))
      refine L_run (R_move rfl) rfl ?_
      refine L_run (R_assign rfl) rfl ?_
      refine L_nil (N_then (C_ret ?_))
      refine ret1 Tryd.results53 rfl ?_
      obtain rfl : i = k := by omega
      have e_ : acc = putN n i := by rw [← hinv, Nat.sub_self]; simp [putN]
      rw [← e_]; exact ⟨hB, _, _, rfl, ho⟩

/-- A stamped sector. -/
def sealN (e i : Nat) (X : List UInt8) : List UInt8 := putN e 8 ++ putN i 4 ++ X
theorem sealN_len {e i : Nat} {X : List UInt8} (h : X.length = 52) : (sealN e i X).length = 64 := by simp [sealN, putN_len, h]
theorem seal_1 {e i a : Nat} {X : List UInt8} (h : a < 8) (hl : a < (putN e 8).length) : (putN e 8)[a] = (sealN e i X).getD a 0 := by
  unfold sealN
  rw [List.getD_eq_getElem?_getD, List.append_assoc, List.getElem?_append_left hl, List.getElem?_eq_getElem hl]; rfl
theorem seal_2 {e i a : Nat} {X : List UInt8} (h1 : 8 ≤ a) (h : a < 12) (hl : a - 8 < (putN i 4).length) : (putN i 4)[a - 8] = (sealN e i X).getD a 0 := by
  unfold sealN
  rw [List.getD_eq_getElem?_getD, List.append_assoc, List.getElem?_append_right (by rw [putN_len]; omega), putN_len, List.getElem?_append_left hl, List.getElem?_eq_getElem hl]; rfl
theorem seal_3 {e i a : Nat} {X : List UInt8} (h1 : 12 ≤ a) (hl : a - 12 < X.length) : X[a - 12] = (sealN e i X).getD a 0 := by
  unfold sealN
  rw [List.getD_eq_getElem?_getD, List.append_assoc, List.getElem?_append_right (by rw [putN_len]; omega), putN_len, List.getElem?_append_right (by rw [putN_len]; omega), putN_len, show a - 8 - 4 = a - 12 by omega, List.getElem?_eq_getElem hl]; rfl
theorem set_take {Y Z : List UInt8} {k : Nat} (hY : Y.length = Z.length) (hk : k < Y.length) (h : Y.take k = Z.take k) : (Y.set k (Z.getD k 0)).take (k + 1) = Z.take (k + 1) := by
  have hk2 : k < Z.length := by omega
  rw [List.take_succ_eq_append_getElem (by rw [List.length_set]; exact hk), List.take_succ_eq_append_getElem hk2, List.take_set_of_le (Nat.le_refl k), h, List.getElem_set_self, List.getD_eq_getElem?_getD, List.getElem?_eq_getElem hk2]
  rfl
theorem room_step {s : List UInt8} {k : Nat} (h1 : 12 ≤ k) (hk : k < s.length) : (s.drop 12).take (k - 12) ++ [s[k]] = (s.drop 12).take (k + 1 - 12) := by
  have hl : k - 12 < (s.drop 12).length := by rw [List.length_drop]; omega
  rw [show k + 1 - 12 = (k - 12) + 1 by omega, List.take_succ_eq_append_getElem hl]
  congr 2
  rw [List.getElem_drop]
  congr 1
  omega
theorem seal_eq {s : List UInt8} {e i : Nat} (hs : s.length = 64) (he : e < 18446744073709551616) (hi : i < 4294967296) : sealN e i (s.drop 12) = s ↔ getN (s.take 8) = e ∧ getN ((s.drop 8).take 4) = i := by
  have h1 := putN_eq (bs := s.take 8) (n := e) (k := 8) (by rw [List.length_take]; omega) he
  have h2 := putN_eq (bs := (s.drop 8).take 4) (n := i) (k := 4) (by rw [List.length_take, List.length_drop]; omega) hi
  have e2 : s = s.take 8 ++ ((s.drop 8).take 4 ++ s.drop 12) := by
    have := List.take_append_drop 8 s
    have h3 := List.take_append_drop 4 (s.drop 8)
    rw [List.drop_drop] at h3
    rw [h3, this]
  unfold sealN
  rw [List.append_assoc]
  constructor
  · intro h
    have h3 := h.trans e2
    have h4 := List.append_inj h3 (by rw [putN_len, List.length_take]; omega)
    have h5 := List.append_inj h4.2 (by rw [putN_len, List.length_take, List.length_drop]; omega)
    exact ⟨h1.1 h4.1, h2.1 h5.1⟩
  · rintro ⟨p, q⟩
    rw [h1.2 p, h2.2 q, ← e2]
theorem byte6 {w : World} {t1 lo hi : Nat} {A : Option Addr} {c e i : Nat} {X : List UInt8} (hS : Sli t1 lo hi w A (fl encB X)) (hX : X.length = 52) (he : e < 18446744073709551616) (hi4 : i < 4294967296) {a : Nat} (ha : a < 64) :
    Runs Tryd.prog 66 #[.int .u64 (e : Int), .int .i64 (i : Int), .slice A X.length c, .int .i64 (a : Int)] w (fun v w' => w.grownBy w' none ∧ v = .int .u8 (((sealN e i X).getD a 0).toNat : Int)) := by
  have hB := gb_refl w none
  replace hS := hS.top
  refine enter Tryd.func66 Tryd.ntmps66 rfl rfl ?_
  refine C_seq (C_reg rfl ?_)
  refine L_run (R_assign rfl) rfl ?_
  refine L_nil (N_then (C_seq (C_seq (C_reg rfl ?_))))
  refine L_run (R_move rfl) rfl ?_
  refine L_run (R_lss rfl rfl) rfl ?_
  refine L_nil (N_then ?_)
  refine C_if rfl (fun h1 => ?_) (fun h1 => ?_)
  · refine C_seq (C_reg rfl ?_)
    refine L_run (R_move rfl) rfl ?_
    have ge1 : w.heap.size ≤ w.heap.size := hB.size
    refine L_call rfl cb53 (ref1_put (n := e) (k := 8) (by omega) (by first | omega | (simp; done) | (simp; omega))) rfl ?_
    rintro _ w1 ⟨hs1, A_1, c_1, rfl, ho1⟩
    replace hB := gb_tr hB hs1
    replace hS := hS.gb hs1
    have hlo1 : w.heap.size ≤ w1.heap.size := hs1.size
    refine L_run (R_move rfl) rfl ?_
    have hl1 : a < (putN e 8).length := (by rw [putN_len]; omega)
    refine T_index (xs := putN e 8) (i := a) EncB rfl rfl (by first | rfl | omega) slc46 hl1 (own_of ho1).2.2 rfl ?_
    intro g1 o1 ha1
    refine L_run (R_load1 rfl scl5 (ha1 0 _ rfl)) rfl ?_
    refine L_run (R_assign rfl) rfl ?_
    refine L_nil (N_then (C_ret (R_then ?_)))
    refine ret1 Tryd.results66 rfl ?_
    first
      | (exfalso; omega)
      | (refine ⟨hB, congrArg (fun q : UInt8 => Value.int .u8 (q.toNat : Int)) ?_⟩
         first | exact seal_1 (by omega) _ | exact seal_2 (by omega) (by omega) _ | exact seal_3 (by omega) _)
  · refine C_skip (N_then (C_seq (C_seq (C_reg rfl ?_))))
    refine L_run (R_move rfl) rfl ?_
    refine L_run (R_lss rfl rfl) rfl ?_
    refine L_nil (N_then ?_)
    refine C_if rfl (fun h2 => ?_) (fun h2 => ?_)
    · refine C_seq (C_reg rfl ?_)
      refine L_run (R_move rfl) rfl ?_
      refine L_run (R_eqv (R_conv rfl any3 int22) (v' := .int .u64 (i : Int)) (congrArg _ (w64n (by omega)))) rfl ?_
      have ge2 : w.heap.size ≤ w.heap.size := hB.size
      refine L_call rfl cb53 (ref1_put (n := i) (k := 4) (by omega) (by first | omega | (simp; done) | (simp; omega))) rfl ?_
      rintro _ w2 ⟨hs2, A_2, c_2, rfl, ho2⟩
      replace hB := gb_tr hB hs2
      replace hS := hS.gb hs2
      have hlo2 : w.heap.size ≤ w2.heap.size := hs2.size
      refine L_run (R_move rfl) rfl ?_
      refine L_run (R_eqv (R_sub64 rfl rfl (by omega)) (v' := .int .i64 ((a - 8 : Nat) : Int)) (congrArg _ (by omega))) rfl ?_
      have hl2 : (a - 8) < (putN i 4).length := (by rw [putN_len]; omega)
      refine T_index (xs := putN i 4) (i := (a - 8)) EncB rfl rfl (by first | rfl | omega) slc46 hl2 (own_of ho2).2.2 rfl ?_
      intro g2 o2 ha2
      refine L_run (R_load1 rfl scl5 (ha2 0 _ rfl)) rfl ?_
      refine L_run (R_assign rfl) rfl ?_
      refine L_nil (N_then (C_ret (R_then ?_)))
      refine ret1 Tryd.results66 rfl ?_
      first
        | (exfalso; omega)
        | (refine ⟨hB, congrArg (fun q : UInt8 => Value.int .u8 (q.toNat : Int)) ?_⟩
           first | exact seal_1 (by omega) _ | exact seal_2 (by omega) (by omega) _ | exact seal_3 (by omega) _)
    · refine C_skip (N_then (C_seq (C_seq (C_reg rfl ?_))))
      refine L_run (R_move rfl) rfl ?_
      refine L_run (R_sub64 rfl rfl (by omega)) rfl ?_
      refine L_run (R_move rfl) rfl ?_
      refine L_run (R_lenSl rfl slc46) rfl ?_
      refine L_run (R_lss rfl rfl) rfl ?_
      refine L_nil (N_then ?_)
      refine C_if rfl (fun h3 => ?_) (fun h3 => ?_)
      · refine C_seq (C_reg rfl ?_)
        refine L_run (R_move rfl) rfl ?_
        refine L_run (R_move rfl) rfl ?_
        refine L_run (R_eqv (R_sub64 rfl rfl (by omega)) (v' := .int .i64 ((a - 12 : Nat) : Int)) (congrArg _ (by omega))) rfl ?_
        have hl3 : (a - 12) < X.length := by first | omega | (simp; omega)
        refine T_index (xs := X) (i := (a - 12)) EncB rfl rfl (by first | rfl | omega) slc46 hl3 hS rfl ?_
        intro g3 o3 ha3
        refine L_run (R_load1 rfl scl5 (ha3 0 _ rfl)) rfl ?_
        refine L_run (R_assign rfl) rfl ?_
        refine L_nil (N_then (C_ret (R_then ?_)))
        refine ret1 Tryd.results66 rfl ?_
        first
          | (exfalso; omega)
          | (refine ⟨hB, congrArg (fun q : UInt8 => Value.int .u8 (q.toNat : Int)) ?_⟩
             first | exact seal_1 (by omega) _ | exact seal_2 (by omega) (by omega) _ | exact seal_3 (by omega) _)
      · refine C_skip (N_then (C_seq (C_reg rfl ?_)))
        refine L_run (R_assign rfl) rfl ?_
        refine L_nil (N_then (C_ret ?_))
        refine ret1 Tryd.results66 rfl ?_
        first
          | (exfalso; omega)
          | (refine ⟨hB, congrArg (fun q : UInt8 => Value.int .u8 (q.toNat : Int)) ?_⟩
             first | exact seal_1 (by omega) _ | exact seal_2 (by omega) (by omega) _ | exact seal_3 (by omega) _)

theorem seal6 {w : World} {t1 lo hi : Nat} {A : Option Addr} {c e i : Nat} {X : List UInt8} (hS : Sli t1 lo hi w A (fl encB X)) (hX : X.length = 52) (he : e < 18446744073709551616) (hi4 : i < 4294967296)  :
    Runs Tryd.prog 56 #[.int .u64 (e : Int), .int .i64 (i : Int), .slice A X.length c] w (fun v w' => w.grownBy w' none ∧ v = .agg (fl encB (sealN e i X)).toArray) := by
  have hB := gb_refl w none
  replace hS := hS.top
  refine enter Tryd.func56 Tryd.ntmps56 rfl rfl ?_
  refine C_seq (C_reg rfl ?_)
  refine L_alloc (cs := [.int .u8 0, .int .u8 0, .int .u8 0, .int .u8 0, .int .u8 0, .int .u8 0, .int .u8 0, .int .u8 0, .int .u8 0, .int .u8 0, .int .u8 0, .int .u8 0, .int .u8 0, .int .u8 0, .int .u8 0, .int .u8 0, .int .u8 0, .int .u8 0, .int .u8 0, .int .u8 0, .int .u8 0, .int .u8 0, .int .u8 0, .int .u8 0, .int .u8 0, .int .u8 0, .int .u8 0, .int .u8 0, .int .u8 0, .int .u8 0, .int .u8 0, .int .u8 0, .int .u8 0, .int .u8 0, .int .u8 0, .int .u8 0, .int .u8 0, .int .u8 0, .int .u8 0, .int .u8 0, .int .u8 0, .int .u8 0, .int .u8 0, .int .u8 0, .int .u8 0, .int .u8 0, .int .u8 0, .int .u8 0, .int .u8 0, .int .u8 0, .int .u8 0, .int .u8 0, .int .u8 0, .int .u8 0, .int .u8 0, .int .u8 0, .int .u8 0, .int .u8 0, .int .u8 0, .int .u8 0, .int .u8 0, .int .u8 0, .int .u8 0, .int .u8 0]) zer62 rfl rfl ?_
  intro g1 w1 eg1 hb1 hs1 hz1
  have ge1 : w.heap.size ≤ g1 := eg_ge hB eg1
  replace hB := gb_tr hB hs1
  replace hS := hS.gb hs1
  replace hb1 : Blk w1 g1 62 (fl encB (List.replicate 64 (0 : UInt8))) := hb1
  refine L_nil (N_then (C_seq (C_reg rfl ?_)))
  refine L_run (R_build (pv := []) (cs := fl encB (List.replicate 64 (0 : UInt8))) rfl (by kernel_rfl)) rfl ?_
  refine L_alloc (cs := [.int .u8 0, .int .u8 0, .int .u8 0, .int .u8 0, .int .u8 0, .int .u8 0, .int .u8 0, .int .u8 0, .int .u8 0, .int .u8 0, .int .u8 0, .int .u8 0, .int .u8 0, .int .u8 0, .int .u8 0, .int .u8 0, .int .u8 0, .int .u8 0, .int .u8 0, .int .u8 0, .int .u8 0, .int .u8 0, .int .u8 0, .int .u8 0, .int .u8 0, .int .u8 0, .int .u8 0, .int .u8 0, .int .u8 0, .int .u8 0, .int .u8 0, .int .u8 0, .int .u8 0, .int .u8 0, .int .u8 0, .int .u8 0, .int .u8 0, .int .u8 0, .int .u8 0, .int .u8 0, .int .u8 0, .int .u8 0, .int .u8 0, .int .u8 0, .int .u8 0, .int .u8 0, .int .u8 0, .int .u8 0, .int .u8 0, .int .u8 0, .int .u8 0, .int .u8 0, .int .u8 0, .int .u8 0, .int .u8 0, .int .u8 0, .int .u8 0, .int .u8 0, .int .u8 0, .int .u8 0, .int .u8 0, .int .u8 0, .int .u8 0, .int .u8 0]) zer62 rfl rfl ?_
  intro g2 w2 eg2 hb2 hs2 hz2
  have ge2 : w.heap.size ≤ g2 := eg_ge hB eg2
  have lt1 : g1 < g2 := lt_of_eg hb1.lt eg2
  replace hB := gb_tr hB hs2
  replace hS := hS.gb hs2
  replace hb1 := hb1.gb hs2
  replace hb2 : Blk w2 g2 62 (fl encB (List.replicate 64 (0 : UInt8))) := hb2
  refine L_stA (vs := fl encB (List.replicate 64 (0 : UInt8))) rfl rfl (flB_one _) sz62 (flB_lenE List.length_replicate) hb2 (flB_lenE List.length_replicate) ?_
  intro w3 hb3 hs3 hz3
  replace hB := gb_trg hB hs3 ge2
  replace hS := hS.old hs3 ge2
  replace hb1 := hb1.grown hs3 (ne_lt lt1)
  refine L_nil (N_then (C_seq (C_seq (C_reg rfl ?_))))
  refine L_run (R_assign rfl) rfl ?_
  refine L_nil (N_then (C_block ?_))
  refine C_loop (fun m_ a_ w_ => ∃ (σ_ : Nat → Value) (k : Nat) (Y : List UInt8), a_ = Ac 22 σ_ [] [(0, .int .u64 (e : Int)), (1, .int .i64 (i : Int)), (2, .slice A X.length c), (6, .pointer (some ⟨g1, 0, none⟩)), (7, .pointer (some ⟨g2, 0, none⟩)), (8, .int .i64 (k : Int))] ∧ w.grownBy w_ none ∧ Sli t1 lo w.heap.size w_ A (fl encB X) ∧ Blk w_ g1 62 (fl encB (List.replicate 64 (0 : UInt8))) ∧ Blk w_ g2 62 (fl encB Y) ∧ (k ≤ 64) ∧ (Y.length = 64) ∧ (Y.take k = (sealN e i X).take k) ∧ 64 - k = m_) (64 - 0) ?_ ?_
  · exact ⟨_, 0, (List.replicate 64 (0 : UInt8)), Ac_frg ⟨rfl, rfl, rfl, rfl, rfl, (agr rfl (by first | rfl | (congr 1; omega) | (congr 1; simp; done) | (congr 1; simp only [IntKind.wrap_u64, IntKind.wrap_i64, IntKind.wrap_u8]; omega) | (congr 1 <;> omega))), trivial⟩, hB, hS, hb1, hb3, (by omega), List.length_replicate, rfl, rfl⟩
  · clear hB
    clear hS hb1 hb3
    rintro m_ a_ w4 ⟨σ_, k, Y, rfl, hB, hS, hb1, hbY, hk, hbl, hbk, rfl⟩
    refine C_seq (C_seq (C_reg rfl ?_))
    refine L_run (R_move rfl) rfl ?_
    refine L_run (R_lss rfl rfl) rfl ?_
    refine L_nil (N_then ?_)
    refine C_if rfl (fun h1 => ?_) (fun h1 => ?_)
    · refine C_skip (N_then (C_seq (C_block (C_reg rfl ?_))))
      refine L_run (R_move rfl) rfl ?_
      refine L_run (R_move rfl) rfl ?_
      refine L_run (R_move rfl) rfl ?_
      refine L_run (R_move rfl) rfl ?_
      refine L_run (R_move rfl) rfl ?_
      refine L_call rfl cb66 (byte6 (e := e) (i := i) (a := k) hS hX he hi4 (by omega)) rfl ?_
      rintro _ w5 ⟨hs4, rfl⟩
      replace hB := gb_tr hB hs4
      replace hS := hS.gb hs4
      replace hb1 := hb1.gb hs4
      replace hbY := hbY.gb hs4
      refine L_run (R_indexArr (i := k) (r := k) rfl rfl (by first | rfl | omega) arr62 (by omega) (by omega)) rfl ?_
      refine L_st1v (v := .int .u8 (((sealN e i X).getD k 0).toNat : Int)) rfl rfl rfl sz5 hbY (by rw [fl_len EncB, Nat.mul_one]; first | (omega) | (rw [hbl]; omega)) ?_
      intro w6 hb4 hs5 hz4
      rw [fl_setB (by first | (omega) | (rw [hbl]; omega))] at hb4
      replace hB := gb_trg hB hs5 ge2
      replace hS := hS.old hs5 ge2
      replace hb1 := hb1.grown hs5 (ne_lt lt1)
      refine L_nil (N_in (N_then (C_reg rfl ?_)))
      refine L_run (R_move rfl) rfl ?_
      refine L_run (R_add64 rfl rfl (by omega)) rfl ?_
      refine L_run (R_assign rfl) rfl ?_
      refine L_nil (N_then ?_)
      exact ⟨64 - (k + 1), by omega, _, (k + 1), (Y.set k ((sealN e i X).getD k 0)), Ac_frg ⟨rfl, rfl, rfl, rfl, rfl, (agr rfl (by first | rfl | (congr 1; omega) | (congr 1; simp; done) | (congr 1; simp only [IntKind.wrap_u64, IntKind.wrap_i64, IntKind.wrap_u8]; omega) | (congr 1 <;> omega))), trivial⟩, hB, hS, hb1, hb4, (by omega), (by rw [List.length_set]; exact hbl), (set_take (by rw [sealN_len hX]; exact hbl) (by omega) hbk), rfl⟩
    · refine C_exit (X_then (X_then (X_hit (N_then (C_seq (C_reg rfl ?_))))))
      refine L_run (R_loadA (vs := fl encB Y) rfl agg62 (hbY.at_ 0) (flB_lenE hbl)) rfl ?_
      refine L_stA (vs := fl encB Y) rfl rfl (flB_one _) sz62 (flB_lenE hbl) hb1 (flB_lenE List.length_replicate) ?_
      intro w7 hb5 hs6 hz5
      replace hB := gb_trg hB hs6 ge1
      replace hS := hS.old hs6 ge1
      replace hbY := hbY.grown hs6 (ne_gt lt1)
      refine L_nil (N_then (C_ret ?_))
      refine retC (vs := fl encB Y) Tryd.results56 rfl agg62 (hb5.at_ 0) (flB_lenE hbl) ?_
      obtain rfl : k = 64 := by omega
      have e_ : Y = sealN e i X := by rw [← List.take_of_length_le (l := Y) (i := 64) (by omega), hbk, List.take_of_length_le (by rw [sealN_len hX]; omega)]
      subst e_; exact ⟨hB, rfl⟩

theorem conv3 {n : Nat} (h : n < 4294967296) : Value.int .i64 (IntKind.i64.wrap (n : Int)) = .int .i64 (n : Int) := by
  refine congrArg (Value.int .i64) ?_
  rw [IntKind.wrap_i64]
  omega
theorem spl_all {X Y : List UInt8} {n : Nat} (hx : X.length = n) (hy : Y.length = n) : spl X 0 (Y.take n) = Y := by
  unfold spl
  rw [List.take_of_length_le (by omega : Y.length ≤ n), List.take_zero, List.drop_of_length_le (by omega)]
  simp
theorem get4_lt {s : List UInt8} : getN ((((s.drop 8).take 4)).take 8) < 4294967296 := by
  have h := getN_lt (((s.drop 8).take 4).take 8)
  have h2 : (((s.drop 8).take 4).take 8).length ≤ 4 := by rw [List.length_take, List.length_take]; omega
  have h3 : 256 ^ (((s.drop 8).take 4).take 8).length ≤ 256 ^ 4 := Nat.pow_le_pow_right (by omega) h2
  omega
theorem take48 {s : List UInt8} : ((s.drop 8).take 4).take 8 = (s.drop 8).take 4 := by rw [List.take_take]; rfl
theorem take88 {s : List UInt8} : (s.take 8).take 8 = s.take 8 := by rw [List.take_take]; rfl
theorem spl_mid {α : Type} {A r z : List α} {o m : Nat} (ho : o = A.length) (hm : r.length ≤ m) : spl (A ++ z) o (r.take m) = (A ++ r) ++ z.drop r.length := by
  subst ho
  unfold spl
  rw [List.take_of_length_le hm, List.take_left, List.drop_append, List.drop_of_length_le (by omega), List.nil_append, show A.length + r.length - A.length = r.length by omega]
theorem set_mid {A : List Bool} {n k : Nat} {b : Bool} (hA : A.length = k) (hk : k < n) : (A ++ List.replicate (n - k) false).set k b = (A ++ [b]) ++ List.replicate (n - (k + 1)) false := by
  subst hA
  rw [List.set_append_right _ _ (Nat.le_refl _), Nat.sub_self, show n - A.length = (n - (A.length + 1)) + 1 by omega, List.replicate_succ, List.set_cons_zero, List.append_assoc]
  rfl
def bsOf (ss : List Sx) : List (List UInt8) := ss.map (·.b)
theorem bsOf_len {ss : List Sx} : ∀ s ∈ bsOf ss, s.length = 64 := by
  intro s hs
  obtain ⟨x, _, rfl⟩ := List.mem_map.1 hs
  exact x.h
theorem room_in {ss : List Sx} {e i : Nat} (hi : i < ss.length) : roomN (bsOf ss) e i = if getN (ss[i].b.take 8) = e ∧ getN ((ss[i].b.drop 8).take 4) = i then some (ss[i].b.drop 12) else none := by
  have h : (bsOf ss)[i]? = some ss[i].b := by simp [bsOf, List.getElem?_eq_getElem hi]
  unfold roomN
  rw [h]
  rfl
theorem room_out {ss : List Sx} {e i : Nat} (hi : ss.length ≤ i) : roomN (bsOf ss) e i = none := by
  have h : (bsOf ss)[i]? = none := by simp [bsOf, hi]
  unfold roomN
  rw [h]
def flB (ss : List Sx) (e i : Nat) : List UInt8 := flatB (bsOf ss) e i ++ List.replicate (832 - 52 * i) 0
def flO (ss : List Sx) (e i : Nat) : List Bool := flatO (bsOf ss) e i ++ List.replicate (16 - i) false
theorem flB_0 {ss : List Sx} {e : Nat} : flB ss e 0 = List.replicate 832 0 := rfl
theorem flO_0 {ss : List Sx} {e : Nat} : flO ss e 0 = List.replicate 16 false := rfl
theorem flB_n {ss : List Sx} {e i : Nat} (h : i ≤ 16) : (flB ss e i).length = 832 := by
  unfold flB
  rw [List.length_append, flatB_len bsOf_len, List.length_replicate]
  omega
theorem flO_n {ss : List Sx} {e i : Nat} (h : i ≤ 16) : (flO ss e i).length = 16 := by
  unfold flO
  rw [List.length_append, flatO_len, List.length_replicate]
  omega
theorem flB_yes {ss : List Sx} {e i m : Nat} (hi : i < ss.length) (h16 : i < 16) (hq : getN (ss[i].b.take 8) = e ∧ getN ((ss[i].b.drop 8).take 4) = i) (hm : m = 52) : spl (flB ss e i) (0 + i * 52) ((ss[i].b.drop 12).take m) = flB ss e (i + 1) := by
  have hl : (ss[i].b.drop 12).length = 52 := by rw [List.length_drop, ss[i].h]
  unfold flB
  rw [spl_mid (by rw [flatB_len bsOf_len]; omega) (by omega), hl, flatB_succ, room_in hi, if_pos hq, List.drop_replicate, show 832 - 52 * i - 52 = 832 - 52 * (i + 1) by omega]
  rfl
theorem flB_no {ss : List Sx} {e i m : Nat} (hi : i < ss.length) (h16 : i < 16) (hq : ¬ (getN (ss[i].b.take 8) = e ∧ getN ((ss[i].b.drop 8).take 4) = i)) : spl (flB ss e i) (0 + i * 52) (([] : List UInt8).take m) = flB ss e (i + 1) := by
  rw [List.take_nil, spl_nil]
  unfold flB
  rw [flatB_succ, room_in hi, if_neg hq, List.append_assoc]
  simp only [Option.getD_none, List.replicate_append_replicate]
  rw [show 52 + (832 - 52 * (i + 1)) = 832 - 52 * i by omega]
theorem flO_yes {ss : List Sx} {e i : Nat} (hi : i < ss.length) (h16 : i < 16) (hq : getN (ss[i].b.take 8) = e ∧ getN ((ss[i].b.drop 8).take 4) = i) : (flO ss e i).set i true = flO ss e (i + 1) := by
  unfold flO
  rw [set_mid (flatO_len _ _ _) h16, flatO_succ, room_in hi, if_pos hq]
  rfl
theorem flO_no {ss : List Sx} {e i : Nat} (hi : i < ss.length) (h16 : i < 16) (hq : ¬ (getN (ss[i].b.take 8) = e ∧ getN ((ss[i].b.drop 8).take 4) = i)) : (flO ss e i).set i false = flO ss e (i + 1) := by
  unfold flO
  rw [set_mid (flatO_len _ _ _) h16, flatO_succ, room_in hi, if_neg hq]
  rfl
theorem flB_rest {ss : List Sx} {e i : Nat} (h : ss.length ≤ i) (h16 : i < 16) : flB ss e i = flB ss e (i + 1) := by
  unfold flB
  rw [flatB_succ, room_out h, List.append_assoc]
  simp only [Option.getD_none, List.replicate_append_replicate]
  rw [show 52 + (832 - 52 * (i + 1)) = 832 - 52 * i by omega]
theorem flO_rest {ss : List Sx} {e i : Nat} (h : ss.length ≤ i) (h16 : i < 16) : flO ss e i = flO ss e (i + 1) := by
  unfold flO
  rw [flatO_succ, room_out h, show 16 - i = (16 - (i + 1)) + 1 by omega, List.replicate_succ, List.append_assoc]
  rfl
theorem fl_end {ss : List Sx} {e i : Nat} (h : i = min ss.length 16) : flB ss e i = flB ss e 16 ∧ flO ss e i = flO ss e 16 := by
  have key : ∀ (d i : Nat), ss.length ≤ i → i + d = 16 → flB ss e i = flB ss e 16 ∧ flO ss e i = flO ss e 16 := by
    intro d
    induction d with
    | zero => intro i h1 h2; obtain rfl : i = 16 := by omega
              exact ⟨rfl, rfl⟩
    | succ d ih =>
      intro i h1 h2
      rw [flB_rest h1 (by omega), flO_rest h1 (by omega)]
      exact ih (i + 1) (by omega) (by omega)
  rcases Nat.lt_or_ge 16 ss.length with h2 | h2
  · obtain rfl : i = 16 := by omega
    exact ⟨rfl, rfl⟩
  · exact key (16 - i) i (by omega) (by omega)
theorem flB_16 {ss : List Sx} {e : Nat} : flB ss e 16 = flatB (bsOf ss) e 16 := by unfold flB; simp
theorem flO_16 {ss : List Sx} {e : Nat} : flO ss e 16 = flatO (bsOf ss) e 16 := by unfold flO; simp
end Go.Proofs.YtbpjdcpfphnccaaDoor
