import Derived.Test.YtkjgjejkfjhcjaaDoorKe
/-
  What the law's proof stands on, part 6.
-/
namespace Go.Proofs.YtkjgjejkfjhcjaaDoor
open Go.RowKit Gw Pl
set_option linter.unusedVariables false
set_option linter.unusedSimpArgs false
theorem cb97 : callB Tryd.prog 97 = true := by kernel_rfl
/-- What a record's bytes tell. -/
def rV1 (xs : List UInt8) : Nat × Nat × Int := vget (xs.drop 2)
def rV2 (xs : List UInt8) : Nat × Nat × Int := vget (xs.drop (2 + (rV1 xs).2.1))
def rKd (xs : List UInt8) : Int := ((xs.getD 0 0).toNat : Int)
def rCh (xs : List UInt8) : Int := ((xs.getD 1 0).toNat : Int)
def rLs (xs : List UInt8) : Int := ((rV1 xs).1 : Int)
def rPv (xs : List UInt8) : Int := rLs xs - ((rV2 xs).1 : Int)
def rDt (xs : List UInt8) : List UInt8 := xs.drop (2 + (rV1 xs).2.1 + (rV2 xs).2.1)
def ROk (kind chain lsn prev : Int) : Prop := 1 ≤ kind ∧ kind ≤ 9 ∧ 0 ≤ chain ∧ chain ≤ 3 ∧ 1 ≤ lsn ∧ lsn ≤ 2147483647 ∧ 0 ≤ prev ∧ prev < lsn
instance {kind chain lsn prev : Int} : Decidable (ROk kind chain lsn prev) := by unfold ROk; infer_instance
/-- The error; 0: none. -/
def rerr (xs : List UInt8) : Int :=
  if 512 < xs.length then 5 else if xs.length < 2 then 1
  else if (rV1 xs).2.2 ≠ 0 then (rV1 xs).2.2 else if (rV2 xs).2.2 ≠ 0 then (rV2 xs).2.2
  else if ROk (rKd xs) (rCh xs) (rLs xs) (rPv xs) then 0 else 2
theorem re_long {xs : List UInt8} (h : 512 < xs.length) : rerr xs = 5 := if_pos h
theorem re_short {xs : List UInt8} (h : xs.length < 2) : rerr xs = 1 := by unfold rerr; rw [if_neg (by omega), if_pos h]
theorem re_1 {xs : List UInt8} (h1 : ¬ 512 < xs.length) (h2 : ¬ xs.length < 2) (h3 : ¬ (rV1 xs).2.2 = 0) : rerr xs = (rV1 xs).2.2 := by unfold rerr; rw [if_neg h1, if_neg h2, if_pos h3]
theorem re_2 {xs : List UInt8} (h1 : ¬ 512 < xs.length) (h2 : ¬ xs.length < 2) (h3 : (rV1 xs).2.2 = 0) (h4 : ¬ (rV2 xs).2.2 = 0) : rerr xs = (rV2 xs).2.2 := by unfold rerr; rw [if_neg h1, if_neg h2, if_neg (fun h => h h3), if_pos h4]
theorem re_bad {xs : List UInt8} (h1 : ¬ 512 < xs.length) (h2 : ¬ xs.length < 2) (h3 : (rV1 xs).2.2 = 0) (h4 : (rV2 xs).2.2 = 0) (h5 : ¬ ROk (rKd xs) (rCh xs) (rLs xs) (rPv xs)) : rerr xs = 2 := by unfold rerr; rw [if_neg h1, if_neg h2, if_neg (fun h => h h3), if_neg (fun h => h h4), if_neg h5]
theorem re_ok {xs : List UInt8} (h1 : ¬ 512 < xs.length) (h2 : ¬ xs.length < 2) (h3 : (rV1 xs).2.2 = 0) (h4 : (rV2 xs).2.2 = 0) (h5 : ROk (rKd xs) (rCh xs) (rLs xs) (rPv xs)) : rerr xs = 0 := by unfold rerr; rw [if_neg h1, if_neg h2, if_neg (fun h => h h3), if_neg (fun h => h h4), if_pos h5]
theorem rb_get {xs : List UInt8} {q : Nat} (h : q < xs.length) : xs.getD q 0 = xs[q] := by rw [List.getD_eq_getElem?_getD, List.getElem?_eq_getElem h]; rfl
/-- A number that is too large is told as one too large. -/
theorem rok_min {kind chain : Int} {a b : Nat} : ROk kind chain (min (a : Int) 2147483648) (min (a : Int) 2147483648 - min (b : Int) 2147483648) ↔ ROk kind chain (a : Int) ((a : Int) - (b : Int)) := by unfold ROk; omega
theorem rok_lt {kind chain : Int} {a b : Nat} (h : ROk kind chain (a : Int) ((a : Int) - (b : Int))) : a ≤ 2147483647 ∧ b ≤ a ∧ 0 < b := by unfold ROk at h; omega
theorem rOk_of {xs : List UInt8} (h : rerr xs = 0) : ROk (rKd xs) (rCh xs) (rLs xs) (rPv xs) ∧ xs.length ≤ 512 := by
  unfold rerr at h
  split at h
  · omega
  · split at h
    · omega
    · split at h
      · rename_i h3; exact absurd h h3
      · split at h
        · rename_i h4; exact absurd h h4
        · split at h
          · rename_i h5; exact ⟨h5, by omega⟩
          · omega
theorem varint_Get {w : World} {t1 lo hi : Nat} {A : Option Addr} {c : Nat} {bs : List UInt8} (hS : Sli t1 lo hi w A (fl encB bs)) (hb : bs.length ≤ 140737488355328) :
    Runs Tryd.prog 97 #[.slice A bs.length c] w (fun v w' => w.grownBy w' none ∧ v = .tuple #[.int .u64 ((vget bs).1 : Int), .int .i64 ((vget bs).2.1 : Int), .int .i64 (vget bs).2.2]) := by
 have hB := gb_refl w none
 replace hS := hS.top
 refine enter Tryd.func97 Tryd.ntmps97 rfl rfl ?_
 refine C_seq (C_reg rfl ?_)
 refine Las rfl rfl (Las rfl rfl (Las rfl rfl (L_nil (N_then (C_seq (C_reg rfl (Las rfl rfl (L_nil (N_then (C_seq (C_seq (C_reg rfl (Lmv rfl rfl (L_run (R_lenSl rfl slc34) rfl (Lmv rfl rfl (L_nil (N_then (C_block ?_))))))))))))))))))
 refine C_loop (fun m_ a_ w_ => ∃ (σ_ : Nat → Value) (k : Nat) (n : Nat), a_ = Ac 41 σ_ [] [(0, .slice A bs.length c), (5, .int .u64 (n : Int)), (8, .slice A bs.length c), (9, .int .i64 (bs.length : Int)), (10, .int .i64 (k : Int))] ∧ w.grownBy w_ none ∧ Sli t1 lo w.heap.size w_ A (fl encB bs) ∧ (k ≤ bs.length) ∧ (k ≤ 9) ∧ (n < 128 ^ k) ∧ (vgo k n (bs.drop k) = vget bs) ∧ bs.length - k = m_) (bs.length - 0) ?_ ?_
 ·exact ⟨_, 0, 0, Ac_frg ⟨rfl, (agx rfl), rfl, rfl, (agx rfl), trivial⟩, hB, hS, (by omega), (by omega), (by omega), (by rw [List.drop_zero]; rfl), rfl⟩
 ·clear hB
  clear hS
  rintro m_ a_ w1 ⟨σ_, k, n, rfl, hB, hS, hk, h9, hn, hv, rfl⟩
  refine C_seq (C_reg rfl ?_)
  refine L_run (R_lss rfl rfl) rfl ?_
  refine L_nil (N_then (C_seq (C_if rfl (fun h1 => ?_) (fun h1 => ?_))))
  ·refine C_skip (N_then (C_seq (C_block (C_seq (C_reg rfl ?_)))))
   refine Lmv rfl rfl ?_
   have hl1 : k < bs.length := by first | omega | (simp; omega)
   refine T_index (xs := bs) (i := k) EncB rfl rfl (by first | rfl | omega) slc34 hl1 hS rfl ?_
   intro g1 o1 ha1
   refine L_run (R_load1 rfl scl5 (ha1 0 _ rfl)) rfl (Las rfl rfl (Las rfl rfl (L_nil (N_then (C_seq (C_seq (C_reg rfl (Lmv rfl rfl (L_run (R_eql rfl rfl) rfl (Lmv rfl rfl ?_))))))))))
   refine L_splitD (p := (k : Int) = 9) (fun h2 => ?_) (fun h2 => ?_)
   ·refine L_yes rfl rfl rfl (decide_eq_true h2) (Lmv rfl rfl (L_yes rfl rfl rfl (decide_eq_true h2) (L_run (R_gtr rfl rfl) rfl (L_run (R_pickT rfl (decide_eq_true h2) rfl) rfl (L_nil (N_then (C_if rfl (fun h3 => ?_) (fun h3 => ?_))))))))
    ·refine C_seq (C_reg rfl ?_)
     refine Las rfl rfl (Las rfl rfl (Las rfl rfl (L_nil (N_then (C_ret (R_then (R_in (R_then (R_then (R_in (R_then ?_)))))))))))
     refine ret3 Tryd.results97 rfl rfl rfl ?_
     first
       | (exfalso; omega)
       | (have e_ : vget bs = (0, 0, 4) := by (rw [← hv, List.drop_eq_getElem_cons hl1, vgo]; first | rw [if_pos (by omega)] | rw [if_neg (by omega), if_pos (by omega), if_pos (by omega)] | rw [if_neg (by omega), if_pos (by omega), if_neg (by omega)])
          rw [e_]
          exact ⟨hB, rfl⟩)
    ·refine C_skip (N_then (C_seq (C_reg rfl ?_)))
     refine Lmv rfl rfl (Lmv rfl rfl (L_run (R_eqv (R_and rfl rfl) (v' := .int .u8 ((bs[k].toNat % 128 : Nat) : Int)) (and127 _)) rfl ?_))
     refine L_run (R_eqv (R_conv rfl any5 int30) (v' := .int .u64 ((bs[k].toNat % 128 : Nat) : Int)) (congrArg _ (w64n (by omega)))) rfl ?_
     refine Lmv rfl rfl ?_
     refine L_run (R_mul64 rfl rfl (by omega)) rfl ?_
     refine L_run (R_eqv (R_shl rfl rfl (by first | decide | omega)) (v' := .int .u64 ((bs[k].toNat % 128 * 128 ^ k : Nat) : Int)) (shl7 h9 (by have := vfit hn h9 (c := bs[k]) (by omega); omega))) rfl ?_
     refine L_run (R_eqv (R_or rfl rfl) (v' := .int .u64 ((n + bs[k].toNat % 128 * 128 ^ k : Nat) : Int)) (or_add hn (vfit hn h9 (by omega)))) rfl ?_
     refine Las rfl rfl (L_nil (N_then (C_seq (C_reg rfl (Lmv rfl rfl (L_run (R_lss rfl rfl) rfl (L_nil (N_then (C_if rfl (fun h4 => ?_) (fun h4 => ?_))))))))))
     ·refine C_seq (C_seq (C_reg rfl ?_))
      refine Lmv rfl rfl (L_run (R_eql rfl rfl) rfl (Lmv rfl rfl ?_))
      refine L_splitD (p := ((bs[k]).toNat : Int) = 0) (fun h5 => ?_) (fun h5 => ?_)
      ·refine L_yes rfl rfl rfl (decide_eq_true h5) (Lmv rfl rfl (L_yes rfl rfl rfl (decide_eq_true h5) (L_run (R_gtr rfl rfl) rfl (L_run (R_pickT rfl (decide_eq_true h5) rfl) rfl (L_nil (N_then (C_if rfl (fun h6 => ?_) (fun h6 => ?_))))))))
       ·refine C_seq (C_reg rfl ?_)
        refine Las rfl rfl (Las rfl rfl (Las rfl rfl (L_nil (N_then (C_ret (R_then (R_in (R_then (R_then (R_in (R_then ?_)))))))))))
        refine ret3 Tryd.results97 rfl rfl rfl ?_
        first
          | (exfalso; omega)
          | (have e_ : vget bs = (0, 0, 2) := by (rw [← hv, List.drop_eq_getElem_cons hl1, vgo]; first | rw [if_pos (by omega)] | rw [if_neg (by omega), if_pos (by omega), if_pos (by omega)] | rw [if_neg (by omega), if_pos (by omega), if_neg (by omega)])
             rw [e_]
             exact ⟨hB, rfl⟩)
       ·refine C_skip (N_then (C_seq (C_reg rfl ?_)))
        refine Lmv rfl rfl (Lmv rfl rfl ?_)
        refine L_run (R_add64 rfl rfl (by omega)) rfl ?_
        refine Las rfl rfl (Las rfl rfl (Las rfl rfl (L_nil (N_then (C_ret (R_in (R_then (R_then (R_in (R_then ?_))))))))))
        refine ret3 Tryd.results97 rfl rfl rfl ?_
        first
          | (exfalso; omega)
          | (have e_ : vget bs = ((n + bs[k].toNat % 128 * 128 ^ k), (k + 1), 0) := by (rw [← hv, List.drop_eq_getElem_cons hl1, vgo]; first | rw [if_pos (by omega)] | rw [if_neg (by omega), if_pos (by omega), if_pos (by omega)] | rw [if_neg (by omega), if_pos (by omega), if_neg (by omega)])
             rw [e_]
             exact ⟨hB, rfl⟩)
      ·refine L_no rfl rfl rfl (decide_eq_false h5) rfl (L_no rfl rfl rfl (decide_eq_false h5) rfl (L_run (R_pickF rfl (decide_eq_false h5) rfl) rfl (L_nil (N_then (C_condF rfl rfl (C_skip (N_then (C_seq (C_reg rfl (Lmv rfl rfl (Lmv rfl rfl ?_)))))))))))
       refine L_run (R_add64 rfl rfl (by omega)) rfl ?_
       refine Las rfl rfl (Las rfl rfl (Las rfl rfl (L_nil (N_then (C_ret (R_in (R_then (R_then (R_in (R_then ?_))))))))))
       refine ret3 Tryd.results97 rfl rfl rfl ?_
       first
         | (exfalso; omega)
         | (have e_ : vget bs = ((n + bs[k].toNat % 128 * 128 ^ k), (k + 1), 0) := by (rw [← hv, List.drop_eq_getElem_cons hl1, vgo]; first | rw [if_pos (by omega)] | rw [if_neg (by omega), if_pos (by omega), if_pos (by omega)] | rw [if_neg (by omega), if_pos (by omega), if_neg (by omega)])
            rw [e_]
            exact ⟨hB, rfl⟩)
     ·refine C_skip (N_in (N_then (C_reg rfl ?_)))
      refine L_run (R_add64 rfl rfl (by omega)) rfl ?_
      refine Lmv rfl rfl (L_nil (N_then ?_))
      exact ⟨bs.length - (k + 1), by omega, _, (k + 1), (n + bs[k].toNat % 128 * 128 ^ k), Ac_frg ⟨rfl, (agx rfl), rfl, rfl, (agx rfl), trivial⟩, hB, hS, (by omega), (by omega), (vstep hn), (by rw [← hv, List.drop_eq_getElem_cons hl1, vgo, if_neg (by omega), if_neg (by omega)]), rfl⟩
   ·refine L_no rfl rfl rfl (decide_eq_false h2) rfl (L_no rfl rfl rfl (decide_eq_false h2) rfl (L_run (R_pickF rfl (decide_eq_false h2) rfl) rfl (L_nil (N_then (C_condF rfl rfl (C_skip (N_then (C_seq (C_reg rfl (Lmv rfl rfl (Lmv rfl rfl (L_run (R_eqv (R_and rfl rfl) (v' := .int .u8 ((bs[k].toNat % 128 : Nat) : Int)) (and127 _)) rfl ?_))))))))))))
    refine L_run (R_eqv (R_conv rfl any5 int30) (v' := .int .u64 ((bs[k].toNat % 128 : Nat) : Int)) (congrArg _ (w64n (by omega)))) rfl ?_
    refine Lmv rfl rfl ?_
    refine L_run (R_mul64 rfl rfl (by omega)) rfl ?_
    refine L_run (R_eqv (R_shl rfl rfl (by first | decide | omega)) (v' := .int .u64 ((bs[k].toNat % 128 * 128 ^ k : Nat) : Int)) (shl7 h9 (by have := vfit hn h9 (c := bs[k]) (by omega); omega))) rfl ?_
    refine L_run (R_eqv (R_or rfl rfl) (v' := .int .u64 ((n + bs[k].toNat % 128 * 128 ^ k : Nat) : Int)) (or_add hn (vfit hn h9 (by omega)))) rfl ?_
    refine Las rfl rfl (L_nil (N_then (C_seq (C_reg rfl (Lmv rfl rfl (L_run (R_lss rfl rfl) rfl (L_nil (N_then (C_if rfl (fun h7 => ?_) (fun h7 => ?_))))))))))
    ·refine C_seq (C_seq (C_reg rfl ?_))
     refine Lmv rfl rfl (L_run (R_eql rfl rfl) rfl (Lmv rfl rfl ?_))
     refine L_splitD (p := ((bs[k]).toNat : Int) = 0) (fun h8 => ?_) (fun h8 => ?_)
     ·refine L_yes rfl rfl rfl (decide_eq_true h8) (Lmv rfl rfl (L_yes rfl rfl rfl (decide_eq_true h8) (L_run (R_gtr rfl rfl) rfl (L_run (R_pickT rfl (decide_eq_true h8) rfl) rfl (L_nil (N_then (C_if rfl (fun h9 => ?_) (fun h9 => ?_))))))))
      ·refine C_seq (C_reg rfl ?_)
       refine Las rfl rfl (Las rfl rfl (Las rfl rfl (L_nil (N_then (C_ret (R_then (R_in (R_then (R_then (R_in (R_then ?_)))))))))))
       refine ret3 Tryd.results97 rfl rfl rfl ?_
       first
         | (exfalso; omega)
         | (have e_ : vget bs = (0, 0, 2) := by (rw [← hv, List.drop_eq_getElem_cons hl1, vgo]; first | rw [if_pos (by omega)] | rw [if_neg (by omega), if_pos (by omega), if_pos (by omega)] | rw [if_neg (by omega), if_pos (by omega), if_neg (by omega)])
            rw [e_]
            exact ⟨hB, rfl⟩)
      ·refine C_skip (N_then (C_seq (C_reg rfl ?_)))
       refine Lmv rfl rfl (Lmv rfl rfl ?_)
       refine L_run (R_add64 rfl rfl (by omega)) rfl ?_
       refine Las rfl rfl (Las rfl rfl (Las rfl rfl (L_nil (N_then (C_ret (R_in (R_then (R_then (R_in (R_then ?_))))))))))
       refine ret3 Tryd.results97 rfl rfl rfl ?_
       first
         | (exfalso; omega)
         | (have e_ : vget bs = ((n + bs[k].toNat % 128 * 128 ^ k), (k + 1), 0) := by (rw [← hv, List.drop_eq_getElem_cons hl1, vgo]; first | rw [if_pos (by omega)] | rw [if_neg (by omega), if_pos (by omega), if_pos (by omega)] | rw [if_neg (by omega), if_pos (by omega), if_neg (by omega)])
            rw [e_]
            exact ⟨hB, rfl⟩)
     ·refine L_no rfl rfl rfl (decide_eq_false h8) rfl (L_no rfl rfl rfl (decide_eq_false h8) rfl (L_run (R_pickF rfl (decide_eq_false h8) rfl) rfl (L_nil (N_then (C_condF rfl rfl (C_skip (N_then (C_seq (C_reg rfl (Lmv rfl rfl (Lmv rfl rfl ?_)))))))))))
      refine L_run (R_add64 rfl rfl (by omega)) rfl ?_
      refine Las rfl rfl (Las rfl rfl (Las rfl rfl (L_nil (N_then (C_ret (R_in (R_then (R_then (R_in (R_then ?_))))))))))
      refine ret3 Tryd.results97 rfl rfl rfl ?_
      first
        | (exfalso; omega)
        | (have e_ : vget bs = ((n + bs[k].toNat % 128 * 128 ^ k), (k + 1), 0) := by (rw [← hv, List.drop_eq_getElem_cons hl1, vgo]; first | rw [if_pos (by omega)] | rw [if_neg (by omega), if_pos (by omega), if_pos (by omega)] | rw [if_neg (by omega), if_pos (by omega), if_neg (by omega)])
           rw [e_]
           exact ⟨hB, rfl⟩)
    ·refine C_skip (N_in (N_then (C_reg rfl ?_)))
     refine L_run (R_add64 rfl rfl (by omega)) rfl ?_
     refine Lmv rfl rfl (L_nil (N_then ?_))
     exact ⟨bs.length - (k + 1), by omega, _, (k + 1), (n + bs[k].toNat % 128 * 128 ^ k), Ac_frg ⟨rfl, (agx rfl), rfl, rfl, (agx rfl), trivial⟩, hB, hS, (by omega), (by omega), (vstep hn), (by rw [← hv, List.drop_eq_getElem_cons hl1, vgo, if_neg (by omega), if_neg (by omega)]), rfl⟩
  ·refine C_exit (X_then (X_then (X_hit (N_then (C_seq (C_reg rfl ?_))))))
   refine Las rfl rfl (Las rfl rfl (Las rfl rfl (L_nil (N_then (C_ret ?_)))))
   refine ret3 Tryd.results97 rfl rfl rfl ?_
   first
     | (exfalso; omega)
     | (have e_ : vget bs = (0, 0, 1) := by rw [← hv, List.drop_of_length_le (by omega), vgo]
        rw [e_]
        exact ⟨hB, rfl⟩)
theorem ref02_Get {w : World} {t1 lo hi : Nat} {A : Option Addr} {c : Nat} {bs : List UInt8} (hS : Sli t1 lo hi w A (fl encB bs)) (hb : bs.length ≤ 140737488355328) :
    Runs Tryd.prog 44 #[.slice A bs.length c] w (fun v w' => w.grownBy w' none ∧ v = .tuple #[.int .u64 ((vget bs).1 : Int), .int .i64 ((vget bs).2.1 : Int), .int .i64 (vget bs).2.2]) := by
 have hB := gb_refl w none
 replace hS := hS.top
 refine enter Tryd.func44 Tryd.ntmps44 rfl rfl ?_
 refine C_seq (C_reg rfl ?_)
 refine Las rfl rfl (Las rfl rfl (Las rfl rfl (L_nil (N_then (C_seq (C_reg rfl (Las rfl rfl (L_nil (N_then (C_seq (C_reg rfl (Las rfl rfl (L_nil (N_then (C_seq (C_seq (C_reg rfl (Las rfl rfl (L_nil (N_then (C_block ?_)))))))))))))))))))))
 refine C_loop (fun m_ a_ w_ => ∃ (σ_ : Nat → Value) (k : Nat) (n : Nat), a_ = Ac 49 σ_ [] [(0, .slice A bs.length c), (5, .int .u64 (n : Int)), (6, .int .u64 (IntKind.u64.wrap ((128 ^ k : Nat) : Int))), (7, .int .i64 (k : Int))] ∧ w.grownBy w_ none ∧ Sli t1 lo w.heap.size w_ A (fl encB bs) ∧ (k ≤ bs.length) ∧ (k ≤ 9) ∧ (n < 128 ^ k) ∧ (vgo k n (bs.drop k) = vget bs) ∧ bs.length - k = m_) (bs.length - 0) ?_ ?_
 ·exact ⟨_, 0, 0, Ac_frg ⟨rfl, (agx rfl), (agx rfl), (agx rfl), trivial⟩, hB, hS, (by omega), (by omega), (by omega), (by rw [List.drop_zero]; rfl), rfl⟩
 ·clear hB
  clear hS
  rintro m_ a_ w1 ⟨σ_, k, n, rfl, hB, hS, hk, h9, hn, hv, rfl⟩
  refine C_seq (C_seq (C_reg rfl ?_))
  refine Lmv rfl rfl (Lmv rfl rfl (L_run (R_lenSl rfl slc34) rfl (L_run (R_lss rfl rfl) rfl (L_nil (N_then (C_if rfl (fun h1 => ?_) (fun h1 => ?_)))))))
  ·refine C_skip (N_then (C_seq (C_block (C_seq (C_reg rfl ?_)))))
   refine Lmv rfl rfl (Lmv rfl rfl ?_)
   have hl1 : k < bs.length := by first | omega | (simp; omega)
   refine T_index (xs := bs) (i := k) EncB rfl rfl (by first | rfl | omega) slc34 hl1 hS rfl ?_
   intro g1 o1 ha1
   refine L_run (R_load1 rfl scl5 (ha1 0 _ rfl)) rfl ?_
   refine L_run (R_eqv (R_conv rfl any5 int30) (v' := .int .u64 (bs[k].toNat : Int)) (congrArg _ (w64n (by have := bs[k].toNat_lt; omega)))) rfl ?_
   refine Las rfl rfl (L_nil (N_then (C_seq (C_seq (C_reg rfl (Lmv rfl rfl (L_run (R_eql rfl rfl) rfl (Lmv rfl rfl ?_))))))))
   refine L_splitD (p := (k : Int) = 9) (fun h2 => ?_) (fun h2 => ?_)
   ·refine L_yes rfl rfl rfl (decide_eq_true h2) (Lmv rfl rfl (L_yes rfl rfl rfl (decide_eq_true h2) (L_run (R_gtr rfl rfl) rfl (L_run (R_pickT rfl (decide_eq_true h2) rfl) rfl (L_nil (N_then (C_if rfl (fun h3 => ?_) (fun h3 => ?_))))))))
    ·refine C_seq (C_reg rfl ?_)
     refine Las rfl rfl (Las rfl rfl (Las rfl rfl (L_nil (N_then (C_ret (R_then (R_in (R_then (R_then (R_in (R_then ?_)))))))))))
     refine ret3 Tryd.results44 rfl rfl rfl ?_
     first
       | (exfalso; omega)
       | (have e_ : vget bs = (0, 0, 4) := by (rw [← hv, List.drop_eq_getElem_cons hl1, vgo]; first | rw [if_pos (by omega)] | rw [if_neg (by omega), if_pos (by omega), if_pos (by omega)] | rw [if_neg (by omega), if_pos (by omega), if_neg (by omega)])
          rw [e_]
          exact ⟨hB, rfl⟩)
    ·refine C_skip (N_then (C_seq (C_reg rfl ?_)))
     refine Lmv rfl rfl (Lmv rfl rfl ?_)
     refine L_run (R_eqv (R_rem rfl rfl (by first | decide | omega)) (v' := .int .u64 ((bs[k].toNat % 128 : Nat) : Int)) (rem128 _)) rfl ?_
     refine Lmv rfl rfl ?_
     refine L_run (R_eqv (R_mul rfl rfl) (v' := .int .u64 ((bs[k].toNat % 128 * 128 ^ k : Nat) : Int)) (mul_w (vfit hn h9 (c := bs[k]) (by omega)))) rfl ?_
     refine L_run (R_eqv (R_add rfl rfl) (v' := .int .u64 ((n + bs[k].toNat % 128 * 128 ^ k : Nat) : Int)) (add_w (vfit hn h9 (c := bs[k]) (by omega)))) rfl ?_
     refine Las rfl rfl (L_nil (N_then (C_seq (C_reg rfl (Lmv rfl rfl (L_run (R_eqv (R_mul rfl rfl) (v' := .int .u64 (IntKind.u64.wrap ((128 ^ (k + 1) : Nat) : Int))) (mul128_w k)) rfl (Las rfl rfl (L_nil (N_then (C_seq (C_seq (C_reg rfl (Lmv rfl rfl (L_run (R_lss rfl rfl) rfl (Lmv rfl rfl ?_)))))))))))))))
     refine L_splitD (p := (bs[k].toNat : Int) < 128) (fun h4 => ?_) (fun h4 => ?_)
     ·refine L_yes rfl rfl rfl (decide_eq_true h4) (Lmv rfl rfl (L_yes rfl rfl rfl (decide_eq_true h4) (L_run (R_eql rfl rfl) rfl (L_run (R_pickT rfl (decide_eq_true h4) rfl) rfl (Lmv rfl rfl ?_)))))
      refine L_splitD (p := (bs[k].toNat : Int) = 0) (fun h5 => ?_) (fun h5 => ?_)
      ·refine L_yes rfl rfl rfl (decide_eq_true h5) (Lmv rfl rfl (L_yes rfl rfl rfl (decide_eq_true h5) (L_run (R_gtr rfl rfl) rfl (L_run (R_pickT rfl (decide_eq_true h5) rfl) rfl (L_nil (N_then (C_if rfl (fun h6 => ?_) (fun h6 => ?_))))))))
       ·refine C_seq (C_reg rfl ?_)
        refine Las rfl rfl (Las rfl rfl (Las rfl rfl (L_nil (N_then (C_ret (R_then (R_in (R_then (R_then (R_in (R_then ?_)))))))))))
        refine ret3 Tryd.results44 rfl rfl rfl ?_
        first
          | (exfalso; omega)
          | (have e_ : vget bs = (0, 0, 2) := by (rw [← hv, List.drop_eq_getElem_cons hl1, vgo]; first | rw [if_pos (by omega)] | rw [if_neg (by omega), if_pos (by omega), if_pos (by omega)] | rw [if_neg (by omega), if_pos (by omega), if_neg (by omega)])
             rw [e_]
             exact ⟨hB, rfl⟩)
       ·refine C_skip (N_then (C_seq (C_reg rfl ?_)))
        refine Lmv rfl rfl (L_run (R_lss rfl rfl) rfl (L_nil (N_then (C_condT rfl (decide_eq_true h4) (C_seq (C_reg rfl (Lmv rfl rfl (Lmv rfl rfl ?_))))))))
        refine L_run (R_add64 rfl rfl (by omega)) rfl ?_
        refine Las rfl rfl (Las rfl rfl (Las rfl rfl (L_nil (N_then (C_ret (R_in (R_then (R_then (R_in (R_then ?_))))))))))
        refine ret3 Tryd.results44 rfl rfl rfl ?_
        first
          | (exfalso; omega)
          | (have e_ : vget bs = ((n + bs[k].toNat % 128 * 128 ^ k), (k + 1), 0) := by (rw [← hv, List.drop_eq_getElem_cons hl1, vgo]; first | rw [if_pos (by omega)] | rw [if_neg (by omega), if_pos (by omega), if_pos (by omega)] | rw [if_neg (by omega), if_pos (by omega), if_neg (by omega)])
             rw [e_]
             exact ⟨hB, rfl⟩)
      ·refine L_no rfl rfl rfl (decide_eq_false h5) rfl (L_no rfl rfl rfl (decide_eq_false h5) rfl (L_run (R_pickF rfl (decide_eq_false h5) rfl) rfl (L_nil (N_then (C_condF rfl rfl (C_skip (N_then (C_seq (C_reg rfl (Lmv rfl rfl (L_run (R_lss rfl rfl) rfl (L_nil (N_then (C_condT rfl (decide_eq_true h4) (C_seq (C_reg rfl (Lmv rfl rfl (Lmv rfl rfl ?_))))))))))))))))))
       refine L_run (R_add64 rfl rfl (by omega)) rfl ?_
       refine Las rfl rfl (Las rfl rfl (Las rfl rfl (L_nil (N_then (C_ret (R_in (R_then (R_then (R_in (R_then ?_))))))))))
       refine ret3 Tryd.results44 rfl rfl rfl ?_
       first
         | (exfalso; omega)
         | (have e_ : vget bs = ((n + bs[k].toNat % 128 * 128 ^ k), (k + 1), 0) := by (rw [← hv, List.drop_eq_getElem_cons hl1, vgo]; first | rw [if_pos (by omega)] | rw [if_neg (by omega), if_pos (by omega), if_pos (by omega)] | rw [if_neg (by omega), if_pos (by omega), if_neg (by omega)])
            rw [e_]
            exact ⟨hB, rfl⟩)
     ·refine L_no rfl rfl rfl (decide_eq_false h4) rfl (L_no rfl rfl rfl (decide_eq_false h4) rfl (L_run (R_pickF rfl (decide_eq_false h4) rfl) rfl (Lmv rfl rfl (L_no rfl rfl rfl rfl rfl (L_no rfl rfl rfl rfl rfl (L_run (R_pickF rfl rfl rfl) rfl (L_nil (N_then (C_condF rfl rfl (C_skip (N_then (C_seq (C_reg rfl (Lmv rfl rfl (L_run (R_lss rfl rfl) rfl (L_nil (N_then (C_condF rfl (decide_eq_false h4) (C_skip (N_in (N_then (C_reg rfl ?_))))))))))))))))))))))
      refine Lmv rfl rfl ?_
      refine L_run (R_add64 rfl rfl (by omega)) rfl ?_
      refine Las rfl rfl (L_nil (N_then ?_))
      exact ⟨bs.length - (k + 1), by omega, _, (k + 1), (n + bs[k].toNat % 128 * 128 ^ k), Ac_frg ⟨rfl, (agx rfl), rfl, (agx rfl), trivial⟩, hB, hS, (by omega), (by omega), (vstep hn), (by rw [← hv, List.drop_eq_getElem_cons hl1, vgo, if_neg (by omega), if_neg (by omega)]), rfl⟩
   ·refine L_no rfl rfl rfl (decide_eq_false h2) rfl (L_no rfl rfl rfl (decide_eq_false h2) rfl (L_run (R_pickF rfl (decide_eq_false h2) rfl) rfl (L_nil (N_then (C_condF rfl rfl (C_skip (N_then (C_seq (C_reg rfl (Lmv rfl rfl (Lmv rfl rfl ?_)))))))))))
    refine L_run (R_eqv (R_rem rfl rfl (by first | decide | omega)) (v' := .int .u64 ((bs[k].toNat % 128 : Nat) : Int)) (rem128 _)) rfl ?_
    refine Lmv rfl rfl ?_
    refine L_run (R_eqv (R_mul rfl rfl) (v' := .int .u64 ((bs[k].toNat % 128 * 128 ^ k : Nat) : Int)) (mul_w (vfit hn h9 (c := bs[k]) (by omega)))) rfl ?_
    refine L_run (R_eqv (R_add rfl rfl) (v' := .int .u64 ((n + bs[k].toNat % 128 * 128 ^ k : Nat) : Int)) (add_w (vfit hn h9 (c := bs[k]) (by omega)))) rfl ?_
    refine Las rfl rfl (L_nil (N_then (C_seq (C_reg rfl (Lmv rfl rfl (L_run (R_eqv (R_mul rfl rfl) (v' := .int .u64 (IntKind.u64.wrap ((128 ^ (k + 1) : Nat) : Int))) (mul128_w k)) rfl (Las rfl rfl (L_nil (N_then (C_seq (C_seq (C_reg rfl (Lmv rfl rfl (L_run (R_lss rfl rfl) rfl (Lmv rfl rfl ?_)))))))))))))))
    refine L_splitD (p := (bs[k].toNat : Int) < 128) (fun h7 => ?_) (fun h7 => ?_)
    ·refine L_yes rfl rfl rfl (decide_eq_true h7) (Lmv rfl rfl (L_yes rfl rfl rfl (decide_eq_true h7) (L_run (R_eql rfl rfl) rfl (L_run (R_pickT rfl (decide_eq_true h7) rfl) rfl (Lmv rfl rfl ?_)))))
     refine L_splitD (p := (bs[k].toNat : Int) = 0) (fun h8 => ?_) (fun h8 => ?_)
     ·refine L_yes rfl rfl rfl (decide_eq_true h8) (Lmv rfl rfl (L_yes rfl rfl rfl (decide_eq_true h8) (L_run (R_gtr rfl rfl) rfl (L_run (R_pickT rfl (decide_eq_true h8) rfl) rfl (L_nil (N_then (C_if rfl (fun h9 => ?_) (fun h9 => ?_))))))))
      ·refine C_seq (C_reg rfl ?_)
       refine Las rfl rfl (Las rfl rfl (Las rfl rfl (L_nil (N_then (C_ret (R_then (R_in (R_then (R_then (R_in (R_then ?_)))))))))))
       refine ret3 Tryd.results44 rfl rfl rfl ?_
       first
         | (exfalso; omega)
         | (have e_ : vget bs = (0, 0, 2) := by (rw [← hv, List.drop_eq_getElem_cons hl1, vgo]; first | rw [if_pos (by omega)] | rw [if_neg (by omega), if_pos (by omega), if_pos (by omega)] | rw [if_neg (by omega), if_pos (by omega), if_neg (by omega)])
            rw [e_]
            exact ⟨hB, rfl⟩)
      ·refine C_skip (N_then (C_seq (C_reg rfl ?_)))
       refine Lmv rfl rfl (L_run (R_lss rfl rfl) rfl (L_nil (N_then (C_condT rfl (decide_eq_true h7) (C_seq (C_reg rfl (Lmv rfl rfl (Lmv rfl rfl ?_))))))))
       refine L_run (R_add64 rfl rfl (by omega)) rfl ?_
       refine Las rfl rfl (Las rfl rfl (Las rfl rfl (L_nil (N_then (C_ret (R_in (R_then (R_then (R_in (R_then ?_))))))))))
       refine ret3 Tryd.results44 rfl rfl rfl ?_
       first
         | (exfalso; omega)
         | (have e_ : vget bs = ((n + bs[k].toNat % 128 * 128 ^ k), (k + 1), 0) := by (rw [← hv, List.drop_eq_getElem_cons hl1, vgo]; first | rw [if_pos (by omega)] | rw [if_neg (by omega), if_pos (by omega), if_pos (by omega)] | rw [if_neg (by omega), if_pos (by omega), if_neg (by omega)])
            rw [e_]
            exact ⟨hB, rfl⟩)
     ·refine L_no rfl rfl rfl (decide_eq_false h8) rfl (L_no rfl rfl rfl (decide_eq_false h8) rfl (L_run (R_pickF rfl (decide_eq_false h8) rfl) rfl (L_nil (N_then (C_condF rfl rfl (C_skip (N_then (C_seq (C_reg rfl (Lmv rfl rfl (L_run (R_lss rfl rfl) rfl (L_nil (N_then (C_condT rfl (decide_eq_true h7) (C_seq (C_reg rfl (Lmv rfl rfl (Lmv rfl rfl ?_))))))))))))))))))
      refine L_run (R_add64 rfl rfl (by omega)) rfl ?_
      refine Las rfl rfl (Las rfl rfl (Las rfl rfl (L_nil (N_then (C_ret (R_in (R_then (R_then (R_in (R_then ?_))))))))))
      refine ret3 Tryd.results44 rfl rfl rfl ?_
      first
        | (exfalso; omega)
        | (have e_ : vget bs = ((n + bs[k].toNat % 128 * 128 ^ k), (k + 1), 0) := by (rw [← hv, List.drop_eq_getElem_cons hl1, vgo]; first | rw [if_pos (by omega)] | rw [if_neg (by omega), if_pos (by omega), if_pos (by omega)] | rw [if_neg (by omega), if_pos (by omega), if_neg (by omega)])
           rw [e_]
           exact ⟨hB, rfl⟩)
    ·refine L_no rfl rfl rfl (decide_eq_false h7) rfl (L_no rfl rfl rfl (decide_eq_false h7) rfl (L_run (R_pickF rfl (decide_eq_false h7) rfl) rfl (Lmv rfl rfl (L_no rfl rfl rfl rfl rfl (L_no rfl rfl rfl rfl rfl (L_run (R_pickF rfl rfl rfl) rfl (L_nil (N_then (C_condF rfl rfl (C_skip (N_then (C_seq (C_reg rfl (Lmv rfl rfl (L_run (R_lss rfl rfl) rfl (L_nil (N_then (C_condF rfl (decide_eq_false h7) (C_skip (N_in (N_then (C_reg rfl ?_))))))))))))))))))))))
     refine Lmv rfl rfl ?_
     refine L_run (R_add64 rfl rfl (by omega)) rfl ?_
     refine Las rfl rfl (L_nil (N_then ?_))
     exact ⟨bs.length - (k + 1), by omega, _, (k + 1), (n + bs[k].toNat % 128 * 128 ^ k), Ac_frg ⟨rfl, (agx rfl), rfl, (agx rfl), trivial⟩, hB, hS, (by omega), (by omega), (vstep hn), (by rw [← hv, List.drop_eq_getElem_cons hl1, vgo, if_neg (by omega), if_neg (by omega)]), rfl⟩
  ·refine C_exit (X_then (X_then (X_hit (N_then (C_seq (C_reg rfl ?_))))))
   refine Las rfl rfl (Las rfl rfl (Las rfl rfl (L_nil (N_then (C_ret ?_)))))
   refine ret3 Tryd.results44 rfl rfl rfl ?_
   first
     | (exfalso; omega)
     | (have e_ : vget bs = (0, 0, 1) := by rw [← hv, List.drop_of_length_le (by omega), vgo]
        rw [e_]
        exact ⟨hB, rfl⟩)
theorem rec_right {w : World} {kind chain lsn prev : Int} {A : Option Addr} {c n : Nat} :
    Runs Tryd.prog 75 #[.agg #[.int .i64 kind, .int .i64 chain, .int .i64 lsn, .int .i64 prev, .slice A n c]] w (fun v w' => w.grownBy w' none ∧ v = .bool (decide (ROk kind chain lsn prev))) := by
 have hB := gb_refl w none
 refine enter Tryd.func75 Tryd.ntmps75 rfl rfl ?_
 refine C_seq (C_reg rfl ?_)
 refine L_box (cs := [.int .i64 kind, .int .i64 chain, .int .i64 lsn, .int .i64 prev, .slice A n c]) rfl rfl rfl ?_
 intro g1 w1 eg1 hb1 hs1 hz1
 replace hB := gb_tr hB hs1
 refine Las rfl rfl (L_nil (N_then (C_seq (C_block (C_seq (C_reg rfl (L_run (R_field (r := 0) rfl fld36_0 rfl) rfl (L_run (R_load1 rfl scl3 (hb1.cell (i := 0) rfl)) rfl (L_run (R_lss rfl rfl) rfl (Lmv rfl rfl ?_))))))))))
 refine L_splitD (p := kind < 1) (fun h1 => ?_) (fun h1 => ?_)
 ·refine L_no rfl rfl rfl (decide_eq_true h1) rfl (L_no rfl rfl rfl (decide_eq_true h1) rfl (L_no rfl rfl rfl (decide_eq_true h1) rfl (L_run (R_pickT rfl (decide_eq_true h1) rfl) rfl (Las rfl rfl (L_nil (N_then (C_condT rfl rfl (C_seq (C_reg rfl (Las rfl rfl (L_nil (N_then (C_ret (R_in (R_then ?_)))))))))))))))
  refine ret1 Tryd.results75 rfl ?_
  first
    | (exfalso; omega)
    | (exact ⟨hB, by first | (rw [bF' (by unfold ROk; omega)]) | (rw [bT' (by unfold ROk; omega)]) | exact bD (by unfold ROk; omega)⟩)
 ·refine L_yes rfl rfl rfl (decide_eq_false h1) (L_run (R_field (r := 0) rfl fld36_0 rfl) rfl (L_yes rfl rfl rfl (decide_eq_false h1) (L_run (R_load1 rfl scl3 (hb1.cell (i := 0) rfl)) rfl (L_yes rfl rfl rfl (decide_eq_false h1) (L_run (R_gtr rfl rfl) rfl (L_run (R_pickF rfl (decide_eq_false h1) rfl) rfl (Las rfl rfl (L_nil (N_then (C_if rfl (fun h2 => ?_) (fun h2 => ?_)))))))))))
  ·refine C_seq (C_reg rfl ?_)
   refine Las rfl rfl (L_nil (N_then (C_ret (R_in (R_then ?_)))))
   refine ret1 Tryd.results75 rfl ?_
   first
     | (exfalso; omega)
     | (exact ⟨hB, by first | (rw [bF' (by unfold ROk; omega)]) | (rw [bT' (by unfold ROk; omega)]) | exact bD (by unfold ROk; omega)⟩)
  ·refine C_seq (C_reg rfl ?_)
   refine L_run (R_field (r := 1) rfl fld36_1 rfl) rfl (L_run (R_load1 rfl scl3 (hb1.cell (i := 1) rfl)) rfl (L_run (R_lss rfl rfl) rfl (Lmv rfl rfl ?_)))
   refine L_splitD (p := chain < 0) (fun h3 => ?_) (fun h3 => ?_)
   ·refine L_no rfl rfl rfl (decide_eq_true h3) rfl (L_no rfl rfl rfl (decide_eq_true h3) rfl (L_no rfl rfl rfl (decide_eq_true h3) rfl (L_run (R_pickT rfl (decide_eq_true h3) rfl) rfl (Las rfl rfl (L_nil (N_then (C_condT rfl rfl (C_seq (C_reg rfl (Las rfl rfl (L_nil (N_then (C_ret (R_in (R_then ?_)))))))))))))))
    refine ret1 Tryd.results75 rfl ?_
    first
      | (exfalso; omega)
      | (exact ⟨hB, by first | (rw [bF' (by unfold ROk; omega)]) | (rw [bT' (by unfold ROk; omega)]) | exact bD (by unfold ROk; omega)⟩)
   ·refine L_yes rfl rfl rfl (decide_eq_false h3) (L_run (R_field (r := 1) rfl fld36_1 rfl) rfl (L_yes rfl rfl rfl (decide_eq_false h3) (L_run (R_load1 rfl scl3 (hb1.cell (i := 1) rfl)) rfl (L_yes rfl rfl rfl (decide_eq_false h3) (L_run (R_geq rfl rfl) rfl (L_run (R_pickF rfl (decide_eq_false h3) rfl) rfl (Las rfl rfl (L_nil (N_then (C_if rfl (fun h4 => ?_) (fun h4 => ?_)))))))))))
    ·refine C_seq (C_reg rfl ?_)
     refine Las rfl rfl (L_nil (N_then (C_ret (R_in (R_then ?_)))))
     refine ret1 Tryd.results75 rfl ?_
     first
       | (exfalso; omega)
       | (exact ⟨hB, by first | (rw [bF' (by unfold ROk; omega)]) | (rw [bT' (by unfold ROk; omega)]) | exact bD (by unfold ROk; omega)⟩)
    ·refine C_seq (C_reg rfl ?_)
     refine L_run (R_field (r := 2) rfl fld36_2 rfl) rfl (L_run (R_load1 rfl scl3 (hb1.cell (i := 2) rfl)) rfl (L_run (R_lss rfl rfl) rfl (Lmv rfl rfl ?_)))
     refine L_splitD (p := lsn < 1) (fun h5 => ?_) (fun h5 => ?_)
     ·refine L_no rfl rfl rfl (decide_eq_true h5) rfl (L_no rfl rfl rfl (decide_eq_true h5) rfl (L_no rfl rfl rfl (decide_eq_true h5) rfl (L_run (R_pickT rfl (decide_eq_true h5) rfl) rfl (Las rfl rfl (L_nil (N_then (C_condT rfl rfl (C_seq (C_reg rfl (Las rfl rfl (L_nil (N_then (C_ret (R_in (R_then ?_)))))))))))))))
      refine ret1 Tryd.results75 rfl ?_
      first
        | (exfalso; omega)
        | (exact ⟨hB, by first | (rw [bF' (by unfold ROk; omega)]) | (rw [bT' (by unfold ROk; omega)]) | exact bD (by unfold ROk; omega)⟩)
     ·refine L_yes rfl rfl rfl (decide_eq_false h5) (L_run (R_field (r := 2) rfl fld36_2 rfl) rfl (L_yes rfl rfl rfl (decide_eq_false h5) (L_run (R_load1 rfl scl3 (hb1.cell (i := 2) rfl)) rfl (L_yes rfl rfl rfl (decide_eq_false h5) (L_run (R_gtr rfl rfl) rfl (L_run (R_pickF rfl (decide_eq_false h5) rfl) rfl (Las rfl rfl (L_nil (N_then (C_if rfl (fun h6 => ?_) (fun h6 => ?_)))))))))))
      ·refine C_seq (C_reg rfl ?_)
       refine Las rfl rfl (L_nil (N_then (C_ret (R_in (R_then ?_)))))
       refine ret1 Tryd.results75 rfl ?_
       first
         | (exfalso; omega)
         | (exact ⟨hB, by first | (rw [bF' (by unfold ROk; omega)]) | (rw [bT' (by unfold ROk; omega)]) | exact bD (by unfold ROk; omega)⟩)
      ·refine C_skip (N_in (N_then (C_seq (C_reg rfl ?_))))
       refine L_run (R_field (r := 3) rfl fld36_3 rfl) rfl (L_run (R_load1 rfl scl3 (hb1.cell (i := 3) rfl)) rfl (L_run (R_geq rfl rfl) rfl (Lmv rfl rfl ?_)))
       refine L_splitD (p := 0 ≤ prev) (fun h7 => ?_) (fun h7 => ?_)
       ·refine L_yes rfl rfl rfl (decide_eq_true h7) (L_run (R_field (r := 3) rfl fld36_3 rfl) rfl (L_yes rfl rfl rfl (decide_eq_true h7) (L_run (R_load1 rfl scl3 (hb1.cell (i := 3) rfl)) rfl (L_yes rfl rfl rfl (decide_eq_true h7) (L_run (R_field (r := 2) rfl fld36_2 rfl) rfl (L_yes rfl rfl rfl (decide_eq_true h7) (L_run (R_load1 rfl scl3 (hb1.cell (i := 2) rfl)) rfl (L_yes rfl rfl rfl (decide_eq_true h7) ?_))))))))
        refine L_run (R_lss rfl rfl) rfl ?_
        refine L_run (R_pickT rfl (decide_eq_true h7) rfl) rfl ?_
        refine Las rfl rfl (L_nil (N_then (C_ret ?_)))
        refine ret1 Tryd.results75 rfl ?_
        first
          | (exfalso; omega)
          | (exact ⟨hB, by first | (rw [bF' (by unfold ROk; omega)]) | (rw [bT' (by unfold ROk; omega)]) | exact bD (by unfold ROk; omega)⟩)
       ·refine L_no rfl rfl rfl (decide_eq_false h7) rfl (L_no rfl rfl rfl (decide_eq_false h7) rfl (L_no rfl rfl rfl (decide_eq_false h7) rfl (L_no rfl rfl rfl (decide_eq_false h7) rfl (L_no rfl rfl rfl (decide_eq_false h7) rfl (L_run (R_pickF rfl (decide_eq_false h7) rfl) rfl (Las rfl rfl (L_nil (N_then (C_ret ?_)))))))))
        refine ret1 Tryd.results75 rfl ?_
        first
          | (exfalso; omega)
          | (exact ⟨hB, by first | (rw [bF' (by unfold ROk; omega)]) | (rw [bT' (by unfold ROk; omega)]) | exact bD (by unfold ROk; omega)⟩)
theorem rec_right11 {w : World} {kind chain lsn prev : Int} {A : Option Addr} {c n : Nat} :
    Runs Tryd.prog 45 #[.agg #[.int .i64 kind, .int .i64 chain, .int .i64 lsn, .int .i64 prev, .slice A n c]] w (fun v w' => w.grownBy w' none ∧ v = .bool (decide (ROk kind chain lsn prev))) := by
 have hB := gb_refl w none
 refine enter Tryd.func45 Tryd.ntmps45 rfl rfl ?_
 refine C_seq (C_reg rfl ?_)
 refine L_box (cs := [.int .i64 kind, .int .i64 chain, .int .i64 lsn, .int .i64 prev, .slice A n c]) rfl rfl rfl ?_
 intro g1 w1 eg1 hb1 hs1 hz1
 replace hB := gb_tr hB hs1
 refine Las rfl rfl (L_nil (N_then (C_seq (C_reg rfl (L_run (R_field (r := 0) rfl fld36_0 rfl) rfl (L_run (R_load1 rfl scl3 (hb1.cell (i := 0) rfl)) rfl (L_run (R_geq rfl rfl) rfl (Lmv rfl rfl ?_))))))))
 refine L_splitD (p := 1 ≤ kind) (fun h1 => ?_) (fun h1 => ?_)
 ·refine L_yes rfl rfl rfl (decide_eq_true h1) (L_run (R_field (r := 0) rfl fld36_0 rfl) rfl (L_yes rfl rfl rfl (decide_eq_true h1) (L_run (R_load1 rfl scl3 (hb1.cell (i := 0) rfl)) rfl (L_yes rfl rfl rfl (decide_eq_true h1) (L_run (R_leq rfl rfl) rfl (L_run (R_pickT rfl (decide_eq_true h1) rfl) rfl (Lmv rfl rfl ?_)))))))
  refine L_splitD (p := kind ≤ 9) (fun h2 => ?_) (fun h2 => ?_)
  ·refine L_yes rfl rfl rfl (decide_eq_true h2) (L_run (R_field (r := 1) rfl fld36_1 rfl) rfl (L_yes rfl rfl rfl (decide_eq_true h2) (L_run (R_load1 rfl scl3 (hb1.cell (i := 1) rfl)) rfl (L_yes rfl rfl rfl (decide_eq_true h2) (L_run (R_geq rfl rfl) rfl (L_run (R_pickT rfl (decide_eq_true h2) rfl) rfl (Lmv rfl rfl ?_)))))))
   refine L_splitD (p := 0 ≤ chain) (fun h3 => ?_) (fun h3 => ?_)
   ·refine L_yes rfl rfl rfl (decide_eq_true h3) (L_run (R_field (r := 1) rfl fld36_1 rfl) rfl (L_yes rfl rfl rfl (decide_eq_true h3) (L_run (R_load1 rfl scl3 (hb1.cell (i := 1) rfl)) rfl (L_yes rfl rfl rfl (decide_eq_true h3) (L_run (R_leq rfl rfl) rfl (L_run (R_pickT rfl (decide_eq_true h3) rfl) rfl (Lmv rfl rfl ?_)))))))
    refine L_splitD (p := chain ≤ 3) (fun h4 => ?_) (fun h4 => ?_)
    ·refine L_yes rfl rfl rfl (decide_eq_true h4) (L_run (R_field (r := 2) rfl fld36_2 rfl) rfl (L_yes rfl rfl rfl (decide_eq_true h4) (L_run (R_load1 rfl scl3 (hb1.cell (i := 2) rfl)) rfl (L_yes rfl rfl rfl (decide_eq_true h4) (L_run (R_geq rfl rfl) rfl (L_run (R_pickT rfl (decide_eq_true h4) rfl) rfl (Lmv rfl rfl ?_)))))))
     refine L_splitD (p := 1 ≤ lsn) (fun h5 => ?_) (fun h5 => ?_)
     ·refine L_yes rfl rfl rfl (decide_eq_true h5) (L_run (R_field (r := 2) rfl fld36_2 rfl) rfl (L_yes rfl rfl rfl (decide_eq_true h5) (L_run (R_load1 rfl scl3 (hb1.cell (i := 2) rfl)) rfl (L_yes rfl rfl rfl (decide_eq_true h5) (L_run (R_leq rfl rfl) rfl (L_run (R_pickT rfl (decide_eq_true h5) rfl) rfl (Lmv rfl rfl ?_)))))))
      refine L_splitD (p := lsn ≤ 2147483647) (fun h6 => ?_) (fun h6 => ?_)
      ·refine L_yes rfl rfl rfl (decide_eq_true h6) (L_run (R_field (r := 3) rfl fld36_3 rfl) rfl (L_yes rfl rfl rfl (decide_eq_true h6) (L_run (R_load1 rfl scl3 (hb1.cell (i := 3) rfl)) rfl (L_yes rfl rfl rfl (decide_eq_true h6) (L_run (R_geq rfl rfl) rfl (L_run (R_pickT rfl (decide_eq_true h6) rfl) rfl (Lmv rfl rfl ?_)))))))
       refine L_splitD (p := 0 ≤ prev) (fun h7 => ?_) (fun h7 => ?_)
       ·refine L_yes rfl rfl rfl (decide_eq_true h7) (L_run (R_field (r := 3) rfl fld36_3 rfl) rfl (L_yes rfl rfl rfl (decide_eq_true h7) (L_run (R_load1 rfl scl3 (hb1.cell (i := 3) rfl)) rfl (L_yes rfl rfl rfl (decide_eq_true h7) (L_run (R_field (r := 2) rfl fld36_2 rfl) rfl (L_yes rfl rfl rfl (decide_eq_true h7) (L_run (R_load1 rfl scl3 (hb1.cell (i := 2) rfl)) rfl (L_yes rfl rfl rfl (decide_eq_true h7) ?_))))))))
        refine L_run (R_lss rfl rfl) rfl ?_
        refine L_run (R_pickT rfl (decide_eq_true h7) rfl) rfl ?_
        refine Las rfl rfl (L_nil (N_then (C_ret ?_)))
        refine ret1 Tryd.results45 rfl ?_
        first
          | (exfalso; omega)
          | (exact ⟨hB, by first | (rw [bF' (by unfold ROk; omega)]) | (rw [bT' (by unfold ROk; omega)]) | exact bD (by unfold ROk; omega)⟩)
       ·refine L_no rfl rfl rfl (decide_eq_false h7) rfl (L_no rfl rfl rfl (decide_eq_false h7) rfl (L_no rfl rfl rfl (decide_eq_false h7) rfl (L_no rfl rfl rfl (decide_eq_false h7) rfl (L_no rfl rfl rfl (decide_eq_false h7) rfl (L_run (R_pickF rfl (decide_eq_false h7) rfl) rfl (Las rfl rfl (L_nil (N_then (C_ret ?_)))))))))
        refine ret1 Tryd.results45 rfl ?_
        first
          | (exfalso; omega)
          | (exact ⟨hB, by first | (rw [bF' (by unfold ROk; omega)]) | (rw [bT' (by unfold ROk; omega)]) | exact bD (by unfold ROk; omega)⟩)
      ·refine L_no rfl rfl rfl (decide_eq_false h6) rfl (L_no rfl rfl rfl (decide_eq_false h6) rfl (L_no rfl rfl rfl (decide_eq_false h6) rfl (L_run (R_pickF rfl (decide_eq_false h6) rfl) rfl (Lmv rfl rfl (L_no rfl rfl rfl rfl rfl (L_no rfl rfl rfl rfl rfl (L_no rfl rfl rfl rfl rfl (L_no rfl rfl rfl rfl rfl (L_no rfl rfl rfl rfl rfl (L_run (R_pickF rfl rfl rfl) rfl (Las rfl rfl (L_nil (N_then (C_ret ?_))))))))))))))
       refine ret1 Tryd.results45 rfl ?_
       first
         | (exfalso; omega)
         | (exact ⟨hB, by first | (rw [bF' (by unfold ROk; omega)]) | (rw [bT' (by unfold ROk; omega)]) | exact bD (by unfold ROk; omega)⟩)
     ·refine L_no rfl rfl rfl (decide_eq_false h5) rfl (L_no rfl rfl rfl (decide_eq_false h5) rfl (L_no rfl rfl rfl (decide_eq_false h5) rfl (L_run (R_pickF rfl (decide_eq_false h5) rfl) rfl (Lmv rfl rfl (L_no rfl rfl rfl rfl rfl (L_no rfl rfl rfl rfl rfl (L_no rfl rfl rfl rfl rfl (L_run (R_pickF rfl rfl rfl) rfl (Lmv rfl rfl (L_no rfl rfl rfl rfl rfl (L_no rfl rfl rfl rfl rfl (L_no rfl rfl rfl rfl rfl ?_))))))))))))
      refine L_no rfl rfl rfl rfl rfl (L_no rfl rfl rfl rfl rfl (L_run (R_pickF rfl rfl rfl) rfl (Las rfl rfl (L_nil (N_then (C_ret ?_))))))
      refine ret1 Tryd.results45 rfl ?_
      first
        | (exfalso; omega)
        | (exact ⟨hB, by first | (rw [bF' (by unfold ROk; omega)]) | (rw [bT' (by unfold ROk; omega)]) | exact bD (by unfold ROk; omega)⟩)
    ·refine L_no rfl rfl rfl (decide_eq_false h4) rfl (L_no rfl rfl rfl (decide_eq_false h4) rfl (L_no rfl rfl rfl (decide_eq_false h4) rfl (L_run (R_pickF rfl (decide_eq_false h4) rfl) rfl (Lmv rfl rfl (L_no rfl rfl rfl rfl rfl (L_no rfl rfl rfl rfl rfl (L_no rfl rfl rfl rfl rfl (L_run (R_pickF rfl rfl rfl) rfl (Lmv rfl rfl (L_no rfl rfl rfl rfl rfl (L_no rfl rfl rfl rfl rfl (L_no rfl rfl rfl rfl rfl ?_))))))))))))
     refine L_run (R_pickF rfl rfl rfl) rfl ?_
     refine Lmv rfl rfl (L_no rfl rfl rfl rfl rfl (L_no rfl rfl rfl rfl rfl (L_no rfl rfl rfl rfl rfl (L_no rfl rfl rfl rfl rfl (L_no rfl rfl rfl rfl rfl (L_run (R_pickF rfl rfl rfl) rfl (Las rfl rfl (L_nil (N_then (C_ret ?_))))))))))
     refine ret1 Tryd.results45 rfl ?_
     first
       | (exfalso; omega)
       | (exact ⟨hB, by first | (rw [bF' (by unfold ROk; omega)]) | (rw [bT' (by unfold ROk; omega)]) | exact bD (by unfold ROk; omega)⟩)
   ·refine L_no rfl rfl rfl (decide_eq_false h3) rfl (L_no rfl rfl rfl (decide_eq_false h3) rfl (L_no rfl rfl rfl (decide_eq_false h3) rfl (L_run (R_pickF rfl (decide_eq_false h3) rfl) rfl (Lmv rfl rfl (L_no rfl rfl rfl rfl rfl (L_no rfl rfl rfl rfl rfl (L_no rfl rfl rfl rfl rfl (L_run (R_pickF rfl rfl rfl) rfl (Lmv rfl rfl (L_no rfl rfl rfl rfl rfl (L_no rfl rfl rfl rfl rfl (L_no rfl rfl rfl rfl rfl ?_))))))))))))
    refine L_run (R_pickF rfl rfl rfl) rfl ?_
    refine Lmv rfl rfl (L_no rfl rfl rfl rfl rfl (L_no rfl rfl rfl rfl rfl (L_no rfl rfl rfl rfl rfl (L_run (R_pickF rfl rfl rfl) rfl (Lmv rfl rfl (L_no rfl rfl rfl rfl rfl (L_no rfl rfl rfl rfl rfl (L_no rfl rfl rfl rfl rfl (L_no rfl rfl rfl rfl rfl (L_no rfl rfl rfl rfl rfl (L_run (R_pickF rfl rfl rfl) rfl (Las rfl rfl (L_nil (N_then (C_ret ?_)))))))))))))))
    refine ret1 Tryd.results45 rfl ?_
    first
      | (exfalso; omega)
      | (exact ⟨hB, by first | (rw [bF' (by unfold ROk; omega)]) | (rw [bT' (by unfold ROk; omega)]) | exact bD (by unfold ROk; omega)⟩)
  ·refine L_no rfl rfl rfl (decide_eq_false h2) rfl (L_no rfl rfl rfl (decide_eq_false h2) rfl (L_no rfl rfl rfl (decide_eq_false h2) rfl (L_run (R_pickF rfl (decide_eq_false h2) rfl) rfl (Lmv rfl rfl (L_no rfl rfl rfl rfl rfl (L_no rfl rfl rfl rfl rfl (L_no rfl rfl rfl rfl rfl (L_run (R_pickF rfl rfl rfl) rfl (Lmv rfl rfl (L_no rfl rfl rfl rfl rfl (L_no rfl rfl rfl rfl rfl (L_no rfl rfl rfl rfl rfl ?_))))))))))))
   refine L_run (R_pickF rfl rfl rfl) rfl ?_
   refine Lmv rfl rfl (L_no rfl rfl rfl rfl rfl (L_no rfl rfl rfl rfl rfl (L_no rfl rfl rfl rfl rfl (L_run (R_pickF rfl rfl rfl) rfl (Lmv rfl rfl (L_no rfl rfl rfl rfl rfl (L_no rfl rfl rfl rfl rfl (L_no rfl rfl rfl rfl rfl (L_run (R_pickF rfl rfl rfl) rfl (Lmv rfl rfl (L_no rfl rfl rfl rfl rfl (L_no rfl rfl rfl rfl rfl (L_no rfl rfl rfl rfl rfl (L_no rfl rfl rfl rfl rfl (L_no rfl rfl rfl rfl rfl ?_)))))))))))))))
   refine L_run (R_pickF rfl rfl rfl) rfl ?_
   refine Las rfl rfl (L_nil (N_then (C_ret ?_)))
   refine ret1 Tryd.results45 rfl ?_
   first
     | (exfalso; omega)
     | (exact ⟨hB, by first | (rw [bF' (by unfold ROk; omega)]) | (rw [bT' (by unfold ROk; omega)]) | exact bD (by unfold ROk; omega)⟩)
 ·refine L_no rfl rfl rfl (decide_eq_false h1) rfl (L_no rfl rfl rfl (decide_eq_false h1) rfl (L_no rfl rfl rfl (decide_eq_false h1) rfl (L_run (R_pickF rfl (decide_eq_false h1) rfl) rfl (Lmv rfl rfl (L_no rfl rfl rfl rfl rfl (L_no rfl rfl rfl rfl rfl (L_no rfl rfl rfl rfl rfl (L_run (R_pickF rfl rfl rfl) rfl (Lmv rfl rfl (L_no rfl rfl rfl rfl rfl (L_no rfl rfl rfl rfl rfl (L_no rfl rfl rfl rfl rfl ?_))))))))))))
  refine L_run (R_pickF rfl rfl rfl) rfl ?_
  refine Lmv rfl rfl (L_no rfl rfl rfl rfl rfl (L_no rfl rfl rfl rfl rfl (L_no rfl rfl rfl rfl rfl (L_run (R_pickF rfl rfl rfl) rfl (Lmv rfl rfl (L_no rfl rfl rfl rfl rfl (L_no rfl rfl rfl rfl rfl (L_no rfl rfl rfl rfl rfl (L_run (R_pickF rfl rfl rfl) rfl (Lmv rfl rfl (L_no rfl rfl rfl rfl rfl (L_no rfl rfl rfl rfl rfl (L_no rfl rfl rfl rfl rfl (L_run (R_pickF rfl rfl rfl) rfl (Lmv rfl rfl ?_)))))))))))))))
  refine L_no rfl rfl rfl rfl rfl (L_no rfl rfl rfl rfl rfl (L_no rfl rfl rfl rfl rfl (L_no rfl rfl rfl rfl rfl (L_no rfl rfl rfl rfl rfl (L_run (R_pickF rfl rfl rfl) rfl (Las rfl rfl (L_nil (N_then (C_ret ?_)))))))))
  refine ret1 Tryd.results45 rfl ?_
  first
    | (exfalso; omega)
    | (exact ⟨hB, by first | (rw [bF' (by unfold ROk; omega)]) | (rw [bT' (by unfold ROk; omega)]) | exact bD (by unfold ROk; omega)⟩)
theorem rnum_y {w : World} {t1 lo hi : Nat} {A : Option Addr} {c : Nat} {bs : List UInt8} (hS : Sli t1 lo hi w A (fl encB bs)) (hb : bs.length ≤ 1000000) (hc : bs.length ≤ c) (hq : (vget bs).2.2 = 0) :
    Runs Tryd.prog 74 #[.slice A bs.length c] w (fun v w' => w.grownBy w' none ∧ ∃ A' c', v = .tuple #[.int .i64 (min ((vget bs).1 : Int) 2147483648), .slice A' (bs.drop (vget bs).2.1).length c', .int .i64 0] ∧ (bs.drop (vget bs).2.1).length ≤ c' ∧ Sli t1 lo hi w' A' (fl encB (bs.drop (vget bs).2.1))) := by
 have hB := gb_refl w none
 have hvb := vget_bound bs
 refine enter Tryd.func74 Tryd.ntmps74 rfl rfl ?_
 refine C_seq (C_reg rfl ?_)
 refine Las rfl rfl (Las rfl rfl (Las rfl rfl (L_nil (N_then (C_seq (C_reg rfl (Lmv rfl rfl ?_)))))))
 refine L_call rfl cb97 (varint_Get (bs := bs) hS (by first | omega | (simp; done) | (simp; omega))) rfl ?_
 rintro _ w1 ⟨hs1, rfl⟩
 replace hB := gb_tr hB hs1; replace hS := hS.gb hs1
 refine Lmv rfl rfl (L_run (R_extract rfl rfl) rfl (L_run (R_extract rfl rfl) rfl (L_run (R_extract rfl rfl) rfl (Las rfl rfl (Las rfl rfl (Las rfl rfl (L_nil (N_then (C_seq (C_seq (C_reg rfl (Lmv rfl rfl (L_run (R_neq rfl rfl) rfl (L_nil (N_then (C_condF rfl (decide_eq_false (fun hn => hn hq)) (C_skip (N_then (C_seq ?_)))))))))))))))))))
 refine C_join (fun a_ w_ => (∃ (σ_ : Nat → Value) (A_1 : Option Addr), a_ = Ac 23 σ_ [] [(0, .slice A bs.length c), (2, .int .i64 (min ((vget bs).1 : Int) 2147483648)), (3, .slice A_1 ((bs.drop ((vget bs).2.1)).length) (c - ((vget bs).2.1))), (4, .int .i64 0), (5, .int .u64 ((vget bs).1 : Int)), (6, .int .i64 ((vget bs).2.1 : Int)), (7, .int .i64 ((vget bs).2.2)), (15, .bool (decide ((vget bs).2.2 ≠ 0)))] ∧ w.grownBy w_ none ∧ Sli t1 lo hi w_ A (fl encB bs) ∧ Sli t1 lo hi w_ A_1 (fl encB (bs.drop ((vget bs).2.1))))) ?_ ?_
 ·refine C_draw2 rfl mix ?_
  intro w2 hs2 hz1
  replace hB := gb_tr hB hs2; replace hS := hS.gb hs2
  refine ⟨fun W_ => True, [0, 2, 3, 4, 6, 7, 8], ?_⟩
  refine T_tk (i := 0) rfl (Y_of (fun _ _ => R_move rfl)) trivial rfl ?_
  refine T_tk (i := 3) rfl (Y_of (fun _ _ => R_move rfl)) trivial rfl ?_
  refine T_tk (i := 4) rfl (Y_of (fun _ _ => R_move rfl)) trivial rfl ?_
  refine T_all (rs := [1, 5]) (by kernel_rfl) rfl (all2 (O_one rfl ?_) (O_one rfl ?_))
  ·refine L_run (R_min2 rfl rfl) rfl ?_
   refine L_nil (N_then ⟨fun hN_ => trivial, ?_⟩)
   refine T_tk (i := 2) rfl (Y_of (fun _ _ => R_eqv (R_conv rfl any30 int3) (v' := .int .i64 (min ((vget bs).1 : Int) 2147483648)) (congrArg _ (by rw [IntKind.wrap_i64]; omega)))) trivial rfl ?_
   refine T_tk (i := 6) rfl (Y_of (fun _ _ => R_assign rfl)) trivial rfl ?_
   refine T_all (rs := [5]) (by kernel_rfl) rfl (all1 (O_one rfl ?_))
   refine T_slL (xs := bs) (i := ((vget bs).2.1)) EncB rfl rfl (by first | rfl | omega) slc34 hvb.2.1 hc hS rfl ?_
   intro A_1 hS_1
   refine L_nil (N_then ⟨fun hN_ => trivial, ?_⟩)
   refine T_tk (i := 7) rfl (Y_of (fun _ _ => R_assign rfl)) trivial rfl ?_
   refine T_tk (i := 8) rfl (Y_of (fun _ _ => R_assign rfl)) trivial rfl ?_
   refine T_done (by kernel_rfl) (CalmE.normal ?_)
   exact ⟨rfl, ⟨_, A_1, Ac_frg ⟨rfl, rfl, rfl, rfl, rfl, rfl, rfl, rfl, trivial⟩, hB, hS, hS_1⟩⟩
  ·refine T_slL (xs := bs) (i := ((vget bs).2.1)) EncB rfl rfl (by first | rfl | omega) slc34 hvb.2.1 hc hS rfl ?_
   intro A_2 hS_2
   refine L_nil (N_then ⟨fun hN_ => trivial, ?_⟩)
   refine T_all (rs := [1]) (by kernel_rfl) rfl (all1 (O_one rfl ?_))
   refine L_run (R_min2 rfl rfl) rfl ?_
   refine L_nil (N_then ⟨fun hN_ => trivial, ?_⟩)
   refine T_tk (i := 2) rfl (Y_of (fun _ _ => R_eqv (R_conv rfl any30 int3) (v' := .int .i64 (min ((vget bs).1 : Int) 2147483648)) (congrArg _ (by rw [IntKind.wrap_i64]; omega)))) trivial rfl ?_
   refine T_tk (i := 6) rfl (Y_of (fun _ _ => R_assign rfl)) trivial rfl ?_
   refine T_tk (i := 7) rfl (Y_of (fun _ _ => R_assign rfl)) trivial rfl ?_
   refine T_tk (i := 8) rfl (Y_of (fun _ _ => R_assign rfl)) trivial rfl ?_
   refine T_done (by kernel_rfl) (CalmE.normal ?_)
   exact ⟨rfl, ⟨_, A_2, Ac_frg ⟨rfl, rfl, rfl, rfl, rfl, rfl, rfl, rfl, trivial⟩, hB, hS, hS_2⟩⟩
 ·clear hB
  clear hS
  rintro a_ w3 ⟨σ_, A_1, rfl, hB, hS, hj1⟩
  refine N_then (C_ret ?_)
  refine ret3 Tryd.results74 rfl rfl rfl ?_
  exact ⟨hB, _, _, rfl, by rw [List.length_drop]; omega, hj1⟩
theorem rnum_n {w : World} {t1 lo hi : Nat} {A : Option Addr} {c : Nat} {bs : List UInt8} (hS : Sli t1 lo hi w A (fl encB bs)) (hb : bs.length ≤ 1000000) (hc : bs.length ≤ c) (hq : ¬ (vget bs).2.2 = 0) :
    Runs Tryd.prog 74 #[.slice A bs.length c] w (fun v w' => w.grownBy w' none ∧ v = .tuple #[.int .i64 0, .slice none 0 0, .int .i64 (vget bs).2.2]) := by
 have hB := gb_refl w none
 have hvb := vget_bound bs
 refine enter Tryd.func74 Tryd.ntmps74 rfl rfl ?_
 refine C_seq (C_reg rfl ?_)
 refine Las rfl rfl (Las rfl rfl (Las rfl rfl (L_nil (N_then (C_seq (C_reg rfl (Lmv rfl rfl ?_)))))))
 refine L_call rfl cb97 (varint_Get (bs := bs) hS (by first | omega | (simp; done) | (simp; omega))) rfl ?_
 rintro _ w1 ⟨hs1, rfl⟩
 replace hB := gb_tr hB hs1
 refine Lmv rfl rfl (L_run (R_extract rfl rfl) rfl (L_run (R_extract rfl rfl) rfl (L_run (R_extract rfl rfl) rfl (Las rfl rfl (Las rfl rfl (Las rfl rfl (L_nil (N_then (C_seq (C_seq (C_reg rfl (Lmv rfl rfl (L_run (R_neq rfl rfl) rfl (L_nil (N_then (C_condT rfl (decide_eq_true hq) (C_seq (C_reg rfl (Lmv rfl rfl (Las rfl rfl (Las rfl rfl (Las rfl rfl (L_nil (N_then (C_ret (R_then ?_))))))))))))))))))))))))))
 refine ret3 Tryd.results74 rfl rfl rfl ?_
 exact ⟨hB, rfl⟩
end Go.Proofs.YtkjgjejkfjhcjaaDoor
namespace Go.Proofs.YtkjgjejkfjhcjaaDoor
open Go.RowKit Gw Pl
set_option linter.unusedVariables false
set_option linter.unusedSimpArgs false
theorem cb44 : callB Tryd.prog 44 = true := by kernel_rfl
theorem cb45 : callB Tryd.prog 45 = true := by kernel_rfl
theorem cb74 : callB Tryd.prog 74 = true := by kernel_rfl
theorem cb75 : callB Tryd.prog 75 = true := by kernel_rfl
theorem sz36 : szB Tryd.prog 36 5 = true := by kernel_rfl
theorem zer36 : (Tryd.prog.info? 36).bind (·.zero) = some (.agg #[.int .i64 0, .int .i64 0, .int .i64 0, .int .i64 0, .slice none 0 0]) := by kernel_rfl
theorem dd2 {xs : List UInt8} : (xs.drop 2).drop (vget (xs.drop 2)).2.1 = xs.drop (2 + (rV1 xs).2.1) := by rw [List.drop_drop]; rfl
theorem dv2 {xs : List UInt8} : vget ((xs.drop 2).drop (vget (xs.drop 2)).2.1) = rV2 xs := by rw [dd2]; rfl
theorem dd3 {xs : List UInt8} : ((xs.drop 2).drop (vget (xs.drop 2)).2.1).drop (vget ((xs.drop 2).drop (vget (xs.drop 2)).2.1)).2.1 = rDt xs := by rw [dd2, List.drop_drop]; rfl
theorem rkd_eq {xs : List UInt8} (h : 0 < xs.length) : rKd xs = (xs[0].toNat : Int) := by unfold rKd; rw [rb_get h]
theorem rch_eq {xs : List UInt8} (h : 1 < xs.length) : rCh xs = (xs[1].toNat : Int) := by unfold rCh; rw [rb_get h]
theorem rdec_ok {w : World} {t1 lo hi : Nat} {A : Option Addr} {c : Nat} {xs : List UInt8} (hS : Sli t1 lo hi w A (fl encB xs)) (hb : xs.length ≤ 1000000) (hc : xs.length ≤ c) :
    Runs Tryd.prog 52 #[.slice A xs.length c] w (fun v w' => w.grownBy w' none ∧ ((rerr xs = 0 ∧ ∃ A' c', v = .tuple #[.agg #[.int .i64 (rKd xs), .int .i64 (rCh xs), .int .i64 (rLs xs), .int .i64 (rPv xs), .slice A' (rDt xs).length c'], .int .i64 0] ∧ World.ownsRow w' w.heap.size 5 1 (.slice A' (rDt xs).length c') (rDt xs).length (fl encB (rDt xs))) ∨ (rerr xs ≠ 0 ∧ v = .tuple #[.agg #[.int .i64 0, .int .i64 0, .int .i64 0, .int .i64 0, .slice none 0 0], .int .i64 (rerr xs)]))) := by
 have hB := gb_refl w none
 replace hS := hS.top
 refine enter Tryd.func52 Tryd.ntmps52 rfl rfl ?_
 refine C_seq (C_reg rfl ?_)
 refine L_alloc (cs := [.int .i64 0, .int .i64 0, .int .i64 0, .int .i64 0, .slice none 0 0]) zer36 rfl rfl ?_
 intro g1 w1 eg1 hb1 hs1 hz1
 have ge1 : w.heap.size ≤ g1 := eg_ge hB eg1
 replace hB := gb_tr hB hs1; replace hS := hS.gb hs1
 refine Las rfl rfl (L_nil (N_then (C_seq (C_block (C_seq (C_reg rfl (Lmv rfl rfl (L_run (R_lenSl rfl slc34) rfl (L_run (R_gtr rfl rfl) rfl (Las rfl rfl (L_nil (N_then (C_if rfl (fun h1 => ?_) (fun h1 => ?_))))))))))))))
 ·refine C_seq (C_reg rfl ?_)
  refine L_run (R_build (pv := []) (cs := [.int .i64 0, .int .i64 0, .int .i64 0, .int .i64 0, .slice none 0 0]) rfl (by kernel_rfl)) rfl ?_
  refine L_stA (vs := [.int .i64 0, .int .i64 0, .int .i64 0, .int .i64 0, .slice none 0 0]) rfl rfl rfl sz36 rfl hb1 rfl ?_
  intro w2 hb2 hs2 hz2
  replace hB := gb_trg hB hs2 ge1
  refine Las rfl rfl (L_nil (N_then (C_ret (R_in (R_then ?_)))))
  refine retC1 (vs := [.int .i64 0, .int .i64 0, .int .i64 0, .int .i64 0, .slice none 0 0]) Tryd.results52 rfl agg36 (At.pre (hb2.at_ 0) rfl) rfl rfl ?_
  have hf_ : rerr xs = 5 := re_long (by omega)
  exact ⟨hB, .inr ⟨by rw [hf_]; decide, by rw [hf_]⟩⟩
 ·refine C_seq (C_reg rfl ?_)
  refine Lmv rfl rfl (L_run (R_lenSl rfl slc34) rfl (L_run (R_lss rfl rfl) rfl (Las rfl rfl (L_nil (N_then (C_if rfl (fun h2 => ?_) (fun h2 => ?_)))))))
  ·refine C_seq (C_reg rfl ?_)
   refine L_run (R_build (pv := []) (cs := [.int .i64 0, .int .i64 0, .int .i64 0, .int .i64 0, .slice none 0 0]) rfl (by kernel_rfl)) rfl ?_
   refine L_stA (vs := [.int .i64 0, .int .i64 0, .int .i64 0, .int .i64 0, .slice none 0 0]) rfl rfl rfl sz36 rfl hb1 rfl ?_
   intro w3 hb3 hs3 hz3
   replace hB := gb_trg hB hs3 ge1
   refine Las rfl rfl (L_nil (N_then (C_ret (R_in (R_then ?_)))))
   refine retC1 (vs := [.int .i64 0, .int .i64 0, .int .i64 0, .int .i64 0, .slice none 0 0]) Tryd.results52 rfl agg36 (At.pre (hb3.at_ 0) rfl) rfl rfl ?_
   have hf_ : rerr xs = 1 := re_short (by omega)
   exact ⟨hB, .inr ⟨by rw [hf_]; decide, by rw [hf_]⟩⟩
  ·refine C_skip (N_in (N_then (C_seq ?_)))
   refine C_draw2 rfl mix ?_
   intro w4 hs4 hz4
   replace hB := gb_tr hB hs4; replace hS := hS.gb hs4; replace hb1 := hb1.gb hs4
   have hl1 : 0 < xs.length := by first | omega | (simp; omega)
   obtain ⟨g2, o1, r1, eA1, er1, ha1⟩ := Sli.place' (xs := xs) (i := 0) EncB hS hl1 rfl
   have hl2 : 1 < xs.length := by first | omega | (simp; omega)
   obtain ⟨g3, o2, r2, eA2, er2, ha2⟩ := Sli.place' (xs := xs) (i := 1) EncB hS hl2 rfl
   refine ⟨fun W_ => At W_ g2 r1 [.int .u8 ((xs[0]).toNat : Int)] ∧ At W_ g3 r2 [.int .u8 ((xs[1]).toNat : Int)] ∧ True, [0, 1, 2, 3, 4, 5, 6, 7, 8], ?_⟩
   refine T_tk (i := 0) rfl (Y_of (fun _ _ => R_move rfl)) ⟨ha1, ha2, trivial⟩ rfl ?_
   refine T_tk (i := 1) rfl (Y_of (fun _ _ => R_indexE rfl rfl (by first | rfl | omega) slc34 hl1 eA1 er1)) ⟨ha1, ha2, trivial⟩ rfl ?_
   refine T_tk (i := 2) rfl (Y_of (fun _ ⟨ha1, ha2, _⟩ => R_load1 rfl scl5 (ha1 0 _ rfl))) ⟨ha1, ha2, trivial⟩ rfl ?_
   refine T_tk (i := 3) rfl (Y_of (fun _ _ => R_eqv (R_conv rfl any5 int3) (v' := .int .i64 (xs[0].toNat : Int)) (congrArg _ (i64_fit (by have := xs[0].toNat_lt; omega))))) ⟨ha1, ha2, trivial⟩ rfl ?_
   refine T_tk (i := 4) rfl (Y_of (fun _ _ => R_move rfl)) ⟨ha1, ha2, trivial⟩ rfl ?_
   refine T_tk (i := 5) rfl (Y_of (fun _ _ => R_indexE rfl rfl (by first | rfl | omega) slc34 hl2 eA2 er2)) ⟨ha1, ha2, trivial⟩ rfl ?_
   refine T_tk (i := 6) rfl (Y_of (fun _ ⟨ha1, ha2, _⟩ => R_load1 rfl scl5 (ha2 0 _ rfl))) ⟨ha1, ha2, trivial⟩ rfl ?_
   refine T_tk (i := 7) rfl (Y_of (fun _ _ => R_eqv (R_conv rfl any5 int3) (v' := .int .i64 (xs[1].toNat : Int)) (congrArg _ (i64_fit (by have := xs[1].toNat_lt; omega))))) ⟨ha1, ha2, trivial⟩ rfl ?_
   refine T_tk (i := 8) rfl (Y_of (fun _ _ => R_build (pv := [(0, .int .i64 (xs[0].toNat : Int)), (1, .int .i64 (xs[1].toNat : Int))]) (cs := [.int .i64 (xs[0].toNat : Int), .int .i64 (xs[1].toNat : Int), .int .i64 0, .int .i64 0, .slice none 0 0]) rfl (by kernel_rfl))) ⟨ha1, ha2, trivial⟩ rfl ?_
   refine T_all (rs := [9]) (by kernel_rfl) rfl (all1 (O_one rfl ?_))
   refine L_alloc (cs := [.int .i64 0, .int .i64 0, .int .i64 0, .int .i64 0, .slice none 0 0]) zer36 rfl rfl ?_
   intro g4 w5 eg2 hb4 hs5 hz5
   have ge2 : w.heap.size ≤ g4 := eg_ge hB eg2
   have lt1 : g1 < g4 := lt_of_eg hb1.lt eg2
   replace hB := gb_tr hB hs5; replace hS := hS.gb hs5; replace hb1 := hb1.gb hs5; replace ha1 := At.gb ha1 hs5 (by simp); replace ha2 := At.gb ha2 hs5 (by simp)
   refine L_nil (N_then ⟨fun hN_ => ⟨ha1, ha2, trivial⟩, ?_⟩)
   refine T_switch (S' := fun _ => True) (qs' := []) (by kernel_rfl) ?_
   refine T_all (rs := [10]) (by kernel_rfl) rfl (all1 (O_one rfl ?_))
   refine L_stA (vs := [.int .i64 (xs[0].toNat : Int), .int .i64 (xs[1].toNat : Int), .int .i64 0, .int .i64 0, .slice none 0 0]) rfl rfl rfl sz36 rfl hb4 rfl ?_
   intro w6 hb5 hs6 hz6
   replace hB := gb_trg hB hs6 ge2; replace hS := hS.old hs6 ge2; replace hb1 := hb1.grown hs6 (ne_lt lt1)
   refine L_nil (N_then ⟨fun hN_ => trivial, ?_⟩)
   refine T_done (by kernel_rfl) (CalmE.normal ?_)
   refine N_then (C_seq (C_reg rfl ?_))
   refine Lmv rfl rfl ?_
   refine T_slL (xs := xs) (i := 2) EncB rfl rfl (by first | rfl | omega) slc34 (by omega) hc hS rfl ?_
   intro A_1 hS_1
   by_cases h3 : (vget (xs.drop 2)).2.2 = 0
   ·refine L_call rfl cb74 (rnum_y (bs := xs.drop 2) hS_1 (by simp only [List.length_drop]; omega) (by rw [List.length_drop]; omega) h3) rfl ?_
    rintro _ w7 ⟨hs7, A_2, c_1, rfl, hcc1, hS_2⟩
    replace hB := gb_tr hB hs7; replace hb1 := hb1.gb hs7; replace hb5 := hb5.gb hs7
    refine Lmv rfl rfl (L_run (R_extract rfl rfl) rfl (L_run (R_extract rfl rfl) rfl (L_run (R_extract rfl rfl) rfl (Las rfl rfl (Las rfl rfl (Las rfl rfl (L_nil (N_then (C_seq (C_seq (C_reg rfl (Lmv rfl rfl (L_run (R_eqv (R_neq rfl rfl) (v' := .bool false) rfl) rfl (L_nil (N_then (C_condF rfl rfl (C_skip (N_then (C_seq (C_reg rfl (Lmv rfl rfl ?_)))))))))))))))))))))
    by_cases h4 : (vget ((xs.drop 2).drop (vget (xs.drop 2)).2.1)).2.2 = 0
    ·refine L_call rfl cb74 (rnum_y (bs := (xs.drop 2).drop (vget (xs.drop 2)).2.1) hS_2 (by simp only [List.length_drop]; omega) hcc1 h4) rfl ?_
     rintro _ w8 ⟨hs8, A_3, c_2, rfl, hcc2, hS_3⟩
     replace hB := gb_tr hB hs8; replace hb1 := hb1.gb hs8; replace hb5 := hb5.gb hs8
     refine Lmv rfl rfl (L_run (R_extract rfl rfl) rfl (L_run (R_extract rfl rfl) rfl (L_run (R_extract rfl rfl) rfl (Las rfl rfl (Las rfl rfl (Las rfl rfl (L_nil (N_then (C_seq (C_seq (C_reg rfl (Lmv rfl rfl (L_run (R_eqv (R_neq rfl rfl) (v' := .bool false) rfl) rfl (L_nil (N_then (C_condF rfl rfl (C_skip (N_then (C_seq (C_reg rfl (Lmv rfl rfl (Lmv rfl rfl (Lmv rfl rfl ?_)))))))))))))))))))))))
     refine L_run (R_sub64 rfl rfl (by omega)) rfl ?_
     refine L_run (R_field (r := 2) rfl fld36_2 rfl) rfl ?_
     refine L_st1 rfl rfl rfl sz3 hb5 rfl ?_
     intro w9 hb6 hs9 hz7
     replace hB := gb_trg hB hs9 ge2; replace hb1 := hb1.grown hs9 (ne_lt lt1); replace hS_3 := hS_3.old hs9 ge2
     refine L_run (R_field (r := 3) rfl fld36_3 rfl) rfl ?_
     refine L_st1 rfl rfl rfl sz3 hb6 rfl ?_
     intro w10 hb7 hs10 hz8
     replace hB := gb_trg hB hs10 ge2; replace hb1 := hb1.grown hs10 (ne_lt lt1); replace hS_3 := hS_3.old hs10 ge2
     refine L_nil (N_then (C_seq (C_reg rfl ?_)))
     refine L_buildSlice (pv := []) (cs := []) slc34 zer5 rfl rfl (by kernel_rfl) rfl ?_
     intro g5 w11 eg3 hb8 hs11 hz9
     have ge3 : w.heap.size ≤ g5 := eg_ge hB eg3
     replace hB := gb_tr hB hs11; replace hb1 := hb1.gb hs11; replace hb7 := hb7.gb hs11; replace hS_3 := hS_3.gb hs11
     refine Lmv rfl rfl ?_
     have hlo1 : g5 ≤ w11.heap.size := Nat.le_of_lt hb8.lt
     have ho1 : World.ownsRow w11 g5 5 1 (.slice (some ⟨g5, 0, none⟩) ([] : List UInt8).length 0) ([] : List UInt8).length (fl encB []) := Blk.own (sz := 1) (m := 0) hb8 (by decide) rfl (Nat.le_refl _)
     refine T_append (xs := []) (ys := ((xs.drop 2).drop (vget (xs.drop 2)).2.1).drop (vget ((xs.drop 2).drop (vget (xs.drop 2)).2.1)).2.1) EncB slc34 rfl rfl ho1 hS_3 (by simp only [List.length_drop, List.length_nil]; omega) hlo1 rfl ?_
     intro A_4 c_3 w12 ho2 hs12 hat1
     replace hB := gb_tro hB ho1 hs12 ge3; replace hb1 := blk_own hb1 ho1 rfl hs12; replace hb7 := blk_own hb7 ho1 rfl hs12
     simp only [List.nil_append] at ho2 ⊢
     refine L_run (R_field (r := 4) rfl fld36_4 rfl) rfl ?_
     refine L_st1 rfl rfl rfl sz34 hb7 rfl ?_
     intro w13 hb9 hs13 hz10
     replace hB := gb_trg hB hs13 ge2; replace hb1 := hb1.grown hs13 (ne_lt lt1); replace ho2 := own_other ho2 hb7 rfl hs13
     refine L_nil (N_then (C_seq (C_seq (C_reg rfl (L_run (R_loadA (vs := [.int .i64 (xs[0].toNat : Int), .int .i64 (xs[1].toNat : Int), .int .i64 (min ((vget (xs.drop 2)).1 : Int) 2147483648), .int .i64 ((min ((vget (xs.drop 2)).1 : Int) 2147483648) - (min ((vget ((xs.drop 2).drop (vget (xs.drop 2)).2.1)).1 : Int) 2147483648)), .slice A_4 ((((xs.drop 2).drop (vget (xs.drop 2)).2.1).drop (vget ((xs.drop 2).drop (vget (xs.drop 2)).2.1)).2.1).length) c_3]) rfl agg36 (At.pre (hb9.at_ 0) rfl) rfl) rfl ?_)))))
     refine L_call rfl cb75 (rec_right (kind := (xs[0].toNat : Int)) (chain := (xs[1].toNat : Int)) (lsn := (min ((vget (xs.drop 2)).1 : Int) 2147483648)) (prev := ((min ((vget (xs.drop 2)).1 : Int) 2147483648) - (min ((vget ((xs.drop 2).drop (vget (xs.drop 2)).2.1)).1 : Int) 2147483648)))) rfl ?_
     rintro _ w14 ⟨hs14, rfl⟩
     replace hB := gb_tr hB hs14; replace hb1 := hb1.gb hs14; replace hb9 := hb9.gb hs14; replace ho2 := own_gb ho2 hs14
     refine L_run (R_notD rfl) rfl ?_
     refine L_nil (N_then (C_ifN rfl (fun h5 => ?_) (fun h5 => ?_)))
     ·refine C_seq (C_reg rfl ?_)
      refine L_run (R_build (pv := []) (cs := [.int .i64 0, .int .i64 0, .int .i64 0, .int .i64 0, .slice none 0 0]) rfl (by kernel_rfl)) rfl ?_
      refine L_stA (vs := [.int .i64 0, .int .i64 0, .int .i64 0, .int .i64 0, .slice none 0 0]) rfl rfl rfl sz36 rfl hb1 rfl ?_
      intro w15 hb10 hs15 hz11
      replace hB := gb_trg hB hs15 ge1
      refine Las rfl rfl (L_nil (N_then (C_ret (R_then ?_))))
      refine retC1 (vs := [.int .i64 0, .int .i64 0, .int .i64 0, .int .i64 0, .slice none 0 0]) Tryd.results52 rfl agg36 (At.pre (hb10.at_ 0) rfl) rfl rfl ?_
      have hf_ : rerr xs = 2 := re_bad (by omega) (by omega) h3 (dv2 (xs := xs) ▸ h4) (by have h_ := h5; rw [rok_min] at h_; rw [rkd_eq (by omega), rch_eq (by omega)]; unfold rPv rLs rV2; rw [← dd2]; exact h_)
      exact ⟨hB, .inr ⟨by rw [hf_]; decide, by rw [hf_]⟩⟩
     ·refine C_skip (N_then (C_seq (C_reg rfl ?_)))
      refine L_run (R_loadA (vs := [.int .i64 (xs[0].toNat : Int), .int .i64 (xs[1].toNat : Int), .int .i64 (min ((vget (xs.drop 2)).1 : Int) 2147483648), .int .i64 ((min ((vget (xs.drop 2)).1 : Int) 2147483648) - (min ((vget ((xs.drop 2).drop (vget (xs.drop 2)).2.1)).1 : Int) 2147483648)), .slice A_4 ((((xs.drop 2).drop (vget (xs.drop 2)).2.1).drop (vget ((xs.drop 2).drop (vget (xs.drop 2)).2.1)).2.1).length) c_3]) rfl agg36 (At.pre (hb9.at_ 0) rfl) rfl) rfl ?_
      refine L_stA (vs := [.int .i64 (xs[0].toNat : Int), .int .i64 (xs[1].toNat : Int), .int .i64 (min ((vget (xs.drop 2)).1 : Int) 2147483648), .int .i64 ((min ((vget (xs.drop 2)).1 : Int) 2147483648) - (min ((vget ((xs.drop 2).drop (vget (xs.drop 2)).2.1)).1 : Int) 2147483648)), .slice A_4 ((((xs.drop 2).drop (vget (xs.drop 2)).2.1).drop (vget ((xs.drop 2).drop (vget (xs.drop 2)).2.1)).2.1).length) c_3]) rfl rfl rfl sz36 rfl hb1 rfl ?_
      intro w16 hb11 hs16 hz12
      replace hB := gb_trg hB hs16 ge1; replace ho2 := own_other ho2 hb1 rfl hs16
      refine Las rfl rfl (L_nil (N_then (C_ret ?_)))
      refine retC1 (vs := [.int .i64 (xs[0].toNat : Int), .int .i64 (xs[1].toNat : Int), .int .i64 (min ((vget (xs.drop 2)).1 : Int) 2147483648), .int .i64 ((min ((vget (xs.drop 2)).1 : Int) 2147483648) - (min ((vget ((xs.drop 2).drop (vget (xs.drop 2)).2.1)).1 : Int) 2147483648)), .slice A_4 ((((xs.drop 2).drop (vget (xs.drop 2)).2.1).drop (vget ((xs.drop 2).drop (vget (xs.drop 2)).2.1)).2.1).length) c_3]) Tryd.results52 rfl agg36 (At.pre (hb11.at_ 0) rfl) rfl rfl ?_
      have hf_ : rerr xs = 0 := re_ok (by omega) (by omega) h3 (dv2 (xs := xs) ▸ h4) (by have h_ := h5; rw [rok_min] at h_; rw [rkd_eq (by omega), rch_eq (by omega)]; unfold rPv rLs rV2; rw [← dd2]; exact h_)
      have hm_ := rok_lt (rok_min.1 h5)
      have e1_ : min ((vget (xs.drop 2)).1 : Int) 2147483648 = rLs xs := by unfold rLs rV1; omega
      have e2_ : min ((vget (xs.drop 2)).1 : Int) 2147483648 - min ((vget ((xs.drop 2).drop (vget (xs.drop 2)).2.1)).1 : Int) 2147483648 = rPv xs := by unfold rPv rLs rV2; rw [← dd2]; unfold rV1; omega
      have e3_ := rkd_eq (xs := xs) (by omega)
      have e4_ := rch_eq (xs := xs) (by omega)
      exact ⟨hB, .inl ⟨hf_, _, _, (by rw [e2_, e1_, ← e3_, ← e4_, dd3]), (dd3 ▸ (own_lo ho2 ge3))⟩⟩
    ·refine L_call rfl cb74 (rnum_n (bs := (xs.drop 2).drop (vget (xs.drop 2)).2.1) hS_2 (by simp only [List.length_drop]; omega) hcc1 h4) rfl ?_
     rintro _ w17 ⟨hs17, rfl⟩
     replace hB := gb_tr hB hs17; replace hb1 := hb1.gb hs17
     refine Lmv rfl rfl (L_run (R_extract rfl rfl) rfl (L_run (R_extract rfl rfl) rfl (L_run (R_extract rfl rfl) rfl (Las rfl rfl (Las rfl rfl (Las rfl rfl (L_nil (N_then (C_seq (C_seq (C_reg rfl (Lmv rfl rfl (L_run (R_neq rfl rfl) rfl (L_nil (N_then (C_condT rfl (decide_eq_true h4) (C_seq (C_reg rfl ?_))))))))))))))))))
     refine L_run (R_build (pv := []) (cs := [.int .i64 0, .int .i64 0, .int .i64 0, .int .i64 0, .slice none 0 0]) rfl (by kernel_rfl)) rfl ?_
     refine Lmv rfl rfl ?_
     refine L_stA (vs := [.int .i64 0, .int .i64 0, .int .i64 0, .int .i64 0, .slice none 0 0]) rfl rfl rfl sz36 rfl hb1 rfl ?_
     intro w18 hb12 hs18 hz13
     replace hB := gb_trg hB hs18 ge1
     refine Las rfl rfl (L_nil (N_then (C_ret (R_then ?_))))
     refine retC1 (vs := [.int .i64 0, .int .i64 0, .int .i64 0, .int .i64 0, .slice none 0 0]) Tryd.results52 rfl agg36 (At.pre (hb12.at_ 0) rfl) rfl rfl ?_
     have hf_ : rerr xs = _ := re_2 (by omega) (by omega) h3 (dv2 (xs := xs) ▸ h4)
     exact ⟨hB, .inr ⟨by rw [hf_, ← dv2]; assumption, by rw [hf_, ← dv2]; rfl⟩⟩
   ·refine L_call rfl cb74 (rnum_n (bs := xs.drop 2) hS_1 (by simp only [List.length_drop]; omega) (by rw [List.length_drop]; omega) h3) rfl ?_
    rintro _ w19 ⟨hs19, rfl⟩
    replace hB := gb_tr hB hs19; replace hb1 := hb1.gb hs19
    refine Lmv rfl rfl (L_run (R_extract rfl rfl) rfl (L_run (R_extract rfl rfl) rfl (L_run (R_extract rfl rfl) rfl (Las rfl rfl (Las rfl rfl (Las rfl rfl (L_nil (N_then (C_seq (C_seq (C_reg rfl (Lmv rfl rfl (L_run (R_neq rfl rfl) rfl (L_nil (N_then (C_condT rfl (decide_eq_true h3) (C_seq (C_reg rfl ?_))))))))))))))))))
    refine L_run (R_build (pv := []) (cs := [.int .i64 0, .int .i64 0, .int .i64 0, .int .i64 0, .slice none 0 0]) rfl (by kernel_rfl)) rfl ?_
    refine Lmv rfl rfl ?_
    refine L_stA (vs := [.int .i64 0, .int .i64 0, .int .i64 0, .int .i64 0, .slice none 0 0]) rfl rfl rfl sz36 rfl hb1 rfl ?_
    intro w20 hb13 hs20 hz14
    replace hB := gb_trg hB hs20 ge1
    refine Las rfl rfl (L_nil (N_then (C_ret (R_then ?_))))
    refine retC1 (vs := [.int .i64 0, .int .i64 0, .int .i64 0, .int .i64 0, .slice none 0 0]) Tryd.results52 rfl agg36 (At.pre (hb13.at_ 0) rfl) rfl rfl ?_
    have hf_ : rerr xs = _ := re_1 (by omega) (by omega) h3
    exact ⟨hB, .inr ⟨by rw [hf_]; assumption, by rw [hf_]; rfl⟩⟩
theorem rdec_ok_y {w : World} {t1 lo hi : Nat} {A : Option Addr} {c : Nat} {xs : List UInt8} (hS : Sli t1 lo hi w A (fl encB xs)) (hb : xs.length ≤ 1000000) (hc : xs.length ≤ c) (hq : rerr xs = 0) : Runs Tryd.prog 52 #[.slice A xs.length c] w (fun v w' => w.grownBy w' none ∧ ∃ A' c', v = .tuple #[.agg #[.int .i64 (rKd xs), .int .i64 (rCh xs), .int .i64 (rLs xs), .int .i64 (rPv xs), .slice A' (rDt xs).length c'], .int .i64 0] ∧ World.ownsRow w' w.heap.size 5 1 (.slice A' (rDt xs).length c') (rDt xs).length (fl encB (rDt xs))) := (rdec_ok hS hb hc).mono fun v w' h => ⟨h.1, h.2.elim (fun h2 => h2.2) (fun h2 => absurd hq h2.1)⟩
theorem rdec_ok_n {w : World} {t1 lo hi : Nat} {A : Option Addr} {c : Nat} {xs : List UInt8} (hS : Sli t1 lo hi w A (fl encB xs)) (hb : xs.length ≤ 1000000) (hc : xs.length ≤ c) (hq : ¬ rerr xs = 0) : Runs Tryd.prog 52 #[.slice A xs.length c] w (fun v w' => w.grownBy w' none ∧ v = .tuple #[.agg #[.int .i64 0, .int .i64 0, .int .i64 0, .int .i64 0, .slice none 0 0], .int .i64 (rerr xs)]) := (rdec_ok hS hb hc).mono fun v w' h => ⟨h.1, h.2.elim (fun h2 => absurd h2.1 hq) (fun h2 => h2.2)⟩
theorem rdec11 {w : World} {t1 lo hi : Nat} {A : Option Addr} {c : Nat} {xs : List UInt8} (hS : Sli t1 lo hi w A (fl encB xs)) (hb : xs.length ≤ 1000000) (hc : xs.length ≤ c) :
    Runs Tryd.prog 20 #[.slice A xs.length c] w (fun v w' => w.grownBy w' none ∧ ((rerr xs = 0 ∧ ∃ A' c', v = .tuple #[.agg #[.int .i64 (rKd xs), .int .i64 (rCh xs), .int .i64 (rLs xs), .int .i64 (rPv xs), .slice A' (rDt xs).length c'], .int .i64 0] ∧ World.ownsRow w' w.heap.size 5 1 (.slice A' (rDt xs).length c') (rDt xs).length (fl encB (rDt xs))) ∨ (rerr xs ≠ 0 ∧ v = .tuple #[.agg #[.int .i64 0, .int .i64 0, .int .i64 0, .int .i64 0, .slice none 0 0], .int .i64 (rerr xs)]))) := by
 have hB := gb_refl w none
 have hv1_ := vget_bound (xs.drop 2)
 have hv2_ := vget_bound (xs.drop (2 + (vget (xs.drop 2)).2.1))
 rw [List.length_drop] at hv1_ hv2_
 replace hS := hS.top
 refine enter Tryd.func20 Tryd.ntmps20 rfl rfl ?_
 refine C_seq (C_reg rfl ?_)
 refine L_alloc (cs := [.int .i64 0, .int .i64 0, .int .i64 0, .int .i64 0, .slice none 0 0]) zer36 rfl rfl ?_
 intro g1 w1 eg1 hb1 hs1 hz1
 have ge1 : w.heap.size ≤ g1 := eg_ge hB eg1
 replace hB := gb_tr hB hs1; replace hS := hS.gb hs1
 refine Las rfl rfl (L_nil (N_then (C_seq (C_seq (C_reg rfl (Lmv rfl rfl (L_run (R_lenSl rfl slc34) rfl (L_run (R_gtr rfl rfl) rfl (L_nil (N_then (C_if rfl (fun h1 => ?_) (fun h1 => ?_))))))))))))
 ·refine C_seq (C_reg rfl ?_)
  refine L_run (R_build (pv := []) (cs := [.int .i64 0, .int .i64 0, .int .i64 0, .int .i64 0, .slice none 0 0]) rfl (by kernel_rfl)) rfl ?_
  refine L_stA (vs := [.int .i64 0, .int .i64 0, .int .i64 0, .int .i64 0, .slice none 0 0]) rfl rfl rfl sz36 rfl hb1 rfl ?_
  intro w2 hb2 hs2 hz2
  replace hB := gb_trg hB hs2 ge1
  refine Las rfl rfl (L_nil (N_then (C_ret (R_then ?_))))
  refine retC1 (vs := [.int .i64 0, .int .i64 0, .int .i64 0, .int .i64 0, .slice none 0 0]) Tryd.results20 rfl agg36 (At.pre (hb2.at_ 0) rfl) rfl rfl ?_
  have hf_ : rerr xs = 5 := re_long (by omega)
  exact ⟨hB, .inr ⟨by rw [hf_]; decide, by rw [hf_]⟩⟩
 ·refine C_skip (N_then (C_seq (C_seq (C_reg rfl ?_))))
  refine Lmv rfl rfl (L_run (R_lenSl rfl slc34) rfl (L_run (R_lss rfl rfl) rfl (L_nil (N_then (C_if rfl (fun h2 => ?_) (fun h2 => ?_))))))
  ·refine C_seq (C_reg rfl ?_)
   refine L_run (R_build (pv := []) (cs := [.int .i64 0, .int .i64 0, .int .i64 0, .int .i64 0, .slice none 0 0]) rfl (by kernel_rfl)) rfl ?_
   refine L_stA (vs := [.int .i64 0, .int .i64 0, .int .i64 0, .int .i64 0, .slice none 0 0]) rfl rfl rfl sz36 rfl hb1 rfl ?_
   intro w3 hb3 hs3 hz3
   replace hB := gb_trg hB hs3 ge1
   refine Las rfl rfl (L_nil (N_then (C_ret (R_then ?_))))
   refine retC1 (vs := [.int .i64 0, .int .i64 0, .int .i64 0, .int .i64 0, .slice none 0 0]) Tryd.results20 rfl agg36 (At.pre (hb3.at_ 0) rfl) rfl rfl ?_
   have hf_ : rerr xs = 1 := re_short (by omega)
   exact ⟨hB, .inr ⟨by rw [hf_]; decide, by rw [hf_]⟩⟩
  ·refine C_skip (N_then (C_seq (C_reg rfl ?_)))
   refine Lmv rfl rfl ?_
   refine T_slL (xs := xs) (i := 2) EncB rfl rfl (by first | rfl | omega) slc34 (by omega) hc hS rfl ?_
   intro A_1 hS_1
   refine L_call rfl cb44 (ref02_Get (bs := (xs.drop 2)) hS_1 (by first | omega | (simp; done) | (simp; omega))) rfl ?_
   rintro _ w4 ⟨hs4, rfl⟩
   replace hB := gb_tr hB hs4; replace hS := hS.gb hs4; replace hb1 := hb1.gb hs4; replace hS_1 := hS_1.gb hs4
   refine Lmv rfl rfl (L_run (R_extract rfl rfl) rfl (L_run (R_extract rfl rfl) rfl (L_run (R_extract rfl rfl) rfl (Las rfl rfl (Las rfl rfl (Las rfl rfl (L_nil (N_then (C_seq (C_seq (C_reg rfl (Lmv rfl rfl (L_run (R_neq rfl rfl) rfl (L_nil (N_then (C_if rfl (fun h3 => ?_) (fun h3 => ?_)))))))))))))))))
   ·refine C_seq (C_reg rfl ?_)
    refine L_run (R_build (pv := []) (cs := [.int .i64 0, .int .i64 0, .int .i64 0, .int .i64 0, .slice none 0 0]) rfl (by kernel_rfl)) rfl ?_
    refine Lmv rfl rfl ?_
    refine L_stA (vs := [.int .i64 0, .int .i64 0, .int .i64 0, .int .i64 0, .slice none 0 0]) rfl rfl rfl sz36 rfl hb1 rfl ?_
    intro w5 hb4 hs5 hz4
    replace hB := gb_trg hB hs5 ge1
    refine Las rfl rfl (L_nil (N_then (C_ret (R_then ?_))))
    refine retC1 (vs := [.int .i64 0, .int .i64 0, .int .i64 0, .int .i64 0, .slice none 0 0]) Tryd.results20 rfl agg36 (At.pre (hb4.at_ 0) rfl) rfl rfl ?_
    have hf_ : rerr xs = _ := re_1 (by omega) (by omega) h3
    exact ⟨hB, .inr ⟨by rw [hf_]; assumption, by rw [hf_]; rfl⟩⟩
   ·refine C_skip (N_then (C_seq (C_reg rfl ?_)))
    refine Lmv rfl rfl (Lmv rfl rfl ?_)
    refine L_run (R_add64 rfl rfl (by omega)) rfl ?_
    refine T_slL (xs := xs) (i := (2 + ((vget (xs.drop 2)).2.1))) EncB rfl rfl (by first | rfl | omega) slc34 (by omega) hc hS rfl ?_
    intro A_2 hS_2
    refine L_call rfl cb44 (ref02_Get (bs := (xs.drop (2 + ((vget (xs.drop 2)).2.1)))) hS_2 (by first | omega | (simp; done) | (simp; omega))) rfl ?_
    rintro _ w6 ⟨hs6, rfl⟩
    replace hB := gb_tr hB hs6; replace hS := hS.gb hs6; replace hb1 := hb1.gb hs6; replace hS_1 := hS_1.gb hs6; replace hS_2 := hS_2.gb hs6
    refine Lmv rfl rfl (L_run (R_extract rfl rfl) rfl (L_run (R_extract rfl rfl) rfl (L_run (R_extract rfl rfl) rfl (Las rfl rfl (Las rfl rfl (Las rfl rfl (L_nil (N_then (C_seq (C_seq (C_reg rfl (Lmv rfl rfl (L_run (R_neq rfl rfl) rfl (L_nil (N_then (C_if rfl (fun h4 => ?_) (fun h4 => ?_)))))))))))))))))
    ·refine C_seq (C_reg rfl ?_)
     refine L_run (R_build (pv := []) (cs := [.int .i64 0, .int .i64 0, .int .i64 0, .int .i64 0, .slice none 0 0]) rfl (by kernel_rfl)) rfl ?_
     refine Lmv rfl rfl ?_
     refine L_stA (vs := [.int .i64 0, .int .i64 0, .int .i64 0, .int .i64 0, .slice none 0 0]) rfl rfl rfl sz36 rfl hb1 rfl ?_
     intro w7 hb5 hs7 hz5
     replace hB := gb_trg hB hs7 ge1
     refine Las rfl rfl (L_nil (N_then (C_ret (R_then ?_))))
     refine retC1 (vs := [.int .i64 0, .int .i64 0, .int .i64 0, .int .i64 0, .slice none 0 0]) Tryd.results20 rfl agg36 (At.pre (hb5.at_ 0) rfl) rfl rfl ?_
     have hf_ : rerr xs = _ := re_2 (by omega) (by omega) (Decidable.not_not.1 h3) h4
     exact ⟨hB, .inr ⟨by rw [hf_]; assumption, by rw [hf_]; rfl⟩⟩
    ·refine C_skip (N_then (C_seq (C_seq (C_reg rfl ?_))))
     refine Lmv rfl rfl (L_run (R_gtr rfl rfl) rfl (Lmv rfl rfl ?_))
     refine L_splitD (p := 2147483647 < ((vget (xs.drop 2)).1 : Int)) (fun h5 => ?_) (fun h5 => ?_)
     ·refine L_no rfl rfl rfl (decide_eq_true h5) rfl (L_no rfl rfl rfl (decide_eq_true h5) rfl (L_no rfl rfl rfl (decide_eq_true h5) rfl (L_run (R_pickT rfl (decide_eq_true h5) rfl) rfl (Lmv rfl rfl (L_no rfl rfl rfl rfl rfl (L_no rfl rfl rfl rfl rfl (L_run (R_pickT rfl rfl rfl) rfl (L_nil (N_then (C_condT rfl rfl (C_seq (C_reg rfl ?_))))))))))))
      refine L_run (R_build (pv := []) (cs := [.int .i64 0, .int .i64 0, .int .i64 0, .int .i64 0, .slice none 0 0]) rfl (by kernel_rfl)) rfl ?_
      refine L_stA (vs := [.int .i64 0, .int .i64 0, .int .i64 0, .int .i64 0, .slice none 0 0]) rfl rfl rfl sz36 rfl hb1 rfl ?_
      intro w8 hb6 hs8 hz6
      replace hB := gb_trg hB hs8 ge1
      refine Las rfl rfl (L_nil (N_then (C_ret (R_then ?_))))
      refine retC1 (vs := [.int .i64 0, .int .i64 0, .int .i64 0, .int .i64 0, .slice none 0 0]) Tryd.results20 rfl agg36 (At.pre (hb6.at_ 0) rfl) rfl rfl ?_
      have hf_ : rerr xs = 2 := re_bad (by omega) (by omega) (Decidable.not_not.1 h3) (Decidable.not_not.1 h4) (fun h_ => by have h9_ := rok_lt h_; have e5_ : (rV1 xs).1 = (vget (xs.drop 2)).1 := rfl; have e6_ : (rV2 xs).1 = (vget (xs.drop (2 + (vget (xs.drop 2)).2.1))).1 := rfl; omega)
      exact ⟨hB, .inr ⟨by rw [hf_]; decide, by rw [hf_]⟩⟩
     ·refine L_yes rfl rfl rfl (decide_eq_false h5) (Lmv rfl rfl (L_yes rfl rfl rfl (decide_eq_false h5) (Lmv rfl rfl (L_yes rfl rfl rfl (decide_eq_false h5) (L_run (R_gtr rfl rfl) rfl (L_run (R_pickF rfl (decide_eq_false h5) rfl) rfl (Lmv rfl rfl ?_)))))))
      refine L_splitD (p := ((vget (xs.drop 2)).1 : Int) < ((vget (xs.drop (2 + ((vget (xs.drop 2)).2.1)))).1 : Int)) (fun h6 => ?_) (fun h6 => ?_)
      ·refine L_no rfl rfl rfl (decide_eq_true h6) rfl (L_no rfl rfl rfl (decide_eq_true h6) rfl (L_run (R_pickT rfl (decide_eq_true h6) rfl) rfl (L_nil (N_then (C_condT rfl rfl (C_seq (C_reg rfl ?_)))))))
       refine L_run (R_build (pv := []) (cs := [.int .i64 0, .int .i64 0, .int .i64 0, .int .i64 0, .slice none 0 0]) rfl (by kernel_rfl)) rfl ?_
       refine L_stA (vs := [.int .i64 0, .int .i64 0, .int .i64 0, .int .i64 0, .slice none 0 0]) rfl rfl rfl sz36 rfl hb1 rfl ?_
       intro w9 hb7 hs9 hz7
       replace hB := gb_trg hB hs9 ge1
       refine Las rfl rfl (L_nil (N_then (C_ret (R_then ?_))))
       refine retC1 (vs := [.int .i64 0, .int .i64 0, .int .i64 0, .int .i64 0, .slice none 0 0]) Tryd.results20 rfl agg36 (At.pre (hb7.at_ 0) rfl) rfl rfl ?_
       have hf_ : rerr xs = 2 := re_bad (by omega) (by omega) (Decidable.not_not.1 h3) (Decidable.not_not.1 h4) (fun h_ => by have h9_ := rok_lt h_; have e5_ : (rV1 xs).1 = (vget (xs.drop 2)).1 := rfl; have e6_ : (rV2 xs).1 = (vget (xs.drop (2 + (vget (xs.drop 2)).2.1))).1 := rfl; omega)
       exact ⟨hB, .inr ⟨by rw [hf_]; decide, by rw [hf_]⟩⟩
      ·refine L_yes rfl rfl rfl (decide_eq_false h6) (Lmv rfl rfl (L_yes rfl rfl rfl (decide_eq_false h6) (L_run (R_eql rfl rfl) rfl (L_run (R_pickF rfl (decide_eq_false h6) rfl) rfl (L_nil (N_then (C_if rfl (fun h7 => ?_) (fun h7 => ?_))))))))
       ·refine C_seq (C_reg rfl ?_)
        refine L_run (R_build (pv := []) (cs := [.int .i64 0, .int .i64 0, .int .i64 0, .int .i64 0, .slice none 0 0]) rfl (by kernel_rfl)) rfl ?_
        refine L_stA (vs := [.int .i64 0, .int .i64 0, .int .i64 0, .int .i64 0, .slice none 0 0]) rfl rfl rfl sz36 rfl hb1 rfl ?_
        intro w10 hb8 hs10 hz8
        replace hB := gb_trg hB hs10 ge1
        refine Las rfl rfl (L_nil (N_then (C_ret (R_then ?_))))
        refine retC1 (vs := [.int .i64 0, .int .i64 0, .int .i64 0, .int .i64 0, .slice none 0 0]) Tryd.results20 rfl agg36 (At.pre (hb8.at_ 0) rfl) rfl rfl ?_
        have hf_ : rerr xs = 2 := re_bad (by omega) (by omega) (Decidable.not_not.1 h3) (Decidable.not_not.1 h4) (fun h_ => by have h9_ := rok_lt h_; have e5_ : (rV1 xs).1 = (vget (xs.drop 2)).1 := rfl; have e6_ : (rV2 xs).1 = (vget (xs.drop (2 + (vget (xs.drop 2)).2.1))).1 := rfl; omega)
        exact ⟨hB, .inr ⟨by rw [hf_]; decide, by rw [hf_]⟩⟩
       ·refine C_skip (N_then (C_seq ?_))
        refine C_join (fun a_ w_ => (∃ (σ_ : Nat → Value) (g5 : Nat) (A_4 : Option Addr) (c_1 : Nat), a_ = Ac 82 σ_ [] [(0, .slice A xs.length c), (2, .pointer (some ⟨g1, 0, none⟩)), (3, .int .i64 0), (4, .int .u64 ((vget (xs.drop 2)).1 : Int)), (5, .int .i64 ((vget (xs.drop 2)).2.1 : Int)), (6, .int .i64 ((vget (xs.drop (2 + ((vget (xs.drop 2)).2.1)))).2.2)), (7, .int .u64 ((vget (xs.drop (2 + ((vget (xs.drop 2)).2.1)))).1 : Int)), (8, .int .i64 ((vget (xs.drop (2 + ((vget (xs.drop 2)).2.1)))).2.1 : Int)), (9, .pointer (some ⟨g5, 0, none⟩)), (12, .bool (decide (512 < (xs.length : Int)))), (16, .bool (decide ((xs.length : Int) < 2))), (26, .bool (decide ((vget (xs.drop 2)).2.2 ≠ 0))), (39, .bool (decide ((vget (xs.drop (2 + ((vget (xs.drop 2)).2.1)))).2.2 ≠ 0))), (52, .bool (decide (((vget (xs.drop (2 + ((vget (xs.drop 2)).2.1)))).1 : Int) = 0)))] ∧ w.grownBy w_ none ∧ Sli t1 lo w.heap.size w_ A (fl encB xs) ∧ Blk w_ g1 36 [.int .i64 0, .int .i64 0, .int .i64 0, .int .i64 0, .slice none 0 0] ∧ Sli t1 lo w.heap.size w_ A_1 (fl encB (xs.drop 2)) ∧ Sli t1 lo w.heap.size w_ A_2 (fl encB (xs.drop (2 + ((vget (xs.drop 2)).2.1)))) ∧ World.ownsRow w_ w.heap.size 5 1 (.slice A_4 (xs.drop ((2 + ((vget (xs.drop 2)).2.1)) + ((vget (xs.drop (2 + ((vget (xs.drop 2)).2.1)))).2.1))).length c_1) (xs.drop ((2 + ((vget (xs.drop 2)).2.1)) + ((vget (xs.drop (2 + ((vget (xs.drop 2)).2.1)))).2.1))).length (fl encB (xs.drop ((2 + ((vget (xs.drop 2)).2.1)) + ((vget (xs.drop (2 + ((vget (xs.drop 2)).2.1)))).2.1)))) ∧ Blk w_ g5 36 [.int .i64 (xs[0].toNat : Int), .int .i64 (xs[1].toNat : Int), .int .i64 (rLs xs), .int .i64 (rPv xs), .slice A_4 ((xs.drop ((2 + ((vget (xs.drop 2)).2.1)) + ((vget (xs.drop (2 + ((vget (xs.drop 2)).2.1)))).2.1))).length) c_1] ∧ w.heap.size ≤ g5 ∧ g1 < g5)) ?_ ?_
        ·refine C_draw2 rfl mix ?_
         intro w11 hs11 hz9
         replace hB := gb_tr hB hs11; replace hS := hS.gb hs11; replace hb1 := hb1.gb hs11; replace hS_1 := hS_1.gb hs11; replace hS_2 := hS_2.gb hs11
         have hl1 : 0 < xs.length := by first | omega | (simp; omega)
         obtain ⟨g2, o1, r1, eA1, er1, ha1⟩ := Sli.place' (xs := xs) (i := 0) EncB hS hl1 rfl
         have lp1 : g2 < w.heap.size := place_lt (vs := fl encB xs) hS eA1 (by rw [fl_len EncB]; omega)
         have hl2 : 1 < xs.length := by first | omega | (simp; omega)
         obtain ⟨g3, o2, r2, eA2, er2, ha2⟩ := Sli.place' (xs := xs) (i := 1) EncB hS hl2 rfl
         have lp2 : g3 < w.heap.size := place_lt (vs := fl encB xs) hS eA2 (by rw [fl_len EncB]; omega)
         refine ⟨fun W_ => At W_ g2 r1 [.int .u8 ((xs[0]).toNat : Int)] ∧ At W_ g3 r2 [.int .u8 ((xs[1]).toNat : Int)] ∧ True, [0, 1, 2, 3, 4, 5, 6, 7, 8, 9, 10, 11, 12, 13, 15, 16, 17, 18, 19, 22], ?_⟩
         refine T_tk (i := 0) rfl (Y_of (fun _ _ => R_move rfl)) ⟨ha1, ha2, trivial⟩ rfl ?_
         refine T_tk (i := 1) rfl (Y_of (fun _ _ => R_indexE rfl rfl (by first | rfl | omega) slc34 hl1 eA1 er1)) ⟨ha1, ha2, trivial⟩ rfl ?_
         refine T_tk (i := 2) rfl (Y_of (fun _ ⟨ha1, ha2, _⟩ => R_load1 rfl scl5 (ha1 0 _ rfl))) ⟨ha1, ha2, trivial⟩ rfl ?_
         refine T_tk (i := 3) rfl (Y_of (fun _ _ => R_eqv (R_conv rfl any5 int3) (v' := .int .i64 (xs[0].toNat : Int)) (congrArg _ (i64_fit (by have := xs[0].toNat_lt; omega))))) ⟨ha1, ha2, trivial⟩ rfl ?_
         refine T_tk (i := 4) rfl (Y_of (fun _ _ => R_move rfl)) ⟨ha1, ha2, trivial⟩ rfl ?_
         refine T_tk (i := 5) rfl (Y_of (fun _ _ => R_indexE rfl rfl (by first | rfl | omega) slc34 hl2 eA2 er2)) ⟨ha1, ha2, trivial⟩ rfl ?_
         refine T_tk (i := 6) rfl (Y_of (fun _ ⟨ha1, ha2, _⟩ => R_load1 rfl scl5 (ha2 0 _ rfl))) ⟨ha1, ha2, trivial⟩ rfl ?_
         refine T_tk (i := 7) rfl (Y_of (fun _ _ => R_eqv (R_conv rfl any5 int3) (v' := .int .i64 (xs[1].toNat : Int)) (congrArg _ (i64_fit (by have := xs[1].toNat_lt; omega))))) ⟨ha1, ha2, trivial⟩ rfl ?_
         refine T_tk (i := 8) rfl (Y_of (fun _ _ => R_move rfl)) ⟨ha1, ha2, trivial⟩ rfl ?_
         refine T_tk (i := 9) rfl (Y_of (fun _ _ => R_eqv (R_conv rfl any30 int3) (v' := .int .i64 (rLs xs)) (congrArg _ (by rw [IntKind.wrap_i64]; show _ = (((vget (xs.drop 2)).1 : Nat) : Int); omega)))) ⟨ha1, ha2, trivial⟩ rfl ?_
         refine T_tk (i := 10) rfl (Y_of (fun _ _ => R_move rfl)) ⟨ha1, ha2, trivial⟩ rfl ?_
         refine T_tk (i := 11) rfl (Y_of (fun _ _ => R_move rfl)) ⟨ha1, ha2, trivial⟩ rfl ?_
         refine T_tk (i := 12) rfl (Y_of (fun _ _ => R_eqv (R_sub rfl rfl) (v' := .int .u64 (((vget (xs.drop 2)).1 - (vget (xs.drop (2 + (vget (xs.drop 2)).2.1))).1 : Nat) : Int)) (congrArg _ (by rw [IntKind.wrap_u64]; have h_ := (vget_bound (xs.drop 2)).1; omega)))) ⟨ha1, ha2, trivial⟩ rfl ?_
         refine T_tk (i := 13) rfl (Y_of (fun _ _ => R_eqv (R_conv rfl any30 int3) (v' := .int .i64 (rPv xs)) (congrArg _ (by rw [IntKind.wrap_i64]; show _ = (((vget (xs.drop 2)).1 : Nat) : Int) - (((vget (xs.drop (2 + (vget (xs.drop 2)).2.1))).1 : Nat) : Int); omega)))) ⟨ha1, ha2, trivial⟩ rfl ?_
         refine T_tk (i := 15) rfl (Y_of (fun _ _ => R_move rfl)) ⟨ha1, ha2, trivial⟩ rfl ?_
         refine T_tk (i := 16) rfl (Y_of (fun _ _ => R_move rfl)) ⟨ha1, ha2, trivial⟩ rfl ?_
         refine T_tk (i := 17) rfl (Y_of (fun _ _ => R_add64 rfl rfl (by omega))) ⟨ha1, ha2, trivial⟩ rfl ?_
         refine T_tk (i := 18) rfl (Y_of (fun _ _ => R_move rfl)) ⟨ha1, ha2, trivial⟩ rfl ?_
         refine T_tk (i := 19) rfl (Y_of (fun _ _ => R_add64 rfl rfl (by omega))) ⟨ha1, ha2, trivial⟩ rfl ?_
         refine T_all (rs := [14, 20, 23]) (by kernel_rfl) rfl (all3 (O_one rfl ?_) (O_one rfl ?_) (O_one rfl ?_))
         ·refine L_buildSlice (pv := []) (cs := []) slc34 zer5 rfl rfl (by kernel_rfl) rfl ?_
          intro g4 w12 eg2 hb9 hs12 hz10
          have ge2 : w.heap.size ≤ g4 := eg_ge hB eg2
          replace hB := gb_tr hB hs12; replace hS := hS.gb hs12; replace hb1 := hb1.gb hs12; replace hS_1 := hS_1.gb hs12; replace hS_2 := hS_2.gb hs12; replace ha1 := At.gb ha1 hs12 (by simp); replace ha2 := At.gb ha2 hs12 (by simp)
          refine L_nil (N_then ⟨fun hN_ => ⟨ha1, ha2, trivial⟩, ?_⟩)
          refine T_all (rs := [20, 23]) (by kernel_rfl) rfl (all2 (O_one rfl ?_) (O_one rfl ?_))
          ·refine T_slL (xs := xs) (i := ((2 + ((vget (xs.drop 2)).2.1)) + ((vget (xs.drop (2 + ((vget (xs.drop 2)).2.1)))).2.1))) EncB rfl rfl (by first | rfl | omega) slc34 (by omega) hc hS rfl ?_
           intro A_3 hS_3
           refine L_nil (N_then ⟨fun hN_ => ⟨ha1, ha2, trivial⟩, ?_⟩)
           refine T_all (rs := [21, 23]) (by kernel_rfl) rfl (all2 (O_one rfl ?_) (O_one rfl ?_))
           ·have hlo1 : g4 ≤ w12.heap.size := Nat.le_of_lt hb9.lt
            have ho1 : World.ownsRow w12 g4 5 1 (.slice (some ⟨g4, 0, none⟩) ([] : List UInt8).length 0) ([] : List UInt8).length (fl encB []) := Blk.own (sz := 1) (m := 0) hb9 (by decide) rfl (Nat.le_refl _)
            refine T_append (xs := []) (ys := xs.drop ((2 + ((vget (xs.drop 2)).2.1)) + ((vget (xs.drop (2 + ((vget (xs.drop 2)).2.1)))).2.1))) EncB slc34 rfl rfl ho1 hS_3 (by simp only [List.length_drop, List.length_nil]; omega) hlo1 rfl ?_
            intro A_4 c_1 w13 ho2 hs13 hat1
            replace hB := gb_tro hB ho1 hs13 ge2; replace hS := hS.grown hs13 (fun k hk => .inr (Nat.le_trans ge2 (World.ownsRow.lt ho1 k hk).1)); replace hb1 := blk_own hb1 ho1 rfl hs13; replace hS_1 := hS_1.grown hs13 (fun k hk => .inr (Nat.le_trans ge2 (World.ownsRow.lt ho1 k hk).1)); replace hS_2 := hS_2.grown hs13 (fun k hk => .inr (Nat.le_trans ge2 (World.ownsRow.lt ho1 k hk).1))
            replace ha1 := At.gb ha1 hs13 (fun e_ => by have h_ := (World.ownsRow.lt ho1 _ e_.symm).1; omega)
            replace ha2 := At.gb ha2 hs13 (fun e_ => by have h_ := (World.ownsRow.lt ho1 _ e_.symm).1; omega)
            simp only [List.nil_append] at ho2 ⊢
            refine L_nil (N_then ⟨fun hN_ => ⟨ha1, ha2, trivial⟩, ?_⟩)
            refine T_tk (i := 22) rfl (Y_of (fun _ _ => R_build (pv := [(0, .int .i64 (xs[0].toNat : Int)), (1, .int .i64 (xs[1].toNat : Int)), (2, .int .i64 (rLs xs)), (3, .int .i64 (rPv xs)), (4, .slice A_4 ((xs.drop ((2 + ((vget (xs.drop 2)).2.1)) + ((vget (xs.drop (2 + ((vget (xs.drop 2)).2.1)))).2.1))).length) c_1)]) (cs := [.int .i64 (xs[0].toNat : Int), .int .i64 (xs[1].toNat : Int), .int .i64 (rLs xs), .int .i64 (rPv xs), .slice A_4 ((xs.drop ((2 + ((vget (xs.drop 2)).2.1)) + ((vget (xs.drop (2 + ((vget (xs.drop 2)).2.1)))).2.1))).length) c_1]) rfl (by kernel_rfl))) ⟨ha1, ha2, trivial⟩ rfl ?_
            refine T_all (rs := [23]) (by kernel_rfl) rfl (all1 (O_one rfl ?_))
            refine L_alloc (cs := [.int .i64 0, .int .i64 0, .int .i64 0, .int .i64 0, .slice none 0 0]) zer36 rfl rfl ?_
            intro g5 w14 eg3 hb10 hs14 hz11
            have ge3 : w.heap.size ≤ g5 := eg_ge hB eg3
            have lt2 : g1 < g5 := lt_of_eg hb1.lt eg3
            replace hB := gb_tr hB hs14; replace hS := hS.gb hs14; replace hb1 := hb1.gb hs14; replace hS_1 := hS_1.gb hs14; replace hS_2 := hS_2.gb hs14; replace ha1 := At.gb ha1 hs14 (by simp); replace ha2 := At.gb ha2 hs14 (by simp); replace ho2 := own_gb ho2 hs14
            refine L_nil (N_then ⟨fun hN_ => ⟨ha1, ha2, trivial⟩, ?_⟩)
            refine T_switch (S' := fun _ => True) (qs' := []) (by kernel_rfl) ?_
            refine T_all (rs := [24]) (by kernel_rfl) rfl (all1 (O_one rfl ?_))
            refine L_stA (vs := [.int .i64 (xs[0].toNat : Int), .int .i64 (xs[1].toNat : Int), .int .i64 (rLs xs), .int .i64 (rPv xs), .slice A_4 ((xs.drop ((2 + ((vget (xs.drop 2)).2.1)) + ((vget (xs.drop (2 + ((vget (xs.drop 2)).2.1)))).2.1))).length) c_1]) rfl rfl rfl sz36 rfl hb10 rfl ?_
            intro w15 hb11 hs15 hz12
            replace hB := gb_trg hB hs15 ge3; replace hS := hS.old hs15 ge3; replace hb1 := hb1.grown hs15 (ne_lt lt2); replace hS_1 := hS_1.old hs15 ge3; replace hS_2 := hS_2.old hs15 ge3; replace ho2 := own_other ho2 hb10 rfl hs15
            refine L_nil (N_then ⟨fun hN_ => trivial, ?_⟩)
            refine T_done (by kernel_rfl) (CalmE.normal ?_)
            exact ⟨rfl, ⟨_, g5, A_4, c_1, Ac_frg ⟨rfl, rfl, rfl, rfl, rfl, rfl, rfl, rfl, rfl, rfl, rfl, rfl, rfl, rfl, trivial⟩, hB, hS, hb1, hS_1, hS_2, (own_lo ho2 ge2), hb11, ge3, lt2⟩⟩
           ·refine L_alloc (cs := [.int .i64 0, .int .i64 0, .int .i64 0, .int .i64 0, .slice none 0 0]) zer36 rfl rfl ?_
            intro g6 w16 eg4 hb12 hs16 hz13
            have ge4 : w.heap.size ≤ g6 := eg_ge hB eg4
            have lt3 : g1 < g6 := lt_of_eg hb1.lt eg4
            replace hB := gb_tr hB hs16; replace hS := hS.gb hs16; replace hb1 := hb1.gb hs16; replace hS_1 := hS_1.gb hs16; replace hS_2 := hS_2.gb hs16; replace ha1 := At.gb ha1 hs16 (by simp); replace ha2 := At.gb ha2 hs16 (by simp); replace hb9 := hb9.gb hs16; replace hS_3 := hS_3.gb hs16
            refine L_nil (N_then ⟨fun hN_ => ⟨ha1, ha2, trivial⟩, ?_⟩)
            refine T_all (rs := [21]) (by kernel_rfl) rfl (all1 (O_one rfl ?_))
            have hlo2 : g4 ≤ w16.heap.size := Nat.le_of_lt hb9.lt
            have ho3 : World.ownsRow w16 g4 5 1 (.slice (some ⟨g4, 0, none⟩) ([] : List UInt8).length 0) ([] : List UInt8).length (fl encB []) := Blk.own (sz := 1) (m := 0) hb9 (by decide) rfl (Nat.le_refl _)
            refine T_append (xs := []) (ys := xs.drop ((2 + ((vget (xs.drop 2)).2.1)) + ((vget (xs.drop (2 + ((vget (xs.drop 2)).2.1)))).2.1))) EncB slc34 rfl rfl ho3 hS_3 (by simp only [List.length_drop, List.length_nil]; omega) hlo2 rfl ?_
            intro A_5 c_2 w17 ho4 hs17 hat2
            replace hB := gb_tro hB ho3 hs17 ge2; replace hS := hS.grown hs17 (fun k hk => .inr (Nat.le_trans ge2 (World.ownsRow.lt ho3 k hk).1)); replace hb1 := blk_own hb1 ho3 rfl hs17; replace hS_1 := hS_1.grown hs17 (fun k hk => .inr (Nat.le_trans ge2 (World.ownsRow.lt ho3 k hk).1)); replace hS_2 := hS_2.grown hs17 (fun k hk => .inr (Nat.le_trans ge2 (World.ownsRow.lt ho3 k hk).1))
            replace ha1 := At.gb ha1 hs17 (fun e_ => by have h_ := (World.ownsRow.lt ho3 _ e_.symm).1; omega)
            replace ha2 := At.gb ha2 hs17 (fun e_ => by have h_ := (World.ownsRow.lt ho3 _ e_.symm).1; omega)
            replace hb12 := blk_own hb12 ho3 rfl hs17
            simp only [List.nil_append] at ho4 ⊢
            refine L_nil (N_then ⟨fun hN_ => ⟨ha1, ha2, trivial⟩, ?_⟩)
            refine T_tk (i := 22) rfl (Y_of (fun _ _ => R_build (pv := [(0, .int .i64 (xs[0].toNat : Int)), (1, .int .i64 (xs[1].toNat : Int)), (2, .int .i64 (rLs xs)), (3, .int .i64 (rPv xs)), (4, .slice A_5 ((xs.drop ((2 + ((vget (xs.drop 2)).2.1)) + ((vget (xs.drop (2 + ((vget (xs.drop 2)).2.1)))).2.1))).length) c_2)]) (cs := [.int .i64 (xs[0].toNat : Int), .int .i64 (xs[1].toNat : Int), .int .i64 (rLs xs), .int .i64 (rPv xs), .slice A_5 ((xs.drop ((2 + ((vget (xs.drop 2)).2.1)) + ((vget (xs.drop (2 + ((vget (xs.drop 2)).2.1)))).2.1))).length) c_2]) rfl (by kernel_rfl))) ⟨ha1, ha2, trivial⟩ rfl ?_
            refine T_switch (S' := fun _ => True) (qs' := []) (by kernel_rfl) ?_
            refine T_all (rs := [24]) (by kernel_rfl) rfl (all1 (O_one rfl ?_))
            refine L_stA (vs := [.int .i64 (xs[0].toNat : Int), .int .i64 (xs[1].toNat : Int), .int .i64 (rLs xs), .int .i64 (rPv xs), .slice A_5 ((xs.drop ((2 + ((vget (xs.drop 2)).2.1)) + ((vget (xs.drop (2 + ((vget (xs.drop 2)).2.1)))).2.1))).length) c_2]) rfl rfl rfl sz36 rfl hb12 rfl ?_
            intro w18 hb13 hs18 hz14
            replace hB := gb_trg hB hs18 ge4; replace hS := hS.old hs18 ge4; replace hb1 := hb1.grown hs18 (ne_lt lt3); replace hS_1 := hS_1.old hs18 ge4; replace hS_2 := hS_2.old hs18 ge4; replace ho4 := own_other ho4 hb12 rfl hs18
            refine L_nil (N_then ⟨fun hN_ => trivial, ?_⟩)
            refine T_done (by kernel_rfl) (CalmE.normal ?_)
            exact ⟨rfl, ⟨_, g6, A_5, c_2, Ac_frg ⟨rfl, rfl, rfl, rfl, rfl, rfl, rfl, rfl, rfl, rfl, rfl, rfl, rfl, rfl, trivial⟩, hB, hS, hb1, hS_1, hS_2, (own_lo ho4 ge2), hb13, ge4, lt3⟩⟩
          ·refine L_alloc (cs := [.int .i64 0, .int .i64 0, .int .i64 0, .int .i64 0, .slice none 0 0]) zer36 rfl rfl ?_
           intro g7 w19 eg5 hb14 hs19 hz15
           have ge5 : w.heap.size ≤ g7 := eg_ge hB eg5
           have lt5 : g1 < g7 := lt_of_eg hb1.lt eg5
           replace hB := gb_tr hB hs19; replace hS := hS.gb hs19; replace hb1 := hb1.gb hs19; replace hS_1 := hS_1.gb hs19; replace hS_2 := hS_2.gb hs19; replace ha1 := At.gb ha1 hs19 (by simp); replace ha2 := At.gb ha2 hs19 (by simp); replace hb9 := hb9.gb hs19
           refine L_nil (N_then ⟨fun hN_ => ⟨ha1, ha2, trivial⟩, ?_⟩)
           refine T_all (rs := [20]) (by kernel_rfl) rfl (all1 (O_one rfl ?_))
           refine T_slL (xs := xs) (i := ((2 + ((vget (xs.drop 2)).2.1)) + ((vget (xs.drop (2 + ((vget (xs.drop 2)).2.1)))).2.1))) EncB rfl rfl (by first | rfl | omega) slc34 (by omega) hc hS rfl ?_
           intro A_6 hS_4
           refine L_nil (N_then ⟨fun hN_ => ⟨ha1, ha2, trivial⟩, ?_⟩)
           refine T_all (rs := [21]) (by kernel_rfl) rfl (all1 (O_one rfl ?_))
           have hlo3 : g4 ≤ w19.heap.size := Nat.le_of_lt hb9.lt
           have ho5 : World.ownsRow w19 g4 5 1 (.slice (some ⟨g4, 0, none⟩) ([] : List UInt8).length 0) ([] : List UInt8).length (fl encB []) := Blk.own (sz := 1) (m := 0) hb9 (by decide) rfl (Nat.le_refl _)
           refine T_append (xs := []) (ys := xs.drop ((2 + ((vget (xs.drop 2)).2.1)) + ((vget (xs.drop (2 + ((vget (xs.drop 2)).2.1)))).2.1))) EncB slc34 rfl rfl ho5 hS_4 (by simp only [List.length_drop, List.length_nil]; omega) hlo3 rfl ?_
           intro A_7 c_3 w20 ho6 hs20 hat3
           replace hB := gb_tro hB ho5 hs20 ge2; replace hS := hS.grown hs20 (fun k hk => .inr (Nat.le_trans ge2 (World.ownsRow.lt ho5 k hk).1)); replace hb1 := blk_own hb1 ho5 rfl hs20; replace hS_1 := hS_1.grown hs20 (fun k hk => .inr (Nat.le_trans ge2 (World.ownsRow.lt ho5 k hk).1)); replace hS_2 := hS_2.grown hs20 (fun k hk => .inr (Nat.le_trans ge2 (World.ownsRow.lt ho5 k hk).1))
           replace ha1 := At.gb ha1 hs20 (fun e_ => by have h_ := (World.ownsRow.lt ho5 _ e_.symm).1; omega)
           replace ha2 := At.gb ha2 hs20 (fun e_ => by have h_ := (World.ownsRow.lt ho5 _ e_.symm).1; omega)
           replace hb14 := blk_own hb14 ho5 rfl hs20
           simp only [List.nil_append] at ho6 ⊢
           refine L_nil (N_then ⟨fun hN_ => ⟨ha1, ha2, trivial⟩, ?_⟩)
           refine T_tk (i := 22) rfl (Y_of (fun _ _ => R_build (pv := [(0, .int .i64 (xs[0].toNat : Int)), (1, .int .i64 (xs[1].toNat : Int)), (2, .int .i64 (rLs xs)), (3, .int .i64 (rPv xs)), (4, .slice A_7 ((xs.drop ((2 + ((vget (xs.drop 2)).2.1)) + ((vget (xs.drop (2 + ((vget (xs.drop 2)).2.1)))).2.1))).length) c_3)]) (cs := [.int .i64 (xs[0].toNat : Int), .int .i64 (xs[1].toNat : Int), .int .i64 (rLs xs), .int .i64 (rPv xs), .slice A_7 ((xs.drop ((2 + ((vget (xs.drop 2)).2.1)) + ((vget (xs.drop (2 + ((vget (xs.drop 2)).2.1)))).2.1))).length) c_3]) rfl (by kernel_rfl))) ⟨ha1, ha2, trivial⟩ rfl ?_
           refine T_switch (S' := fun _ => True) (qs' := []) (by kernel_rfl) ?_
           refine T_all (rs := [24]) (by kernel_rfl) rfl (all1 (O_one rfl ?_))
           refine L_stA (vs := [.int .i64 (xs[0].toNat : Int), .int .i64 (xs[1].toNat : Int), .int .i64 (rLs xs), .int .i64 (rPv xs), .slice A_7 ((xs.drop ((2 + ((vget (xs.drop 2)).2.1)) + ((vget (xs.drop (2 + ((vget (xs.drop 2)).2.1)))).2.1))).length) c_3]) rfl rfl rfl sz36 rfl hb14 rfl ?_
           intro w21 hb15 hs21 hz16
           replace hB := gb_trg hB hs21 ge5; replace hS := hS.old hs21 ge5; replace hb1 := hb1.grown hs21 (ne_lt lt5); replace hS_1 := hS_1.old hs21 ge5; replace hS_2 := hS_2.old hs21 ge5; replace ho6 := own_other ho6 hb14 rfl hs21
           refine L_nil (N_then ⟨fun hN_ => trivial, ?_⟩)
           refine T_done (by kernel_rfl) (CalmE.normal ?_)
           exact ⟨rfl, ⟨_, g7, A_7, c_3, Ac_frg ⟨rfl, rfl, rfl, rfl, rfl, rfl, rfl, rfl, rfl, rfl, rfl, rfl, rfl, rfl, trivial⟩, hB, hS, hb1, hS_1, hS_2, (own_lo ho6 ge2), hb15, ge5, lt5⟩⟩
         ·refine T_slL (xs := xs) (i := ((2 + ((vget (xs.drop 2)).2.1)) + ((vget (xs.drop (2 + ((vget (xs.drop 2)).2.1)))).2.1))) EncB rfl rfl (by first | rfl | omega) slc34 (by omega) hc hS rfl ?_
          intro A_8 hS_5
          refine L_nil (N_then ⟨fun hN_ => ⟨ha1, ha2, trivial⟩, ?_⟩)
          refine T_all (rs := [14, 23]) (by kernel_rfl) rfl (all2 (O_one rfl ?_) (O_one rfl ?_))
          ·refine L_buildSlice (pv := []) (cs := []) slc34 zer5 rfl rfl (by kernel_rfl) rfl ?_
           intro g8 w22 eg6 hb16 hs22 hz17
           have ge6 : w.heap.size ≤ g8 := eg_ge hB eg6
           replace hB := gb_tr hB hs22; replace hS := hS.gb hs22; replace hb1 := hb1.gb hs22; replace hS_1 := hS_1.gb hs22; replace hS_2 := hS_2.gb hs22; replace ha1 := At.gb ha1 hs22 (by simp); replace ha2 := At.gb ha2 hs22 (by simp); replace hS_5 := hS_5.gb hs22
           refine L_nil (N_then ⟨fun hN_ => ⟨ha1, ha2, trivial⟩, ?_⟩)
           refine T_all (rs := [21, 23]) (by kernel_rfl) rfl (all2 (O_one rfl ?_) (O_one rfl ?_))
           ·have hlo4 : g8 ≤ w22.heap.size := Nat.le_of_lt hb16.lt
            have ho7 : World.ownsRow w22 g8 5 1 (.slice (some ⟨g8, 0, none⟩) ([] : List UInt8).length 0) ([] : List UInt8).length (fl encB []) := Blk.own (sz := 1) (m := 0) hb16 (by decide) rfl (Nat.le_refl _)
            refine T_append (xs := []) (ys := xs.drop ((2 + ((vget (xs.drop 2)).2.1)) + ((vget (xs.drop (2 + ((vget (xs.drop 2)).2.1)))).2.1))) EncB slc34 rfl rfl ho7 hS_5 (by simp only [List.length_drop, List.length_nil]; omega) hlo4 rfl ?_
            intro A_9 c_4 w23 ho8 hs23 hat4
            replace hB := gb_tro hB ho7 hs23 ge6; replace hS := hS.grown hs23 (fun k hk => .inr (Nat.le_trans ge6 (World.ownsRow.lt ho7 k hk).1)); replace hb1 := blk_own hb1 ho7 rfl hs23; replace hS_1 := hS_1.grown hs23 (fun k hk => .inr (Nat.le_trans ge6 (World.ownsRow.lt ho7 k hk).1)); replace hS_2 := hS_2.grown hs23 (fun k hk => .inr (Nat.le_trans ge6 (World.ownsRow.lt ho7 k hk).1))
            replace ha1 := At.gb ha1 hs23 (fun e_ => by have h_ := (World.ownsRow.lt ho7 _ e_.symm).1; omega)
            replace ha2 := At.gb ha2 hs23 (fun e_ => by have h_ := (World.ownsRow.lt ho7 _ e_.symm).1; omega)
            simp only [List.nil_append] at ho8 ⊢
            refine L_nil (N_then ⟨fun hN_ => ⟨ha1, ha2, trivial⟩, ?_⟩)
            refine T_tk (i := 22) rfl (Y_of (fun _ _ => R_build (pv := [(0, .int .i64 (xs[0].toNat : Int)), (1, .int .i64 (xs[1].toNat : Int)), (2, .int .i64 (rLs xs)), (3, .int .i64 (rPv xs)), (4, .slice A_9 ((xs.drop ((2 + ((vget (xs.drop 2)).2.1)) + ((vget (xs.drop (2 + ((vget (xs.drop 2)).2.1)))).2.1))).length) c_4)]) (cs := [.int .i64 (xs[0].toNat : Int), .int .i64 (xs[1].toNat : Int), .int .i64 (rLs xs), .int .i64 (rPv xs), .slice A_9 ((xs.drop ((2 + ((vget (xs.drop 2)).2.1)) + ((vget (xs.drop (2 + ((vget (xs.drop 2)).2.1)))).2.1))).length) c_4]) rfl (by kernel_rfl))) ⟨ha1, ha2, trivial⟩ rfl ?_
            refine T_all (rs := [23]) (by kernel_rfl) rfl (all1 (O_one rfl ?_))
            refine L_alloc (cs := [.int .i64 0, .int .i64 0, .int .i64 0, .int .i64 0, .slice none 0 0]) zer36 rfl rfl ?_
            intro g9 w24 eg7 hb17 hs24 hz18
            have ge7 : w.heap.size ≤ g9 := eg_ge hB eg7
            have lt8 : g1 < g9 := lt_of_eg hb1.lt eg7
            replace hB := gb_tr hB hs24; replace hS := hS.gb hs24; replace hb1 := hb1.gb hs24; replace hS_1 := hS_1.gb hs24; replace hS_2 := hS_2.gb hs24; replace ha1 := At.gb ha1 hs24 (by simp); replace ha2 := At.gb ha2 hs24 (by simp); replace ho8 := own_gb ho8 hs24
            refine L_nil (N_then ⟨fun hN_ => ⟨ha1, ha2, trivial⟩, ?_⟩)
            refine T_switch (S' := fun _ => True) (qs' := []) (by kernel_rfl) ?_
            refine T_all (rs := [24]) (by kernel_rfl) rfl (all1 (O_one rfl ?_))
            refine L_stA (vs := [.int .i64 (xs[0].toNat : Int), .int .i64 (xs[1].toNat : Int), .int .i64 (rLs xs), .int .i64 (rPv xs), .slice A_9 ((xs.drop ((2 + ((vget (xs.drop 2)).2.1)) + ((vget (xs.drop (2 + ((vget (xs.drop 2)).2.1)))).2.1))).length) c_4]) rfl rfl rfl sz36 rfl hb17 rfl ?_
            intro w25 hb18 hs25 hz19
            replace hB := gb_trg hB hs25 ge7; replace hS := hS.old hs25 ge7; replace hb1 := hb1.grown hs25 (ne_lt lt8); replace hS_1 := hS_1.old hs25 ge7; replace hS_2 := hS_2.old hs25 ge7; replace ho8 := own_other ho8 hb17 rfl hs25
            refine L_nil (N_then ⟨fun hN_ => trivial, ?_⟩)
            refine T_done (by kernel_rfl) (CalmE.normal ?_)
            exact ⟨rfl, ⟨_, g9, A_9, c_4, Ac_frg ⟨rfl, rfl, rfl, rfl, rfl, rfl, rfl, rfl, rfl, rfl, rfl, rfl, rfl, rfl, trivial⟩, hB, hS, hb1, hS_1, hS_2, (own_lo ho8 ge6), hb18, ge7, lt8⟩⟩
           ·refine L_alloc (cs := [.int .i64 0, .int .i64 0, .int .i64 0, .int .i64 0, .slice none 0 0]) zer36 rfl rfl ?_
            intro g10 w26 eg8 hb19 hs26 hz20
            have ge8 : w.heap.size ≤ g10 := eg_ge hB eg8
            have lt9 : g1 < g10 := lt_of_eg hb1.lt eg8
            replace hB := gb_tr hB hs26; replace hS := hS.gb hs26; replace hb1 := hb1.gb hs26; replace hS_1 := hS_1.gb hs26; replace hS_2 := hS_2.gb hs26; replace ha1 := At.gb ha1 hs26 (by simp); replace ha2 := At.gb ha2 hs26 (by simp); replace hS_5 := hS_5.gb hs26; replace hb16 := hb16.gb hs26
            refine L_nil (N_then ⟨fun hN_ => ⟨ha1, ha2, trivial⟩, ?_⟩)
            refine T_all (rs := [21]) (by kernel_rfl) rfl (all1 (O_one rfl ?_))
            have hlo5 : g8 ≤ w26.heap.size := Nat.le_of_lt hb16.lt
            have ho9 : World.ownsRow w26 g8 5 1 (.slice (some ⟨g8, 0, none⟩) ([] : List UInt8).length 0) ([] : List UInt8).length (fl encB []) := Blk.own (sz := 1) (m := 0) hb16 (by decide) rfl (Nat.le_refl _)
            refine T_append (xs := []) (ys := xs.drop ((2 + ((vget (xs.drop 2)).2.1)) + ((vget (xs.drop (2 + ((vget (xs.drop 2)).2.1)))).2.1))) EncB slc34 rfl rfl ho9 hS_5 (by simp only [List.length_drop, List.length_nil]; omega) hlo5 rfl ?_
            intro A_10 c_5 w27 ho10 hs27 hat5
            replace hB := gb_tro hB ho9 hs27 ge6; replace hS := hS.grown hs27 (fun k hk => .inr (Nat.le_trans ge6 (World.ownsRow.lt ho9 k hk).1)); replace hb1 := blk_own hb1 ho9 rfl hs27; replace hS_1 := hS_1.grown hs27 (fun k hk => .inr (Nat.le_trans ge6 (World.ownsRow.lt ho9 k hk).1)); replace hS_2 := hS_2.grown hs27 (fun k hk => .inr (Nat.le_trans ge6 (World.ownsRow.lt ho9 k hk).1))
            replace ha1 := At.gb ha1 hs27 (fun e_ => by have h_ := (World.ownsRow.lt ho9 _ e_.symm).1; omega)
            replace ha2 := At.gb ha2 hs27 (fun e_ => by have h_ := (World.ownsRow.lt ho9 _ e_.symm).1; omega)
            replace hb19 := blk_own hb19 ho9 rfl hs27
            simp only [List.nil_append] at ho10 ⊢
            refine L_nil (N_then ⟨fun hN_ => ⟨ha1, ha2, trivial⟩, ?_⟩)
            refine T_tk (i := 22) rfl (Y_of (fun _ _ => R_build (pv := [(0, .int .i64 (xs[0].toNat : Int)), (1, .int .i64 (xs[1].toNat : Int)), (2, .int .i64 (rLs xs)), (3, .int .i64 (rPv xs)), (4, .slice A_10 ((xs.drop ((2 + ((vget (xs.drop 2)).2.1)) + ((vget (xs.drop (2 + ((vget (xs.drop 2)).2.1)))).2.1))).length) c_5)]) (cs := [.int .i64 (xs[0].toNat : Int), .int .i64 (xs[1].toNat : Int), .int .i64 (rLs xs), .int .i64 (rPv xs), .slice A_10 ((xs.drop ((2 + ((vget (xs.drop 2)).2.1)) + ((vget (xs.drop (2 + ((vget (xs.drop 2)).2.1)))).2.1))).length) c_5]) rfl (by kernel_rfl))) ⟨ha1, ha2, trivial⟩ rfl ?_
            refine T_switch (S' := fun _ => True) (qs' := []) (by kernel_rfl) ?_
            refine T_all (rs := [24]) (by kernel_rfl) rfl (all1 (O_one rfl ?_))
            refine L_stA (vs := [.int .i64 (xs[0].toNat : Int), .int .i64 (xs[1].toNat : Int), .int .i64 (rLs xs), .int .i64 (rPv xs), .slice A_10 ((xs.drop ((2 + ((vget (xs.drop 2)).2.1)) + ((vget (xs.drop (2 + ((vget (xs.drop 2)).2.1)))).2.1))).length) c_5]) rfl rfl rfl sz36 rfl hb19 rfl ?_
            intro w28 hb20 hs28 hz21
            replace hB := gb_trg hB hs28 ge8; replace hS := hS.old hs28 ge8; replace hb1 := hb1.grown hs28 (ne_lt lt9); replace hS_1 := hS_1.old hs28 ge8; replace hS_2 := hS_2.old hs28 ge8; replace ho10 := own_other ho10 hb19 rfl hs28
            refine L_nil (N_then ⟨fun hN_ => trivial, ?_⟩)
            refine T_done (by kernel_rfl) (CalmE.normal ?_)
            exact ⟨rfl, ⟨_, g10, A_10, c_5, Ac_frg ⟨rfl, rfl, rfl, rfl, rfl, rfl, rfl, rfl, rfl, rfl, rfl, rfl, rfl, rfl, trivial⟩, hB, hS, hb1, hS_1, hS_2, (own_lo ho10 ge6), hb20, ge8, lt9⟩⟩
          ·refine L_alloc (cs := [.int .i64 0, .int .i64 0, .int .i64 0, .int .i64 0, .slice none 0 0]) zer36 rfl rfl ?_
           intro g11 w29 eg9 hb21 hs29 hz22
           have ge9 : w.heap.size ≤ g11 := eg_ge hB eg9
           have lt11 : g1 < g11 := lt_of_eg hb1.lt eg9
           replace hB := gb_tr hB hs29; replace hS := hS.gb hs29; replace hb1 := hb1.gb hs29; replace hS_1 := hS_1.gb hs29; replace hS_2 := hS_2.gb hs29; replace ha1 := At.gb ha1 hs29 (by simp); replace ha2 := At.gb ha2 hs29 (by simp); replace hS_5 := hS_5.gb hs29
           refine L_nil (N_then ⟨fun hN_ => ⟨ha1, ha2, trivial⟩, ?_⟩)
           refine T_all (rs := [14]) (by kernel_rfl) rfl (all1 (O_one rfl ?_))
           refine L_buildSlice (pv := []) (cs := []) slc34 zer5 rfl rfl (by kernel_rfl) rfl ?_
           intro g12 w30 eg10 hb22 hs30 hz23
           have ge10 : w.heap.size ≤ g12 := eg_ge hB eg10
           replace hB := gb_tr hB hs30; replace hS := hS.gb hs30; replace hb1 := hb1.gb hs30; replace hS_1 := hS_1.gb hs30; replace hS_2 := hS_2.gb hs30; replace ha1 := At.gb ha1 hs30 (by simp); replace ha2 := At.gb ha2 hs30 (by simp); replace hS_5 := hS_5.gb hs30; replace hb21 := hb21.gb hs30
           refine L_nil (N_then ⟨fun hN_ => ⟨ha1, ha2, trivial⟩, ?_⟩)
           refine T_all (rs := [21]) (by kernel_rfl) rfl (all1 (O_one rfl ?_))
           have hlo6 : g12 ≤ w30.heap.size := Nat.le_of_lt hb22.lt
           have ho11 : World.ownsRow w30 g12 5 1 (.slice (some ⟨g12, 0, none⟩) ([] : List UInt8).length 0) ([] : List UInt8).length (fl encB []) := Blk.own (sz := 1) (m := 0) hb22 (by decide) rfl (Nat.le_refl _)
           refine T_append (xs := []) (ys := xs.drop ((2 + ((vget (xs.drop 2)).2.1)) + ((vget (xs.drop (2 + ((vget (xs.drop 2)).2.1)))).2.1))) EncB slc34 rfl rfl ho11 hS_5 (by simp only [List.length_drop, List.length_nil]; omega) hlo6 rfl ?_
           intro A_11 c_6 w31 ho12 hs31 hat6
           replace hB := gb_tro hB ho11 hs31 ge10; replace hS := hS.grown hs31 (fun k hk => .inr (Nat.le_trans ge10 (World.ownsRow.lt ho11 k hk).1)); replace hb1 := blk_own hb1 ho11 rfl hs31; replace hS_1 := hS_1.grown hs31 (fun k hk => .inr (Nat.le_trans ge10 (World.ownsRow.lt ho11 k hk).1)); replace hS_2 := hS_2.grown hs31 (fun k hk => .inr (Nat.le_trans ge10 (World.ownsRow.lt ho11 k hk).1))
           replace ha1 := At.gb ha1 hs31 (fun e_ => by have h_ := (World.ownsRow.lt ho11 _ e_.symm).1; omega)
           replace ha2 := At.gb ha2 hs31 (fun e_ => by have h_ := (World.ownsRow.lt ho11 _ e_.symm).1; omega)
           replace hb21 := blk_own hb21 ho11 rfl hs31
           simp only [List.nil_append] at ho12 ⊢
           refine L_nil (N_then ⟨fun hN_ => ⟨ha1, ha2, trivial⟩, ?_⟩)
           refine T_tk (i := 22) rfl (Y_of (fun _ _ => R_build (pv := [(0, .int .i64 (xs[0].toNat : Int)), (1, .int .i64 (xs[1].toNat : Int)), (2, .int .i64 (rLs xs)), (3, .int .i64 (rPv xs)), (4, .slice A_11 ((xs.drop ((2 + ((vget (xs.drop 2)).2.1)) + ((vget (xs.drop (2 + ((vget (xs.drop 2)).2.1)))).2.1))).length) c_6)]) (cs := [.int .i64 (xs[0].toNat : Int), .int .i64 (xs[1].toNat : Int), .int .i64 (rLs xs), .int .i64 (rPv xs), .slice A_11 ((xs.drop ((2 + ((vget (xs.drop 2)).2.1)) + ((vget (xs.drop (2 + ((vget (xs.drop 2)).2.1)))).2.1))).length) c_6]) rfl (by kernel_rfl))) ⟨ha1, ha2, trivial⟩ rfl ?_
           refine T_switch (S' := fun _ => True) (qs' := []) (by kernel_rfl) ?_
           refine T_all (rs := [24]) (by kernel_rfl) rfl (all1 (O_one rfl ?_))
           refine L_stA (vs := [.int .i64 (xs[0].toNat : Int), .int .i64 (xs[1].toNat : Int), .int .i64 (rLs xs), .int .i64 (rPv xs), .slice A_11 ((xs.drop ((2 + ((vget (xs.drop 2)).2.1)) + ((vget (xs.drop (2 + ((vget (xs.drop 2)).2.1)))).2.1))).length) c_6]) rfl rfl rfl sz36 rfl hb21 rfl ?_
           intro w32 hb23 hs32 hz24
           replace hB := gb_trg hB hs32 ge9; replace hS := hS.old hs32 ge9; replace hb1 := hb1.grown hs32 (ne_lt lt11); replace hS_1 := hS_1.old hs32 ge9; replace hS_2 := hS_2.old hs32 ge9; replace ho12 := own_other ho12 hb21 rfl hs32
           refine L_nil (N_then ⟨fun hN_ => trivial, ?_⟩)
           refine T_done (by kernel_rfl) (CalmE.normal ?_)
           exact ⟨rfl, ⟨_, g11, A_11, c_6, Ac_frg ⟨rfl, rfl, rfl, rfl, rfl, rfl, rfl, rfl, rfl, rfl, rfl, rfl, rfl, rfl, trivial⟩, hB, hS, hb1, hS_1, hS_2, (own_lo ho12 ge10), hb23, ge9, lt11⟩⟩
         ·refine L_alloc (cs := [.int .i64 0, .int .i64 0, .int .i64 0, .int .i64 0, .slice none 0 0]) zer36 rfl rfl ?_
          intro g13 w33 eg11 hb24 hs33 hz25
          have ge11 : w.heap.size ≤ g13 := eg_ge hB eg11
          have lt14 : g1 < g13 := lt_of_eg hb1.lt eg11
          replace hB := gb_tr hB hs33; replace hS := hS.gb hs33; replace hb1 := hb1.gb hs33; replace hS_1 := hS_1.gb hs33; replace hS_2 := hS_2.gb hs33; replace ha1 := At.gb ha1 hs33 (by simp); replace ha2 := At.gb ha2 hs33 (by simp)
          refine L_nil (N_then ⟨fun hN_ => ⟨ha1, ha2, trivial⟩, ?_⟩)
          refine T_all (rs := [14, 20]) (by kernel_rfl) rfl (all2 (O_one rfl ?_) (O_one rfl ?_))
          ·refine L_buildSlice (pv := []) (cs := []) slc34 zer5 rfl rfl (by kernel_rfl) rfl ?_
           intro g14 w34 eg12 hb25 hs34 hz26
           have ge12 : w.heap.size ≤ g14 := eg_ge hB eg12
           replace hB := gb_tr hB hs34; replace hS := hS.gb hs34; replace hb1 := hb1.gb hs34; replace hS_1 := hS_1.gb hs34; replace hS_2 := hS_2.gb hs34; replace ha1 := At.gb ha1 hs34 (by simp); replace ha2 := At.gb ha2 hs34 (by simp); replace hb24 := hb24.gb hs34
           refine L_nil (N_then ⟨fun hN_ => ⟨ha1, ha2, trivial⟩, ?_⟩)
           refine T_all (rs := [20]) (by kernel_rfl) rfl (all1 (O_one rfl ?_))
           refine T_slL (xs := xs) (i := ((2 + ((vget (xs.drop 2)).2.1)) + ((vget (xs.drop (2 + ((vget (xs.drop 2)).2.1)))).2.1))) EncB rfl rfl (by first | rfl | omega) slc34 (by omega) hc hS rfl ?_
           intro A_12 hS_6
           refine L_nil (N_then ⟨fun hN_ => ⟨ha1, ha2, trivial⟩, ?_⟩)
           refine T_all (rs := [21]) (by kernel_rfl) rfl (all1 (O_one rfl ?_))
           have hlo7 : g14 ≤ w34.heap.size := Nat.le_of_lt hb25.lt
           have ho13 : World.ownsRow w34 g14 5 1 (.slice (some ⟨g14, 0, none⟩) ([] : List UInt8).length 0) ([] : List UInt8).length (fl encB []) := Blk.own (sz := 1) (m := 0) hb25 (by decide) rfl (Nat.le_refl _)
           refine T_append (xs := []) (ys := xs.drop ((2 + ((vget (xs.drop 2)).2.1)) + ((vget (xs.drop (2 + ((vget (xs.drop 2)).2.1)))).2.1))) EncB slc34 rfl rfl ho13 hS_6 (by simp only [List.length_drop, List.length_nil]; omega) hlo7 rfl ?_
           intro A_13 c_7 w35 ho14 hs35 hat7
           replace hB := gb_tro hB ho13 hs35 ge12; replace hS := hS.grown hs35 (fun k hk => .inr (Nat.le_trans ge12 (World.ownsRow.lt ho13 k hk).1)); replace hb1 := blk_own hb1 ho13 rfl hs35; replace hS_1 := hS_1.grown hs35 (fun k hk => .inr (Nat.le_trans ge12 (World.ownsRow.lt ho13 k hk).1)); replace hS_2 := hS_2.grown hs35 (fun k hk => .inr (Nat.le_trans ge12 (World.ownsRow.lt ho13 k hk).1))
           replace ha1 := At.gb ha1 hs35 (fun e_ => by have h_ := (World.ownsRow.lt ho13 _ e_.symm).1; omega)
           replace ha2 := At.gb ha2 hs35 (fun e_ => by have h_ := (World.ownsRow.lt ho13 _ e_.symm).1; omega)
           replace hb24 := blk_own hb24 ho13 rfl hs35
           simp only [List.nil_append] at ho14 ⊢
           refine L_nil (N_then ⟨fun hN_ => ⟨ha1, ha2, trivial⟩, ?_⟩)
           refine T_tk (i := 22) rfl (Y_of (fun _ _ => R_build (pv := [(0, .int .i64 (xs[0].toNat : Int)), (1, .int .i64 (xs[1].toNat : Int)), (2, .int .i64 (rLs xs)), (3, .int .i64 (rPv xs)), (4, .slice A_13 ((xs.drop ((2 + ((vget (xs.drop 2)).2.1)) + ((vget (xs.drop (2 + ((vget (xs.drop 2)).2.1)))).2.1))).length) c_7)]) (cs := [.int .i64 (xs[0].toNat : Int), .int .i64 (xs[1].toNat : Int), .int .i64 (rLs xs), .int .i64 (rPv xs), .slice A_13 ((xs.drop ((2 + ((vget (xs.drop 2)).2.1)) + ((vget (xs.drop (2 + ((vget (xs.drop 2)).2.1)))).2.1))).length) c_7]) rfl (by kernel_rfl))) ⟨ha1, ha2, trivial⟩ rfl ?_
           refine T_switch (S' := fun _ => True) (qs' := []) (by kernel_rfl) ?_
           refine T_all (rs := [24]) (by kernel_rfl) rfl (all1 (O_one rfl ?_))
           refine L_stA (vs := [.int .i64 (xs[0].toNat : Int), .int .i64 (xs[1].toNat : Int), .int .i64 (rLs xs), .int .i64 (rPv xs), .slice A_13 ((xs.drop ((2 + ((vget (xs.drop 2)).2.1)) + ((vget (xs.drop (2 + ((vget (xs.drop 2)).2.1)))).2.1))).length) c_7]) rfl rfl rfl sz36 rfl hb24 rfl ?_
           intro w36 hb26 hs36 hz27
           replace hB := gb_trg hB hs36 ge11; replace hS := hS.old hs36 ge11; replace hb1 := hb1.grown hs36 (ne_lt lt14); replace hS_1 := hS_1.old hs36 ge11; replace hS_2 := hS_2.old hs36 ge11; replace ho14 := own_other ho14 hb24 rfl hs36
           refine L_nil (N_then ⟨fun hN_ => trivial, ?_⟩)
           refine T_done (by kernel_rfl) (CalmE.normal ?_)
           exact ⟨rfl, ⟨_, g13, A_13, c_7, Ac_frg ⟨rfl, rfl, rfl, rfl, rfl, rfl, rfl, rfl, rfl, rfl, rfl, rfl, rfl, rfl, trivial⟩, hB, hS, hb1, hS_1, hS_2, (own_lo ho14 ge12), hb26, ge11, lt14⟩⟩
          ·refine T_slL (xs := xs) (i := ((2 + ((vget (xs.drop 2)).2.1)) + ((vget (xs.drop (2 + ((vget (xs.drop 2)).2.1)))).2.1))) EncB rfl rfl (by first | rfl | omega) slc34 (by omega) hc hS rfl ?_
           intro A_14 hS_7
           refine L_nil (N_then ⟨fun hN_ => ⟨ha1, ha2, trivial⟩, ?_⟩)
           refine T_all (rs := [14]) (by kernel_rfl) rfl (all1 (O_one rfl ?_))
           refine L_buildSlice (pv := []) (cs := []) slc34 zer5 rfl rfl (by kernel_rfl) rfl ?_
           intro g15 w37 eg13 hb27 hs37 hz28
           have ge13 : w.heap.size ≤ g15 := eg_ge hB eg13
           replace hB := gb_tr hB hs37; replace hS := hS.gb hs37; replace hb1 := hb1.gb hs37; replace hS_1 := hS_1.gb hs37; replace hS_2 := hS_2.gb hs37; replace ha1 := At.gb ha1 hs37 (by simp); replace ha2 := At.gb ha2 hs37 (by simp); replace hb24 := hb24.gb hs37; replace hS_7 := hS_7.gb hs37
           refine L_nil (N_then ⟨fun hN_ => ⟨ha1, ha2, trivial⟩, ?_⟩)
           refine T_all (rs := [21]) (by kernel_rfl) rfl (all1 (O_one rfl ?_))
           have hlo8 : g15 ≤ w37.heap.size := Nat.le_of_lt hb27.lt
           have ho15 : World.ownsRow w37 g15 5 1 (.slice (some ⟨g15, 0, none⟩) ([] : List UInt8).length 0) ([] : List UInt8).length (fl encB []) := Blk.own (sz := 1) (m := 0) hb27 (by decide) rfl (Nat.le_refl _)
           refine T_append (xs := []) (ys := xs.drop ((2 + ((vget (xs.drop 2)).2.1)) + ((vget (xs.drop (2 + ((vget (xs.drop 2)).2.1)))).2.1))) EncB slc34 rfl rfl ho15 hS_7 (by simp only [List.length_drop, List.length_nil]; omega) hlo8 rfl ?_
           intro A_15 c_8 w38 ho16 hs38 hat8
           replace hB := gb_tro hB ho15 hs38 ge13; replace hS := hS.grown hs38 (fun k hk => .inr (Nat.le_trans ge13 (World.ownsRow.lt ho15 k hk).1)); replace hb1 := blk_own hb1 ho15 rfl hs38; replace hS_1 := hS_1.grown hs38 (fun k hk => .inr (Nat.le_trans ge13 (World.ownsRow.lt ho15 k hk).1)); replace hS_2 := hS_2.grown hs38 (fun k hk => .inr (Nat.le_trans ge13 (World.ownsRow.lt ho15 k hk).1))
           replace ha1 := At.gb ha1 hs38 (fun e_ => by have h_ := (World.ownsRow.lt ho15 _ e_.symm).1; omega)
           replace ha2 := At.gb ha2 hs38 (fun e_ => by have h_ := (World.ownsRow.lt ho15 _ e_.symm).1; omega)
           replace hb24 := blk_own hb24 ho15 rfl hs38
           simp only [List.nil_append] at ho16 ⊢
           refine L_nil (N_then ⟨fun hN_ => ⟨ha1, ha2, trivial⟩, ?_⟩)
           refine T_tk (i := 22) rfl (Y_of (fun _ _ => R_build (pv := [(0, .int .i64 (xs[0].toNat : Int)), (1, .int .i64 (xs[1].toNat : Int)), (2, .int .i64 (rLs xs)), (3, .int .i64 (rPv xs)), (4, .slice A_15 ((xs.drop ((2 + ((vget (xs.drop 2)).2.1)) + ((vget (xs.drop (2 + ((vget (xs.drop 2)).2.1)))).2.1))).length) c_8)]) (cs := [.int .i64 (xs[0].toNat : Int), .int .i64 (xs[1].toNat : Int), .int .i64 (rLs xs), .int .i64 (rPv xs), .slice A_15 ((xs.drop ((2 + ((vget (xs.drop 2)).2.1)) + ((vget (xs.drop (2 + ((vget (xs.drop 2)).2.1)))).2.1))).length) c_8]) rfl (by kernel_rfl))) ⟨ha1, ha2, trivial⟩ rfl ?_
           refine T_switch (S' := fun _ => True) (qs' := []) (by kernel_rfl) ?_
           refine T_all (rs := [24]) (by kernel_rfl) rfl (all1 (O_one rfl ?_))
           refine L_stA (vs := [.int .i64 (xs[0].toNat : Int), .int .i64 (xs[1].toNat : Int), .int .i64 (rLs xs), .int .i64 (rPv xs), .slice A_15 ((xs.drop ((2 + ((vget (xs.drop 2)).2.1)) + ((vget (xs.drop (2 + ((vget (xs.drop 2)).2.1)))).2.1))).length) c_8]) rfl rfl rfl sz36 rfl hb24 rfl ?_
           intro w39 hb28 hs39 hz29
           replace hB := gb_trg hB hs39 ge11; replace hS := hS.old hs39 ge11; replace hb1 := hb1.grown hs39 (ne_lt lt14); replace hS_1 := hS_1.old hs39 ge11; replace hS_2 := hS_2.old hs39 ge11; replace ho16 := own_other ho16 hb24 rfl hs39
           refine L_nil (N_then ⟨fun hN_ => trivial, ?_⟩)
           refine T_done (by kernel_rfl) (CalmE.normal ?_)
           exact ⟨rfl, ⟨_, g13, A_15, c_8, Ac_frg ⟨rfl, rfl, rfl, rfl, rfl, rfl, rfl, rfl, rfl, rfl, rfl, rfl, rfl, rfl, trivial⟩, hB, hS, hb1, hS_1, hS_2, (own_lo ho16 ge13), hb28, ge11, lt14⟩⟩
        ·clear hB
         clear hS hb1 hS_1 hS_2
         rintro a_ w40 ⟨σ_, g5, A_4, c_1, rfl, hB, hS, hb1, hS_1, hS_2, hj1, hj2, ge14, lt19⟩
         refine N_then (C_seq (C_seq (C_reg rfl ?_)))
         refine L_run (R_loadA (vs := [.int .i64 (xs[0].toNat : Int), .int .i64 (xs[1].toNat : Int), .int .i64 (rLs xs), .int .i64 (rPv xs), .slice A_4 ((xs.drop ((2 + ((vget (xs.drop 2)).2.1)) + ((vget (xs.drop (2 + ((vget (xs.drop 2)).2.1)))).2.1))).length) c_1]) rfl agg36 (At.pre (hj2.at_ 0) rfl) rfl) rfl ?_
         refine L_call rfl cb45 (rec_right11 (kind := (xs[0].toNat : Int)) (chain := (xs[1].toNat : Int)) (lsn := (rLs xs)) (prev := (rPv xs))) rfl ?_
         rintro _ w41 ⟨hs40, rfl⟩
         replace hB := gb_tr hB hs40; replace hb1 := hb1.gb hs40; replace hj1 := own_gb hj1 hs40; replace hj2 := hj2.gb hs40
         refine L_run (R_notD rfl) rfl ?_
         refine L_nil (N_then (C_ifN rfl (fun h8 => ?_) (fun h8 => ?_)))
         ·refine C_seq (C_reg rfl ?_)
          refine L_run (R_build (pv := []) (cs := [.int .i64 0, .int .i64 0, .int .i64 0, .int .i64 0, .slice none 0 0]) rfl (by kernel_rfl)) rfl ?_
          refine L_stA (vs := [.int .i64 0, .int .i64 0, .int .i64 0, .int .i64 0, .slice none 0 0]) rfl rfl rfl sz36 rfl hb1 rfl ?_
          intro w42 hb29 hs41 hz30
          replace hB := gb_trg hB hs41 ge1
          refine Las rfl rfl (L_nil (N_then (C_ret (R_then ?_))))
          refine retC1 (vs := [.int .i64 0, .int .i64 0, .int .i64 0, .int .i64 0, .slice none 0 0]) Tryd.results20 rfl agg36 (At.pre (hb29.at_ 0) rfl) rfl rfl ?_
          have hf_ : rerr xs = 2 := re_bad (by omega) (by omega) (Decidable.not_not.1 h3) (Decidable.not_not.1 h4) (by rw [rkd_eq (by omega), rch_eq (by omega)]; exact h8)
          exact ⟨hB, .inr ⟨by rw [hf_]; decide, by rw [hf_]⟩⟩
         ·refine C_skip (N_then (C_seq (C_reg rfl ?_)))
          refine L_run (R_loadA (vs := [.int .i64 (xs[0].toNat : Int), .int .i64 (xs[1].toNat : Int), .int .i64 (rLs xs), .int .i64 (rPv xs), .slice A_4 ((xs.drop ((2 + ((vget (xs.drop 2)).2.1)) + ((vget (xs.drop (2 + ((vget (xs.drop 2)).2.1)))).2.1))).length) c_1]) rfl agg36 (At.pre (hj2.at_ 0) rfl) rfl) rfl ?_
          refine L_stA (vs := [.int .i64 (xs[0].toNat : Int), .int .i64 (xs[1].toNat : Int), .int .i64 (rLs xs), .int .i64 (rPv xs), .slice A_4 ((xs.drop ((2 + ((vget (xs.drop 2)).2.1)) + ((vget (xs.drop (2 + ((vget (xs.drop 2)).2.1)))).2.1))).length) c_1]) rfl rfl rfl sz36 rfl hb1 rfl ?_
          intro w43 hb30 hs42 hz31
          replace hB := gb_trg hB hs42 ge1; replace hj1 := own_other hj1 hb1 rfl hs42
          refine Las rfl rfl (L_nil (N_then (C_ret ?_)))
          refine retC1 (vs := [.int .i64 (xs[0].toNat : Int), .int .i64 (xs[1].toNat : Int), .int .i64 (rLs xs), .int .i64 (rPv xs), .slice A_4 ((xs.drop ((2 + ((vget (xs.drop 2)).2.1)) + ((vget (xs.drop (2 + ((vget (xs.drop 2)).2.1)))).2.1))).length) c_1]) Tryd.results20 rfl agg36 (At.pre (hb30.at_ 0) rfl) rfl rfl ?_
          have hf_ : rerr xs = 0 := re_ok (by omega) (by omega) (Decidable.not_not.1 h3) (Decidable.not_not.1 h4) (by rw [rkd_eq (by omega), rch_eq (by omega)]; exact h8)
          have e3_ := rkd_eq (xs := xs) (by omega)
          have e4_ := rch_eq (xs := xs) (by omega)
          exact ⟨hB, .inl ⟨hf_, _, _, (by rw [← e3_, ← e4_]; rfl), (own_lo hj1 (Nat.le_refl _))⟩⟩
theorem rdec11_y {w : World} {t1 lo hi : Nat} {A : Option Addr} {c : Nat} {xs : List UInt8} (hS : Sli t1 lo hi w A (fl encB xs)) (hb : xs.length ≤ 1000000) (hc : xs.length ≤ c) (hq : rerr xs = 0) : Runs Tryd.prog 20 #[.slice A xs.length c] w (fun v w' => w.grownBy w' none ∧ ∃ A' c', v = .tuple #[.agg #[.int .i64 (rKd xs), .int .i64 (rCh xs), .int .i64 (rLs xs), .int .i64 (rPv xs), .slice A' (rDt xs).length c'], .int .i64 0] ∧ World.ownsRow w' w.heap.size 5 1 (.slice A' (rDt xs).length c') (rDt xs).length (fl encB (rDt xs))) := (rdec11 hS hb hc).mono fun v w' h => ⟨h.1, h.2.elim (fun h2 => h2.2) (fun h2 => absurd hq h2.1)⟩
theorem rdec11_n {w : World} {t1 lo hi : Nat} {A : Option Addr} {c : Nat} {xs : List UInt8} (hS : Sli t1 lo hi w A (fl encB xs)) (hb : xs.length ≤ 1000000) (hc : xs.length ≤ c) (hq : ¬ rerr xs = 0) : Runs Tryd.prog 20 #[.slice A xs.length c] w (fun v w' => w.grownBy w' none ∧ v = .tuple #[.agg #[.int .i64 0, .int .i64 0, .int .i64 0, .int .i64 0, .slice none 0 0], .int .i64 (rerr xs)]) := (rdec11 hS hb hc).mono fun v w' h => ⟨h.1, h.2.elim (fun h2 => absurd h2.1 hq) (fun h2 => h2.2)⟩
end Go.Proofs.YtkjgjejkfjhcjaaDoor
namespace Go.Proofs.YtkjgjejkfjhcjaaDoor.Pl
set_option linter.unusedVariables false
set_option linter.unusedSimpArgs false
/-- What is scanned from a place on: each record's bytes, its place, where it ends. f: where the record that is open began. -/
def scanL (e : Nat) (body : List UInt8) (ok : List Bool) : Nat → Nat → Nat → Bool → List UInt8 → List (List UInt8 × Nat × Nat)
  | 0, _, _, _, _ => []
  | fu + 1, p, f, o, bs =>
    if (accN e body ok (beginN p)).2 = 0 then []
    else if (feedN o bs (accN e body ok (beginN p)).1.1 (accN e body ok (beginN p)).1.2).2.2.2 ≠ 0 then []
    else if (feedN o bs (accN e body ok (beginN p)).1.1 (accN e body ok (beginN p)).1.2).2.2.1 = true then
      ((feedN o bs (accN e body ok (beginN p)).1.1 (accN e body ok (beginN p)).1.2).2.1, (if o then f else beginN p), beginN p + (accN e body ok (beginN p)).2) ::
        scanL e body ok fu (beginN p + (accN e body ok (beginN p)).2) (if o then f else beginN p) (feedN o bs (accN e body ok (beginN p)).1.1 (accN e body ok (beginN p)).1.2).1.1 (feedN o bs (accN e body ok (beginN p)).1.1 (accN e body ok (beginN p)).1.2).1.2
    else scanL e body ok fu (beginN p + (accN e body ok (beginN p)).2) (if o then f else beginN p) (feedN o bs (accN e body ok (beginN p)).1.1 (accN e body ok (beginN p)).1.2).1.1 (feedN o bs (accN e body ok (beginN p)).1.1 (accN e body ok (beginN p)).1.2).1.2
/-- Where the last one ends. -/
def endN (l : List (List UInt8 × Nat × Nat)) : Nat := match l.getLast? with
  | some x => x.2.2
  | none => 0
theorem endN_snoc {l : List (List UInt8 × Nat × Nat)} {x : List UInt8 × Nat × Nat} : endN (l ++ [x]) = x.2.2 := by
  unfold endN
  rw [List.getLast?_append]
  rfl
section
variable {e fu p f k n : Nat} {o : Bool} {bs body d : List UInt8} {ok : List Bool}
theorem scan_none (h : (accN e body ok (beginN p)).2 = 0) : scanL e body ok fu p f o bs = [] := by
  cases fu with
  | zero => rfl
  | succ fu => rw [scanL, if_pos h]
theorem scan_bad (hacc : accN e body ok (beginN p) = ((k, d), n)) (h : (feedN o bs k d).2.2.2 ≠ 0) : scanL e body ok fu p f o bs = [] := by
  cases fu with
  | zero => rfl
  | succ fu =>
    rw [scanL, hacc]
    by_cases h0 : n = 0
    · rw [if_pos h0]
    · rw [if_neg h0, if_pos h]
theorem scan_go (hacc : accN e body ok (beginN p) = ((k, d), n)) (hn : n ≠ 0) (hf : 0 < fu) (h0 : (feedN o bs k d).2.2.2 = 0) (h1 : (feedN o bs k d).2.2.1 = false) :
    scanL e body ok fu p f o bs = scanL e body ok (fu - 1) (beginN p + n) (if o then f else beginN p) (feedN o bs k d).1.1 (feedN o bs k d).1.2 := by
  obtain ⟨u, rfl⟩ : ∃ u, fu = u + 1 := ⟨fu - 1, by omega⟩
  rw [scanL, hacc]
  simp only
  rw [if_neg hn, if_neg (by simp [h0]), if_neg (by simp [h1]), Nat.add_sub_cancel]
theorem scan_fin (hacc : accN e body ok (beginN p) = ((k, d), n)) (hn : n ≠ 0) (hf : 0 < fu) (h0 : (feedN o bs k d).2.2.2 = 0) (h1 : (feedN o bs k d).2.2.1 = true) :
    scanL e body ok fu p f o bs = ((feedN o bs k d).2.1, (if o then f else beginN p), beginN p + n) :: scanL e body ok (fu - 1) (beginN p + n) (if o then f else beginN p) (feedN o bs k d).1.1 (feedN o bs k d).1.2 := by
  obtain ⟨u, rfl⟩ : ∃ u, fu = u + 1 := ⟨fu - 1, by omega⟩
  rw [scanL, hacc]
  simp only
  rw [if_neg hn, if_neg (by simp [h0]), if_pos h1, Nat.add_sub_cancel]
end
/-- Nothing stands behind a place of the sectors. -/
def restN (ss : List (List UInt8)) (n : Nat) : Prop := ∀ i : Nat, i < ss.length → i < 16 → ∀ k : Nat, k < 64 → (n ≤ 52 * i ∨ (12 ≤ k ∧ n + 12 ≤ 52 * i + k)) → (ss.getD i []).getD k 0 = 0
instance {ss : List (List UInt8)} {n : Nat} : Decidable (restN ss n) := by unfold restN; infer_instance
end Go.Proofs.YtkjgjejkfjhcjaaDoor.Pl
namespace Go.Proofs.YtkjgjejkfjhcjaaDoor
open Go.RowKit Gw Pl
set_option linter.unusedVariables false
set_option linter.unusedSimpArgs false
theorem cb96 : callB Tryd.prog 96 = true := by kernel_rfl
theorem fld134_0 : fldB Tryd.prog 134 0 0 = true := by kernel_rfl
theorem fld134_1 : fldB Tryd.prog 134 1 1 = true := by kernel_rfl
def encZ (n : Int) : List Value := [.int .i64 n]
theorem EncZ : Enc encZ 1 := ⟨fun _ => rfl, fun _ => rfl⟩
/-- Rows of bytes within a row, each in memory of its own kind. -/
def DeepY (t : Nat) (w : World) (ls : List Bys) : Prop := ∀ y ∈ ls, Sli t 0 w.heap.size w y.a (fl encB y.xs)
section
variable {t : Nat} {w w' : World} {ls : List Bys}
theorem DeepY.nil : DeepY t w [] := fun y hy => by cases hy
theorem DeepY.gb (h : DeepY t w ls) (hg : w.grownBy w' none) : DeepY t w' ls := fun y hy => sli_zero ((h y hy).gb hg)
theorem DeepY.other {g t' : Nat} {cs : List Value} (h : DeepY t w ls) (hb : Blk w g t' cs) (h0 : Nat.beq t 0 = false) (hne : Nat.beq t t' = false) (hg : w.grownBy w' (some g)) : DeepY t w' ls := fun y hy => sli_zero ((h y hy).other hb h0 hne hg)
theorem DeepY.otherO {base t' sz m : Nat} {v : Value} {us : List Value} (h : DeepY t w ls) (ho : w.ownsRow base t' sz v m us) (h0 : Nat.beq t 0 = false) (hne : Nat.beq t t' = false) (hg : w.grownBy w' v.ownBlock) : DeepY t w' ls := fun y hy => sli_zero ((h y hy).otherO ho h0 hne hg)
theorem DeepY.snoc {y : Bys} {lo hi : Nat} (h : DeepY t w ls) (h1 : Sli t lo hi w y.a (fl encB y.xs)) : DeepY t w (ls ++ [y]) := by
  intro z hz
  rcases List.mem_append.1 hz with hz | hz
  · exact h z hz
  · rw [List.mem_singleton] at hz
    subst hz
    exact sli_zero h1
theorem DeepY.get (h : DeepY t w ls) {i : Nat} (hi' : i < ls.length) : Sli t 0 w.heap.size w ls[i].a (fl encB ls[i].xs) := h _ (List.getElem_mem _)
end
theorem bs_at {ss : List Sx} {i q : Nat} (hi : i < ss.length) (hq : q < ss[i].b.length) : ((bsOf ss).getD i []).getD q 0 = ss[i].b[q] := by
  rw [List.getD_eq_getElem?_getD (l := bsOf ss)]
  unfold bsOf
  rw [List.getElem?_map, List.getElem?_eq_getElem hi]
  show (ss[i].b).getD q 0 = _
  rw [List.getD_eq_getElem?_getD, List.getElem?_eq_getElem hq]
  rfl
/-- Sectors looked at up to one, and up to a byte of it. -/
def rest0 (ss : List Sx) (n i : Nat) : Prop := ∀ j : Nat, j < i → j < ss.length → j < 16 → ∀ k : Nat, k < 64 → (n ≤ 52 * j ∨ (12 ≤ k ∧ n + 12 ≤ 52 * j + k)) → ((bsOf ss).getD j []).getD k 0 = 0
def rest1 (ss : List Sx) (n i q : Nat) : Prop := ∀ k : Nat, k < q → (n ≤ 52 * i ∨ (12 ≤ k ∧ n + 12 ≤ 52 * i + k)) → ((bsOf ss).getD i []).getD k 0 = 0
theorem rest0_0 {ss : List Sx} {n : Nat} : rest0 ss n 0 := fun j h => by omega
theorem rest1_0 {ss : List Sx} {n i : Nat} : rest1 ss n i 0 := fun j h => by omega
theorem rest0_s {ss : List Sx} {n i q : Nat} (h : rest0 ss n i) (h1 : rest1 ss n i q) (hq : 64 ≤ q) : rest0 ss n (i + 1) := by
  intro j hj h2 h3 k hk hc
  rcases Nat.lt_succ_iff_lt_or_eq.1 hj with h4 | h4
  · exact h j h4 h2 h3 k hk hc
  · subst h4; exact h1 k (by omega) hc
theorem rest0_n {ss : List Sx} {n i : Nat} (h : rest0 ss n i) (h1 : ∀ k : Nat, k < 64 → (n ≤ 52 * i ∨ (12 ≤ k ∧ n + 12 ≤ 52 * i + k)) → ((bsOf ss).getD i []).getD k 0 = 0) : rest0 ss n (i + 1) := rest0_s (q := 64) h (fun k hk hc => h1 k hk hc) (Nat.le_refl _)
theorem rest1_z {ss : List Sx} {n i q : Nat} (h : rest1 ss n i q) (hz : ((bsOf ss).getD i []).getD q 0 = 0) : rest1 ss n i (q + 1) := by
  intro k hk hc
  rcases Nat.lt_succ_iff_lt_or_eq.1 hk with h4 | h4
  · exact h k h4 hc
  · subst h4; exact hz
theorem rest1_n {ss : List Sx} {n i q : Nat} (h : rest1 ss n i q) (hz : ¬ (n ≤ 52 * i ∨ (12 ≤ q ∧ n + 12 ≤ 52 * i + q))) : rest1 ss n i (q + 1) := by
  intro k hk hc
  rcases Nat.lt_succ_iff_lt_or_eq.1 hk with h4 | h4
  · exact h k h4 hc
  · subst h4; exact absurd hc hz
theorem bs_len' {ss : List Sx} : (bsOf ss).length = ss.length := by simp [bsOf]
theorem rest_end {ss : List Sx} {n i : Nat} (h : rest0 ss n i) (hi : ss.length ≤ i ∨ 16 ≤ i) : restN (bsOf ss) n := fun j h1 h2 k hk hc => by
  rw [bs_len'] at h1
  exact h j (by omega) h1 h2 k hk hc
theorem rest1_lo {ss : List Sx} {n i o : Nat} (hn : n = 52 * i + o) (ho : 0 < o) : rest1 ss n i (12 + o + 0) := fun k hk hc => by omega
theorem rest1_all {ss : List Sx} {n i : Nat} (hi : i < ss.length) (hz : ss[i].b = List.replicate 64 0) : rest1 ss n i 64 := by
  intro k hk _
  rw [bs_at hi (by rw [ss[i].h]; exact hk)]
  simp only [hz, List.getElem_replicate]
theorem emp_bad {ss : List Sx} {n i : Nat} (hi : i < ss.length) (h16 : i < 16) (hn : n ≤ 52 * i) (hz : ¬ ss[i].b = List.replicate 64 0) : ¬ restN (bsOf ss) n := by
  intro h
  refine hz (List.ext_getElem (by rw [ss[i].h]; simp) fun k h1 h2 => ?_)
  rw [List.getElem_replicate, ← bs_at hi h1]
  exact h i (by rw [bs_len']; exact hi) h16 k (by rw [← ss[i].h]; exact h1) (.inl hn)
theorem rest_bad {ss : List Sx} {n i q : Nat} (hi : i < ss.length) (h16 : i < 16) (hq : q < 64) (hc : n ≤ 52 * i ∨ (12 ≤ q ∧ n + 12 ≤ 52 * i + q)) (hz : ((bsOf ss).getD i []).getD q 0 ≠ 0) : ¬ restN (bsOf ss) n := fun h => hz (h i (by simpa [bsOf] using hi) h16 q hq hc)
theorem rest19 {w : World} {t1 lo hi : Nat} {A : Option Addr} {c n : Nat} {ss : List Sx} (hS : Sli t1 lo hi w A (fl encX ss)) (hn : n ≤ 832) :
    Runs Tryd.prog 43 #[.slice A ss.length c, .int .i64 (n : Int)] w (fun v w' => w.grownBy w' none ∧ v = .bool (decide (restN (bsOf ss) n))) := by
 have hB := gb_refl w none
 replace hS := hS.top
 refine enter Tryd.func43 Tryd.ntmps43 rfl rfl ?_
 refine C_seq (C_reg rfl ?_)
 refine Las rfl rfl (L_nil (N_then (C_seq (C_reg rfl (Lmv rfl rfl ?_)))))
 refine L_call rfl cb60 (near7 (n := n)) rfl ?_
 rintro _ w1 ⟨hs1, rfl⟩
 replace hB := gb_tr hB hs1; replace hS := hS.gb hs1
 refine Las rfl rfl (L_nil (N_then (C_seq (C_seq (C_reg rfl (Las rfl rfl (L_nil (N_then (C_block ?_)))))))))
 refine C_loop (fun m_ a_ w_ => ∃ (σ_ : Nat → Value) (i : Nat), a_ = Ac 49 σ_ [] [(0, .slice A ss.length c), (1, .int .i64 ((min n 832 : Nat) : Int)), (4, .bool false), (5, .int .i64 (i : Int))] ∧ w.grownBy w_ none ∧ Sli t1 lo w.heap.size w_ A (fl encX ss) ∧ (i ≤ 16) ∧ (rest0 ss n i) ∧ 16 - i = m_) (16 - 0) ?_ ?_
 ·exact ⟨_, 0, Ac_frg ⟨rfl, rfl, rfl, (agx rfl), trivial⟩, hB, hS, (by omega), rest0_0, rfl⟩
 ·clear hB
  clear hS
  rintro m_ a_ w2 ⟨σ_, i, rfl, hB, hS, hi, h0_, rfl⟩
  refine C_seq (C_seq (C_reg rfl ?_))
  refine Lmv rfl rfl (Lmv rfl rfl (L_run (R_lenSl rfl slc26) rfl (L_run (R_lss rfl rfl) rfl (Lmv rfl rfl ?_))))
  refine L_splitD (p := (i : Int) < (ss.length : Int)) (fun h1 => ?_) (fun h1 => ?_)
  ·refine L_yes rfl rfl rfl (decide_eq_true h1) (Lmv rfl rfl (L_yes rfl rfl rfl (decide_eq_true h1) (L_run (R_lss rfl rfl) rfl (L_run (R_pickT rfl (decide_eq_true h1) rfl) rfl (L_nil (N_then (C_if rfl (fun h2 => ?_) (fun h2 => ?_))))))))
   ·refine C_skip (N_then (C_seq (C_block (C_seq (C_reg rfl ?_)))))
    refine Las rfl rfl (L_nil (N_then (C_block ?_)))
    refine C_loop (fun m_ a_ w_ => ∃ (σ_ : Nat → Value) (q : Nat), a_ = Ac 49 σ_ [] [(0, .slice A ss.length c), (1, .int .i64 ((min n 832 : Nat) : Int)), (4, .bool false), (5, .int .i64 (i : Int)), (6, .int .i64 (q : Int))] ∧ w.grownBy w_ none ∧ Sli t1 lo w.heap.size w_ A (fl encX ss) ∧ (q ≤ 64) ∧ (rest1 ss n i q) ∧ 64 - q = m_) (64 - 0) ?_ ?_
    ·exact ⟨_, 0, Ac_frg ⟨rfl, rfl, rfl, rfl, (agx rfl), trivial⟩, hB, hS, (by omega), rest1_0, rfl⟩
    ·clear hB
     clear hS
     rintro m_ a_ w3 ⟨σ_, q, rfl, hB, hS, hq, h1_, rfl⟩
     refine C_seq (C_seq (C_reg rfl ?_))
     refine Lmv rfl rfl (L_run (R_lss rfl rfl) rfl (L_nil (N_then (C_if rfl (fun h3 => ?_) (fun h3 => ?_)))))
     ·refine C_skip (N_then (C_seq (C_block (C_seq (C_reg rfl ?_)))))
      refine Lmv rfl rfl (Lmv rfl rfl (Lmv rfl rfl ?_))
      have hlk : i < ss.length := by first | omega | (simp; omega)
      refine T_index (xs := ss) (i := i) EncX rfl rfl (by first | rfl | omega) slc26 hlk hS rfl ?_
      intro g1 o1 ha1
      replace ha1 : At w3 g1 o1 (fl encB ss[i].b) := ha1
      refine L_run (R_indexArr (i := q) (r := (o1 + q)) rfl rfl (by first | rfl | omega) arr50 (by omega) (by omega)) rfl ?_
      have hl2 : q < (ss[i].b).length := by rw [ss[i].h]; omega
      refine L_run (R_load1 rfl scl5 (ha1 q _ (fl_atB hl2))) rfl (L_run (R_neq rfl rfl) rfl (Lmv rfl rfl ?_))
      refine L_splitD (p := ((ss[i].b)[q].toNat : Int) ≠ 0) (fun h4 => ?_) (fun h4 => ?_)
      ·refine L_yes rfl rfl rfl (decide_eq_true h4) (Lmv rfl rfl (L_yes rfl rfl rfl (decide_eq_true h4) ?_))
       refine L_run (R_mul64 rfl rfl (by omega)) rfl ?_
       refine L_yes rfl rfl rfl (decide_eq_true h4) (Lmv rfl rfl (L_yes rfl rfl rfl (decide_eq_true h4) (L_run (R_geq rfl rfl) rfl (L_yes rfl rfl rfl (decide_eq_true h4) (Lmv rfl rfl ?_)))))
       refine L_splitD (p := ((min n 832 : Nat) : Int) ≤ (52 * (i : Int))) (fun h5 => ?_) (fun h5 => ?_)
       ·refine L_no rfl rfl rfl (decide_eq_true h5) rfl (L_no rfl rfl rfl (decide_eq_true h5) rfl (L_no rfl rfl rfl (decide_eq_true h5) rfl ?_))
        refine L_noU rfl rfl rfl rfl ?_
        refine L_noU rfl rfl rfl rfl ?_
        refine L_noU rfl rfl rfl rfl ?_
        refine L_noU rfl rfl rfl rfl ?_
        refine L_noU rfl rfl rfl rfl ?_
        refine L_noU rfl rfl rfl rfl ?_
        refine L_noU rfl rfl rfl rfl ?_
        refine L_no rfl rfl rfl (decide_eq_true h5) rfl (L_yes rfl rfl rfl (decide_eq_true h4) (L_run (R_pickT rfl (decide_eq_true h5) rfl) rfl (L_run (R_pickT rfl (decide_eq_true h4) rfl) rfl (L_nil (N_then (C_condT rfl rfl (C_seq (C_reg rfl (Las rfl rfl (L_nil (N_then (C_ret (R_in (R_then (R_then (R_in (R_in (R_then (R_then (R_in (R_then ?_)))))))))))))))))))))
        refine ret1 Tryd.results43 rfl ?_
        exact ⟨hB, bF (rest_bad (i := i) (q := q) (by omega) (by omega) (by omega) (by omega) (by rw [bs_at (by omega) (by rw [ss[i].h]; omega)]; intro h_; exact h4 (by rw [h_]; rfl)))⟩
       ·refine L_yes rfl rfl rfl (decide_eq_false h5) (Lmv rfl rfl (L_yes rfl rfl rfl (decide_eq_false h5) (L_run (R_geq rfl rfl) rfl (L_yes rfl rfl rfl (decide_eq_false h5) (Lmv rfl rfl ?_)))))
        refine L_splitD (p := 12 ≤ (q : Int)) (fun h6 => ?_) (fun h6 => ?_)
        ·refine L_yes rfl rfl rfl (decide_eq_true h6) (Lmv rfl rfl (L_yes rfl rfl rfl (decide_eq_true h6) ?_))
         refine L_run (R_mul64 rfl rfl (by omega)) rfl ?_
         refine L_yes rfl rfl rfl (decide_eq_true h6) (Lmv rfl rfl (L_yes rfl rfl rfl (decide_eq_true h6) ?_))
         refine L_run (R_add64 rfl rfl (by omega)) rfl ?_
         refine L_yes rfl rfl rfl (decide_eq_true h6) ?_
         refine L_run (R_sub64 rfl rfl (by omega)) rfl ?_
         refine L_yes rfl rfl rfl (decide_eq_true h6) (Lmv rfl rfl (L_yes rfl rfl rfl (decide_eq_true h6) (L_run (R_geq rfl rfl) rfl (L_yes rfl rfl rfl (decide_eq_false h5) (L_run (R_pickT rfl (decide_eq_true h6) rfl) rfl (L_yes rfl rfl rfl (decide_eq_true h4) (L_run (R_pickF rfl (decide_eq_false h5) rfl) rfl (L_run (R_pickT rfl (decide_eq_true h4) rfl) rfl (L_nil (N_then (C_if rfl (fun h7 => ?_) (fun h7 => ?_))))))))))))
         ·refine C_seq (C_reg rfl ?_)
          refine Las rfl rfl (L_nil (N_then (C_ret (R_in (R_then (R_then (R_in (R_in (R_then (R_then (R_in (R_then ?_))))))))))))
          refine ret1 Tryd.results43 rfl ?_
          exact ⟨hB, bF (rest_bad (i := i) (q := q) (by omega) (by omega) (by omega) (by omega) (by rw [bs_at (by omega) (by rw [ss[i].h]; omega)]; intro h_; exact h4 (by rw [h_]; rfl)))⟩
         ·refine C_skip (N_in (N_then (C_reg rfl ?_)))
          refine Lmv rfl rfl ?_
          refine L_run (R_add64 rfl rfl (by omega)) rfl ?_
          refine Las rfl rfl (L_nil (N_then ?_))
          exact ⟨64 - (q + 1), by omega, _, (q + 1), Ac_frg ⟨rfl, rfl, rfl, rfl, (agx rfl), trivial⟩, hB, hS, (by omega), (rest1_n h1_ (by omega)), rfl⟩
        ·refine L_no rfl rfl rfl (decide_eq_false h6) rfl (L_no rfl rfl rfl (decide_eq_false h6) rfl (L_no rfl rfl rfl (decide_eq_false h6) rfl (L_no rfl rfl rfl (decide_eq_false h6) rfl (L_no rfl rfl rfl (decide_eq_false h6) rfl (L_no rfl rfl rfl (decide_eq_false h6) rfl (L_no rfl rfl rfl (decide_eq_false h6) rfl (L_yes rfl rfl rfl (decide_eq_false h5) (L_run (R_pickF rfl (decide_eq_false h6) rfl) rfl ?_))))))))
         refine L_yes rfl rfl rfl (decide_eq_true h4) (L_run (R_pickF rfl (decide_eq_false h5) rfl) rfl (L_run (R_pickT rfl (decide_eq_true h4) rfl) rfl (L_nil (N_then (C_condF rfl rfl (C_skip (N_in (N_then (C_reg rfl (Lmv rfl rfl ?_))))))))))
         refine L_run (R_add64 rfl rfl (by omega)) rfl ?_
         refine Las rfl rfl (L_nil (N_then ?_))
         exact ⟨64 - (q + 1), by omega, _, (q + 1), Ac_frg ⟨rfl, rfl, rfl, rfl, (agx rfl), trivial⟩, hB, hS, (by omega), (rest1_n h1_ (by omega)), rfl⟩
      ·refine L_no rfl rfl rfl (decide_eq_false h4) rfl (L_no rfl rfl rfl (decide_eq_false h4) rfl (L_no rfl rfl rfl (decide_eq_false h4) rfl (L_no rfl rfl rfl (decide_eq_false h4) rfl (L_no rfl rfl rfl (decide_eq_false h4) rfl ?_))))
       refine L_noU rfl rfl rfl rfl ?_
       refine L_noU rfl rfl rfl rfl ?_
       refine L_noU rfl rfl rfl rfl ?_
       refine L_noU rfl rfl rfl rfl ?_
       refine L_noU rfl rfl rfl rfl ?_
       refine L_noU rfl rfl rfl rfl ?_
       refine L_noU rfl rfl rfl rfl ?_
       refine L_noU rfl rfl rfl rfl ?_
       refine L_noU rfl rfl rfl rfl ?_
       refine L_noU rfl rfl rfl rfl ?_
       refine L_noU rfl rfl rfl rfl ?_
       refine L_no rfl rfl rfl (decide_eq_false h4) rfl (L_run (R_pickF rfl (decide_eq_false h4) rfl) rfl (L_nil (N_then (C_condF rfl rfl (C_skip (N_in (N_then (C_reg rfl (Lmv rfl rfl ?_)))))))))
       refine L_run (R_add64 rfl rfl (by omega)) rfl ?_
       refine Las rfl rfl (L_nil (N_then ?_))
       exact ⟨64 - (q + 1), by omega, _, (q + 1), Ac_frg ⟨rfl, rfl, rfl, rfl, (agx rfl), trivial⟩, hB, hS, (by omega), (rest1_z h1_ (by rw [bs_at hlk (by rw [ss[i].h]; omega)]; exact UInt8.toNat_inj.1 (by have h_ := Decidable.not_not.1 h4; simp; omega))), rfl⟩
     ·refine C_exit (X_then (X_then (X_hit (N_in (N_then (C_reg rfl ?_))))))
      refine Lmv rfl rfl ?_
      refine L_run (R_add64 rfl rfl (by omega)) rfl ?_
      refine Las rfl rfl (L_nil (N_then ?_))
      exact ⟨16 - (i + 1), by omega, _, (i + 1), Ac_frg ⟨rfl, rfl, rfl, (agx rfl), trivial⟩, hB, hS, (by omega), (rest0_s h0_ h1_ (by omega)), rfl⟩
   ·refine C_exit (X_then (X_then (X_hit (N_then (C_seq (C_reg rfl ?_))))))
    refine Las rfl rfl (L_nil (N_then (C_ret ?_)))
    refine ret1 Tryd.results43 rfl ?_
    exact ⟨hB, bT (rest_end h0_ (by omega))⟩
  ·refine L_no rfl rfl rfl (decide_eq_false h1) rfl (L_no rfl rfl rfl (decide_eq_false h1) rfl (L_run (R_pickF rfl (decide_eq_false h1) rfl) rfl (L_nil (N_then (C_condF rfl rfl (C_exit (X_then (X_then (X_hit (N_then (C_seq (C_reg rfl (Las rfl rfl (L_nil (N_then (C_ret ?_))))))))))))))))
   refine ret1 Tryd.results43 rfl ?_
   exact ⟨hB, bT (rest_end h0_ (by omega))⟩
theorem empty_ok {w : World} {X : List UInt8} (hX : X.length = 64) :
    Runs Tryd.prog 96 #[.agg (fl encB X).toArray] w (fun v w' => w.grownBy w' none ∧ v = .bool (decide (X = List.replicate 64 (0 : UInt8)))) := by
 have hB := gb_refl w none
 refine enter Tryd.func96 Tryd.ntmps96 rfl rfl ?_
 refine C_seq (C_reg rfl ?_)
 refine L_box (cs := fl encB X) rfl rfl rfl ?_
 intro g1 w1 eg1 hb1 hs1 hz1
 replace hB := gb_tr hB hs1
 refine Las rfl rfl (L_nil (N_then (C_seq (C_reg rfl (L_run (R_loadA (vs := fl encB X) rfl agg50 (hb1.at_ 0) (flB_lenE hX)) rfl ?_)))))
 refine L_run (R_build (pv := []) (cs := fl encB (List.replicate 64 (0 : UInt8))) rfl (by kernel_rfl)) rfl ?_
 refine L_run (R_eqlA rfl rfl eqg50 (eqs_bytes arr50 int5 scl5 hX List.length_replicate)) rfl ?_
 refine Las rfl rfl (L_nil (N_then (C_ret ?_)))
 refine ret1 Tryd.results96 rfl ?_
 exact ⟨hB, rfl⟩
theorem rest_ok {w : World} {t1 lo hi : Nat} {A : Option Addr} {c n : Nat} {ss : List Sx} (hS : Sli t1 lo hi w A (fl encX ss)) (hn : n ≤ 832) (hc : ss.length ≤ c) :
    Runs Tryd.prog 73 #[.slice A ss.length c, .int .i64 (n : Int)] w (fun v w' => w.grownBy w' none ∧ v = .bool (decide (restN (bsOf ss) n))) := by
 have hB := gb_refl w none
 have hlt_ : (ss.take (min ss.length 16)).length = min ss.length 16 := by rw [List.length_take]; omega
 replace hS := hS.top
 refine enter Tryd.func73 Tryd.ntmps73 rfl rfl ?_
 refine C_seq (C_reg rfl ?_)
 refine Las rfl rfl (L_nil (N_then (C_seq (C_reg rfl (Lmv rfl rfl ?_)))))
 refine L_call rfl cb95 (where_ok (n := n) hn) rfl ?_
 rintro _ w1 ⟨hs1, rfl⟩
 replace hB := gb_tr hB hs1; replace hS := hS.gb hs1
 refine L_alloc (cs := [.int .i64 0, .int .i64 0]) zer134 rfl rfl ?_
 intro g1 w2 eg1 hb1 hs2 hz1
 have ge1 : w.heap.size ≤ g1 := eg_ge hB eg1
 replace hB := gb_tr hB hs2; replace hS := hS.gb hs2
 refine L_stA (vs := [.int .i64 ((n / 52 : Nat) : Int), .int .i64 ((n % 52 : Nat) : Int)]) rfl rfl rfl sz134 rfl hb1 rfl ?_
 intro w3 hb2 hs3 hz2
 replace hB := gb_trg hB hs3 ge1; replace hS := hS.old hs3 ge1
 refine L_nil (N_then (C_seq (C_seq (C_reg rfl (Lmv rfl rfl (Lmv rfl rfl (L_run (R_lenSl rfl slc26) rfl ?_)))))))
 refine L_run (R_eqv (R_min2 rfl rfl) (v' := .int .i64 ((min ss.length 16 : Nat) : Int)) (congrArg _ (by omega))) rfl ?_
 refine T_slH (xs := ss) (j := (min ss.length 16)) EncX rfl rfl (by first | rfl | omega) slc26 (by omega) hc hS rfl ?_
 intro A_1 hS_1
 refine L_run (R_lenSl rfl slc26) rfl ?_
 refine Lmv rfl rfl (L_nil (N_then (C_block ?_)))
 refine C_loop (fun m_ a_ w_ => ∃ (σ_ : Nat → Value) (i : Nat), a_ = Ac 54 σ_ [] [(4, .bool false), (5, .pointer (some ⟨g1, 0, none⟩)), (16, .slice A_1 ((ss.take (min ss.length 16)).length) c), (17, .int .i64 ((ss.take (min ss.length 16)).length : Int)), (18, .int .i64 (i : Int))] ∧ w.grownBy w_ none ∧ Sli t1 lo w.heap.size w_ A (fl encX ss) ∧ Blk w_ g1 134 [.int .i64 ((n / 52 : Nat) : Int), .int .i64 ((n % 52 : Nat) : Int)] ∧ Sli t1 lo w.heap.size w_ A_1 (fl encX (ss.take (min ss.length 16))) ∧ (i ≤ min ss.length 16) ∧ (rest0 ss n i) ∧ ss.length - i = m_) (ss.length - 0) ?_ ?_
 ·exact ⟨_, 0, Ac_frg ⟨rfl, rfl, rfl, rfl, (agx rfl), trivial⟩, hB, hS, hb2, hS_1, (by omega), rest0_0, rfl⟩
 ·clear hB
  clear hS hb2 hS_1
  rintro m_ a_ w4 ⟨σ_, i, rfl, hB, hS, hb2, hS_1, hi, h0_, rfl⟩
  refine C_seq (C_reg rfl ?_)
  refine L_run (R_lss rfl rfl) rfl ?_
  refine L_nil (N_then (C_seq (C_if rfl (fun h1 => ?_) (fun h1 => ?_))))
  ·refine C_skip (N_then (C_seq (C_block (C_seq (C_reg rfl ?_)))))
   refine Lmv rfl rfl ?_
   have hl1 : i < (ss.take (min ss.length 16)).length := by first | omega | (simp; omega)
   refine T_index (xs := ss.take (min ss.length 16)) (i := i) EncX rfl rfl (by first | rfl | omega) slc26 hl1 hS_1 rfl ?_
   intro g2 o1 ha1
   replace ha1 : At w4 g2 o1 (fl encB (ss.take (min ss.length 16))[i].b) := ha1
   refine L_run (R_loadA (vs := fl encB ((ss.take (min ss.length 16))[i].b)) rfl agg50 ha1 (flB_lenE (ss.take (min ss.length 16))[i].h)) rfl (L_alloc (cs := [.int .u8 0, .int .u8 0, .int .u8 0, .int .u8 0, .int .u8 0, .int .u8 0, .int .u8 0, .int .u8 0, .int .u8 0, .int .u8 0, .int .u8 0, .int .u8 0, .int .u8 0, .int .u8 0, .int .u8 0, .int .u8 0, .int .u8 0, .int .u8 0, .int .u8 0, .int .u8 0, .int .u8 0, .int .u8 0, .int .u8 0, .int .u8 0, .int .u8 0, .int .u8 0, .int .u8 0, .int .u8 0, .int .u8 0, .int .u8 0, .int .u8 0, .int .u8 0, .int .u8 0, .int .u8 0, .int .u8 0, .int .u8 0, .int .u8 0, .int .u8 0, .int .u8 0, .int .u8 0, .int .u8 0, .int .u8 0, .int .u8 0, .int .u8 0, .int .u8 0, .int .u8 0, .int .u8 0, .int .u8 0, .int .u8 0, .int .u8 0, .int .u8 0, .int .u8 0, .int .u8 0, .int .u8 0, .int .u8 0, .int .u8 0, .int .u8 0, .int .u8 0, .int .u8 0, .int .u8 0, .int .u8 0, .int .u8 0, .int .u8 0, .int .u8 0]) zer50 rfl rfl ?_)
   intro g3 w5 eg2 hb3 hs4 hz3
   have ge2 : w.heap.size ≤ g3 := eg_ge hB eg2
   have lt1 : g1 < g3 := lt_of_eg hb2.lt eg2
   replace hB := gb_tr hB hs4; replace hS := hS.gb hs4; replace hb2 := hb2.gb hs4; replace hS_1 := hS_1.gb hs4; replace hb3 : Blk w5 g3 50 (fl encB (List.replicate 64 (0 : UInt8))) := hb3
   refine Las rfl rfl ?_
   refine L_stA (vs := fl encB ((ss.take (min ss.length 16))[i].b)) rfl rfl (flB_one _) sz50 (flB_lenE (ss.take (min ss.length 16))[i].h) hb3 (flB_lenE List.length_replicate) ?_
   intro w6 hb4 hs5 hz4
   replace hB := gb_trg hB hs5 ge2; replace hS := hS.old hs5 ge2; replace hb2 := hb2.grown hs5 (ne_lt lt1); replace hS_1 := hS_1.old hs5 ge2
   refine L_nil (N_then (C_block (C_seq (C_reg rfl (Lmv rfl rfl (L_run (R_field (r := 0) rfl fld134_0 rfl) rfl (L_run (R_load1 rfl scl3 (hb2.cell (i := 0) rfl)) rfl (L_run (R_lss rfl rfl) rfl (Las rfl rfl (L_nil (N_then (C_if rfl (fun h2 => ?_) (fun h2 => ?_)))))))))))))
   ·refine C_skip (N_in (N_in (N_then (C_reg rfl ?_))))
    refine L_run (R_add64 rfl rfl (by omega)) rfl ?_
    refine Lmv rfl rfl (L_nil (N_then ?_))
    exact ⟨ss.length - (i + 1), by omega, _, (i + 1), Ac_frg ⟨rfl, rfl, rfl, rfl, (agx rfl), trivial⟩, hB, hS, hb2, hS_1, (by omega), (rest0_n h0_ (fun k_ hk_ hc_ => by omega)), rfl⟩
   ·refine C_seq (C_reg rfl ?_)
    refine Lmv rfl rfl (L_run (R_field (r := 0) rfl fld134_0 rfl) rfl (L_run (R_load1 rfl scl3 (hb2.cell (i := 0) rfl)) rfl (L_run (R_gtr rfl rfl) rfl (Lmv rfl rfl ?_))))
    refine L_splitD (p := ((n / 52 : Nat) : Int) < (i : Int)) (fun h3 => ?_) (fun h3 => ?_)
    ·refine L_no rfl rfl rfl (decide_eq_true h3) rfl (L_no rfl rfl rfl (decide_eq_true h3) rfl (L_no rfl rfl rfl (decide_eq_true h3) rfl (L_run (R_pickT rfl (decide_eq_true h3) rfl) rfl (Las rfl rfl (L_nil (N_then (C_condT rfl rfl (C_seq (C_reg rfl (L_run (R_loadA (vs := fl encB ((ss.take (min ss.length 16))[i].b)) rfl agg50 (hb4.at_ 0) (flB_lenE (ss.take (min ss.length 16))[i].h)) rfl ?_))))))))))
     refine L_call rfl cb96 (empty_ok (X := (ss.take (min ss.length 16))[i].b) (ss.take (min ss.length 16))[i].h) rfl ?_
     rintro _ w7 ⟨hs6, rfl⟩
     replace hB := gb_tr hB hs6; replace hS := hS.gb hs6; replace hb2 := hb2.gb hs6; replace hS_1 := hS_1.gb hs6
     refine L_run (R_notD rfl) rfl ?_
     refine L_nil (N_then (C_ifN rfl (fun h4 => ?_) (fun h4 => ?_)))
     ·refine C_seq (C_reg rfl ?_)
      refine Las rfl rfl (L_nil (N_then (C_ret (R_in (R_in (R_then (R_then (R_in (R_then ?_)))))))))
      refine ret1 Tryd.results73 rfl ?_
      exact ⟨hB, bF (emp_bad (i := i) (by omega) (by omega) (by omega) (by simpa using h4))⟩
     ·refine C_skip (N_in (N_in (N_then (C_reg rfl ?_))))
      refine L_run (R_add64 rfl rfl (by omega)) rfl ?_
      refine Lmv rfl rfl (L_nil (N_then ?_))
      exact ⟨ss.length - (i + 1), by omega, _, (i + 1), Ac_frg ⟨rfl, rfl, rfl, rfl, (agx rfl), trivial⟩, hB, hS, hb2, hS_1, (by omega), (rest0_s h0_ (rest1_all (by omega) (by simpa using h4)) (Nat.le_refl _)), rfl⟩
    ·refine L_yes rfl rfl rfl (decide_eq_false h3) (L_run (R_field (r := 1) rfl fld134_1 rfl) rfl (L_yes rfl rfl rfl (decide_eq_false h3) (L_run (R_load1 rfl scl3 (hb2.cell (i := 1) rfl)) rfl (L_yes rfl rfl rfl (decide_eq_false h3) (L_run (R_eql rfl rfl) rfl (L_run (R_pickF rfl (decide_eq_false h3) rfl) rfl (Las rfl rfl (L_nil (N_then (C_if rfl (fun h5 => ?_) (fun h5 => ?_)))))))))))
     ·refine C_seq (C_reg rfl ?_)
      refine L_run (R_loadA (vs := fl encB ((ss.take (min ss.length 16))[i].b)) rfl agg50 (hb4.at_ 0) (flB_lenE (ss.take (min ss.length 16))[i].h)) rfl ?_
      refine L_call rfl cb96 (empty_ok (X := (ss.take (min ss.length 16))[i].b) (ss.take (min ss.length 16))[i].h) rfl ?_
      rintro _ w8 ⟨hs7, rfl⟩
      replace hB := gb_tr hB hs7; replace hS := hS.gb hs7; replace hb2 := hb2.gb hs7; replace hS_1 := hS_1.gb hs7
      refine L_run (R_notD rfl) rfl ?_
      refine L_nil (N_then (C_ifN rfl (fun h6 => ?_) (fun h6 => ?_)))
      ·refine C_seq (C_reg rfl ?_)
       refine Las rfl rfl (L_nil (N_then (C_ret (R_in (R_in (R_then (R_then (R_in (R_then ?_)))))))))
       refine ret1 Tryd.results73 rfl ?_
       exact ⟨hB, bF (emp_bad (i := i) (by omega) (by omega) (by omega) (by simpa using h6))⟩
      ·refine C_skip (N_in (N_in (N_then (C_reg rfl ?_))))
       refine L_run (R_add64 rfl rfl (by omega)) rfl ?_
       refine Lmv rfl rfl (L_nil (N_then ?_))
       exact ⟨ss.length - (i + 1), by omega, _, (i + 1), Ac_frg ⟨rfl, rfl, rfl, rfl, (agx rfl), trivial⟩, hB, hS, hb2, hS_1, (by omega), (rest0_s h0_ (rest1_all (by omega) (by simpa using h6)) (Nat.le_refl _)), rfl⟩
     ·refine C_seq (C_reg rfl ?_)
      refine L_run (R_field (r := 1) rfl fld134_1 rfl) rfl (L_run (R_load1 rfl scl3 (hb2.cell (i := 1) rfl)) rfl ?_)
      refine L_run (R_eqv (R_add64 rfl rfl (by omega)) (v' := .int .i64 ((12 + n % 52 : Nat) : Int)) (congrArg _ (by omega))) rfl ?_
      have hxl_ : ((ss.take (min ss.length 16))[i].b).length = 64 := (ss.take (min ss.length 16))[i].h
      have hxd_ : (((ss.take (min ss.length 16))[i].b).drop (12 + n % 52)).length = 64 - (12 + n % 52) := by rw [List.length_drop, hxl_]
      refine T_slArr (bs := (ss.take (min ss.length 16))[i].b) (i := (12 + n % 52)) rfl rfl (by first | rfl | omega) arr50 (by omega) hb4 (by first | omega | (simp; omega)) rfl ?_
      intro A_2 hS_2
      refine L_run (R_lenSl rfl slc34) rfl ?_
      refine Lmv rfl rfl (L_nil (N_then (C_block ?_)))
      have hno_ : n = 52 * i + n % 52 := by omega
      refine C_loop (fun m_ a_ w_ => ∃ (σ_ : Nat → Value) (q : Nat), a_ = Ac 54 σ_ [] [(4, .bool false), (5, .pointer (some ⟨g1, 0, none⟩)), (6, .int .i64 (i : Int)), (7, .pointer (some ⟨g3, 0, none⟩)), (16, .slice A_1 ((ss.take (min ss.length 16)).length) c), (17, .int .i64 ((ss.take (min ss.length 16)).length : Int)), (18, .int .i64 (i : Int)), (26, .slice A_2 ((((ss.take (min ss.length 16))[i].b).drop (12 + n % 52)).length) (64 - (12 + n % 52))), (27, .int .i64 ((((ss.take (min ss.length 16))[i].b).drop (12 + n % 52)).length : Int)), (28, .int .i64 (q : Int))] ∧ w.grownBy w_ none ∧ Sli t1 lo w.heap.size w_ A (fl encX ss) ∧ Blk w_ g1 134 [.int .i64 ((n / 52 : Nat) : Int), .int .i64 ((n % 52 : Nat) : Int)] ∧ Sli t1 lo w.heap.size w_ A_1 (fl encX (ss.take (min ss.length 16))) ∧ Blk w_ g3 50 (fl encB ((ss.take (min ss.length 16))[i].b)) ∧ Sli 0 g3 (g3 + 1) w_ A_2 (fl encB (((ss.take (min ss.length 16))[i].b).drop (12 + n % 52))) ∧ (12 + n % 52 + q ≤ 64) ∧ (rest1 ss n i (12 + n % 52 + q)) ∧ 64 - q = m_) (64 - 0) ?_ ?_
      ·exact ⟨_, 0, Ac_frg ⟨rfl, rfl, rfl, rfl, rfl, rfl, rfl, rfl, rfl, (agx rfl), trivial⟩, hB, hS, hb2, hS_1, hb4, hS_2, (by omega), (rest1_lo hno_ (by omega)), rfl⟩
      ·clear hB
       clear hS hb2 hS_1 hb4 hS_2
       rintro m_ a_ w9 ⟨σ_, q, rfl, hB, hS, hb2, hS_1, hb4, hS_2, hq, h1_, rfl⟩
       refine C_seq (C_reg rfl ?_)
       refine L_run (R_lss rfl rfl) rfl ?_
       refine L_nil (N_then (C_seq (C_if rfl (fun h7 => ?_) (fun h7 => ?_))))
       ·refine C_skip (N_then (C_seq (C_block (C_seq (C_reg rfl ?_)))))
        have hl2 : q < (((ss.take (min ss.length 16))[i].b).drop (12 + n % 52)).length := by first | omega | (simp; omega)
        refine T_index (xs := ((ss.take (min ss.length 16))[i].b).drop (12 + n % 52)) (i := q) EncB rfl rfl (by first | rfl | omega) slc34 hl2 hS_2 rfl ?_
        intro g4 o2 ha2
        refine L_run (R_load1 rfl scl5 (ha2 0 _ rfl)) rfl (Las rfl rfl (L_nil (N_then (C_seq (C_reg rfl (Lmv rfl rfl (L_run (R_neq rfl rfl) rfl (L_nil (N_then (C_if rfl (fun h8 => ?_) (fun h8 => ?_)))))))))))
        ·refine C_seq (C_reg rfl ?_)
         refine Las rfl rfl (L_nil (N_then (C_ret (R_in (R_then (R_then (R_in (R_in (R_in (R_then (R_then (R_in (R_then ?_)))))))))))))
         refine ret1 Tryd.results73 rfl ?_
         exact ⟨hB, bF (rest_bad (i := i) (q := 12 + n % 52 + q) (by omega) (by omega) (by omega) (by omega) (by rw [bs_at (by omega) (by rw [ss[i].h]; omega)]; intro h_; have h9_ := h8; simp only [List.getElem_drop, List.getElem_take] at h9_; exact h9_ (by rw [h_]; rfl)))⟩
        ·refine C_skip (N_in (N_then (C_reg rfl ?_)))
         refine L_run (R_add64 rfl rfl (by omega)) rfl ?_
         refine Lmv rfl rfl (L_nil (N_then ?_))
         exact ⟨64 - (q + 1), by omega, _, (q + 1), Ac_frg ⟨rfl, rfl, rfl, rfl, rfl, rfl, rfl, rfl, rfl, (agx rfl), trivial⟩, hB, hS, hb2, hS_1, hb4, hS_2, (by omega), (rest1_z (q := 12 + n % 52 + q) h1_ (by rw [bs_at (by omega) (by rw [ss[i].h]; omega)]; exact UInt8.toNat_inj.1 (by have h_ := Decidable.not_not.1 h8; simp only [List.getElem_drop, List.getElem_take] at h_; simp; omega))), rfl⟩
       ·refine C_exit (X_then (X_then (X_hit (N_in (N_in (N_then (C_reg rfl ?_)))))))
        refine L_run (R_add64 rfl rfl (by omega)) rfl ?_
        refine Lmv rfl rfl (L_nil (N_then ?_))
        exact ⟨ss.length - (i + 1), by omega, _, (i + 1), Ac_frg ⟨rfl, rfl, rfl, rfl, (agx rfl), trivial⟩, hB, hS, hb2, hS_1, (by omega), (rest0_s h0_ h1_ (by omega)), rfl⟩
  ·refine C_exit (X_then (X_then (X_hit (N_then (C_seq (C_reg rfl ?_))))))
   refine Las rfl rfl (L_nil (N_then (C_ret ?_)))
   refine ret1 Tryd.results73 rfl ?_
   exact ⟨hB, bT (rest_end h0_ (by omega))⟩
end Go.Proofs.YtkjgjejkfjhcjaaDoor
