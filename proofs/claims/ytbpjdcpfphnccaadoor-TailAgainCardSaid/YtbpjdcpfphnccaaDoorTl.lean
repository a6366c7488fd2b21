/-
  Contracts of the package cut: a record's pieces.
-/
import Derived.Test.YtbpjdcpfphnccaaDoorTk
namespace Go.Proofs.YtbpjdcpfphnccaaDoor
open Go.RowKit Gw Pl
set_option linter.unusedVariables false
set_option linter.unusedSimpArgs false
theorem cb35 : callB Tryd.prog 35 = true := by kernel_rfl
theorem cb57 : callB Tryd.prog 57 = true := by kernel_rfl
theorem cb58 : callB Tryd.prog 58 = true := by kernel_rfl
theorem cb59 : callB Tryd.prog 59 = true := by kernel_rfl
theorem scl84 : sclB Tryd.prog 84 = true := by kernel_rfl
theorem sz84 : szB Tryd.prog 84 1 = true := by kernel_rfl
theorem zer84 : (Tryd.prog.info? 84).bind (·.zero) = some (.slice none 0 0) := by kernel_rfl
/-! ### the same pieces, their kinds at once -/
def kndN (a b : Bool) : Nat := if a then (if b then 1 else 2) else (if b then 4 else 3)
def rawK (n : Nat) : Nat → Bool → Nat → Nat → Option (List (Nat × Nat × Nat × Nat) × Nat)
  | 0, _, _, _ => none
  | fu + 1, fst, q, f =>
    if 832 ≤ beginN q then none
    else if f + min (n - f) (leftN (beginN q) - 11) < n then (rawK n fu false (beginN q + 11 + min (n - f) (leftN (beginN q) - 11)) (f + min (n - f) (leftN (beginN q) - 11))).map fun r => ((beginN q, kndN fst false, f, f + min (n - f) (leftN (beginN q) - 11)) :: r.1, r.2)
    else some ([(beginN q, kndN fst true, f, f + min (n - f) (leftN (beginN q) - 11))], beginN q + 11 + min (n - f) (leftN (beginN q) - 11))
def kindF : Bool → List (Nat × Nat × Nat × Nat) → List (Nat × Nat × Nat × Nat)
  | _, [] => []
  | fst, [p] => [(p.1, kndN fst true, p.2.2.1, p.2.2.2)]
  | fst, p :: q :: r => (p.1, if fst then 2 else p.2.1, p.2.2.1, p.2.2.2) :: kindF false (q :: r)
theorem setK_cons {p : Nat × Nat × Nat × Nat} {l : List (Nat × Nat × Nat × Nat)} {i k : Nat} : setK (p :: l) (i + 1) k = p :: setK l i k := by
  unfold setK
  rw [List.getElem?_cons_succ]
  cases l[i]? <;> rfl
theorem kindF_last : ∀ (l : List (Nat × Nat × Nat × Nat)), l ≠ [] → kindF false l = setK l (l.length - 1) 4
  | [], h => absurd rfl h
  | [p], _ => rfl
  | p :: q :: r, _ => by
    rw [kindF, kindF_last (q :: r) (by simp), show (p :: q :: r).length - 1 = ((q :: r).length - 1) + 1 from rfl, setK_cons]
    rfl
theorem kindN_F : ∀ (l : List (Nat × Nat × Nat × Nat)), l ≠ [] → kindN l = kindF true l
  | [], h => absurd rfl h
  | [p], _ => rfl
  | p :: q :: r, _ => by
    unfold kindN
    rw [if_neg (by simp), show setK (p :: q :: r) 0 2 = (p.1, 2, p.2.2.1, p.2.2.2) :: q :: r from rfl, show (p :: q :: r).length - 1 = ((q :: r).length - 1) + 1 from rfl, setK_cons, ← kindF_last (q :: r) (by simp)]
    rfl
theorem rawN_ne {n fu q f : Nat} {r : List (Nat × Nat × Nat × Nat) × Nat} (h : rawN n fu q f = some r) : r.1 ≠ [] := by
  cases fu with
  | zero => simp [rawN] at h
  | succ fu =>
    simp only [rawN] at h
    split at h
    · cases h
    · split at h
      · obtain ⟨r', _, rfl⟩ := Option.map_eq_some_iff.1 h; simp
      · obtain rfl := Option.some.inj h; simp
theorem rawK_F {n : Nat} : ∀ (fu : Nat) (fst : Bool) (q f : Nat), rawK n fu fst q f = (rawN n fu q f).map fun r => (kindF fst r.1, r.2)
  | 0, _, _, _ => rfl
  | fu + 1, fst, q, f => by
    rw [rawK, rawN]
    by_cases h1 : 832 ≤ beginN q
    · rw [if_pos h1, if_pos h1]; rfl
    · rw [if_neg h1, if_neg h1]
      by_cases h2 : f + min (n - f) (leftN (beginN q) - 11) < n
      · rw [if_pos h2, if_pos h2, rawK_F fu false]
        cases hr : rawN n fu (beginN q + 11 + min (n - f) (leftN (beginN q) - 11)) (f + min (n - f) (leftN (beginN q) - 11)) with
        | none => rfl
        | some r =>
          have hne := rawN_ne hr
          obtain ⟨l, x⟩ := r
          cases l with
          | nil => exact absurd rfl hne
          | cons p l => cases fst <;> rfl
      · rw [if_neg h2, if_neg h2]; rfl
theorem cutN_K {a n : Nat} : cutN a n = rawK n 833 true a 0 := by
  rw [rawK_F]
  unfold cutN
  cases hr : rawN n 833 a 0 with
  | none => rfl
  | some r => show some (kindN r.1, r.2) = some (kindF true r.1, r.2); rw [kindN_F _ (rawN_ne hr)]
theorem rawN_fit {n : Nat} : ∀ (fu q f : Nat) (r : List (Nat × Nat × Nat × Nat) × Nat), q ≤ 832 → f ≤ n → rawN n fu q f = some r → q + (n - f) ≤ 832
  | 0, _, _, _, _, _, h => by simp [rawN] at h
  | fu + 1, q, f, r, hq, hf, h => by
    have hb := beginN_le hq
    have hl := leftN_le hb.2
    simp only [rawN] at h
    split at h
    · cases h
    · rename_i h1
      have h11 := left11 h1
      split at h
      · obtain ⟨r', hr', rfl⟩ := Option.map_eq_some_iff.1 h
        have := rawN_fit fu _ _ r' (by omega) (by omega) hr'
        omega
      · omega
theorem cutN_big {a n : Nat} (ha : a ≤ 832) (h : 832 < n) : cutN a n = none := by
  unfold cutN
  cases hr : rawN n 833 a 0 with
  | none => rfl
  | some r => have := rawN_fit 833 a 0 r ha (by omega) hr; omega
/-- How far the pieces have come. -/
def RawJ (n a : Nat) (acc : List (Nat × Nat × Nat × Nat)) (q f fu : Nat) : Prop := (if acc.length = 0 ∨ f < n then (rawK n fu (decide (acc.length = 0)) q f).map (fun r => (acc ++ r.1, r.2)) else some (acc, q)) = cutN a n
theorem RawJ.start {n a : Nat} : RawJ n a [] a 0 833 := by
  unfold RawJ
  rw [if_pos (.inl rfl), cutN_K]
  show Option.map _ (rawK n 833 true a 0) = _
  cases rawK n 833 true a 0 <;> simp
theorem RawJ.nope {n a q f fu : Nat} {acc : List (Nat × Nat × Nat × Nat)} (h : RawJ n a acc q f fu) (hc : acc.length = 0 ∨ f < n) (h1 : 832 ≤ beginN q) : cutN a n = none := by
  unfold RawJ at h
  rw [if_pos hc] at h
  rw [← h]
  cases fu with
  | zero => rfl
  | succ fu => rw [rawK, if_pos h1]; rfl
theorem RawJ.step {n a q f fu k : Nat} {acc : List (Nat × Nat × Nat × Nat)} (h : RawJ n a acc q f fu) (hc : acc.length = 0 ∨ f < n) (h1 : ¬ 832 ≤ beginN q) (hf : 0 < fu) (hk : k = min (n - f) (leftN (beginN q) - 11)) (hfn : f ≤ n) :
    RawJ n a (acc ++ [(beginN q, kndN (decide (acc.length = 0)) (decide (f + k = n)), f, f + k)]) (beginN q + 11 + k) (f + k) (fu - 1) := by
  obtain ⟨fu, rfl⟩ : ∃ u, fu = u + 1 := ⟨fu - 1, by omega⟩
  unfold RawJ at h ⊢
  rw [if_pos hc] at h
  rw [← h, rawK, if_neg h1, ← hk]
  have hne : ¬ (acc ++ [(beginN q, kndN (decide (acc.length = 0)) (decide (f + k = n)), f, f + k)]).length = 0 := by simp
  by_cases h2 : f + k < n
  · rw [if_pos h2, if_pos (.inr h2), decide_eq_false hne, decide_eq_false (show ¬ f + k = n by omega)]
    show Option.map _ (rawK n fu false _ _) = _
    cases rawK n fu false (beginN q + 11 + k) (f + k) <;> simp
  · rw [if_neg h2, if_neg (by simp only [hne, h2]; simp), decide_eq_true (show f + k = n by omega)]
    rfl
theorem RawJ.done {n a q f fu : Nat} {acc : List (Nat × Nat × Nat × Nat)} (h : RawJ n a acc q f fu) (h0 : ¬ acc.length = 0) (h1 : ¬ f < n) : cutN a n = some (acc, q) := by
  unfold RawJ at h
  rw [if_neg (by simp only [h0, h1]; simp)] at h
  exact h.symm
theorem kind_tt {w : World} :
    Runs Tryd.prog 59 #[.bool true, .bool true] w (fun v w' => w.grownBy w' none ∧ v = .int .i64 ((kndN true true : Nat) : Int)) := by
  have hB := gb_refl w none
  refine enter Tryd.func59 Tryd.ntmps59 rfl rfl ?_
  refine C_seq (C_reg rfl ?_)
  refine L_run (R_assign rfl) rfl ?_
  refine L_nil (N_then (C_seq (C_block (C_seq (C_reg rfl ?_)))))
  refine L_run (R_move rfl) rfl ?_
  refine L_run (R_move rfl) rfl ?_
  refine L_yes rfl rfl rfl rfl ?_
  refine L_run (R_move rfl) rfl ?_
  refine L_run (R_pickT rfl rfl rfl) rfl ?_
  refine L_run (R_assign rfl) rfl ?_
  refine L_nil (N_then (C_condT rfl rfl (C_seq (C_reg rfl ?_))))
  refine L_run (R_assign rfl) rfl ?_
  refine L_nil (N_then (C_ret (R_in (R_then ?_))))
  refine ret1 Tryd.results59 rfl ?_
  exact ⟨hB, rfl⟩

theorem kind_tf {w : World} :
    Runs Tryd.prog 59 #[.bool true, .bool false] w (fun v w' => w.grownBy w' none ∧ v = .int .i64 ((kndN true false : Nat) : Int)) := by
  have hB := gb_refl w none
  refine enter Tryd.func59 Tryd.ntmps59 rfl rfl ?_
  refine C_seq (C_reg rfl ?_)
  refine L_run (R_assign rfl) rfl ?_
  refine L_nil (N_then (C_seq (C_block (C_seq (C_reg rfl ?_)))))
  refine L_run (R_move rfl) rfl ?_
  refine L_run (R_move rfl) rfl ?_
  refine L_yes rfl rfl rfl rfl ?_
  refine L_run (R_move rfl) rfl ?_
  refine L_run (R_pickT rfl rfl rfl) rfl ?_
  refine L_run (R_assign rfl) rfl ?_
  refine L_nil (N_then (C_condF rfl rfl (C_seq (C_reg rfl ?_))))
  refine L_run (R_move rfl) rfl ?_
  refine L_run (R_assign rfl) rfl ?_
  refine L_nil (N_then (C_condT rfl rfl (C_seq (C_reg rfl ?_))))
  refine L_run (R_assign rfl) rfl ?_
  refine L_nil (N_then (C_ret (R_in (R_then ?_))))
  refine ret1 Tryd.results59 rfl ?_
  exact ⟨hB, rfl⟩

theorem kind_ft {w : World} :
    Runs Tryd.prog 59 #[.bool false, .bool true] w (fun v w' => w.grownBy w' none ∧ v = .int .i64 ((kndN false true : Nat) : Int)) := by
  have hB := gb_refl w none
  refine enter Tryd.func59 Tryd.ntmps59 rfl rfl ?_
  refine C_seq (C_reg rfl ?_)
  refine L_run (R_assign rfl) rfl ?_
  refine L_nil (N_then (C_seq (C_block (C_seq (C_reg rfl ?_)))))
  refine L_run (R_move rfl) rfl ?_
  refine L_run (R_move rfl) rfl ?_
  refine L_no rfl rfl rfl rfl rfl ?_
  refine L_run (R_pickF rfl rfl rfl) rfl ?_
  refine L_run (R_assign rfl) rfl ?_
  refine L_nil (N_then (C_condF rfl rfl (C_seq (C_reg rfl ?_))))
  refine L_run (R_move rfl) rfl ?_
  refine L_run (R_assign rfl) rfl ?_
  refine L_nil (N_then (C_condF rfl rfl (C_seq (C_reg rfl ?_))))
  refine L_run (R_move rfl) rfl ?_
  refine L_run (R_assign rfl) rfl ?_
  refine L_nil (N_then (C_condT rfl rfl (C_seq (C_reg rfl ?_))))
  refine L_run (R_assign rfl) rfl ?_
  refine L_nil (N_then (C_ret (R_in (R_then ?_))))
  refine ret1 Tryd.results59 rfl ?_
  exact ⟨hB, rfl⟩

theorem kind_ff {w : World} :
    Runs Tryd.prog 59 #[.bool false, .bool false] w (fun v w' => w.grownBy w' none ∧ v = .int .i64 ((kndN false false : Nat) : Int)) := by
  have hB := gb_refl w none
  refine enter Tryd.func59 Tryd.ntmps59 rfl rfl ?_
  refine C_seq (C_reg rfl ?_)
  refine L_run (R_assign rfl) rfl ?_
  refine L_nil (N_then (C_seq (C_block (C_seq (C_reg rfl ?_)))))
  refine L_run (R_move rfl) rfl ?_
  refine L_run (R_move rfl) rfl ?_
  refine L_no rfl rfl rfl rfl rfl ?_
  refine L_run (R_pickF rfl rfl rfl) rfl ?_
  refine L_run (R_assign rfl) rfl ?_
  refine L_nil (N_then (C_condF rfl rfl (C_seq (C_reg rfl ?_))))
  refine L_run (R_move rfl) rfl ?_
  refine L_run (R_assign rfl) rfl ?_
  refine L_nil (N_then (C_condF rfl rfl (C_seq (C_reg rfl ?_))))
  refine L_run (R_move rfl) rfl ?_
  refine L_run (R_assign rfl) rfl ?_
  refine L_nil (N_then (C_condF rfl rfl (C_skip (N_in (N_then (C_seq (C_reg rfl ?_)))))))
  refine L_run (R_assign rfl) rfl ?_
  refine L_nil (N_then (C_ret ?_))
  refine ret1 Tryd.results59 rfl ?_
  exact ⟨hB, rfl⟩

theorem kind_ok {w : World} {a b : Bool} : Runs Tryd.prog 59 #[.bool a, .bool b] w (fun v w' => w.grownBy w' none ∧ v = .int .i64 ((kndN a b : Nat) : Int)) := by
  cases a <;> cases b
  · exact kind_ff
  · exact kind_ft
  · exact kind_tf
  · exact kind_tt
theorem next_n {w w1 : World} {ga gn gf go q n f c : Nat} {A : Option Addr} {acc : List (Nat × Nat × Nat × Nat)} (hB : w.grownBy w1 none) (ga0 : w.heap.size ≤ ga) (gn0 : w.heap.size ≤ gn) (gf0 : w.heap.size ≤ gf) (go0 : w.heap.size ≤ go) (l1 : ga < gn) (l2 : gn < go) (l3 : go < gf) (ha : Blk w1 ga 3 [.int .i64 (q : Int)]) (hn : Blk w1 gn 3 [.int .i64 (n : Int)]) (hf : Blk w1 gf 3 [.int .i64 (f : Int)]) (ho : Blk w1 go 84 [.slice A acc.length c]) (hw : World.ownsRow w1 w.heap.size 89 4 (.slice A acc.length c) acc.length (fl encP acc)) (hq : q ≤ 832) (hfn : f ≤ n) (hn8 : n ≤ 832) (hal : acc.length ≤ 832) (hd : 832 ≤ beginN q) :
    Runs Tryd.prog 57 #[.pointer (some ⟨ga, 0, none⟩), .pointer (some ⟨gn, 0, none⟩), .pointer (some ⟨gf, 0, none⟩), .pointer (some ⟨go, 0, none⟩)] w1 (fun v w' => w.grownBy w' none ∧ v = .bool false) := by
  have hbq := beginN_le hq
  have hlq := leftN_le hbq.2
  have hz_ : leftN (beginN q) = 0 := by unfold leftN; rw [if_pos (by omega)]
  refine enter Tryd.func57 Tryd.ntmps57 rfl rfl ?_
  refine C_seq (C_reg rfl ?_)
  refine L_run (R_assign rfl) rfl ?_
  refine L_nil (N_then (C_seq (C_reg rfl ?_)))
  refine L_run (R_load1 rfl scl3 (ha.cell (i := 0) rfl)) rfl ?_
  refine L_call rfl cb35 (begin_ok (n := q) (by first | omega | (simp; done) | (simp; omega))) rfl ?_
  rintro _ w1 ⟨hs1, rfl⟩
  replace hB := gb_tr hB hs1
  replace ha := ha.gb hs1
  replace hn := hn.gb hs1
  replace hf := hf.gb hs1
  replace ho := ho.gb hs1
  replace hw := own_gb hw hs1
  refine L_st1 rfl rfl rfl sz3 ha rfl ?_
  intro w2 hb1 hs2 hz1
  replace hB := gb_trg hB hs2 ga0
  replace hn := hn.grown hs2 (ne_gt l1)
  replace hf := hf.grown hs2 (ne_gt (Nat.lt_trans l1 (Nat.lt_trans l2 l3)))
  replace ho := ho.grown hs2 (ne_gt (Nat.lt_trans l1 l2))
  replace hw := own_other hw ha rfl hs2
  refine L_nil (N_then (C_seq (C_reg rfl ?_)))
  refine L_run (R_load1 rfl scl3 (hb1.cell (i := 0) rfl)) rfl ?_
  refine L_call rfl cb58 (left_ok (n := (beginN q)) (by first | omega | (simp; done) | (simp; omega))) rfl ?_
  rintro _ w3 ⟨hs3, rfl⟩
  replace hB := gb_tr hB hs3
  replace hb1 := hb1.gb hs3
  replace hn := hn.gb hs3
  replace hf := hf.gb hs3
  replace ho := ho.gb hs3
  replace hw := own_gb hw hs3
  refine L_run (R_eqv (R_sub64 rfl rfl (by omega)) (v' := .int .i64 (-11)) (congrArg _ (by omega))) rfl ?_
  refine L_run (R_assign rfl) rfl ?_
  refine L_nil (N_then (C_seq (C_seq (C_reg rfl ?_))))
  refine L_run (R_move rfl) rfl ?_
  refine L_run (R_eqv (R_lss rfl rfl) (v' := .bool true) rfl) rfl ?_
  refine L_nil (N_then (C_condT rfl rfl (C_seq (C_reg rfl ?_))))
  refine L_run (R_assign rfl) rfl ?_
  refine L_nil (N_then (C_ret (R_then ?_)))
  refine ret1 Tryd.results57 rfl ?_
  exact ⟨hB, rfl⟩

theorem next_y {w w1 : World} {ga gn gf go q n f c : Nat} {A : Option Addr} {acc : List (Nat × Nat × Nat × Nat)} (hB : w.grownBy w1 none) (ga0 : w.heap.size ≤ ga) (gn0 : w.heap.size ≤ gn) (gf0 : w.heap.size ≤ gf) (go0 : w.heap.size ≤ go) (l1 : ga < gn) (l2 : gn < go) (l3 : go < gf) (ha : Blk w1 ga 3 [.int .i64 (q : Int)]) (hn : Blk w1 gn 3 [.int .i64 (n : Int)]) (hf : Blk w1 gf 3 [.int .i64 (f : Int)]) (ho : Blk w1 go 84 [.slice A acc.length c]) (hw : World.ownsRow w1 w.heap.size 89 4 (.slice A acc.length c) acc.length (fl encP acc)) (hq : q ≤ 832) (hfn : f ≤ n) (hn8 : n ≤ 832) (hal : acc.length ≤ 832) (hd : ¬ 832 ≤ beginN q) :
    Runs Tryd.prog 57 #[.pointer (some ⟨ga, 0, none⟩), .pointer (some ⟨gn, 0, none⟩), .pointer (some ⟨gf, 0, none⟩), .pointer (some ⟨go, 0, none⟩)] w1 (fun v w' => w.grownBy w' none ∧ v = .bool true ∧ Blk w' ga 3 [.int .i64 ((beginN q + 11 + (min (n - f) (leftN (beginN q) - 11)) : Nat) : Int)] ∧ Blk w' gn 3 [.int .i64 (n : Int)] ∧ Blk w' gf 3 [.int .i64 ((f + (min (n - f) (leftN (beginN q) - 11)) : Nat) : Int)] ∧ ∃ A' c', Blk w' go 84 [.slice A' (acc ++ [(beginN q, kndN (decide (acc.length = 0)) (decide (f + (min (n - f) (leftN (beginN q) - 11)) = n)), f, f + (min (n - f) (leftN (beginN q) - 11)))]).length c'] ∧ World.ownsRow w' w.heap.size 89 4 (.slice A' (acc ++ [(beginN q, kndN (decide (acc.length = 0)) (decide (f + (min (n - f) (leftN (beginN q) - 11)) = n)), f, f + (min (n - f) (leftN (beginN q) - 11)))]).length c') (acc ++ [(beginN q, kndN (decide (acc.length = 0)) (decide (f + (min (n - f) (leftN (beginN q) - 11)) = n)), f, f + (min (n - f) (leftN (beginN q) - 11)))]).length (fl encP (acc ++ [(beginN q, kndN (decide (acc.length = 0)) (decide (f + (min (n - f) (leftN (beginN q) - 11)) = n)), f, f + (min (n - f) (leftN (beginN q) - 11)))]))) := by
  have hbq := beginN_le hq
  have hlq := leftN_le hbq.2
  have h11 := left11 hd
  refine enter Tryd.func57 Tryd.ntmps57 rfl rfl ?_
  refine C_seq (C_reg rfl ?_)
  refine L_run (R_assign rfl) rfl ?_
  refine L_nil (N_then (C_seq (C_reg rfl ?_)))
  refine L_run (R_load1 rfl scl3 (ha.cell (i := 0) rfl)) rfl ?_
  refine L_call rfl cb35 (begin_ok (n := q) (by first | omega | (simp; done) | (simp; omega))) rfl ?_
  rintro _ w1 ⟨hs1, rfl⟩
  replace hB := gb_tr hB hs1
  replace ha := ha.gb hs1
  replace hn := hn.gb hs1
  replace hf := hf.gb hs1
  replace ho := ho.gb hs1
  replace hw := own_gb hw hs1
  refine L_st1 rfl rfl rfl sz3 ha rfl ?_
  intro w2 hb1 hs2 hz1
  replace hB := gb_trg hB hs2 ga0
  replace hn := hn.grown hs2 (ne_gt l1)
  replace hf := hf.grown hs2 (ne_gt (Nat.lt_trans l1 (Nat.lt_trans l2 l3)))
  replace ho := ho.grown hs2 (ne_gt (Nat.lt_trans l1 l2))
  replace hw := own_other hw ha rfl hs2
  refine L_nil (N_then (C_seq (C_reg rfl ?_)))
  refine L_run (R_load1 rfl scl3 (hb1.cell (i := 0) rfl)) rfl ?_
  refine L_call rfl cb58 (left_ok (n := (beginN q)) (by first | omega | (simp; done) | (simp; omega))) rfl ?_
  rintro _ w3 ⟨hs3, rfl⟩
  replace hB := gb_tr hB hs3
  replace hb1 := hb1.gb hs3
  replace hn := hn.gb hs3
  replace hf := hf.gb hs3
  replace ho := ho.gb hs3
  replace hw := own_gb hw hs3
  refine L_run (R_eqv (R_sub64 rfl rfl (by omega)) (v' := .int .i64 ((leftN (beginN q) - 11 : Nat) : Int)) (congrArg _ (by omega))) rfl ?_
  refine L_run (R_assign rfl) rfl ?_
  refine L_nil (N_then (C_seq (C_seq (C_reg rfl ?_))))
  refine L_run (R_move rfl) rfl ?_
  refine L_run (R_lss rfl rfl) rfl ?_
  refine L_nil (N_then (C_condF rfl (decide_eq_false (by omega)) (C_skip (N_then (C_seq (C_reg rfl ?_))))))
  refine L_run (R_load1 rfl scl3 (hn.cell (i := 0) rfl)) rfl ?_
  refine L_run (R_load1 rfl scl3 (hf.cell (i := 0) rfl)) rfl ?_
  refine L_run (R_move rfl) rfl ?_
  refine L_run (R_add64 rfl rfl (by omega)) rfl ?_
  refine L_run (R_eqv (R_min2 rfl rfl) (v' := .int .i64 ((f + (min (n - f) (leftN (beginN q) - 11)) : Nat) : Int)) (congrArg _ (by omega))) rfl ?_
  refine L_run (R_assign rfl) rfl ?_
  refine L_nil (N_then (C_seq ?_))
  refine C_draw2 rfl mix ?_
  intro w4 hs4 hz2
  replace hB := gb_tr hB hs4
  replace hb1 := hb1.gb hs4
  replace hn := hn.gb hs4
  replace hf := hf.gb hs4
  replace ho := ho.gb hs4
  replace hw := own_gb hw hs4
  refine ⟨fun W_ => Blk W_ ga 3 [.int .i64 ((beginN q : Nat) : Int)] ∧ Blk W_ gn 3 [.int .i64 (n : Int)] ∧ Blk W_ gf 3 [.int .i64 (f : Int)] ∧ Blk W_ go 84 [.slice A acc.length c] ∧ True, [0, 1, 2, 3, 4, 5, 6, 7, 9, 10, 11], ?_⟩
  refine T_takeA (i := 0) rfl rfl (by kernel_rfl) (by kernel_rfl) (by kernel_rfl) (Y_of (fun _ ⟨hb1, hn, hf, ho, _⟩ => R_load1 rfl scl84 (ho.cell (i := 0) rfl))) ⟨hb1, hn, hf, ho, trivial⟩ rfl ?_
  refine T_takeA (i := 1) rfl rfl (by kernel_rfl) (by kernel_rfl) (by kernel_rfl) (Y_of (fun _ ⟨hb1, hn, hf, ho, _⟩ => R_load1 rfl scl3 (hb1.cell (i := 0) rfl))) ⟨hb1, hn, hf, ho, trivial⟩ rfl ?_
  refine T_takeA (i := 2) rfl rfl (by kernel_rfl) (by kernel_rfl) (by kernel_rfl) (Y_of (fun _ ⟨hb1, hn, hf, ho, _⟩ => R_load1 rfl scl84 (ho.cell (i := 0) rfl))) ⟨hb1, hn, hf, ho, trivial⟩ rfl ?_
  refine T_takeA (i := 3) rfl rfl (by kernel_rfl) (by kernel_rfl) (by kernel_rfl) (Y_of (fun _ ⟨hb1, hn, hf, ho, _⟩ => R_lenSl rfl slc84)) ⟨hb1, hn, hf, ho, trivial⟩ rfl ?_
  refine T_takeA (i := 4) rfl rfl (by kernel_rfl) (by kernel_rfl) (by kernel_rfl) (Y_of (fun _ ⟨hb1, hn, hf, ho, _⟩ => R_eqv (R_eql rfl rfl) (v' := .bool (decide (acc.length = 0))) (bD (by omega)))) ⟨hb1, hn, hf, ho, trivial⟩ rfl ?_
  refine T_takeA (i := 5) rfl rfl (by kernel_rfl) (by kernel_rfl) (by kernel_rfl) (Y_of (fun _ ⟨hb1, hn, hf, ho, _⟩ => R_move rfl)) ⟨hb1, hn, hf, ho, trivial⟩ rfl ?_
  refine T_takeA (i := 6) rfl rfl (by kernel_rfl) (by kernel_rfl) (by kernel_rfl) (Y_of (fun _ ⟨hb1, hn, hf, ho, _⟩ => R_load1 rfl scl3 (hn.cell (i := 0) rfl))) ⟨hb1, hn, hf, ho, trivial⟩ rfl ?_
  refine T_takeA (i := 7) rfl rfl (by kernel_rfl) (by kernel_rfl) (by kernel_rfl) (Y_of (fun _ ⟨hb1, hn, hf, ho, _⟩ => R_eqv (R_eql rfl rfl) (v' := .bool (decide (f + (min (n - f) (leftN (beginN q) - 11)) = n))) (bD (by omega)))) ⟨hb1, hn, hf, ho, trivial⟩ rfl ?_
  refine T_takeA (i := 9) rfl rfl (by kernel_rfl) (by kernel_rfl) (by kernel_rfl) (Y_of (fun _ ⟨hb1, hn, hf, ho, _⟩ => R_load1 rfl scl3 (hf.cell (i := 0) rfl))) ⟨hb1, hn, hf, ho, trivial⟩ rfl ?_
  refine T_takeA (i := 10) rfl rfl (by kernel_rfl) (by kernel_rfl) (by kernel_rfl) (Y_of (fun _ ⟨hb1, hn, hf, ho, _⟩ => R_move rfl)) ⟨hb1, hn, hf, ho, trivial⟩ rfl ?_
  refine T_all (rs := [8]) (by kernel_rfl) rfl (all1 (O_one rfl ?_))
  refine L_call rfl cb59 (kind_ok (a := (decide (acc.length = 0))) (b := (decide (f + (min (n - f) (leftN (beginN q) - 11)) = n)))) rfl ?_
  rintro _ w5 ⟨hs5, rfl⟩
  replace hB := gb_tr hB hs5
  replace hb1 := hb1.gb hs5
  replace hn := hn.gb hs5
  replace hf := hf.gb hs5
  replace ho := ho.gb hs5
  replace hw := own_gb hw hs5
  refine L_nil (N_then ⟨fun hN_ => ⟨hb1, hn, hf, ho, trivial⟩, ?_⟩)
  refine T_takeA (i := 11) rfl rfl (by kernel_rfl) (by kernel_rfl) (by kernel_rfl) (Y_of (fun _ ⟨hb1, hn, hf, ho, _⟩ => R_build (pv := [(0, .int .i64 ((beginN q : Nat) : Int)), (1, .int .i64 ((kndN (decide (acc.length = 0)) (decide (f + (min (n - f) (leftN (beginN q) - 11)) = n)) : Nat) : Int)), (2, .int .i64 (f : Int)), (3, .int .i64 ((f + (min (n - f) (leftN (beginN q) - 11)) : Nat) : Int))]) (cs := [.int .i64 ((beginN q : Nat) : Int), .int .i64 ((kndN (decide (acc.length = 0)) (decide (f + (min (n - f) (leftN (beginN q) - 11)) = n)) : Nat) : Int), .int .i64 (f : Int), .int .i64 ((f + (min (n - f) (leftN (beginN q) - 11)) : Nat) : Int)]) rfl (by kernel_rfl))) ⟨hb1, hn, hf, ho, trivial⟩ rfl ?_
  refine T_all (rs := [12]) (by kernel_rfl) rfl (all1 (O_one rfl ?_))
  refine L_buildSlice (pv := [(0, .agg #[.int .i64 ((beginN q : Nat) : Int), .int .i64 ((kndN (decide (acc.length = 0)) (decide (f + (min (n - f) (leftN (beginN q) - 11)) = n)) : Nat) : Int), .int .i64 (f : Int), .int .i64 ((f + (min (n - f) (leftN (beginN q) - 11)) : Nat) : Int)])]) (cs := [.int .i64 ((beginN q : Nat) : Int), .int .i64 ((kndN (decide (acc.length = 0)) (decide (f + (min (n - f) (leftN (beginN q) - 11)) = n)) : Nat) : Int), .int .i64 (f : Int), .int .i64 ((f + (min (n - f) (leftN (beginN q) - 11)) : Nat) : Int)]) slc84 zer89 rfl rfl (by kernel_rfl) rfl ?_
  intro g1 w6 eg1 hb2 hs6 hz3
  have ge1 : w.heap.size ≤ g1 := eg_ge hB eg1
  have lt1 : ga < g1 := lt_of_eg hb1.lt eg1
  have lt2 : gn < g1 := lt_of_eg hn.lt eg1
  have lt3 : gf < g1 := lt_of_eg hf.lt eg1
  have lt4 : go < g1 := lt_of_eg ho.lt eg1
  have hap1 : ∀ k_, (Value.slice A acc.length c).ownBlock = some k_ → k_ ≠ g1 := fun k_ hk => by have h_ := (World.ownsRow.lt hw k_ hk).2; omega
  replace hB := gb_tr hB hs6
  replace hb1 := hb1.gb hs6
  replace hn := hn.gb hs6
  replace hf := hf.gb hs6
  replace ho := ho.gb hs6
  replace hw := own_gb hw hs6
  refine L_nil (N_then ⟨fun hN_ => ⟨hb1, hn, hf, ho, trivial⟩, ?_⟩)
  refine T_all (rs := [13]) (by kernel_rfl) rfl (all1 (O_one rfl ?_))
  refine T_append (xs := acc) (ys := [((beginN q), (kndN (decide (acc.length = 0)) (decide (f + (min (n - f) (leftN (beginN q) - 11)) = n))), f, (f + (min (n - f) (leftN (beginN q) - 11))))]) EncP slc84 rfl rfl hw (Blk.sli (m := 0) hb2) (by simp only [List.length_append, List.length_cons, List.length_nil]; omega) (by have := hB.size; omega) rfl ?_
  intro A_1 c_1 w7 ho1 hs7 hat1
  replace hB := gb_tro hB hw hs7 (Nat.le_refl _)
  replace hb1 := blk_own hb1 hw rfl hs7
  replace hn := blk_own hn hw rfl hs7
  replace hf := blk_own hf hw rfl hs7
  replace ho := blk_own ho hw rfl hs7
  refine L_nil (N_then ⟨fun hN_ => ⟨hb1, hn, hf, ho, trivial⟩, ?_⟩)
  refine T_switch (S' := fun _ => True) (qs' := []) (by kernel_rfl) ?_
  refine T_all (rs := [14]) (by kernel_rfl) rfl (all1 (O_one rfl ?_))
  refine L_st1 rfl rfl rfl sz84 ho rfl ?_
  intro w8 hb3 hs8 hz4
  replace hB := gb_trg hB hs8 go0
  replace hb1 := hb1.grown hs8 (ne_lt (Nat.lt_trans l1 l2))
  replace hn := hn.grown hs8 (ne_lt l2)
  replace hf := hf.grown hs8 (ne_gt l3)
  replace ho1 := own_other ho1 ho rfl hs8
  refine L_nil (N_then ⟨fun hN_ => trivial, ?_⟩)
  refine T_done (by kernel_rfl) (CalmE.normal ?_)
  refine N_then (C_seq (C_reg rfl ?_))
  refine L_run (R_load1 rfl scl3 (hb1.cell (i := 0) rfl)) rfl ?_
  refine L_run (R_add64 rfl rfl (by omega)) rfl ?_
  refine L_run (R_move rfl) rfl ?_
  refine L_run (R_add64 rfl rfl (by omega)) rfl ?_
  refine L_run (R_load1 rfl scl3 (hf.cell (i := 0) rfl)) rfl ?_
  refine L_run (R_eqv (R_sub64 rfl rfl (by omega)) (v' := .int .i64 ((beginN q + 11 + (min (n - f) (leftN (beginN q) - 11)) : Nat) : Int)) (congrArg _ (by omega))) rfl ?_
  refine L_run (R_move rfl) rfl ?_
  refine L_st1 rfl rfl rfl sz3 hb1 rfl ?_
  intro w9 hb4 hs9 hz5
  replace hB := gb_trg hB hs9 ga0
  replace hn := hn.grown hs9 (ne_gt l1)
  replace hf := hf.grown hs9 (ne_gt (Nat.lt_trans l1 (Nat.lt_trans l2 l3)))
  replace hb3 := hb3.grown hs9 (ne_gt (Nat.lt_trans l1 l2))
  replace ho1 := own_other ho1 hb1 rfl hs9
  refine L_st1 rfl rfl rfl sz3 hf rfl ?_
  intro w10 hb5 hs10 hz6
  replace hB := gb_trg hB hs10 gf0
  replace hb4 := hb4.grown hs10 (ne_lt (Nat.lt_trans l1 (Nat.lt_trans l2 l3)))
  replace hn := hn.grown hs10 (ne_lt (Nat.lt_trans l2 l3))
  replace hb3 := hb3.grown hs10 (ne_lt l3)
  replace ho1 := own_other ho1 hf rfl hs10
  refine L_nil (N_then (C_seq (C_reg rfl ?_)))
  refine L_run (R_assign rfl) rfl ?_
  refine L_nil (N_then (C_ret ?_))
  refine ret1 Tryd.results57 rfl ?_
  exact ⟨hB, rfl, hb4, hn, hb5, _, _, hb3, (own_lo ho1 (Nat.le_refl _))⟩

theorem cut_ok {w : World} {a n : Nat} (ha : a ≤ 832) (hn : n ≤ 1000000) :
    Runs Tryd.prog 47 #[.int .i64 (a : Int), .int .i64 (n : Int)] w (fun v w' => w.grownBy w' none ∧ ∃ A' c', v = .tuple #[.slice A' (cps (cutN a n)).length c', .int .i64 ((cen (cutN a n) : Nat) : Int), .bool ((cutN a n)).isSome] ∧ World.ownsRow w' w.heap.size 89 4 (.slice A' (cps (cutN a n)).length c') (cps (cutN a n)).length (fl encP (cps (cutN a n)))) := by
  have hB := gb_refl w none
  refine enter Tryd.func47 Tryd.ntmps47 rfl rfl ?_
  refine C_seq (C_reg rfl ?_)
  refine L_box (cs := [.int .i64 (a : Int)]) rfl rfl rfl ?_
  intro g1 w1 eg1 hb1 hs1 hz1
  have ge1 : w.heap.size ≤ g1 := eg_ge hB eg1
  replace hB := gb_tr hB hs1
  refine L_box (cs := [.int .i64 (n : Int)]) rfl rfl rfl ?_
  intro g2 w2 eg2 hb2 hs2 hz2
  have ge2 : w.heap.size ≤ g2 := eg_ge hB eg2
  have lt1 : g1 < g2 := lt_of_eg hb1.lt eg2
  replace hB := gb_tr hB hs2
  replace hb1 := hb1.gb hs2
  refine L_run (R_assign rfl) rfl ?_
  refine L_run (R_assign rfl) rfl ?_
  refine L_run (R_assign rfl) rfl ?_
  refine L_nil (N_then (C_seq (C_seq (C_reg rfl ?_))))
  refine L_run (R_load1 rfl scl3 (hb2.cell (i := 0) rfl)) rfl ?_
  refine L_run (R_lss rfl rfl) rfl ?_
  refine L_run (R_move rfl) rfl ?_
  refine L_yes rfl rfl rfl (decide_eq_false (by omega)) ?_
  refine L_run (R_load1 rfl scl3 (hb2.cell (i := 0) rfl)) rfl ?_
  refine L_yes rfl rfl rfl (decide_eq_false (by omega)) ?_
  refine L_run (R_gtr rfl rfl) rfl ?_
  refine L_run (R_pickF rfl (decide_eq_false (by omega)) rfl) rfl ?_
  refine L_nil (N_then ?_)
  refine C_if rfl (fun h1 => ?_) (fun h1 => ?_)
  · refine C_seq (C_reg rfl ?_)
    refine L_run (R_assign rfl) rfl ?_
    refine L_run (R_assign rfl) rfl ?_
    refine L_run (R_assign rfl) rfl ?_
    refine L_nil (N_then (C_ret (R_then ?_)))
    refine ret3 Tryd.results47 rfl rfl rfl ?_
    have hc_ : cutN a n = none := by first | exact cutN_big ha (by omega) | exact hR.nope (by omega) (by assumption)
    rw [hc_]; exact ⟨hB, none, 0, rfl, own_nil _ _ _ _⟩
  · refine C_skip (N_then (C_seq (C_reg rfl ?_)))
    refine L_alloc (cs := [.slice none 0 0]) zer84 rfl rfl ?_
    intro g3 w3 eg3 hb3 hs3 hz3
    have ge3 : w.heap.size ≤ g3 := eg_ge hB eg3
    have lt2 : g1 < g3 := lt_of_eg hb1.lt eg3
    have lt3 : g2 < g3 := lt_of_eg hb2.lt eg3
    replace hB := gb_tr hB hs3
    replace hb1 := hb1.gb hs3
    replace hb2 := hb2.gb hs3
    refine L_nil (N_then (C_seq (C_reg rfl ?_)))
    refine L_alloc (cs := [.int .i64 0]) zer3 rfl rfl ?_
    intro g4 w4 eg4 hb4 hs4 hz4
    have ge4 : w.heap.size ≤ g4 := eg_ge hB eg4
    have lt4 : g1 < g4 := lt_of_eg hb1.lt eg4
    have lt5 : g2 < g4 := lt_of_eg hb2.lt eg4
    have lt6 : g3 < g4 := lt_of_eg hb3.lt eg4
    replace hB := gb_tr hB hs4
    replace hb1 := hb1.gb hs4
    replace hb2 := hb2.gb hs4
    replace hb3 := hb3.gb hs4
    refine L_st1 rfl rfl rfl sz3 hb4 rfl ?_
    intro w5 hb5 hs5 hz5
    replace hB := gb_trg hB hs5 ge4
    replace hb1 := hb1.grown hs5 (ne_lt lt4)
    replace hb2 := hb2.grown hs5 (ne_lt lt5)
    replace hb3 := hb3.grown hs5 (ne_lt lt6)
    refine L_nil (N_then (C_seq (C_reg rfl ?_)))
    refine L_run (R_makeFunc rfl rfl) rfl ?_
    refine L_run (R_assign rfl) rfl ?_
    refine L_nil (N_then (C_seq (C_block ?_)))
    refine C_loop (fun m_ a_ w_ => ∃ (σ_ : Nat → Value) (acc : List (Nat × Nat × Nat × Nat)) (Aj : Option Addr) (cj : Nat) (q : Nat) (f : Nat) (fu : Nat), a_ = Ac 30 σ_ [] [(2, .pointer (some ⟨g1, 0, none⟩)), (3, .pointer (some ⟨g2, 0, none⟩)), (4, .slice none 0 0), (5, .int .i64 0), (6, .bool false), (7, .pointer (some ⟨g3, 0, none⟩)), (8, .pointer (some ⟨g4, 0, none⟩)), (9, .func (.func 57) #[] #[.pointer (some ⟨g1, 0, none⟩), .pointer (some ⟨g2, 0, none⟩), .pointer (some ⟨g4, 0, none⟩), .pointer (some ⟨g3, 0, none⟩)])] ∧ w.grownBy w_ none ∧ Blk w_ g2 3 [.int .i64 (n : Int)] ∧ Blk w_ g1 3 [.int .i64 (q : Int)] ∧ Blk w_ g4 3 [.int .i64 (f : Int)] ∧ Blk w_ g3 84 [.slice Aj acc.length cj] ∧ World.ownsRow w_ w.heap.size 89 4 (.slice Aj acc.length cj) acc.length (fl encP acc) ∧ (q ≤ 832) ∧ (f ≤ n) ∧ (832 < q + fu) ∧ (RawJ n a acc q f fu) ∧ (acc.length ≤ q) ∧ 832 - q = m_) (832 - a) ?_ ?_
    · exact ⟨_, [], none, 0, a, 0, 833, Ac_frg ⟨rfl, rfl, rfl, rfl, rfl, rfl, rfl, rfl, trivial⟩, hB, hb2, hb1, hb5, hb3, (own_nil _ _ _ _), ha, (by omega), (by omega), RawJ.start, (Nat.zero_le _), rfl⟩
    · clear hB
      clear hb1 hb2 hb3 hb5
      rintro m_ a_ w6 ⟨σ_, acc, Aj, cj, q, f, fu, rfl, hB, hb2, hba, hbf, hbo, hrow, hq, hfn, hfu, hR, hal, rfl⟩
      refine C_seq (C_seq (C_reg rfl ?_))
      refine L_run (R_load1 rfl scl84 (hbo.cell (i := 0) rfl)) rfl ?_
      refine L_run (R_lenSl rfl slc84) rfl ?_
      refine L_run (R_eql rfl rfl) rfl ?_
      refine L_run (R_move rfl) rfl ?_
      refine L_splitD (p := (acc.length : Int) = 0) (fun h2 => ?_) (fun h2 => ?_)
      · refine L_no rfl rfl rfl (decide_eq_true h2) rfl ?_
        refine L_no rfl rfl rfl (decide_eq_true h2) rfl ?_
        refine L_no rfl rfl rfl (decide_eq_true h2) rfl ?_
        refine L_run (R_pickT rfl (decide_eq_true h2) rfl) rfl ?_
        refine L_nil (N_then (C_condT rfl rfl (C_skip (N_then (C_block (C_seq (C_reg rfl ?_)))))))
        refine L_run (R_move rfl) rfl ?_
        by_cases h3 : 832 ≤ beginN q
        · refine L_callV (first := []) (cap := [.pointer (some ⟨g1, 0, none⟩), .pointer (some ⟨g2, 0, none⟩), .pointer (some ⟨g4, 0, none⟩), .pointer (some ⟨g3, 0, none⟩)]) rfl rfl cb57 (next_n (q := q) (n := n) (f := f) (acc := acc) hB ge1 ge2 ge4 ge3 lt1 lt3 lt6 hba hb2 hbf hbo (own_lo hrow (Nat.le_refl _)) hq hfn (by omega) (by omega) h3) rfl ?_
          rintro _ w7 ⟨hB, rfl⟩
          refine L_run (R_not rfl) rfl ?_
          refine L_nil (N_then (C_condT rfl rfl (C_seq (C_reg rfl ?_))))
          refine L_run (R_assign rfl) rfl ?_
          refine L_run (R_assign rfl) rfl ?_
          refine L_run (R_assign rfl) rfl ?_
          refine L_nil (N_then (C_ret (R_in (R_then (R_in (R_then ?_))))))
          refine ret3 Tryd.results47 rfl rfl rfl ?_
          have hc_ : cutN a n = none := by first | exact cutN_big ha (by omega) | exact hR.nope (by omega) (by assumption)
          rw [hc_]; exact ⟨hB, none, 0, rfl, own_nil _ _ _ _⟩
        · refine L_callV (first := []) (cap := [.pointer (some ⟨g1, 0, none⟩), .pointer (some ⟨g2, 0, none⟩), .pointer (some ⟨g4, 0, none⟩), .pointer (some ⟨g3, 0, none⟩)]) rfl rfl cb57 (next_y (q := q) (n := n) (f := f) (acc := acc) hB ge1 ge2 ge4 ge3 lt1 lt3 lt6 hba hb2 hbf hbo (own_lo hrow (Nat.le_refl _)) hq hfn (by omega) (by omega) h3) rfl ?_
          rintro _ w8 ⟨hB, rfl, hb6, hb7, hb8, A_1, c_1, hb9, ho1⟩
          refine L_run (R_not rfl) rfl ?_
          refine L_nil (N_then (C_condF rfl rfl (C_skip (N_in (N_then ?_)))))
          have hbq := beginN_le hq
          have hlq := leftN_le hbq.2
          have h11 := left11 h3
          have hst := hR.step (by omega) h3 (by omega) rfl hfn
          exact ⟨832 - (beginN q + 11 + (min (n - f) (leftN (beginN q) - 11))), by omega, _, acc ++ [(beginN q, kndN (decide (acc.length = 0)) (decide (f + (min (n - f) (leftN (beginN q) - 11)) = n)), f, f + (min (n - f) (leftN (beginN q) - 11)))], A_1, c_1, (beginN q + 11 + (min (n - f) (leftN (beginN q) - 11))), (f + (min (n - f) (leftN (beginN q) - 11))), (fu - 1), Ac_frg ⟨rfl, rfl, rfl, rfl, rfl, rfl, rfl, rfl, trivial⟩, hB, hb7, hb6, hb8, hb9, ho1, (by omega), (by omega), (by omega), hst, (by simp only [List.length_append, List.length_cons, List.length_nil]; omega), rfl⟩
      · refine L_yes rfl rfl rfl (decide_eq_false h2) ?_
        refine L_run (R_load1 rfl scl3 (hbf.cell (i := 0) rfl)) rfl ?_
        refine L_yes rfl rfl rfl (decide_eq_false h2) ?_
        refine L_run (R_load1 rfl scl3 (hb2.cell (i := 0) rfl)) rfl ?_
        refine L_yes rfl rfl rfl (decide_eq_false h2) ?_
        refine L_run (R_lss rfl rfl) rfl ?_
        refine L_run (R_pickF rfl (decide_eq_false h2) rfl) rfl ?_
        refine L_nil (N_then ?_)
        refine C_if rfl (fun h4 => ?_) (fun h4 => ?_)
        · refine C_skip (N_then (C_block (C_seq (C_reg rfl ?_))))
          refine L_run (R_move rfl) rfl ?_
          by_cases h5 : 832 ≤ beginN q
          · refine L_callV (first := []) (cap := [.pointer (some ⟨g1, 0, none⟩), .pointer (some ⟨g2, 0, none⟩), .pointer (some ⟨g4, 0, none⟩), .pointer (some ⟨g3, 0, none⟩)]) rfl rfl cb57 (next_n (q := q) (n := n) (f := f) (acc := acc) hB ge1 ge2 ge4 ge3 lt1 lt3 lt6 hba hb2 hbf hbo (own_lo hrow (Nat.le_refl _)) hq hfn (by omega) (by omega) h5) rfl ?_
            rintro _ w9 ⟨hB, rfl⟩
            refine L_run (R_not rfl) rfl ?_
            refine L_nil (N_then (C_condT rfl rfl (C_seq (C_reg rfl ?_))))
            refine L_run (R_assign rfl) rfl ?_
            refine L_run (R_assign rfl) rfl ?_
            refine L_run (R_assign rfl) rfl ?_
            refine L_nil (N_then (C_ret (R_in (R_then (R_in (R_then ?_))))))
            refine ret3 Tryd.results47 rfl rfl rfl ?_
            have hc_ : cutN a n = none := by first | exact cutN_big ha (by omega) | exact hR.nope (by omega) (by assumption)
            rw [hc_]; exact ⟨hB, none, 0, rfl, own_nil _ _ _ _⟩
          · refine L_callV (first := []) (cap := [.pointer (some ⟨g1, 0, none⟩), .pointer (some ⟨g2, 0, none⟩), .pointer (some ⟨g4, 0, none⟩), .pointer (some ⟨g3, 0, none⟩)]) rfl rfl cb57 (next_y (q := q) (n := n) (f := f) (acc := acc) hB ge1 ge2 ge4 ge3 lt1 lt3 lt6 hba hb2 hbf hbo (own_lo hrow (Nat.le_refl _)) hq hfn (by omega) (by omega) h5) rfl ?_
            rintro _ w10 ⟨hB, rfl, hb10, hb11, hb12, A_2, c_2, hb13, ho2⟩
            refine L_run (R_not rfl) rfl ?_
            refine L_nil (N_then (C_condF rfl rfl (C_skip (N_in (N_then ?_)))))
            have hbq := beginN_le hq
            have hlq := leftN_le hbq.2
            have h11 := left11 h5
            have hst := hR.step (by omega) h5 (by omega) rfl hfn
            exact ⟨832 - (beginN q + 11 + (min (n - f) (leftN (beginN q) - 11))), by omega, _, acc ++ [(beginN q, kndN (decide (acc.length = 0)) (decide (f + (min (n - f) (leftN (beginN q) - 11)) = n)), f, f + (min (n - f) (leftN (beginN q) - 11)))], A_2, c_2, (beginN q + 11 + (min (n - f) (leftN (beginN q) - 11))), (f + (min (n - f) (leftN (beginN q) - 11))), (fu - 1), Ac_frg ⟨rfl, rfl, rfl, rfl, rfl, rfl, rfl, rfl, trivial⟩, hB, hb11, hb10, hb12, hb13, ho2, (by omega), (by omega), (by omega), hst, (by simp only [List.length_append, List.length_cons, List.length_nil]; omega), rfl⟩
        · refine C_exit (X_then (X_then (X_hit (N_then (C_seq ?_)))))
          refine C_draw2 rfl mix ?_
          intro w11 hs10 hz6
          replace hB := gb_tr hB hs10
          replace hb2 := hb2.gb hs10
          replace hba := hba.gb hs10
          replace hbf := hbf.gb hs10
          replace hbo := hbo.gb hs10
          replace hrow := own_gb hrow hs10
          refine ⟨fun W_ => Blk W_ g1 3 [.int .i64 (q : Int)] ∧ Blk W_ g3 84 [.slice Aj acc.length cj] ∧ True, [0, 1, 2, 3, 4], ?_⟩
          refine T_takeA (i := 0) rfl rfl (by kernel_rfl) (by kernel_rfl) (by kernel_rfl) (Y_of (fun _ ⟨hba, hbo, _⟩ => R_load1 rfl scl84 (hbo.cell (i := 0) rfl))) ⟨hba, hbo, trivial⟩ rfl ?_
          refine T_takeA (i := 1) rfl rfl (by kernel_rfl) (by kernel_rfl) (by kernel_rfl) (Y_of (fun _ ⟨hba, hbo, _⟩ => R_load1 rfl scl3 (hba.cell (i := 0) rfl))) ⟨hba, hbo, trivial⟩ rfl ?_
          refine T_takeA (i := 2) rfl rfl (by kernel_rfl) (by kernel_rfl) (by kernel_rfl) (Y_of (fun _ ⟨hba, hbo, _⟩ => R_assign rfl)) ⟨hba, hbo, trivial⟩ rfl ?_
          refine T_takeA (i := 3) rfl rfl (by kernel_rfl) (by kernel_rfl) (by kernel_rfl) (Y_of (fun _ ⟨hba, hbo, _⟩ => R_assign rfl)) ⟨hba, hbo, trivial⟩ rfl ?_
          refine T_takeA (i := 4) rfl rfl (by kernel_rfl) (by kernel_rfl) (by kernel_rfl) (Y_of (fun _ ⟨hba, hbo, _⟩ => R_assign rfl)) ⟨hba, hbo, trivial⟩ rfl ?_
          refine T_done (by kernel_rfl) (CalmE.normal ?_)
          refine N_then (C_ret ?_)
          refine ret3 Tryd.results47 rfl rfl rfl ?_
          rw [hR.done (by omega) (by omega)]; exact ⟨hB, _, _, rfl, (own_lo hrow (Nat.le_refl _))⟩

end Go.Proofs.YtbpjdcpfphnccaaDoor
